import Derived.Test.YtlphgonhenegoaaSxCall2
import Derived.Tactics
namespace Go.Sx
structure Rel (dfs : List Deferred) (c : Cx) (S : St) (a : Act) : Prop where
  ho : HeapOk c
  en : ∀ id, c.en id = tget S.tab id
  K : ∀ id, c.K id → id < S.nx
  defers : a.defers = dfs
  len : S.tmps.length = a.tmps.size
  sl : ∀ s, Den c (lget S.tmps s) (a.tmps.getD s Go.undef)
variable {dfs : List Deferred}
def wantS (all : List Oper) (o : Oper) (S : St) : Option Bool :=
  match o.guard with
  | Option.none => some true
  | some (j, want) => match (all[j]?).bind (·.dst) with
    | some d => match lget S.tmps d with
      | .bool x => some (x == want)
      | .none => some false
      | _ => Option.none
    | Option.none => Option.none
def skipδ (S : St) : Delta := ⟨.none, [], [], S.nx⟩
def Good (P : Program) (all : List Oper) (o : Oper) (δ : Delta) (S : St) : Prop :=
  (wantS all o S = some true ∧ Local P o (lget S.tmps) (tget S.tab) S.nx δ ∧ keysLt δ = true) ∨ (wantS all o S = some false ∧ δ = skipδ S)
def Trace (P : Program) (all : List Oper) : List (Oper × Delta) → St → St → Prop
  | [], S, S' => S = S'
  | (o, δ) :: l, S, S' => Good P all o δ S ∧ Trace P all l (putD S o.dst δ) S'
def infosOf : List (Oper × Delta) → St → List Info
  | [], _ => []
  | (o, δ) :: l, S => (δ.rd, δ.upd.map (·.1), S.nx) :: infosOf l (putD S o.dst δ)
theorem lset_same {l : List SV} {d : Nat} {v : SV} (h : lget l d = v) (hv : v ≠ .undef) : lset l d v = l := by
  induction l generalizing d with
  | nil => rfl
  | cons a l ih =>
    cases d with
    | zero => simp [lget] at h; subst h; rfl
    | succ d => simp only [lset]; rw [ih (by simpa [lget] using h)]
theorem skip_eq (S : St) (d : Option Tmp) : skipD S d = putD S d (skipδ S) := by
  cases d <;> rfl
section
variable {P : Program} {Θ : Tys} {R : Type} {cal : Cal R} {r : R}
theorem ops_trace (hty : tyOk P Θ = true) (hcal : CalOk P cal) (all : List Oper) : ∀ (ops : List Oper) (S : St) (acc : List Info) (kf : St → List Info → Option R), opsK Θ cal all ops S acc kf = some r →
    ∃ (l : List (Oper × Delta)) (S' : St), l.map (·.1) = ops ∧ Trace P all l S S' ∧ kf S' ((infosOf l S).reverse ++ acc) = some r := by
  intro ops
  induction ops with
  | nil => intro S acc kf h; exact ⟨[], S, rfl, rfl, by simpa [opsK, infosOf] using h⟩
  | cons o rest ih =>
    intro S acc kf h
    have runs : wantS all o S = some true → opK Θ cal o S (goOn S o acc fun S' acc' => opsK Θ cal all rest S' acc' kf) = some r →
        ∃ (l : List (Oper × Delta)) (S' : St), l.map (·.1) = o :: rest ∧ Trace P all l S S' ∧ kf S' ((infosOf l S).reverse ++ acc) = some r := by
      intro hw hk
      obtain ⟨δ, hδ, hl⟩ := op_ok hty hcal hk
      unfold goOn at hδ
      cases hb : keysLt δ <;> rw [hb] at hδ <;> simp only [cond_true, cond_false, reduceCtorEq] at hδ
      obtain ⟨l, S', h1, h2, h3⟩ := ih _ _ kf hδ
      exact ⟨(o, δ) :: l, S', by simp [h1], ⟨.inl ⟨hw, hl, hb⟩, h2⟩, by simpa [infosOf] using h3⟩
    have skips : wantS all o S = some false → opsK Θ cal all rest (skipD S o.dst) (([], [], S.nx) :: acc) kf = some r →
        ∃ (l : List (Oper × Delta)) (S' : St), l.map (·.1) = o :: rest ∧ Trace P all l S S' ∧ kf S' ((infosOf l S).reverse ++ acc) = some r := by
      intro hw hk
      rw [skip_eq] at hk
      obtain ⟨l, S', h1, h2, h3⟩ := ih _ _ kf hk
      exact ⟨(o, skipδ S) :: l, S', by simp [h1], ⟨.inr ⟨hw, rfl⟩, h2⟩, by simpa [infosOf, skipδ] using h3⟩
    simp only [opsK] at h
    cases hg : o.guard with
    | none =>
      rw [hg] at h
      exact runs (by simp [wantS, hg]) h
    | some jw =>
      obtain ⟨j, want⟩ := jw
      rw [hg] at h
      simp only at h
      cases hd : (all[j]?).bind (·.dst) with
      | none => rw [hd] at h; cases h
      | some d =>
        rw [hd] at h
        simp only at h
        cases hv : lget S.tmps d <;> rw [hv] at h <;> simp only [reduceCtorEq] at h
        case bool x =>
          have hS : ∀ b, x = b → (⟨lset S.tmps d (.bool b), S.tab, S.nx⟩ : St) = S := fun b hb => by rw [lset_same (by rw [hv, hb]) (by simp)]
          cases x with
          | true =>
            simp only [cond_true] at h
            rw [hS true rfl] at h
            cases want with
            | true => exact runs (by simp [wantS, hg, hd, hv]) h
            | false => exact skips (by simp [wantS, hg, hd, hv]) h
          | false =>
            simp only [cond_false] at h
            rw [hS false rfl] at h
            cases want with
            | true => exact skips (by simp [wantS, hg, hd, hv]) h
            | false => exact runs (by simp [wantS, hg, hd, hv]) h
        case none => exact skips (by simp [wantS, hg, hd, hv]) h
theorem getD_of_lt {a : Act} {d : Nat} (h : d < a.tmps.size) : a.tmps[d]? = some (a.tmps.getD d Go.undef) := by simp [h]
theorem wanted_of {c : Cx} {all : List Oper} {o : Oper} {S : St} {a : Act} {b : Bool} (hw : wantS all o S = some b) (hlen : S.tmps.length = a.tmps.size)
    (hg : ∀ j want d, o.guard = some (j, want) → (all[j]?).bind (·.dst) = some d → Den c (lget S.tmps d) (a.tmps.getD d Go.undef)) : Region.wanted o (yielded all.toArray a.tmps) = b := by
  unfold wantS at hw
  unfold Region.wanted
  cases hgd : o.guard with
  | none => rw [hgd] at hw; injection hw
  | some jw =>
    obtain ⟨j, want⟩ := jw
    rw [hgd] at hw
    simp only at hw ⊢
    cases hd : (all[j]?).bind (·.dst) with
    | none => rw [hd] at hw; cases hw
    | some d =>
      rw [hd] at hw
      simp only at hw
      have hden := hg j want d hgd hd
      have hy : yielded all.toArray a.tmps j = match a.tmps[d]? with | some (.bool b) => some b | _ => Option.none := by
        unfold yielded
        have : ((all.toArray[j]?).bind (·.dst)) = some d := by simpa using hd
        rw [this]
        rfl
      rw [hy]
      cases hv : lget S.tmps d <;> rw [hv] at hw hden <;> simp only [reduceCtorEq] at hw
      case bool x =>
        have hlt : d < a.tmps.size := by
          rw [← hlen]
          rcases Nat.lt_or_ge d S.tmps.length with h | h
          · exact h
          · simp [lget, h] at hv
        rw [getD_of_lt hlt, hden.bool_inv]
        injection hw
      case none =>
        injection hw with hw
        rw [← hw]
        have hu := hden.none_inv
        cases ha : a.tmps[d]? with
        | none => cases want <;> rfl
        | some v =>
          have : v = Go.undef := by rw [← hu]; simp [ha]
          rw [this]
          cases want <;> rfl
theorem put_getD (a : Act) (dst : Option Tmp) (v : Value) (s : Nat) : (a.put dst v).tmps.getD s Go.undef = if dst = some s ∧ s < a.tmps.size then v else a.tmps.getD s Go.undef := by
  cases dst with
  | none => simp [Act.put]
  | some d =>
    simp only [Act.put, Array.getD_eq_getD_getElem?, Array.getElem?_setIfInBounds, Option.some.injEq]
    by_cases h : d = s
    · subst h
      by_cases h2 : d < a.tmps.size <;> simp [h2]
    · simp [h]
theorem put_size (a : Act) (dst : Option Tmp) (v : Value) : (a.put dst v).tmps.size = a.tmps.size := by cases dst <;> simp [Act.put]
theorem put_defers' (a : Act) (dst : Option Tmp) (v : Value) : (a.put dst v).defers = a.defers := by cases dst <;> rfl
theorem lget_putD (S : St) (dst : Option Tmp) (δ : Delta) (s : Nat) : lget (putD S dst δ).tmps s = if dst = some s ∧ s < S.tmps.length then δ.v else lget S.tmps s := by
  cases dst with
  | none => simp [putD]
  | some d =>
    simp only [putD, lget_lset, Option.some.injEq]
    by_cases h : d = s
    · subst h; simp
    · have : ¬ s = d := fun e => h e.symm
      simp [h, this]
theorem len_putD (S : St) (dst : Option Tmp) (δ : Delta) : (putD S dst δ).tmps.length = S.tmps.length := by cases dst <;> simp [putD, length_lset]
theorem keysLt_iff {δ : Delta} (h : keysLt δ = true) : ∀ id, id ∈ δ.upd.map (·.1) → id < δ.nx := by
  intro id hid
  simp only [List.mem_map] at hid
  obtain ⟨p, hp, rfl⟩ := hid
  have := List.all_eq_true.1 h p hp
  simpa [Nat.blt_eq] using this
theorem rel_put {c c' : Cx} {S : St} {a : Act} {dst : Option Tmp} {δ : Delta} {v : Value} (h : Rel dfs c S a) (hd : Den c' δ.v v) (ho : HeapOk c') (hen : ∀ id, c'.en id = upd c.en δ.upd id)
    (hK : ∀ id, c'.K id ↔ c.K id ∨ id ∈ δ.upd.map (·.1)) (ht : Trans c c') (hlt : keysLt δ = true) (hle : S.nx ≤ δ.nx) : Rel dfs c' (putD S dst δ) (a.put dst v) where
  ho := ho
  en := fun id => by
    rw [hen]
    show _ = tget (tupd S.tab δ.upd) id
    rw [tget_tupd]
    exact upd_congr _ _ (h.en id)
  K := fun id hid => by
    rcases (hK id).1 hid with h1 | h1
    · exact Nat.lt_of_lt_of_le (h.K id h1) hle
    · exact keysLt_iff hlt id h1
  defers := by rw [put_defers']; exact h.defers
  len := by rw [len_putD, put_size]; exact h.len
  sl := fun s => by
    rw [lget_putD, put_getD, h.len]
    split
    · exact hd
    · exact (h.sl s).trans ht h.ho
theorem rel_skip {c : Cx} {S : St} {a : Act} {dst : Option Tmp} (h : Rel dfs c S a) : Rel dfs c (putD S dst (skipδ S)) (a.put dst Go.undef) where
  ho := h.ho
  en := h.en
  K := h.K
  defers := by rw [put_defers']; exact h.defers
  len := by rw [len_putD, put_size]; exact h.len
  sl := fun s => by
    rw [lget_putD, put_getD, h.len]
    split
    · exact .non
    · exact h.sl s
theorem rel_pre {c : Cx} {S : St} {a : Act} {o : Oper} {δ : Delta} (h : Rel dfs c S a) : Pre o (lget S.tmps) (tget S.tab) S.nx δ c a :=
  ⟨h.ho, fun s _ => h.sl s, fun id _ => h.en id, fun id _ hle hk => by have := h.K id hk; omega⟩
theorem trace_list {all : List Oper} {Q : Exit → Act → World → Prop} {S' : St} : ∀ (l : List (Oper × Delta)) (S : St) (c : Cx) (a : Act), Trace P all l S S' → Rel dfs c S a →
    (∀ c' a', Rel dfs c' S' a' → Trans c c' → Q .normal a' c'.w) → listA P all.toArray Q (l.map (·.1)) a c.w := by
  intro l
  induction l with
  | nil =>
    intro S c a h hr hq
    have h : S = S' := h
    subst h
    exact listA_nil (hq c a hr .refl)
  | cons p l ih =>
    obtain ⟨o, δ⟩ := p
    intro S c a h hr hq
    obtain ⟨hg, ht⟩ := h
    rw [List.map_cons]
    refine listA_cons ?_
    rcases hg with ⟨hw, ⟨hids, hl⟩, hlt⟩ | ⟨hw, rfl⟩
    · rw [wanted_of hw hr.len (fun _ _ d _ _ => hr.sl d)]
      simp only [if_true]
      refine hl c a (rel_pre hr) _ _ fun v c' hd ho hen hK htr => ?_
      exact ih _ c' _ ht (rel_put hr hd ho hen hK htr hlt hids.le) fun c2 a2 h2 t2 => hq c2 a2 h2 (htr.trans t2)
    · rw [wanted_of hw hr.len (fun _ _ d _ _ => hr.sl d)]
      simp only [Bool.false_eq_true, if_false]
      exact ih _ c _ ht (rel_skip hr) hq
end
end Go.Sx
