/-
  Several texts in one.
-/
import Derived.Test.YtlphgonhenegoaaSxM
import Derived.RangeFuncIn
import Derived.RangeFuncRecord
namespace Go.Sx
variable {dfs : List Deferred}
theorem Rel.put {c : Cx} {S : St} {a : Act} (h : Rel dfs c S a) {d : Nat} {s : SV} {v : Value} (hd : Den c s v) : Rel dfs c ⟨lset S.tmps d s, S.tab, S.nx⟩ (a.put (some d) v) where
  ho := h.ho
  en := h.en
  K := h.K
  defers := h.defers
  len := by simp [Act.put, length_lset, h.len]
  sl := fun s' => by
    show Den c (lget (lset S.tmps d s) s') _
    rw [lget_lset]
    by_cases hs : s' = d ∧ d < S.tmps.length
    · rw [if_pos hs]
      obtain ⟨rfl, hl⟩ := hs
      have : s' < a.tmps.size := by rw [← h.len]; exact hl
      simpa [Act.put, this] using hd
    · rw [if_neg hs]
      have hsl := h.sl s'
      by_cases he : s' = d
      · subst he
        have : ¬ s' < a.tmps.size := by rw [← h.len]; simpa using hs
        simpa [Act.put, this] using hsl
      · have he' : ¬ d = s' := fun h => he h.symm
        simpa [Act.put, he', Array.getElem?_setIfInBounds] using hsl
theorem Rel.clr {c : Cx} {S : St} {a : Act} (h : Rel dfs c S a) (d : Nat) : Rel dfs c ⟨lset S.tmps d .undef, S.tab, S.nx⟩ a where
  ho := h.ho
  en := h.en
  K := h.K
  defers := h.defers
  len := by simp [length_lset, h.len]
  sl := fun s' => by
    show Den c (lget (lset S.tmps d .undef) s') _
    rw [lget_lset]
    by_cases hs : s' = d ∧ d < S.tmps.length
    · rw [if_pos hs]; exact .und _
    · rw [if_neg hs]; exact h.sl s'
def clrs : List Nat → List SV → List SV
  | [], l => l
  | d :: ds, l => clrs ds (lset l d .undef)
theorem Rel.clrs {c : Cx} {S : St} {a : Act} (h : Rel dfs c S a) (ds : List Nat) : Rel dfs c ⟨clrs ds S.tmps, S.tab, S.nx⟩ a := by
  induction ds generalizing S with
  | nil => exact h
  | cons d ds ih => exact ih (h.clr d)
theorem Rel.ctx {c c' : Cx} {S : St} {a : Act} (h : Rel dfs c S a) (ht : Trans c c') (ho : HeapOk c') {tab : Tab} {nx : Nat} (hen : ∀ id, c'.en id = tget tab id) (hK : ∀ id, c'.K id → id < nx) : Rel dfs c' ⟨S.tmps, tab, nx⟩ a :=
  ⟨ho, hen, hK, h.defers, h.len, fun s => (h.sl s).trans ht h.ho⟩
theorem listA_hand {P : Program} {ops : Array Oper} {Q : Exit → Act → World → Prop} {o : Oper} {rest : List Oper} {a : Act} {w w' : World} {v : Value} (hg : o.guard = Option.none)
    (hrun : (execOp a.eval o).run P w = .ok (.value v) w') (h : listA P ops Q rest (a.put o.dst v) w') : listA P ops Q (o :: rest) a w := by
  refine listA_cons ?_
  have : Region.wanted o (yielded ops a.tmps) = true := by unfold Region.wanted; rw [hg]
  rw [this]
  simp only [if_true]
  exact opA_value hrun h
theorem wpA_cond_true {P : Program} {Q : Exit → Act → World → Prop} {a : Act} {w : World} {c : Operand} {x y : Code} (hc : a.eval c = .bool true) (h : wpA P x Q a w) : wpA P (.cond c x y) Q a w := wpA_cond (t := true) hc h
theorem wpA_cond_false {P : Program} {Q : Exit → Act → World → Prop} {a : Act} {w : World} {c : Operand} {x y : Code} (hc : a.eval c = .bool false) (h : wpA P y Q a w) : wpA P (.cond c x y) Q a w := wpA_cond (t := false) hc h
theorem wpA_loop_ghost {P : Program} {Q : Exit → Act → World → Prop} {a : Act} {w : World} {c : Code} (I : Nat → Act → World → Prop) (n₀ : Nat) (h₀ : I n₀ a w)
    (round : ∀ n a w, I n a w → wpA P c (Exit.then (fun a' w' => ∃ n', n' < n ∧ I n' a' w') Q) a w) : wpA P (Code.loop c) Q a w := fun ro => by
  refine wpIn_loop (fun a w => ∃ n, I n a w) (fun a w => leastOf (fun n => I n a w)) ⟨n₀, h₀⟩ ?_
  intro a w hI
  refine wpIn_mono (round _ a w (leastOf_spec hI).1 ro) ?_
  intro e a' w' hq
  cases e with
  | normal =>
    obtain ⟨n', hlt, hI'⟩ := hq
    exact show (∃ n, I n a' w') ∧ leastOf (fun n => I n a' w') < leastOf (fun n => I n a w) from ⟨⟨n', hI'⟩, Nat.lt_of_le_of_lt ((leastOf_spec ⟨n', hI'⟩).2 n' hI') hlt⟩
  | exit id => exact hq
  | goto l => exact hq
  | ret => exact hq
  | panic ch => exact hq
  | outgrown => exact hq
theorem Rel.know {c : Cx} {S : St} {a : Act} (h : Rel dfs c S a) {d : Nat} {s : SV} (hd : Den c s (a.tmps.getD d Go.undef)) : Rel dfs c ⟨lset S.tmps d s, S.tab, S.nx⟩ a where
  ho := h.ho
  en := h.en
  K := h.K
  defers := h.defers
  len := by simp [length_lset, h.len]
  sl := fun s' => by
    show Den c (lget (lset S.tmps d s) s') _
    rw [lget_lset]
    by_cases hs : s' = d ∧ d < S.tmps.length
    · rw [if_pos hs]
      obtain ⟨rfl, _⟩ := hs
      exact hd
    · rw [if_neg hs]
      exact h.sl s'
def eId : ERe := ⟨fun _ => true, fun e => e⟩
theorem eId_ok : eId.Ok := ⟨fun _ _ => rfl, fun _ _ _ _ h => h⟩
theorem Rel.cast {c : Cx} {S S' : St} {a : Act} (h : Rel dfs c S a) (e : S = S') : Rel dfs c S' a := e ▸ h
theorem Rel.retab {c : Cx} {S : St} {a : Act} (h : Rel dfs c S a) {sp : Sp} (hsp : sp.Ok) (hok : sp.ok [] S.tab = true) : ∃ c', c'.w = c.w ∧ Trans c c' ∧ Rel dfs c' ⟨S.tmps, sp.tab S.tab, S.nx⟩ a := by
  obtain ⟨c', h1, h2, h3, h4, h5, _⟩ := hsp.weak hok h.en h.ho
  exact ⟨c', h1, h5, h.ctx h5 h3 h4 fun id hid => h.K id (by rw [← h2]; exact hid)⟩
theorem run_move {P : Program} {a : Act} {o : Oper} {x : Operand} {w : World} (h : o.op = .move x ∨ o.op = .assign x) : (execOp a.eval o).run P w = .ok (.value (a.eval x)) w := by
  rcases h with h | h <;> simp [execOp, h]
theorem run_extract {P : Program} {a : Act} {o : Oper} {x : Operand} {i : Nat} {w : World} {vs : Array Value} {v : Value} (h : o.op = .extract x i) (hx : a.eval x = .tuple vs) (hi : vs[i]? = some v) : (execOp a.eval o).run P w = .ok (.value v) w := by
  simp [execOp, h, hx, Instr.extract, hi]
theorem eval_tmp (a : Act) (s : Nat) : a.eval (.tmp s) = a.tmps.getD s Go.undef := rfl
theorem fx_own {c : Cx} {q : Nat} {v : Value} {bs : List (Nat × Obj)} {k : Nat} (h : c.ow q (.fx v bs) k) : (c.o q).x k := by
  rcases h with ⟨h, _⟩ | ⟨_, h⟩
  · cases h
  · exact h
theorem fx_start {c : Cx} (ho : HeapOk c) {im q1 q2 : Nat} (hq : q1 ≠ q2) (h1 : ¬ c.K q1) (h2 : ¬ c.K q2) {e0 : Ent} (he0 : c.en im = some e0) (hh : has e0 = true) (hf : fam e0 = true) (hxl : ∀ k, (c.o im).x k → k < c.w.heap.size)
    (v : Value) (bs : List (Nat × Obj)) (hbs : ∀ p ∈ bs, (p.1 = c.b im ∨ (c.o im).x p.1) ∧ c.w.heap[p.1]? = some p.2) (it : Obj) :
    ∃ c1 : Cx, c1.w = c.w.alloc it ∧ HeapOk c1 ∧ Trans c c1 ∧ (∀ j, c1.en j = if j = q1 then some (.fx v bs) else if j = q2 then some (.fx (.pointer (some ⟨c.w.heap.size, 0, Option.none⟩)) [(c.w.heap.size, it)]) else if j = im then Option.none else c.en j) ∧
      (∀ j, c1.K j ↔ c.K j ∨ j = q1 ∨ j = q2) ∧ c1.u q1 = v ∧ c1.u q2 = .pointer (some ⟨c.w.heap.size, 0, Option.none⟩) := by
  have hk := ho.lt im e0 he0
  have n1 : q1 ≠ im := fun h => h1 (h ▸ hk)
  have n2 : q2 ≠ im := fun h => h2 (h ▸ hk)
  have hbl : c.b im < c.w.heap.size := (ho.ents im e0 he0).lt hh
  let c1 : Cx := { b := c.b, o := fun j => if j = q1 then ⟨fun k => k = c.b im ∨ (c.o im).x k, fun _ => 0⟩ else if j = q2 then ⟨fun k => k = c.w.heap.size, fun _ => 0⟩ else c.o j
                   u := fun j => if j = q1 then v else if j = q2 then .pointer (some ⟨c.w.heap.size, 0, Option.none⟩) else c.u j
                   en := fun j => if j = q1 then some (.fx v bs) else if j = q2 then some (.fx (.pointer (some ⟨c.w.heap.size, 0, Option.none⟩)) [(c.w.heap.size, it)]) else if j = im then Option.none else c.en j
                   K := fun j => c.K j ∨ j = q1 ∨ j = q2, Z := c.Z, w := c.w.alloc it }
  have hq' : q2 ≠ q1 := fun h => hq h.symm
  have old : ∀ k, (k = c.b im ∨ (c.o im).x k) → c.ow im e0 k := fun k h => by
    rcases h with rfl | h
    · exact .inl ⟨hh, rfl⟩
    · exact .inr ⟨hf, h⟩
  have x1 : ∀ e k, c1.en q1 = some e → c1.ow q1 e k → e = .fx v bs ∧ (k = c.b im ∨ (c.o im).x k) := fun e k he hk => by
    have : .fx v bs = e := by simpa [c1] using he
    subst this
    have := fx_own hk
    exact ⟨rfl, by simpa [c1] using this⟩
  have x2 : ∀ e k, c1.en q2 = some e → c1.ow q2 e k → k = c.w.heap.size := fun e k he hk => by
    have : .fx (.pointer (some ⟨c.w.heap.size, 0, Option.none⟩)) [(c.w.heap.size, it)] = e := by simpa [c1, hq'] using he
    subst this
    have := fx_own hk
    simpa [c1, hq'] using this
  have x3 : ∀ e, c1.en im ≠ some e := fun e => by simp [c1, n1.symm, n2.symm]
  have key : HeapOk c1 ∧ Trans c c1 := by
    refine rearr_ok (c' := c1) (T := fun _ => False) (fun j => j = q1 ∨ j = q2 ∨ j = im) ho (Mem.alloc (Mem.refl c) it) (fun k h => h.elim) (fun id h => .inl h) (fun k h => h) (fun k h => .inl h)
      (fun j hj => ?_) (fun j e' hj he' => ?_) (fun j j' e e' k hj hj' he he' hk hk' => ?_)
    · have a1 : j ≠ q1 := fun h => hj (.inl h)
      have a2 : j ≠ q2 := fun h => hj (.inr (.inl h))
      have a3 : j ≠ im := fun h => hj (.inr (.inr h))
      exact ⟨by simp [c1, a1, a2, a3], fun e _ => ⟨rfl, by simp [c1, a1, a2], by simp [c1, a1, a2]⟩⟩
    · rcases hj with rfl | rfl | rfl
      · have : .fx v bs = e' := by simpa [c1] using he'
        subst this
        refine ⟨.inr (.inl rfl), fun ht => ⟨fun k hk => ?_, by simp [c1], fun p hp => ?_⟩, .inr h1, fun k hk => .inr ⟨im, e0, .inr (.inr rfl), he0, old k (x1 _ k he' hk).2⟩⟩
        · have : k = c.b im ∨ (c.o im).x k := by simpa [c1] using hk
          have : k < c.w.heap.size := by
            rcases this with rfl | h
            · exact hbl
            · exact hxl k h
          exact Nat.lt_of_lt_of_le this (by simp [c1])
        · obtain ⟨p1, p2⟩ := hbs p hp
          refine ⟨by simpa [c1] using p1, ?_⟩
          rw [← p2]
          exact heap_kept c.w it _ (Array.getElem?_eq_some_iff.1 p2).1
      · have : .fx (.pointer (some ⟨c.w.heap.size, 0, Option.none⟩)) [(c.w.heap.size, it)] = e' := by simpa [c1, hq'] using he'
        subst this
        refine ⟨.inr (.inr rfl), fun ht => ⟨fun k hk => ?_, by simp [c1, hq'], fun p hp => ?_⟩, .inr h2, fun k hk => .inl (Nat.le_of_eq (x2 _ k he' hk).symm)⟩
        · have : k = c.w.heap.size := by simpa [c1, hq'] using hk
          subst this
          simp [c1]
        · simp only [List.mem_singleton] at hp
          subst hp
          exact ⟨by simp [c1, hq'], heap_alloc_new c.w it⟩
      · exact absurd he' (x3 e')
    · have lt1 : ∀ k, (k = c.b im ∨ (c.o im).x k) → k < c.w.heap.size := fun k h => by
        rcases h with rfl | h
        · exact hbl
        · exact hxl k h
      rcases hj with rfl | rfl | rfl <;> rcases hj' with rfl | rfl | rfl
      · rfl
      · have a := lt1 k (x1 _ k he hk).2
        have b := x2 _ k he' hk'
        omega
      · exact absurd he' (x3 e')
      · have a := lt1 k (x1 _ k he' hk').2
        have b := x2 _ k he hk
        omega
      · rfl
      · exact absurd he' (x3 e')
      · exact absurd he (x3 e)
      · exact absurd he (x3 e)
      · rfl
  obtain ⟨k1, k2⟩ := key
  exact ⟨c1, rfl, k1, k2, fun j => rfl, fun j => Iff.rfl, by simp [c1], by simp [c1, hq']⟩
theorem fx_set {c : Cx} (ho : HeapOk c) {q : Nat} {v : Value} {bs : List (Nat × Obj)} (he : c.en q = some (.fx v bs)) (bs' : List (Nat × Obj)) (Fz T : Nat → Prop) {w' : World} (hos : w'.os = c.w.os) (htp : w'.tape = c.w.tape) (hout : w'.output = c.w.output) (hsz : w'.heap.size = c.w.heap.size)
    (hT : ∀ k, T k → ∃ o, (k, o) ∈ bs) (hsame : ∀ k, ¬ T k → w'.heap[k]? = c.w.heap[k]?) (hFz : ∀ k, Fz k → ∃ o, (k, o) ∈ bs)
    (hbs : ∀ p ∈ bs', ¬ Fz p.1 ∧ (∃ o, (p.1, o) ∈ bs) ∧ w'.heap[p.1]? = some p.2) :
    ∃ c1 : Cx, c1.w = w' ∧ HeapOk c1 ∧ Trans c c1 ∧ (∀ j, c1.en j = if j = q then some (.fx v bs') else c.en j) ∧ (∀ j, c1.K j ↔ c.K j) ∧ ∀ k, Fz k → c1.Z k := by
  obtain ⟨g1, g2, g3⟩ := ho.ents q _ he
  have inx : ∀ k, (∃ o, (k, o) ∈ bs) → (c.o q).x k := fun k ⟨o, h⟩ => (g3 _ h).1
  let c1 : Cx := { c with o := fun j => if j = q then ⟨fun k => (c.o q).x k ∧ ¬ Fz k, (c.o q).y⟩ else c.o j, en := fun j => if j = q then some (.fx v bs') else c.en j, Z := fun k => c.Z k ∨ Fz k, w := w' }
  have x1 : ∀ e k, c1.en q = some e → c1.ow q e k → e = .fx v bs' ∧ (c.o q).x k ∧ ¬ Fz k := fun e k he hk => by
    have : .fx v bs' = e := by simpa [c1] using he
    subst this
    have := fx_own hk
    exact ⟨rfl, by simpa [c1] using this⟩
  have key : HeapOk c1 ∧ Trans c c1 := by
    refine rearr_ok (c' := c1) (T := T) (fun j => j = q) ho ⟨hos, htp, hout, Nat.le_of_eq hsz.symm, fun k _ => hsame k, fun k hk => ⟨q, _, he, .inr ⟨rfl, inx k (hT k hk)⟩⟩⟩ (fun k hk => ⟨q, _, rfl, he, .inr ⟨rfl, inx k (hT k hk)⟩⟩) (fun id h => h)
      (fun k h => .inl h) (fun k h => ?_) (fun j hj => ?_) (fun j e' hj he' => ?_) (fun j j' e e' k hj hj' _ _ _ _ => by rw [hj, hj'])
    · rcases h with h | h
      · exact .inl h
      · exact .inr ⟨⟨q, _, rfl, he, .inr ⟨rfl, inx k (hFz k h)⟩⟩, fun j e hj he1 hk => by subst hj; exact (x1 e k he1 hk).2.2 h⟩
    · have hj : j ≠ q := hj
      exact ⟨by simp [c1, hj], fun e _ => ⟨rfl, rfl, by simp [c1, hj]⟩⟩
    · have hj : j = q := hj
      subst hj
      have : .fx v bs' = e' := by simpa [c1] using he'
      subst this
      refine ⟨ho.lt j _ he, fun ht => ⟨fun k hk => ?_, g2, fun p hp => ?_⟩, .inl ⟨_, he, rfl, rfl, rfl, by simp [c1]⟩, fun k hk => .inr ⟨j, _, rfl, he, .inr ⟨rfl, (x1 _ k he' hk).2.1⟩⟩⟩
      · have : (c.o j).x k ∧ ¬ Fz k := by simpa [c1] using hk
        show k < w'.heap.size
        rw [hsz]
        exact g1 k this.1
      · obtain ⟨p1, p2, p3⟩ := hbs p hp
        exact ⟨by simp only [c1, if_true]; exact ⟨inx _ p2, p1⟩, p3⟩
  obtain ⟨k1, k2⟩ := key
  exact ⟨c1, rfl, k1, k2, fun j => rfl, fun j => Iff.rfl, fun k hk => .inr hk⟩
theorem fx_end {c : Cx} (ho : HeapOk c) {q1 q2 q3 : Nat} {v1 v2 : Value} {bs1 bs2 : List (Nat × Obj)} (he1 : c.en q1 = some (.fx v1 bs1)) (he2 : c.en q2 = some (.fx v2 bs2)) (h3 : ¬ c.K q3) {e : Ent} {b : Nat} {u : Value}
    (hb : ∃ o, (b, o) ∈ bs1)
    (hent : ∀ c1 : Cx, c1.b q3 = b → c1.u q3 = u → (∀ p ∈ bs1, (c1.o q3).x p.1) → (∀ k, (c1.o q3).x k → k < c1.w.heap.size) → c1.w = c.w → EntOk c1 q3 e) :
    ∃ c1 : Cx, c1.w = c.w ∧ HeapOk c1 ∧ Trans c c1 ∧ (∀ j, c1.en j = if j = q3 then some e else if j = q1 then Option.none else if j = q2 then Option.none else c.en j) ∧ (∀ j, c1.K j ↔ c.K j ∨ j = q3) ∧ c1.u q3 = u := by
  obtain ⟨g1, g2, g3⟩ := ho.ents q1 _ he1
  have n1 : q3 ≠ q1 := fun h => h3 (h ▸ ho.lt q1 _ he1)
  have n2 : q3 ≠ q2 := fun h => h3 (h ▸ ho.lt q2 _ he2)
  have hbx : (c.o q1).x b := by obtain ⟨o, h⟩ := hb; exact (g3 _ h).1
  let c1 : Cx := { b := fun j => if j = q3 then b else c.b j, o := fun j => if j = q3 then c.o q1 else c.o j, u := fun j => if j = q3 then u else c.u j
                   en := fun j => if j = q3 then some e else if j = q1 then Option.none else if j = q2 then Option.none else c.en j, K := fun j => c.K j ∨ j = q3, Z := c.Z, w := c.w }
  have x3 : ∀ e' k, c1.en q3 = some e' → c1.ow q3 e' k → e' = e ∧ (c.o q1).x k := fun e' k he hk => by
    have : e = e' := by simpa [c1] using he
    subst this
    rcases hk with ⟨_, hk⟩ | ⟨_, hk⟩
    · have : b = k := by simpa [c1] using hk
      exact ⟨rfl, this ▸ hbx⟩
    · exact ⟨rfl, by simpa [c1] using hk⟩
  have no1 : ∀ e', c1.en q1 ≠ some e' := fun e' => by simp [c1, n1.symm]
  have no2 : ∀ e', c1.en q2 ≠ some e' := fun e' => by simp [c1, n2.symm]
  have key : HeapOk c1 ∧ Trans c c1 := by
    refine rearr_ok (c' := c1) (T := fun _ => False) (fun j => j = q3 ∨ j = q1 ∨ j = q2) ho (Mem.refl c) (fun k h => h.elim) (fun id h => .inl h) (fun k h => h) (fun k h => .inl h)
      (fun j hj => ?_) (fun j e' hj he' => ?_) (fun j j' e e' k hj hj' he he' hk hk' => ?_)
    · have a1 : j ≠ q3 := fun h => hj (.inl h)
      have a2 : j ≠ q1 := fun h => hj (.inr (.inl h))
      have a3 : j ≠ q2 := fun h => hj (.inr (.inr h))
      exact ⟨by simp [c1, a1, a2, a3], fun e _ => ⟨by simp [c1, a1], by simp [c1, a1], by simp [c1, a1]⟩⟩
    · rcases hj with rfl | rfl | rfl
      · have : e = e' := by simpa [c1] using he'
        subst this
        refine ⟨.inr rfl, fun _ => hent c1 (by simp [c1]) (by simp [c1]) (fun p hp => by simpa [c1] using (g3 p hp).1) (fun k hk => g1 k (by simpa [c1] using hk)) rfl, .inr h3, fun k hk => .inr ⟨q1, _, .inr (.inl rfl), he1, .inr ⟨rfl, (x3 _ k he' hk).2⟩⟩⟩
      · exact absurd he' (no1 e')
      · exact absurd he' (no2 e')
    · rcases hj with rfl | rfl | rfl
      · rcases hj' with rfl | rfl | rfl
        · rfl
        · exact absurd he' (no1 e')
        · exact absurd he' (no2 e')
      · exact absurd he (no1 e)
      · exact absurd he (no2 e)
  obtain ⟨k1, k2⟩ := key
  exact ⟨c1, rfl, k1, k2, fun j => rfl, fun j => Iff.rfl, by simp [c1]⟩
theorem piece_clr {E : Env} (hE : EnvOk E) {base : Nat} {code : Code} {S : St} {e : Exit} (ds : List Nat) {T : List SV} {tab : Tab} {nx : Nat} (hok : codeOk code = true)
    (h : codeK (R := Exit × List SV × Tab × Nat) E.Θ (noCal E) (fun _ _ _ => Option.none) code S (fun e S' => some (e, Go.Sx.clrs ds S'.tmps, S'.tab, S'.nx)) = some (e, T, tab, nx)) : CodeSem E.P base code S e ⟨T, tab, nx⟩ := by
  have hno : LpOk E.P base (fun _ _ _ => Option.none : Lp (Exit × List SV × Tab × Nat)) := fun _ _ _ _ _ h => by cases h
  obtain ⟨e1, S1, h1, h2⟩ := code_ok hE.ty hE.mixed (noCal_ok E) hno code S _ hok h
  simp only [Option.some.injEq, Prod.mk.injEq] at h1
  obtain ⟨rfl, rfl, rfl, rfl⟩ := h1
  exact fun {_} c0 c a Q hK hr ht hq => h2 c0 c a Q hK hr ht fun c' a' hr' ht' => hq c' a' (hr'.clrs ds) ht'
theorem run_delete_int {P : Program} {t kt et : TypeId} {w : World} {b clock : Nat} {es : Array MapEntry} {k : Value} {i : Nat} {x : Value} (ht : P.underlying t = some (.map kt et)) (hb : w.heap[b]? = some (.map es clock))
    (hck : (Instr.checkKey es.isEmpty 10000 kt k).run P w = .ok () w) (hf : (Instr.findKey kt k es.toList).run P w = .ok (some (i, x)) w) (t' ty : TypeId) :
    (Builtin.delete_ #[t, t'] ty #[.map (some b), k]).run P w = .ok (.tuple #[]) { w with heap := w.heap.setIfInBounds b (.map (es.eraseIdxIfInBounds i) clock) } := by
  have := MapKept.run_setObj_map (P := P) (.map (es.eraseIdxIfInBounds i) clock) hb
  simp [Builtin.delete_, run_underlying ht, MapKept.run_getObj_map hb, hck, hf, this, Result.andThen]
theorem getD_put {a : Act} {d s : Nat} {v : Value} (hd : d < a.tmps.size) : (a.put (some d) v).tmps.getD s Go.undef = if s = d then v else a.tmps.getD s Go.undef := by
  rw [put_getD]
  by_cases h : s = d
  · subst h; simp [hd]
  · have : ¬ d = s := fun e => h e.symm
    simp [h, this]
end Go.Sx
namespace Go.Sx
def stL (i : Nat) : LoopState := if i % 4 = 0 then .ready else if i % 4 = 1 then .busy else .exhausted
noncomputable def recL (i : Nat) (tm : Array Value) (y : Nat → Nat) : Loop := { loopRec (i / 4) with state := stL i, tmps := tm, defers := y 0, fn := y 2 }
theorem lp_ent {c : Cx} (ho : HeapOk c) {q i : Nat} (he : c.en q = some (.lp i)) : (c.o q).x ((c.o q).y 0) ∧ (c.o q).x ((c.o q).y 1) ∧ c.w.heap[(c.o q).y 0]? = some (.deferred (some [])) ∧
    ∃ tm : Array Value, tm.size = (loopRec (i / 4)).tmps.size ∧ c.w.heap[(c.o q).y 1]? = some (.loop (recL i tm (c.o q).y)) ∧ c.u q = .func (.yield ((c.o q).y 1)) (((loopSl (i / 4)).map fun s => tm.getD s Go.undef).toArray) #[] := by
  obtain ⟨_, h0, h1, h2, tm, h3, h4, h5⟩ := ho.ents q _ he
  exact ⟨h0, h1, h2, tm, h3, h4, h5⟩
theorem lp_turn {c : Cx} (ho : HeapOk c) {q i j : Nat} (he : c.en q = some (.lp i)) (hij : i / 4 = j / 4) {tm : Array Value} (htm : c.w.heap[(c.o q).y 1]? = some (.loop (recL i tm (c.o q).y))) :
    ∃ c1 : Cx, c1.w = c.w.putObj ((c.o q).y 1) (.loop (recL j tm (c.o q).y)) ∧ HeapOk c1 ∧ Trans c c1 ∧ (∀ id, c1.en id = if id = q then some (.lp j) else c.en id) ∧ (∀ id, c1.K id ↔ c.K id) := by
  obtain ⟨h0, h1, h2, tm', h3, h4, h5⟩ := lp_ent ho he
  have hte : tm' = tm := by
    have := h4.symm.trans htm
    injection this with this
    injection this with this
    exact congrArg Loop.tmps this
  subst hte
  obtain ⟨hx, _⟩ := ho.ents q _ he
  have hne : (c.o q).y 0 ≠ (c.o q).y 1 := fun e => by rw [e, h4] at h2; cases h2
  let w' := c.w.putObj ((c.o q).y 1) (.loop (recL j tm' (c.o q).y))
  let c1 : Cx := { c with en := fun id => if id = q then some (.lp j) else c.en id, w := w' }
  have hsz : w'.heap.size = c.w.heap.size := World.putObj_size
  have own1 : c.ow q (.lp i) ((c.o q).y 1) := .inr ⟨rfl, h1⟩
  have x1 : ∀ e k, c1.en q = some e → c1.ow q e k → e = .lp j ∧ (c.o q).x k := fun e k he1 hk => by
    have : Ent.lp j = e := by simpa [c1] using he1
    subst this
    rcases hk with ⟨h, _⟩ | ⟨_, h⟩
    · cases h
    · exact ⟨rfl, h⟩
  have key : HeapOk c1 ∧ Trans c c1 := by
    refine rearr_ok (c' := c1) (T := fun k => k = (c.o q).y 1) (fun id => id = q) ho ⟨rfl, rfl, rfl, Nat.le_of_eq hsz.symm, fun k _ hk => World.putObj_heap_other hk, fun k hk => ⟨q, _, he, hk ▸ own1⟩⟩
      (fun k hk => ⟨q, _, rfl, he, hk ▸ own1⟩) (fun id h => h) (fun k h => h) (fun k h => .inl h) (fun id hj => ?_) (fun id e' hj he' => ?_) (fun j j' e e' k hj hj' _ _ _ _ => by rw [hj, hj'])
    · have hj : id ≠ q := hj
      exact ⟨by simp [c1, hj], fun e _ => ⟨rfl, rfl, rfl⟩⟩
    · have hj : id = q := hj
      subst hj
      have : Ent.lp j = e' := by simpa [c1] using he'
      subst this
      refine ⟨ho.lt id _ he, fun ht => ⟨fun k hk => ?_, h0, h1, ?_, tm', ?_, ?_, ?_⟩, .inl ⟨_, he, rfl, rfl, rfl, rfl⟩, fun k hk => .inr ⟨id, _, rfl, he, .inr ⟨rfl, (x1 _ k he' hk).2⟩⟩⟩
      · show k < w'.heap.size
        rw [hsz]
        exact hx k hk
      · show w'.heap[(c.o id).y 0]? = _
        rw [World.putObj_heap_other hne]
        exact h2
      · rw [← hij]; exact h3
      · show w'.heap[(c.o id).y 1]? = _
        rw [World.putObj_heap_same (hx _ h1)]
        rfl
      · rw [← hij]; exact h5
  obtain ⟨k1, k2⟩ := key
  exact ⟨c1, rfl, k1, k2, fun id => rfl, fun id => Iff.rfl⟩
theorem lp_new {c : Cx} (ho : HeapOk c) {q : Nat} (hq : ¬ c.K q) (n : Nat) (tm : Array Value) (fn : Nat) (hts : tm.size = (loopRec n).tmps.size) :
    ∃ c1 : Cx, c1.w = (c.w.alloc (.deferred (some []))).alloc (.loop { loopRec n with state := .ready, tmps := tm, defers := c.w.heap.size, fn := fn }) ∧ HeapOk c1 ∧ Trans c c1 ∧
      (∀ j, c1.en j = if j = q then some (.lp (4 * n)) else c.en j) ∧ (∀ j, c1.K j ↔ c.K j ∨ j = q) ∧ c1.u q = .func (.yield (c.w.heap.size + 1)) (((loopSl n).map fun s => tm.getD s Go.undef).toArray) #[] ∧
      (c1.o q).y 0 = c.w.heap.size ∧ (c1.o q).y 1 = c.w.heap.size + 1 := by
  let w' := (c.w.alloc (.deferred (some []))).alloc (.loop { loopRec n with state := .ready, tmps := tm, defers := c.w.heap.size, fn := fn })
  let oq : Own := ⟨fun k => k = c.w.heap.size ∨ k = c.w.heap.size + 1, fun i => match i with | 0 => c.w.heap.size | 1 => c.w.heap.size + 1 | _ => fn⟩
  let c1 : Cx := { b := c.b, o := fun j => if j = q then oq else c.o j, u := fun j => if j = q then .func (.yield (c.w.heap.size + 1)) (((loopSl n).map fun s => tm.getD s Go.undef).toArray) #[] else c.u j
                   en := fun j => if j = q then some (.lp (4 * n)) else c.en j, K := fun j => c.K j ∨ j = q, Z := c.Z, w := w' }
  have hs : w'.heap.size = c.w.heap.size + 2 := by simp [w']
  have g0 : w'.heap[c.w.heap.size]? = some (.deferred (some [])) := by
    have h1 : (c.w.alloc (.deferred (some []))).heap[c.w.heap.size]? = some (.deferred (some [])) := World.alloc_heap_new _ _
    exact (heap_kept _ _ _ (by simp)).trans h1
  have g1 : w'.heap[c.w.heap.size + 1]? = some (.loop { loopRec n with state := .ready, tmps := tm, defers := c.w.heap.size, fn := fn }) := by
    have := World.alloc_heap_new (c.w.alloc (.deferred (some []))) (.loop { loopRec n with state := .ready, tmps := tm, defers := c.w.heap.size, fn := fn })
    simpa [w'] using this
  have x1 : ∀ e k, c1.en q = some e → c1.ow q e k → e = .lp (4 * n) ∧ (k = c.w.heap.size ∨ k = c.w.heap.size + 1) := fun e k he hk => by
    have : Ent.lp (4 * n) = e := by simpa [c1] using he
    subst this
    rcases hk with ⟨h, _⟩ | ⟨_, h⟩
    · cases h
    · exact ⟨rfl, by simpa [c1, oq] using h⟩
  have key : HeapOk c1 ∧ Trans c c1 := by
    refine rearr_ok (c' := c1) (T := fun _ => False) (fun id => id = q) ho (Mem.alloc (Mem.alloc (Mem.refl c) _) _) (fun k h => h.elim) (fun id h => .inl h) (fun k h => h) (fun k h => .inl h)
      (fun id hj => ?_) (fun id e' hj he' => ?_) (fun j j' e e' k hj hj' _ _ _ _ => by rw [hj, hj'])
    · have hj : id ≠ q := hj
      exact ⟨by simp [c1, hj], fun e _ => ⟨rfl, by simp [c1, hj], by simp [c1, hj]⟩⟩
    · have hj : id = q := hj
      subst hj
      have : Ent.lp (4 * n) = e' := by simpa [c1] using he'
      subst this
      refine ⟨.inr rfl, fun _ => ⟨fun k hk => ?_, ?_, ?_, ?_, tm, ?_, ?_, ?_⟩, .inr hq, fun k hk => .inl ?_⟩
      · have : k = c.w.heap.size ∨ k = c.w.heap.size + 1 := by simpa [c1, oq] using hk
        show k < w'.heap.size
        omega
      · simp [c1, oq]
      · simp [c1, oq]
      · simpa [c1, oq] using g0
      · rw [show 4 * n / 4 = n by omega]; exact hts
      · rw [show 4 * n / 4 = n by omega, if_pos (show 4 * n % 4 = 0 by omega)]
        simpa [c1, oq] using g1
      · rw [show 4 * n / 4 = n by omega]
        simp [c1, oq]
      · rcases (x1 _ k he' hk).2 with h | h <;> omega
  obtain ⟨k1, k2⟩ := key
  exact ⟨c1, rfl, k1, k2, fun j => rfl, fun j => Iff.rfl, by simp [c1], by simp [c1, oq], by simp [c1, oq]⟩
def setSl : List Nat → List SV → List SV → List SV
  | s :: ss, v :: vs, l => setSl ss vs (lset l s v)
  | _, _, l => l
theorem length_setSl : ∀ (ss : List Nat) (vs l : List SV), (setSl ss vs l).length = l.length
  | [], _, l => rfl
  | _ :: _, [], l => rfl
  | s :: ss, v :: vs, l => by rw [setSl, length_setSl ss vs, length_lset]
theorem den_lset {c : Cx} {l : List SV} {arr : Array Value} (h : ∀ s, Den c (lget l s) (arr.getD s Go.undef)) {d : Nat} {v : SV} (hv : Den c v (arr.getD d Go.undef)) : ∀ s, Den c (lget (lset l d v) s) (arr.getD s Go.undef) := fun s => by
  rw [lget_lset]
  by_cases e : s = d ∧ d < l.length
  · rw [if_pos e, e.1]; exact hv
  · rw [if_neg e]; exact h s
theorem den_setSl {c : Cx} {arr : Array Value} : ∀ (ss : List Nat) (vs l : List SV), (∀ s, Den c (lget l s) (arr.getD s Go.undef)) → (∀ (i : Nat) (s : Nat) (v : SV), ss[i]? = some s → vs[i]? = some v → Den c v (arr.getD s Go.undef)) → ∀ s, Den c (lget (setSl ss vs l) s) (arr.getD s Go.undef)
  | [], _, l, h, _ => h
  | _ :: _, [], l, h, _ => h
  | s :: ss, v :: vs, l, h, hv => den_setSl ss vs (lset l s v) (den_lset h (hv 0 s v rfl rfl)) fun i s' v' h1 h2 => hv (i + 1) s' v' h1 h2
def fnN : Func := { (default : Func) with results := #[] }
noncomputable def roundM (E : Env) {R : Type} (cal : Cal R) (lp : Lp R) (jn : Jn R) (f n : Nat) (args : List SV) (T : Tab) (base : Nat) (k : SV × Tab → Option R) : Option R :=
  match args with
  | .row q :: rest => (match tget T q with
    | some (.lp i) => bif i == 4 * n && (rest.length == (loopSl n).length + 1 && ((loopRec n).params.size == 1 && ((loopRec n).pending.isNone && Nat.ble yK f))) then
        codeJ E.Θ cal lp jn (loopRec n).assign ⟨lset (setSl (loopSl n) rest (List.replicate (loopRec n).tmps.size .undef)) ((loopRec n).params.getD 0 0) (lget rest (loopSl n).length), T, base⟩ fun e S => (match e with
          | .normal => (match tget S.tab q with
            | some (.lp i1) => bif i1 == 4 * n then
                codeJ E.Θ cal lp jn (loopRec n).body ⟨S.tmps, tput S.tab q (.lp (4 * n + 1)), S.nx⟩ fun e S2 => (match e with
                  | .normal => (match tget S2.tab q with
                    | some (.lp i2) => bif i2 == 4 * n + 1 then
                        finF (!(E.nr f), E.bs f) E.Θ base fnN.results.toList ⟨S2.tmps, tput S2.tab q (.lp (4 * n)), S2.nx⟩ fun p => k (.bool true, p.2)
                      else Option.none
                    | _ => Option.none)
                  | _ => Option.none)
              else Option.none
            | _ => Option.none)
          | _ => Option.none)
      else Option.none
    | _ => Option.none)
  | _ => Option.none
theorem recL_pair (n : Nat) (tm : Array Value) (y : Nat → Nat) : recL (4 * n) tm y = { loopRec n with state := .ready, tmps := tm, defers := y 0, fn := y 2 } ∧ recL (4 * n + 1) tm y = { loopRec n with state := .busy, tmps := tm, defers := y 0, fn := y 2 } := by
  unfold recL stL
  rw [show 4 * n / 4 = n by omega, show (4 * n + 1) / 4 = n by omega, if_pos (show 4 * n % 4 = 0 by omega), if_neg (show ¬ (4 * n + 1) % 4 = 0 by omega), if_pos (show (4 * n + 1) % 4 = 1 by omega)]
  exact ⟨rfl, rfl⟩
theorem recL_end (n : Nat) (tm : Array Value) (y : Nat → Nat) : recL (4 * n + 2) tm y = { loopRec n with state := .exhausted, tmps := tm, defers := y 0, fn := y 2 } := by
  unfold recL stL
  rw [show (4 * n + 2) / 4 = n by omega, if_neg (show ¬ (4 * n + 2) % 4 = 0 by omega), if_neg (show ¬ (4 * n + 2) % 4 = 1 by omega)]
theorem Trans.u_eq {c c' : Cx} (h : Trans c c') {q : Nat} (hk : c.K q) {e : Ent} (he : c'.en q = some e) : c'.u q = c.u q ∧ (c'.o q).y = (c.o q).y := by
  rcases h.old q e he with ⟨_, _, _, h2, _, h4⟩ | h
  · exact ⟨h2, h4⟩
  · exact absurd hk h
section
variable {R : Type} {r : R}
theorem round_ok {E : Env} (hE : EnvOk E) {cal : Cal R} (hcal : CalOk E.P cal) {f n : Nat} {lp : Lp R} {jn : Jn R} {base : Nat} {Gl Gj : Code → Prop} (hlp : LpOn E.P base Gl lp) (hjn : JnOn E.P base Gj jn)
    (hc1 : codeOk (loopRec n).assign = true) (hc2 : codeOk (loopRec n).body = true) (hl1 : ∀ b ∈ allLoops (loopRec n).assign, Gl b) (hl2 : ∀ b ∈ allLoops (loopRec n).body, Gl b) (hj1 : ∀ b ∈ allJoins (isJn jn) (loopRec n).assign, Gj b) (hj2 : ∀ b ∈ allJoins (isJn jn) (loopRec n).body, Gj b)
    {args : List SV} {T : Tab} {kf : SV × Tab → Option R} (h : roundM E cal lp jn f n args T base kf = some r) :
    ∃ res T', FnY E.P f args T base res T' ∧ kf (res, T') = some r := by
  unfold roundM at h
  split at h
  rotate_left
  · cases h
  rename_i q rest
  split at h
  rotate_left
  · cases h
  rename_i i hTq
  cases hb : (i == 4 * n && (rest.length == (loopSl n).length + 1 && ((loopRec n).params.size == 1 && ((loopRec n).pending.isNone && Nat.ble yK f)))) <;> rw [hb] at h <;> simp only [cond_true, cond_false, reduceCtorEq] at h
  simp only [Bool.and_eq_true, beq_iff_eq, Nat.ble_eq] at hb
  obtain ⟨rfl, hrest, hps, hpend, hf⟩ := hb
  obtain ⟨e1, S1, h1, p1⟩ := codeJ_ok hE.ty hE.mixed hcal hlp hjn _ _ _ hc1 hl1 hj1 h
  cases e1 <;> simp only [reduceCtorEq] at h1
  split at h1
  rotate_left
  · cases h1
  rename_i i1 hS1q
  cases hb1 : (i1 == 4 * n) <;> rw [hb1] at h1 <;> simp only [cond_true, cond_false, reduceCtorEq] at h1
  simp only [beq_iff_eq] at hb1
  subst hb1
  obtain ⟨e2, S2, h2, p2⟩ := codeJ_ok hE.ty hE.mixed hcal hlp hjn _ _ _ hc2 hl2 hj2 h1
  cases e2 <;> simp only [reduceCtorEq] at h2
  split at h2
  rotate_left
  · cases h2
  rename_i i2 hS2q
  cases hb2 : (i2 == 4 * n + 1) <;> rw [hb2] at h2 <;> simp only [cond_true, cond_false, reduceCtorEq] at h2
  simp only [beq_iff_eq] at hb2
  subst hb2
  rw [finF_eq] at h2
  obtain ⟨res, T', h3, p3⟩ := fin_ok (P := E.P) hE.ty h2
  refine ⟨.bool true, T', ⟨hf, fun c vs hen hK ho hd => ?_⟩, h3⟩
  intro l mid x hvs
  subst hvs
  -- the record
  have hq0 : c.en q = some (.lp (4 * n)) := (hen q).trans hTq
  obtain ⟨x0, x1, dD, tm, ht1, ht2, ht3⟩ := lp_ent ho hq0
  have hu : c.u q = .func (.yield l) mid.toArray #[] := ((hd.2 0 _ _ rfl rfl).row_inv hq0).symm
  rw [hu] at ht3
  injection ht3 with ht4 ht5
  injection ht4 with ht4
  rw [show 4 * n / 4 = n by omega] at ht1 ht5
  have hmid : mid = (loopSl n).map fun s => tm.getD s Go.undef := by
    have := congrArg Array.toList ht5
    simpa using this
  obtain ⟨rr, rb⟩ := recL_pair n tm (c.o q).y
  rw [rr, ← ht4] at ht2
  have hcall := run_yield (P := E.P) (args := #[x]) ht2 hps.symm
  have hp : ∃ p, (loopRec n).params = #[p] := by
    generalize (loopRec n).params = ps at hps
    obtain ⟨ps⟩ := ps
    match ps, hps with
    | [p], _ => exact ⟨p, rfl⟩
  obtain ⟨p, hp⟩ := hp
  have hpend : (loopRec n).pending = Option.none := by simpa using hpend
  have hpg : (loopRec n).params.getD 0 0 = p := by rw [hp]; rfl
  rw [hpg] at p1
  have hrl : ∀ (i : Nat) (s : SV) (v : Value), rest[i]? = some s → (mid ++ [x])[i]? = some v → Den c s v := fun i s v a b => hd.2 (i + 1) s v a b
  have hmlen : mid.length = (loopSl n).length := by rw [hmid]; simp
  have hrep : ∀ s, lget (List.replicate (loopRec n).tmps.size SV.undef) s = .undef := fun s => by
    simp only [lget, List.getD_eq_getElem?_getD, List.getElem?_replicate]
    split <;> rfl
  have hd0 : ∀ s, Den c (lget (setSl (loopSl n) rest (List.replicate (loopRec n).tmps.size .undef)) s) (tm.getD s Go.undef) := den_setSl _ _ _ (fun s => by rw [hrep]; exact .und _) fun i s v a b => by
    have hi : i < (loopSl n).length := (List.getElem?_eq_some_iff.1 a).1
    refine hrl i v _ b ?_
    rw [List.getElem?_append_left (by omega), hmid, List.getElem?_map, a]
    rfl
  have hxd : Den c (lget rest (loopSl n).length) x := by
    have hlt : (loopSl n).length < rest.length := by omega
    refine hrl (loopSl n).length _ x (lget_lt hlt) ?_
    rw [← hmlen]
    simp
  generalize hLL : setSl (loopSl n) rest (List.replicate (loopRec n).tmps.size SV.undef) = L0 at hd0 p1
  have hL0 : L0.length = tm.size := by rw [← hLL, length_setSl, List.length_replicate, ht1]
  have R1 : Rel [] c ⟨lset L0 p (lget rest (loopSl n).length), T, base⟩ { tmps := tm.setIfInBounds p x, defers := [] } := by
    refine ⟨ho, hen, fun id h => (hK id).1 h, rfl, by rw [length_lset]; simpa using hL0, fun s => ?_⟩
    rw [lget_lset]
    by_cases e : s = p ∧ p < L0.length
    · rw [if_pos e, e.1]
      have : (tm.setIfInBounds p x).getD p Go.undef = x := by 
        have hlt : p < tm.size := hL0 ▸ e.2
        simp [Array.getD_eq_getD_getElem?, hlt]
      rw [this]
      exact hxd
    · rw [if_neg e]
      have : (tm.setIfInBounds p x).getD s Go.undef = tm.getD s Go.undef := by
        by_cases hs : s = p
        · have hn : ¬ p < tm.size := fun h => e ⟨hs, hL0.symm ▸ h⟩
          rw [Array.setIfInBounds_eq_of_size_le (Nat.le_of_not_lt hn)]
        · simp [Array.getD_eq_getD_getElem?, Array.getElem?_setIfInBounds_ne (Ne.symm hs)]
      rw [this]
      exact hd0 s
  have hKb : ∀ id, c.K id → id < base := fun id h => (hK id).1 h
  let Rr : Ending → World → Prop := fun e w' => ∃ v c', e = .returned v ∧ c'.w = w' ∧ (∀ id, c'.en id = tget T' id) ∧ HeapOk c' ∧ Den c' (.bool true) v ∧ Trans c c'
  have key : wpA E.P (loopRec n).assign (Exit.then (fun a₁ w₁ => ∃ w₂, (Instr.beginRound l).run E.P w₁ = .ok () w₂ ∧ (loopRec n).body.wpIn (fw (some l)) 0 E.P (roundPost E.P l Rr) a₁ w₂) (fun _ _ _ => False)) { tmps := tm.setIfInBounds p x, defers := [] } c.w := by
    refine p1 c c _ _ hKb R1 .refl fun c1 a1 hr1 tr1 => ?_
    have hq1 : c1.en q = some (.lp (4 * n)) := (hr1.en q).trans hS1q
    obtain ⟨u1, y1⟩ := tr1.u_eq (ho.lt q _ hq0) hq1
    obtain ⟨_, _, _, tm1, _, t2, _⟩ := lp_ent hr1.ho hq1
    have hl1 : (c1.o q).y 1 = l := by rw [y1]; exact ht4.symm
    obtain ⟨c2, w2, ho2, tr2, en2, K2⟩ := lp_turn hr1.ho hq1 (j := 4 * n + 1) (by omega) t2
    rw [hl1, (recL_pair n tm1 _).1] at t2
    rw [hl1, (recL_pair n tm1 _).2] at w2
    refine ⟨c2.w, ?_, ?_⟩
    · rw [w2]
      exact run_beginRound t2 rfl
    · have R2 : Rel [] c2 ⟨S1.tmps, tput S1.tab q (.lp (4 * n + 1)), S1.nx⟩ a1 := hr1.ctx tr2 ho2 (fun id => by rw [en2, tget_tput, hr1.en]) (fun id hid => hr1.K id ((K2 id).1 hid))
      refine p2 c c2 a1 _ hKb R2 (tr1.trans tr2) (fun c3 a3 hr3 tr3 => ?_) (some l)
      have hq3 : c3.en q = some (.lp (4 * n + 1)) := (hr3.en q).trans hS2q
      obtain ⟨u3, y3⟩ := tr3.u_eq (ho.lt q _ hq0) hq3
      obtain ⟨_, _, _, tm3, _, t3, _⟩ := lp_ent hr3.ho hq3
      have hl3 : (c3.o q).y 1 = l := by rw [y3]; exact ht4.symm
      obtain ⟨c4, w4, ho4, tr4, en4, K4⟩ := lp_turn hr3.ho hq3 (j := 4 * n) (by omega) t3
      rw [hl3, (recL_pair n tm3 _).2] at t3
      rw [hl3, (recL_pair n tm3 _).1] at w4
      refine ⟨.bool true, c4.w, ?_, ?_⟩
      · have := run_endRound (P := E.P) Option.none t3
        rw [w4]
        refine this.trans ?_
        simp [hpend]
      · have R4 : Rel [] c4 ⟨S2.tmps, tput S2.tab q (.lp (4 * n)), S2.nx⟩ a3 := hr3.ctx tr4 ho4 (fun id => by rw [en4, tget_tput, hr3.en]) (fun id hid => hr3.K id ((K4 id).1 hid))
        obtain ⟨v, c5, _, w5, e5, h5, _, t5⟩ := p3 c c4 a3 hKb R4 (tr3.trans tr4)
        exact ⟨.bool true, c5, rfl, w5, e5, h5, .g _ _ (.bool _), t5⟩
  refine ⟨_, _, _, _, hcall, fun ro => ?_⟩
  refine roundIn_of_wpIn (F := fw ro) trivial ?_
  have hfold : ((loopRec n).params.zip #[x]).foldl (fun (t : Array Value) (pv : Tmp × Value) => t.setIfInBounds pv.1 pv.2) tm = tm.setIfInBounds p x := by rw [hp]; simp
  have k2 := key (some l)
  rw [← hfold] at k2
  exact k2
end
end Go.Sx
namespace Go.Sx
noncomputable def rangeM {R : Type} (cal : Cal R) (n : Nat) (y : FuncId) (g : Nat) (S : St) (k : St → Option R) : Option R :=
  match lget S.tmps g with
  | .func f kk caps => bif (Nat.blt f yK && !(kk == yK)) && (S.tmps.length == (loopRec n).tmps.size) then
      callK cal f (caps.take kk ++ ([SV.func y yK (.row S.nx :: (loopSl n).map (lget S.tmps))] ++ caps.drop kk)) (tput S.tab S.nx (.lp (4 * n))) (S.nx + 1) fun δ =>
        bif keysLt δ then (match tget (tupd (tput S.tab S.nx (.lp (4 * n))) δ.upd) S.nx with
          | some (.lp i) => bif i == 4 * n then k ⟨S.tmps, tput (tupd (tput S.tab S.nx (.lp (4 * n))) δ.upd) S.nx (.lp (4 * n + 2)), δ.nx⟩ else Option.none
          | _ => Option.none) else Option.none
      else Option.none
  | _ => Option.none
def markOf (D : Nat) : List Deferred := [{ target := .collected D, args := #[] }]
section
variable {R : Type} {r : R}
theorem range_ok {E : Env} {cal : Cal R} (hcal : CalOk E.P cal) {n g base : Nat} {y : FuncId} (hpend : (loopRec n).pending = Option.none) {S : St} {k : St → Option R} (h : rangeM cal n y g S k = some r) :
    ∃ S', k S' = some r ∧ tget S'.tab S.nx = some (.lp (4 * n + 2)) ∧ ∀ (c0 c : Cx) (a : Act) (Q : Exit → Act → World → Prop), (∀ id, c0.K id → id < base) → Rel [] c S a → Trans c0 c →
      (∀ c' a', Rel (markOf ((c'.o S.nx).y 0)) c' S' a' → Trans c0 c' → Q .normal a' c'.w) → (Code.rangeFunc (.tmp g) (loopRec n).params (loopRec n).assign (loopRec n).body).wpIn (fw Option.none) 0 E.P Q a c.w := by
  unfold rangeM at h
  split at h
  rotate_left
  · cases h
  rename_i f kk caps hg
  cases hb : ((Nat.blt f yK && !(kk == yK)) && (S.tmps.length == (loopRec n).tmps.size)) <;> rw [hb] at h <;> simp only [cond_true, cond_false, reduceCtorEq] at h
  simp only [Bool.and_eq_true, Bool.not_eq_true', beq_eq_false_iff_ne, beq_iff_eq] at hb
  obtain ⟨⟨hfy, hkk⟩, hlen⟩ := hb
  obtain ⟨δ, hδ, hids, hsem⟩ := callK_sem (S := ⟨S.tmps, tput S.tab S.nx (.lp (4 * n)), S.nx + 1⟩) hcal h
  cases hkl : keysLt δ <;> rw [hkl] at hδ <;> simp only [cond_true, cond_false, reduceCtorEq] at hδ
  split at hδ
  rotate_left
  · cases hδ
  rename_i i hTq
  cases hi : (i == 4 * n) <;> rw [hi] at hδ <;> simp only [cond_true, cond_false, reduceCtorEq] at hδ
  have hi : i = 4 * n := by simpa using hi
  subst hi
  refine ⟨_, hδ, by show tget (tput _ _ _) _ = _; rw [tget_tput, if_pos rfl], fun c0 c a Q hK hr ht hq => wpIn_rangeFunc fun fn _ => ?_⟩
  have hnk : ¬ c.K S.nx := fun hk => Nat.lt_irrefl _ (hr.K _ hk)
  obtain ⟨c1, w1, ho1, tr1, en1, K1, u1, y0, y1⟩ := lp_new hr.ho hnk n a.tmps fn (by rw [← hr.len]; exact hlen)
  have hq1 : c1.en S.nx = some (.lp (4 * n)) := by rw [en1, if_pos rfl]
  have R1 : Rel [] c1 ⟨S.tmps, tput S.tab S.nx (.lp (4 * n)), S.nx + 1⟩ a := hr.ctx tr1 ho1 (fun id => by rw [en1, tget_tput, hr.en]) (fun id hid => by
    rcases (K1 id).1 hid with h | h
    · exact Nat.lt_succ_of_lt (hr.K id h)
    · rw [h]; exact Nat.lt_succ_self _)
  -- what is ranged over
  have hdf : Den c1 (.func f kk caps) (a.tmps.getD g Go.undef) := by
    have := R1.sl g
    show Den c1 (.func f kk caps) _
    rw [← hg]
    exact this
  obtain ⟨cv, hfv, _, hcl, hcd⟩ := hdf.func_inv
  rw [fnVal_lt hkk] at hfv
  have hcap : DenL c1 caps cv := ⟨hcl, hcd⟩
  let mid := (loopSl n).map fun s => a.tmps.getD s Go.undef
  have hyv : Den c1 (SV.func y yK (.row S.nx :: (loopSl n).map (lget S.tmps))) (.func (.yield (c.w.heap.size + 1)) #[] #[]) := by
    refine .func y yK (.row S.nx :: (loopSl n).map (lget S.tmps)) (.func (.yield (c.w.heap.size + 1)) mid.toArray #[] :: mid) (by simp [mid]) (fun _ => ⟨_, rfl⟩) fun i s v hs hv => ?_
    cases i with
    | zero =>
      simp only [List.getElem?_cons_zero, Option.some.injEq] at hs hv
      subst hs hv
      exact .row S.nx _ ((K1 _).2 (.inr rfl)) rfl fun _ => u1.symm
    | succ i =>
      simp only [List.getElem?_cons_succ, mid, List.getElem?_map, Option.map_eq_some_iff] at hs hv
      obtain ⟨s1, q1, rfl⟩ := hs
      obtain ⟨s2, q2, rfl⟩ := hv
      rw [q1] at q2
      injection q2 with q2
      subst q2
      exact R1.sl s1
  have hden : DenL c1 (caps.take kk ++ ([SV.func y yK (.row S.nx :: (loopSl n).map (lget S.tmps))] ++ caps.drop kk)) (cv.take kk ++ ([Value.func (.yield (c.w.heap.size + 1)) #[] #[]] ++ cv.drop kk)) :=
    (hcap.take kk).app (DenL.app ⟨rfl, fun i s v hs hv => by
      cases i with
      | zero => simp at hs hv; subst hs hv; exact hyv
      | succ i => simp at hs⟩ (hcap.drop kk))
  obtain ⟨⟨fnc, hfn, hbody, hname⟩, hcalls⟩ := hsem hfy c1 _ ho1 R1.en R1.K hden
  have hnone : fnc.body.isNone = false := by cases hb : fnc.body; rw [hb] at hbody; cases hbody; rfl
  refine ⟨c.w.heap.size + 1, markOf c.w.heap.size, c1.w, { target := .fn (.func f) (cv.drop kk).toArray, args := (cv.take kk).toArray ++ #[.func (.yield (c.w.heap.size + 1)) #[] #[]] }, c1.w, f, (cv.take kk ++ ([Value.func (.yield (c.w.heap.size + 1)) #[] #[]] ++ cv.drop kk)).toArray, c1.w, ?_, ?_, fun _ _ => trivial, ?_, fun h => (by cases h), ?_⟩
  · have := run_enterLoop_outer (P := E.P) (w := c.w) fn a.tmps (loopRec n).params (loopRec n).assign (loopRec n).body
    refine this.trans ?_
    rw [w1]
    have : (({ loopRec n with state := .ready, tmps := a.tmps, defers := c.w.heap.size, fn := fn }) : Loop) = { state := .ready, pending := Option.none, fn := fn, tmps := a.tmps, params := (loopRec n).params, assign := (loopRec n).assign, body := (loopRec n).body, defers := c.w.heap.size } := by rw [← hpend]
    rw [this]
    rfl
  · have hfv' : a.eval (.tmp g) = .func (.func f) (cv.take kk).toArray (cv.drop kk).toArray := hfv
    have hcv : ∀ v, a.eval (.const v) = v := fun _ => rfl
    simp [resolve, hfv', Deferred.ofValue, hcv]
  · have e1 : ((cv.take kk).toArray ++ #[Value.func (.yield (c.w.heap.size + 1)) #[] #[]]) ++ (cv.drop kk).toArray = (cv.take kk ++ ([Value.func (.yield (c.w.heap.size + 1)) #[] #[]] ++ cv.drop kk)).toArray := by simp
    simp only [invoke, callFunc, Sem.run_bind, Sem.run_pure, Result.andThen_ok, run_program, hfn, hname, hnone, Bool.false_eq_true, if_false, e1]
  · have hc2 : CallsIn (fw Option.none) (0 - 1) E.P f (cv.take kk ++ ([Value.func (.yield (c.w.heap.size + 1)) #[] #[]] ++ cv.drop kk)).toArray c1.w _ := (callsIn_wide (n := 0 - 1)).2 hcalls
    refine CallsIn.mono hc2 ?_
    rintro e w' ⟨v, c2, rfl, rfl, hv, ho2, en2, K2, tr2⟩
    have R2 := rel_put (dst := Option.none) R1 hv ho2 en2 K2 tr2 hkl hids.le
    have hq2 : c2.en S.nx = some (.lp (4 * n)) := (R2.en S.nx).trans hTq
    obtain ⟨u2, yy2⟩ := tr2.u_eq ((K1 _).2 (.inr rfl)) hq2
    obtain ⟨_, _, _, tm2, _, t2, _⟩ := lp_ent ho2 hq2
    have hl2 : (c2.o S.nx).y 1 = c.w.heap.size + 1 := by rw [yy2]; exact y1
    obtain ⟨c3, w3, ho3, tr3, en3, K3⟩ := lp_turn ho2 hq2 (j := 4 * n + 2) (by omega) t2
    rw [hl2, (recL_pair n tm2 _).1] at t2
    rw [hl2, recL_end n tm2] at w3
    have hend := run_endLoop (P := E.P) t2 (by simp)
    refine ⟨Option.none, c3.w, ?_, ?_⟩
    · rw [w3]
      refine hend.trans ?_
      simp [hpend]
    · have hq3 : c3.en S.nx = some (.lp (4 * n + 2)) := by rw [en3, if_pos rfl]
      obtain ⟨_, yy3⟩ := tr3.u_eq (ho2.lt _ _ hq2) hq3
      have hy0 : (c3.o S.nx).y 0 = c.w.heap.size := by rw [yy3, yy2]; exact y0
      refine hq c3 _ ?_ (((ht.trans tr1).trans tr2).trans tr3)
      rw [hy0]
      have hd0 := hr.defers
      exact ⟨ho3, fun id => by rw [en3, tget_tput, R2.en]; rfl, fun id hid => R2.K id ((K3 id).1 hid), by simp [hd0, markOf], R1.len, fun s => (R2.sl s).trans tr3 ho2⟩
end
end Go.Sx
namespace Go.Sx
noncomputable def codeR {R : Type} (Θ : Tys) (cal : Cal R) (lp : Lp R) (jn : Jn R) (n : Nat) (y : FuncId) : Code → St → (Exit → St → Option R) → (Nat → Exit → St → Option R) → Option R
  | .seq a b, S, k0, k1 => (match rangeIn a with
    | some _ => bif (allLoops b).isEmpty && (allJoins (isJn (noJn : Jn R)) b).isEmpty then
        codeR Θ cal lp jn n y a S (fun e S' => match e with | .normal => codeJ Θ cal (fun _ _ _ => Option.none) noJn b S' k0 | e => k0 e S')
          (fun q e S' => match e with
            | .normal => codeJ Θ cal (fun _ _ _ => Option.none) noJn b S' (fun e S2 => match tget S2.tab q with
              | some (.lp i) => bif i == 4 * n + 2 then k1 q e S2 else Option.none
              | _ => Option.none)
            | e => k1 q e S')
      else Option.none
    | Option.none => codeJ Θ cal lp jn a S (fun e S' => match e with | .normal => codeR Θ cal lp jn n y b S' k0 k1 | e => k0 e S'))
  | .block id a, S, k0, k1 => codeR Θ cal lp jn n y a S (fun e S' => match e with | .exit j => bif j == id then k0 .normal S' else k0 (.exit j) S' | e => k0 e S')
      (fun q e S' => match e with | .exit j => bif j == id then k1 q .normal S' else k1 q (.exit j) S' | e => k1 q e S')
  | .rangeFunc (.tmp g) _ _ _, S, _, k1 => rangeM cal n y g S (fun S' => k1 S.nx .normal S')
  | _, _, _, _ => Option.none
def SemN (P : Program) (base : Nat) (code : Code) (S : St) (e : Exit) (S' : St) : Prop :=
  ∀ (c0 c : Cx) (a : Act) (Q : Exit → Act → World → Prop), (∀ id, c0.K id → id < base) → Rel [] c S a → Trans c0 c → (∀ c' a', Rel [] c' S' a' → Trans c0 c' → Q e a' c'.w) → code.wpIn (fw Option.none) 0 P Q a c.w
def SemM (P : Program) (base n : Nat) (code : Code) (S : St) (q : Nat) (e : Exit) (S' : St) : Prop :=
  ∀ (c0 c : Cx) (a : Act) (Q : Exit → Act → World → Prop), (∀ id, c0.K id → id < base) → Rel [] c S a → Trans c0 c →
    (∀ c' a', Rel (markOf ((c'.o q).y 0)) c' S' a' → Trans c0 c' → c'.en q = some (.lp (4 * n + 2)) → Q e a' c'.w) → code.wpIn (fw Option.none) 0 P Q a c.w
theorem noLp {P : Program} {R : Type} {base : Nat} : LpOn (R := R) P base (fun _ => False) (fun _ _ _ => Option.none) := fun _ _ _ _ h => h.elim
theorem noJnOn {P : Program} {R : Type} {base : Nat} : JnOn (R := R) P base (fun _ => False) noJn := fun _ _ _ _ _ h => h.elim
theorem isEmpty_all {α : Type} {l : List α} (h : l.isEmpty = true) : ∀ x ∈ l, False := fun x hx => by cases l with | nil => cases hx | cons => cases h
section
variable {R : Type} {r : R}
theorem codeR_ok {E : Env} (hE : EnvOk E) {cal : Cal R} (hcal : CalOk E.P cal) {n base : Nat} {y : FuncId} (hpend : (loopRec n).pending = Option.none) {lp : Lp R} {jn : Jn R} {Gl Gj : Code → Prop} (hlp : LpOn E.P base Gl lp) (hjn : JnOn E.P base Gj jn) :
    ∀ (code : Code) (S : St) (k0 : Exit → St → Option R) (k1 : Nat → Exit → St → Option R), codeR E.Θ cal lp jn n y code S k0 k1 = some r → rangeIn code = some ((loopRec n).params, (loopRec n).assign, (loopRec n).body) →
      codeOk code = true → (∀ b ∈ allLoops code, Gl b) → (∀ b ∈ allJoins (isJn jn) code, Gj b) →
      (∃ e S', k0 e S' = some r ∧ SemN E.P base code S e S') ∨ (∃ q e S', k1 q e S' = some r ∧ SemM E.P base n code S q e S') := by
  intro code
  induction code with
  | seq a b iha ihb =>
    intro S k0 k1 h hri hok hgl hgj
    simp only [codeOk, Bool.and_eq_true] at hok
    simp only [allLoops, List.mem_append] at hgl
    simp only [allJoins, List.mem_append] at hgj
    simp only [codeR] at h
    split at h
    · rename_i x hra
      have hra' : rangeIn a = some ((loopRec n).params, (loopRec n).assign, (loopRec n).body) := by
        simp only [rangeIn, hra] at hri
        rw [hra, hri]
      cases hb : ((allLoops b).isEmpty && (allJoins (isJn (noJn : Jn R)) b).isEmpty) <;> rw [hb] at h <;> simp only [cond_true, cond_false, reduceCtorEq] at h
      rw [Bool.and_eq_true] at hb
      rcases iha _ _ _ h hra' hok.1 (fun b hb => hgl b (.inl hb)) (fun b hb => hgj b (.inl hb)) with ⟨e, S1, h1, p1⟩ | ⟨q, e, S1, h1, p1⟩
      · left
        cases e with
        | normal =>
          obtain ⟨e2, S2, h2, p2⟩ := codeJ_ok hE.ty hE.mixed hcal (base := base) noLp noJnOn b S1 k0 hok.2 (isEmpty_all hb.1) (isEmpty_all hb.2) h1
          exact ⟨e2, S2, h2, fun c0 c a Q hK hr ht hq => wpIn_seq (p1 c0 c a _ hK hr ht fun c' a' hr' ht' => (p2 c0 c' a' Q hK hr' ht' hq) Option.none)⟩
        | exit j => exact ⟨_, S1, h1, fun c0 c a Q hK hr ht hq => wpIn_seq (p1 c0 c a _ hK hr ht fun c' a' hr' ht' => hq c' a' hr' ht')⟩
        | goto j => exact ⟨_, S1, h1, fun c0 c a Q hK hr ht hq => wpIn_seq (p1 c0 c a _ hK hr ht fun c' a' hr' ht' => hq c' a' hr' ht')⟩
        | ret => exact ⟨_, S1, h1, fun c0 c a Q hK hr ht hq => wpIn_seq (p1 c0 c a _ hK hr ht fun c' a' hr' ht' => hq c' a' hr' ht')⟩
        | panic ch => exact ⟨_, S1, h1, fun c0 c a Q hK hr ht hq => wpIn_seq (p1 c0 c a _ hK hr ht fun c' a' hr' ht' => hq c' a' hr' ht')⟩
        | outgrown => exact ⟨_, S1, h1, fun c0 c a Q hK hr ht hq => wpIn_seq (p1 c0 c a _ hK hr ht fun c' a' hr' ht' => hq c' a' hr' ht')⟩
      · right
        cases e with
        | normal =>
          obtain ⟨e2, S2, h2, p2⟩ := codeJ_ok hE.ty hE.mixed hcal (base := S1.nx) noLp noJnOn b S1 _ hok.2 (isEmpty_all hb.1) (isEmpty_all hb.2) h1
          split at h2
          rotate_left
          · cases h2
          rename_i i hi
          cases hi2 : (i == 4 * n + 2) <;> rw [hi2] at h2 <;> simp only [cond_true, cond_false, reduceCtorEq] at h2
          have hi2 : i = 4 * n + 2 := by simpa using hi2
          subst hi2
          refine ⟨q, e2, S2, h2, fun c0 c a Q hK hr ht hq => wpIn_seq (p1 c0 c a _ hK hr ht fun c' a' hr' ht' hq' => (p2 c' c' a' Q (fun id hid => hr'.K id hid) hr' .refl fun c2 a2 hr2 ht2 => ?_) Option.none)⟩
          have hq2 : c2.en q = some (.lp (4 * n + 2)) := (hr2.en q).trans hi
          obtain ⟨_, yy⟩ := ht2.u_eq (hr'.ho.lt _ _ hq') hq2
          refine hq c2 a2 ?_ (ht'.trans ht2) hq2
          rw [yy]
          exact hr2
        | exit j => exact ⟨q, _, S1, h1, fun c0 c a Q hK hr ht hq => wpIn_seq (p1 c0 c a _ hK hr ht fun c' a' hr' ht' hq' => hq c' a' hr' ht' hq')⟩
        | goto j => exact ⟨q, _, S1, h1, fun c0 c a Q hK hr ht hq => wpIn_seq (p1 c0 c a _ hK hr ht fun c' a' hr' ht' hq' => hq c' a' hr' ht' hq')⟩
        | ret => exact ⟨q, _, S1, h1, fun c0 c a Q hK hr ht hq => wpIn_seq (p1 c0 c a _ hK hr ht fun c' a' hr' ht' hq' => hq c' a' hr' ht' hq')⟩
        | panic ch => exact ⟨q, _, S1, h1, fun c0 c a Q hK hr ht hq => wpIn_seq (p1 c0 c a _ hK hr ht fun c' a' hr' ht' hq' => hq c' a' hr' ht' hq')⟩
        | outgrown => exact ⟨q, _, S1, h1, fun c0 c a Q hK hr ht hq => wpIn_seq (p1 c0 c a _ hK hr ht fun c' a' hr' ht' hq' => hq c' a' hr' ht' hq')⟩
    · rename_i hra
      have hrb : rangeIn b = some ((loopRec n).params, (loopRec n).assign, (loopRec n).body) := by
        simpa only [rangeIn, hra] using hri
      obtain ⟨e, S1, h1, p1⟩ := codeJ_ok hE.ty hE.mixed hcal hlp hjn a S _ hok.1 (fun b hb => hgl b (.inl hb)) (fun b hb => hgj b (.inl hb)) h
      cases e with
      | normal =>
        rcases ihb _ _ _ h1 hrb hok.2 (fun b hb => hgl b (.inr hb)) (fun b hb => hgj b (.inr (.inr hb))) with ⟨e2, S2, h2, p2⟩ | ⟨q, e2, S2, h2, p2⟩
        · exact .inl ⟨e2, S2, h2, fun c0 c a Q hK hr ht hq => wpIn_seq ((p1 c0 c a _ hK hr ht fun c' a' hr' ht' => p2 c0 c' a' Q hK hr' ht' hq) Option.none)⟩
        · exact .inr ⟨q, e2, S2, h2, fun c0 c a Q hK hr ht hq => wpIn_seq ((p1 c0 c a _ hK hr ht fun c' a' hr' ht' => p2 c0 c' a' Q hK hr' ht' hq) Option.none)⟩
      | exit j => exact .inl ⟨_, S1, h1, fun c0 c a Q hK hr ht hq => wpIn_seq ((p1 c0 c a (Exit.then (b.wpIn (fw Option.none) 0 E.P Q) Q) hK hr ht fun c' a' hr' ht' => hq c' a' hr' ht') Option.none)⟩
      | goto j => exact .inl ⟨_, S1, h1, fun c0 c a Q hK hr ht hq => wpIn_seq ((p1 c0 c a (Exit.then (b.wpIn (fw Option.none) 0 E.P Q) Q) hK hr ht fun c' a' hr' ht' => hq c' a' hr' ht') Option.none)⟩
      | ret => exact .inl ⟨_, S1, h1, fun c0 c a Q hK hr ht hq => wpIn_seq ((p1 c0 c a (Exit.then (b.wpIn (fw Option.none) 0 E.P Q) Q) hK hr ht fun c' a' hr' ht' => hq c' a' hr' ht') Option.none)⟩
      | panic ch => exact .inl ⟨_, S1, h1, fun c0 c a Q hK hr ht hq => wpIn_seq ((p1 c0 c a (Exit.then (b.wpIn (fw Option.none) 0 E.P Q) Q) hK hr ht fun c' a' hr' ht' => hq c' a' hr' ht') Option.none)⟩
      | outgrown => exact .inl ⟨_, S1, h1, fun c0 c a Q hK hr ht hq => wpIn_seq ((p1 c0 c a (Exit.then (b.wpIn (fw Option.none) 0 E.P Q) Q) hK hr ht fun c' a' hr' ht' => hq c' a' hr' ht') Option.none)⟩
  | block id a iha =>
    intro S k0 k1 h hri hok hgl hgj
    simp only [codeR] at h
    rcases iha _ _ _ h (by simpa only [rangeIn] using hri) hok hgl hgj with ⟨e, S1, h1, p1⟩ | ⟨q, e, S1, h1, p1⟩
    · left
      cases e with
      | exit j =>
        by_cases hj : j = id
        · subst hj
          simp only [beq_self_eq_true, cond_true] at h1
          exact ⟨_, S1, h1, fun c0 c a Q hK hr ht hq => wpIn_block (p1 c0 c a _ hK hr ht fun c' a' hr' ht' => by simp only [Exit.inBlock, if_true]; exact hq c' a' hr' ht')⟩
        · have : (j == id) = false := by simpa using hj
          simp only [this, cond_false] at h1
          exact ⟨_, S1, h1, fun c0 c a Q hK hr ht hq => wpIn_block (p1 c0 c a _ hK hr ht fun c' a' hr' ht' => by simp only [Exit.inBlock, if_neg hj]; exact hq c' a' hr' ht')⟩
      | normal => exact ⟨_, S1, h1, fun c0 c a Q hK hr ht hq => wpIn_block (p1 c0 c a _ hK hr ht fun c' a' hr' ht' => hq c' a' hr' ht')⟩
      | goto j => exact ⟨_, S1, h1, fun c0 c a Q hK hr ht hq => wpIn_block (p1 c0 c a _ hK hr ht fun c' a' hr' ht' => hq c' a' hr' ht')⟩
      | ret => exact ⟨_, S1, h1, fun c0 c a Q hK hr ht hq => wpIn_block (p1 c0 c a _ hK hr ht fun c' a' hr' ht' => hq c' a' hr' ht')⟩
      | panic ch => exact ⟨_, S1, h1, fun c0 c a Q hK hr ht hq => wpIn_block (p1 c0 c a _ hK hr ht fun c' a' hr' ht' => hq c' a' hr' ht')⟩
      | outgrown => exact ⟨_, S1, h1, fun c0 c a Q hK hr ht hq => wpIn_block (p1 c0 c a _ hK hr ht fun c' a' hr' ht' => hq c' a' hr' ht')⟩
    · right
      cases e with
      | exit j =>
        by_cases hj : j = id
        · subst hj
          simp only [beq_self_eq_true, cond_true] at h1
          exact ⟨q, _, S1, h1, fun c0 c a Q hK hr ht hq => wpIn_block (p1 c0 c a _ hK hr ht fun c' a' hr' ht' hq' => by simp only [Exit.inBlock, if_true]; exact hq c' a' hr' ht' hq')⟩
        · have : (j == id) = false := by simpa using hj
          simp only [this, cond_false] at h1
          exact ⟨q, _, S1, h1, fun c0 c a Q hK hr ht hq => wpIn_block (p1 c0 c a _ hK hr ht fun c' a' hr' ht' hq' => by simp only [Exit.inBlock, if_neg hj]; exact hq c' a' hr' ht' hq')⟩
      | normal => exact ⟨q, _, S1, h1, fun c0 c a Q hK hr ht hq => wpIn_block (p1 c0 c a _ hK hr ht fun c' a' hr' ht' hq' => hq c' a' hr' ht' hq')⟩
      | goto j => exact ⟨q, _, S1, h1, fun c0 c a Q hK hr ht hq => wpIn_block (p1 c0 c a _ hK hr ht fun c' a' hr' ht' hq' => hq c' a' hr' ht' hq')⟩
      | ret => exact ⟨q, _, S1, h1, fun c0 c a Q hK hr ht hq => wpIn_block (p1 c0 c a _ hK hr ht fun c' a' hr' ht' hq' => hq c' a' hr' ht' hq')⟩
      | panic ch => exact ⟨q, _, S1, h1, fun c0 c a Q hK hr ht hq => wpIn_block (p1 c0 c a _ hK hr ht fun c' a' hr' ht' hq' => hq c' a' hr' ht' hq')⟩
      | outgrown => exact ⟨q, _, S1, h1, fun c0 c a Q hK hr ht hq => wpIn_block (p1 c0 c a _ hK hr ht fun c' a' hr' ht' hq' => hq c' a' hr' ht' hq')⟩
  | rangeFunc g ps asg body =>
    intro S k0 k1 h hri _ _ _
    cases g with
    | tmp g =>
      simp only [codeR] at h
      simp only [rangeIn, Option.some.injEq, Prod.mk.injEq] at hri
      obtain ⟨rfl, rfl, rfl⟩ := hri
      obtain ⟨S1, h1, ht, p1⟩ := range_ok (base := base) hcal hpend h
      exact .inr ⟨S.nx, .normal, S1, h1, fun c0 c a Q hK hr ht0 hq => p1 c0 c a Q hK hr ht0 fun c' a' hr' ht' => hq c' a' hr' ht' ((hr'.en S.nx).trans ht)⟩
    | _ => simp [codeR] at h
  | _ => intro S k0 k1 h; simp [codeR] at h
theorem lp_shut {c : Cx} (ho : HeapOk c) {q i : Nat} (he : c.en q = some (.lp i)) :
    ∃ c1 : Cx, c1.w = c.w.putObj ((c.o q).y 0) (.deferred Option.none) ∧ HeapOk c1 ∧ Trans c c1 ∧ (∀ id, c1.en id = if id = q then Option.none else c.en id) ∧ (∀ id, c1.K id ↔ c.K id) := by
  obtain ⟨h0, h1, h2, _⟩ := lp_ent ho he
  let w' := c.w.putObj ((c.o q).y 0) (.deferred Option.none)
  let c1 : Cx := { c with en := fun id => if id = q then Option.none else c.en id, w := w' }
  have hsz : w'.heap.size = c.w.heap.size := World.putObj_size
  have own0 : c.ow q (.lp i) ((c.o q).y 0) := .inr ⟨rfl, h0⟩
  have key : HeapOk c1 ∧ Trans c c1 := by
    refine rearr_ok (c' := c1) (T := fun k => k = (c.o q).y 0) (fun id => id = q) ho ⟨rfl, rfl, rfl, Nat.le_of_eq hsz.symm, fun k _ hk => World.putObj_heap_other hk, fun k hk => ⟨q, _, he, hk ▸ own0⟩⟩
      (fun k hk => ⟨q, _, rfl, he, hk ▸ own0⟩) (fun id h => h) (fun k h => h) (fun k h => .inl h) (fun id hj => ?_) (fun id e' hj he' => ?_) (fun j j' e e' k hj hj' _ _ _ _ => by rw [hj, hj'])
    · have hj : id ≠ q := hj
      exact ⟨by simp [c1, hj], fun e _ => ⟨rfl, rfl, rfl⟩⟩
    · have hj : id = q := hj
      subst hj
      simp [c1] at he'
  obtain ⟨k1, k2⟩ := key
  exact ⟨c1, rfl, k1, k2, fun id => rfl, fun id => Iff.rfl⟩
noncomputable def fnR (E : Env) {R : Type} (cal : Cal R) (lp : Lp R) (jn : Jn R) (n : Nat) (y : FuncId) (f : FuncId) (args : List SV) (T : Tab) (base : Nat) (k : SV × Tab → Option R) : Option R :=
  match E.P.funcs[f]? with
  | some fn => (match fn.body with
    | some body => bif Nat.ble args.length fn.ntmps && Nat.blt f yK then
        codeR E.Θ cal lp jn n y body ⟨args ++ List.replicate (fn.ntmps - args.length) .undef, T, base⟩
          (fun e S => match e with
            | .ret => finK (!(E.nr f), E.bs f) E.Θ base fn.results.toList S k
            | .normal => finK (!(E.nr f), E.bs f) E.Θ base fn.results.toList S k
            | _ => Option.none)
          (fun q e S => match e with
            | .ret => finK (!(E.nr f), E.bs f) E.Θ base fn.results.toList ⟨S.tmps, tdel S.tab q, S.nx⟩ k
            | .normal => finK (!(E.nr f), E.bs f) E.Θ base fn.results.toList ⟨S.tmps, tdel S.tab q, S.nx⟩ k
            | _ => Option.none)
      else Option.none
    | Option.none => Option.none)
  | Option.none => Option.none
theorem den_args {c : Cx} {args : List SV} {vs : List Value} {m : Nat} (hd : DenL c args vs) : ∀ s, Den c (lget (args ++ List.replicate (m - args.length) .undef) s) ((vs.toArray ++ Array.replicate (m - vs.toArray.size) Go.undef : Array Value).getD s Go.undef) := fun s => by
  rcases Nat.lt_or_ge s args.length with hlt | hge
  · have e1 : lget (args ++ List.replicate (m - args.length) .undef) s = lget args s := by simp [lget, List.getElem?_append_left hlt]
    have hlt2 : s < vs.length := by rw [← hd.1]; exact hlt
    have e2 : ((vs.toArray ++ Array.replicate (m - vs.toArray.size) Go.undef) : Array Value).getD s Go.undef = vs[s] := by
      rw [Array.getD_eq_getD_getElem?, Array.getElem?_append_left (by simpa using hlt2)]
      simp [hlt2]
    rw [e1, e2]
    exact hd.2 s _ _ (lget_lt hlt) (List.getElem?_eq_getElem hlt2)
  · have e1 : lget (args ++ List.replicate (m - args.length) .undef) s = .undef := by
      simp only [lget, List.getD_eq_getElem?_getD, List.getElem?_append_right hge]
      by_cases hlt : s - args.length < m - args.length <;> simp [hlt]
    rw [e1]
    exact .und _
theorem fnR_ok {E : Env} (hE : EnvOk E) {cal : Cal R} (hcal : CalOk E.P cal) {n base : Nat} {y f : FuncId} (hpend : (loopRec n).pending = Option.none) {lp : Lp R} {jn : Jn R} {Gl Gj : Code → Prop} (hlp : LpOn E.P base Gl lp) (hjn : JnOn E.P base Gj jn)
    (hri : rangeIn (codeOf E f) = some ((loopRec n).params, (loopRec n).assign, (loopRec n).body)) (hgl : ∀ b ∈ allLoops (codeOf E f), Gl b) (hgj : ∀ b ∈ allJoins (isJn jn) (codeOf E f), Gj b)
    {args : List SV} {T : Tab} {kf : SV × Tab → Option R} (h : fnR E cal lp jn n y f args T base kf = some r) : ∃ res T', FnOk E.P f args T base res T' ∧ kf (res, T') = some r := by
  unfold fnR at h
  cases hf : E.P.funcs[f]? with
  | none => rw [hf] at h; cases h
  | some fn =>
    rw [hf] at h
    simp only at h
    cases hb : fn.body with
    | none => rw [hb] at h; cases h
    | some body =>
      rw [hb] at h
      simp only at h
      have hc : codeOf E f = body := by simp [codeOf, hf, hb]
      rw [hc] at hri hgl hgj
      cases hle : (Nat.ble args.length fn.ntmps && Nat.blt f yK) <;> rw [hle] at h <;> simp only [cond_true, cond_false, reduceCtorEq] at h
      have hlt : f < yK := by simp only [Bool.and_eq_true, Nat.blt_eq] at hle; exact hle.2
      have hmem : fn ∈ E.P.funcs.toList := by
        have := Array.mem_of_getElem? hf
        simpa using this
      have hinit : ∀ (c : Cx) (vs : List Value), (∀ id, c.en id = tget T id) → (∀ id, c.K id ↔ id < base) → HeapOk c → DenL c args vs → Rel [] c ⟨args ++ List.replicate (fn.ntmps - args.length) .undef, T, base⟩ { tmps := vs.toArray ++ Array.replicate (fn.ntmps - vs.toArray.size) Go.undef, defers := [] } := fun c vs hen hK ho hd =>
        ⟨ho, hen, fun id hid => (hK id).1 hid, rfl, by have := hd.1; simp [this], den_args hd⟩
      have fin : ∀ {S : St}, finK (!(E.nr f), E.bs f) E.Θ base fn.results.toList S kf = some r → _ := fun {S} hfin => fin_ok (P := E.P) hE.ty hfin
      rcases codeR_ok hE hcal hpend hlp hjn body _ _ _ h hri (hE.codes fn hmem body hb) hgl hgj with ⟨e, S', h1, p1⟩ | ⟨q, e, S', h1, p1⟩
      · have key : ∀ (he : e = .ret ∨ e = .normal), finK (!(E.nr f), E.bs f) E.Θ base fn.results.toList S' kf = some r → ∃ res T', FnOk E.P f args T base res T' ∧ kf (res, T') = some r := fun he hfin => by
          obtain ⟨res, T', h2, p2⟩ := fin hfin
          refine ⟨res, T', ⟨⟨hlt, fn, hf, by rw [hb]; rfl, hE.names fn hmem⟩, fun c vs hen hK ho hd => callsIn_wide.1 (callsIn_of_wp_marks (n := 0) hf hb trivial ?_ rfl)⟩, h2⟩
          refine p1 c c _ _ (fun id hid => (hK id).1 hid) (hinit c vs hen hK ho hd) .refl fun c' a' hr' ht' => ?_
          obtain ⟨v, c2, q1, q2, q3, q4, q5, q6⟩ := p2 c c' a' (fun id hid => (hK id).1 hid) hr' ht'
          have : LeavesInM (fw Option.none) 0 E.P fn a'.tmps (fun e w' => ∃ v c', e = .returned v ∧ c'.w = w' ∧ (∀ id, c'.en id = tget T' id) ∧ HeapOk c' ∧ Den c' res v ∧ Trans c c') a'.defers .returning c'.w := by
            rw [hr'.defers]
            exact ⟨v, q1, v, c2, rfl, q2, q3, q4, q5, q6⟩
          rcases he with rfl | rfl
          · exact this
          · exact this
        cases e <;> simp only [reduceCtorEq] at h1
        · exact key (.inr rfl) h1
        · exact key (.inl rfl) h1
      · have key : ∀ (he : e = .ret ∨ e = .normal), finK (!(E.nr f), E.bs f) E.Θ base fn.results.toList ⟨S'.tmps, tdel S'.tab q, S'.nx⟩ kf = some r → ∃ res T', FnOk E.P f args T base res T' ∧ kf (res, T') = some r := fun he hfin => by
          obtain ⟨res, T', h2, p2⟩ := fin hfin
          refine ⟨res, T', ⟨⟨hlt, fn, hf, by rw [hb]; rfl, hE.names fn hmem⟩, fun c vs hen hK ho hd => callsIn_wide.1 (callsIn_of_wp_marks (n := 0) hf hb trivial ?_ rfl)⟩, h2⟩
          refine p1 c c _ _ (fun id hid => (hK id).1 hid) (hinit c vs hen hK ho hd) .refl fun c' a' hr' ht' hq' => ?_
          obtain ⟨_, _, hD, _⟩ := lp_ent hr'.ho hq'
          obtain ⟨c3, w3, ho3, tr3, en3, K3⟩ := lp_shut hr'.ho hq'
          have R3 : Rel [] c3 ⟨S'.tmps, tdel S'.tab q, S'.nx⟩ { a' with defers := [] } :=
            ⟨ho3, fun id => by rw [en3, tget_tdel, hr'.en], fun id hid => hr'.K id ((K3 id).1 hid), rfl, hr'.len, fun s => (hr'.sl s).trans tr3 hr'.ho⟩
          obtain ⟨v, c2, q1, q2, q3, q4, q5, q6⟩ := p2 c c3 _ (fun id hid => (hK id).1 hid) R3 (ht'.trans tr3)
          have : LeavesInM (fw Option.none) 0 E.P fn a'.tmps (fun e w' => ∃ v c', e = .returned v ∧ c'.w = w' ∧ (∀ id, c'.en id = tget T' id) ∧ HeapOk c' ∧ Den c' res v ∧ Trans c c') a'.defers .returning c'.w := by
            rw [hr'.defers]
            refine ⟨by simp, .inl ⟨_, c3.w, rfl, ?_, ?_⟩⟩
            · rw [w3]
              exact run_takeDeferred hD
            · exact ⟨v, q1, v, c2, rfl, q2, q3, q4, q5, q6⟩
          rcases he with rfl | rfl
          · exact this
          · exact this
        cases e <;> simp only [reduceCtorEq] at h1
        · exact key (.inr rfl) h1
        · exact key (.inl rfl) h1
end
end Go.Sx
namespace Go.Sx
section
variable {R : Type} {r : R}
theorem RoundY.mono {P : Program} {vs : List Value} {w : World} {R R' : Ending → World → Prop} (h : RoundY P vs w R) (hr : ∀ e w', R e w' → R' e w') : RoundY P vs w R' := fun l mid x hv => by
  obtain ⟨fn, tmps, asg, body, h1, h2⟩ := h l mid x hv
  exact ⟨fn, tmps, asg, body, h1, fun ro => (h2 ro).mono hr⟩
theorem FnY.args {P : Program} {f : FuncId} {sp : Sp} (h : sp.Ok) {args : List SV} {T : Tab} {base : Nat} {res : SV} {T' : Tab} (hok : sp.ok args T = true) (hf : FnY P f (sp.vs args) (sp.tab T) base res T') : FnY P f args T base res T' := by
  refine ⟨hf.1, fun c vs hen hK ho hd => ?_⟩
  obtain ⟨c', h1, h2, h3, h4, h5, h6⟩ := h.weak hok hen ho
  have := hf.2 c' vs h4 (fun id => by rw [h2]; exact hK id) h3 (h6 vs hd)
  rw [h1] at this
  refine this.mono ?_
  rintro e w' ⟨v, c2, q1, q2, q3, q4, q5, q6⟩
  exact ⟨v, c2, q1, q2, q3, q4, q5, h5.trans q6⟩
theorem FnY.res {P : Program} {f : FuncId} {sp : Sp} (h : sp.Ok) {args : List SV} {T : Tab} {base : Nat} {res : SV} {T' : Tab} (hok : sp.ok [res] T' = true) (hf : FnY P f args T base res T') : FnY P f args T base (lget (sp.vs [res]) 0) (sp.tab T') := by
  refine ⟨hf.1, fun c vs hen hK ho hd => ?_⟩
  refine (hf.2 c vs hen hK ho hd).mono ?_
  rintro e w' ⟨v, c2, q1, q2, q3, q4, q5, q6⟩
  obtain ⟨c', h1, h2, h3, h4, h5, h6⟩ := h.weak hok q3 q4
  have h7 := h6 [v] ⟨rfl, fun i s v' hs hv => by
    cases i with
    | zero => simp at hs hv; subst hs hv; exact q5
    | succ i => simp at hs⟩
  have hl : (sp.vs [res]).length = 1 := h7.1
  exact ⟨v, c', q1, h1.trans q2, h4, h3, h7.2 0 _ v (lget_lt (by omega)) rfl, q6.trans h5⟩
theorem callY_rec {E : Env} (hE : EnvOk E) {cal cal' : Cal R} (hcal : CalOk E.P cal) (hcal' : CalOk E.P cal') {f g n : Nat} {lp : Lp R} {jn : Jn R} {base : Nat} {keys : List Nat} (hlp : ∀ key ∈ keys, LpKey E g base lp key) (hc1 : codeOk (loopRec n).assign = true) (hc2 : codeOk (loopRec n).body = true)
    (hl1 : allLoops (loopRec n).assign = []) (hl2 : allLoops (loopRec n).body = keys.map (bodyAt E g)) {js : List (Nat × Nat)} (hjn : ∀ p ∈ js, JnKey E g base jn p) (hj1 : allJoins (isJn jn) (loopRec n).assign = []) (hj2 : allJoins (isJn jn) (loopRec n).body = js.map (joinAt E g))
    {sp rs : Sp} (hsp : sp.Ok) (hrs : rs.Ok) {m : List SV → Tab → (SV × Tab → Option R) → Option R} (hm : ∀ args T kf, m args T kf = roundM E cal' lp jn f n (sp.vs args) (sp.tab T) base (resK rs kf)) : CalOk E.P (callM cal f base sp m) := by
  intro g' args T b kf r h
  simp only [callM] at h
  cases hc : (g' == f && b == base && sp.ok args T) <;> rw [hc] at h <;> simp only [cond_true, cond_false] at h
  · exact hcal g' args T b kf r h
  · simp only [Bool.and_eq_true, beq_iff_eq] at hc
    obtain ⟨⟨rfl, rfl⟩, hok⟩ := hc
    rw [hm] at h
    obtain ⟨res, T', h1, h2⟩ := round_ok hE hcal' (lpOn_keys hlp) (jnOn_keys hjn) hc1 hc2 (fun b hb => by rw [hl1] at hb; cases hb) (fun b hb => by rw [hl2] at hb; exact hb) (fun b hb => by rw [hj1] at hb; cases hb) (fun b hb => by rw [hj2] at hb; exact hb) h
    unfold resK at h2
    cases hok2 : rs.ok [res] T' <;> rw [hok2] at h2 <;> simp only [cond_true, cond_false, reduceCtorEq] at h2
    exact ⟨_, _, .inr ((h1.res hrs hok2).args hsp hok), h2⟩
theorem callR_rec {E : Env} (hE : EnvOk E) {cal cal' : Cal R} (hcal : CalOk E.P cal) (hcal' : CalOk E.P cal') {f y n : Nat} (hpend : (loopRec n).pending = Option.none) {lp : Lp R} {jn : Jn R} {base : Nat} {keys : List Nat} (hlp : ∀ key ∈ keys, LpKey E f base lp key) (hloops : allLoops (codeOf E f) = keys.map (bodyAt E f))
    {js : List (Nat × Nat)} (hjn : ∀ p ∈ js, JnKey E f base jn p) (hjoins : allJoins (isJn jn) (codeOf E f) = js.map (joinAt E f)) (hri : rangeIn (codeOf E f) = some ((loopRec n).params, (loopRec n).assign, (loopRec n).body))
    {sp rs : Sp} (hsp : sp.Ok) (hrs : rs.Ok) {m : List SV → Tab → (SV × Tab → Option R) → Option R} (hm : ∀ args T kf, m args T kf = fnR E cal' lp jn n y f (sp.vs args) (sp.tab T) base (resK rs kf)) : CalOk E.P (callM cal f base sp m) := by
  intro g' args T b kf r h
  simp only [callM] at h
  cases hc : (g' == f && b == base && sp.ok args T) <;> rw [hc] at h <;> simp only [cond_true, cond_false] at h
  · exact hcal g' args T b kf r h
  · simp only [Bool.and_eq_true, beq_iff_eq] at hc
    obtain ⟨⟨rfl, rfl⟩, hok⟩ := hc
    rw [hm] at h
    obtain ⟨res, T', h1, h2⟩ := resK_ok hrs (fnR_ok hE hcal' hpend (lpOn_keys hlp) (jnOn_keys hjn) hri (fun b hb => by rw [hloops] at hb; exact hb) (fun b hb => by rw [hjoins] at hb; exact hb) h)
    exact ⟨res, T', .inl (h1.args hsp hok), h2⟩
def eLp (i : Nat) : ERe := ⟨fun e => match e with | .lp j => j == i | _ => false, fun _ => .lp i⟩
theorem eLp_ok (i : Nat) : (eLp i).Ok where
  shape := fun e h => by
    cases e <;> simp only [eLp, Bool.false_eq_true, beq_iff_eq] at h
    rfl
  ent := fun c id e h he => by
    cases e <;> simp only [eLp, Bool.false_eq_true, beq_iff_eq] at h
    subst h
    exact he
end
end Go.Sx
