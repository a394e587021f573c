/-
  Each operation of the interpreter does what the model's does: len, max, min; all operations together.
-/
import Derived.Test.YtpcmpbellmiijaaSxOps7
namespace Go.Sx

section
variable {P : Program} {Θ : Tys} {R : Type} {sv : Nat → SV} {en : Nat → Option Ent} {nx : Nat} {r : R} {kf : Delta → Option R} {o : Oper}

theorem RowTy.str_ {t : TypeId} {a b : Nat} {z : List SV} (h : RowTy P t ⟨.str, a, b, z⟩) : P.underlying t = some .string := by
  obtain ⟨d, hd, he, _⟩ := h.desc
  cases d <;> simp [descEq] at he
  exact hd

theorem ls_len (hty : tyOk P Θ = true) {args : Array Operand} {ts : Array TypeId} (hop : o.op = .call ⟨.builtin .len, args, ts⟩) (h : planK Θ o sv en nx kf = some r) : ∃ δ, kf δ = some r ∧ Local P o sv en nx δ := by
  obtain ⟨args⟩ := args
  obtain ⟨ts⟩ := ts
  simp only [planK, hop] at h
  match args, h with
  | [], h => simp [builtinK] at h
  | x :: y :: l, h => simp [builtinK] at h
  | [x], h =>
    have hx : x ∈ o.op.operands.toList := by simp [hop, Op.operands, Call.operands]
    simp only [List.map_cons, List.map_nil, builtinK] at h
    split at h
    · rename_i t _
      have run : ∀ (a : Act) (w : World), (execOp a.eval o).run P w = ((Builtin.len_ #[t] o.type #[a.eval x]).run P w).andThen fun v w' => .ok (.value v) w' := fun a w => by
        simp [execOp, hop, resolve, invoke, builtin]
      split at h
      · rename_i h1 h2
        refine ⟨_, h, ids_same _ _ _, fun c a p => ?_⟩
        have hd := opd (Θ := Θ) p 0 x hx
        rw [h2] at hd
        have hu := (rowTy hty h1).slice_
        exact stp_same (v := goInt ((0 : Nat) : Int)) p.ho (by rw [run, hd.slnil_inv.2]; simp [Builtin.len_, run_underlying hu]) (.g _ _ (.int _ _))
      · rename_i n _ h1 h2
        refine ⟨_, h, ids_same _ _ _, fun c a p => ?_⟩
        have hd := opd (Θ := Θ) p 0 x hx
        rw [h2] at hd
        have hu := (rowTy hty h1).slice_
        obtain ⟨aa, cap, U, he, _⟩ := hd.sl_inv
        exact stp_same (v := goInt (n : Int)) p.ho (by rw [run, he]; simp [Builtin.len_, run_underlying hu]) (.g _ _ (.int _ _))
      · rename_i q h1 h2
        split at h
        · rename_i nl fl size n cl he0
          refine ⟨_, h, ids_same _ _ _, fun c a p => ?_⟩
          have he : c.en q = _ := (p.rd q (by simp)).trans he0
          have hd := opd (Θ := Θ) p 0 x hx
          rw [h2] at hd
          have hv := hd.row_inv he
          have hu := (rowTy hty h1).slice_
          obtain ⟨_, ⟨_, rfl, hu2⟩ | ⟨_, cap, arr, et, hu2, _⟩⟩ := p.ho.ents q _ he
          · rw [hu2] at hv
            exact stp_same (v := goInt ((0 : Nat) : Int)) p.ho (by rw [run, hv]; simp [Builtin.len_, run_underlying hu]) (.g _ _ (.int _ _))
          · rw [hu2] at hv
            exact stp_same (v := goInt (n : Int)) p.ho (by rw [run, hv]; simp [Builtin.len_, run_underlying hu]) (.g _ _ (.int _ _))
        · cases h
      · rename_i s h1 h2
        refine ⟨_, h, ids_same _ _ _, fun c a p => ?_⟩
        have hd := opd (Θ := Θ) p 0 x hx
        rw [h2] at hd
        have hu := (rowTy hty h1).str_
        exact stp_same (v := goInt (s.size : Int)) p.ho (by rw [run, hd.str_inv]; simp [Builtin.len_, run_underlying hu]) (.g _ _ (.int _ _))
      · cases h
    · cases h

theorem foldl_max {c : Cx} : ∀ (ss : List SV) (s : SV) (vs : List Value) (v : Value) (w : World), isInt s = true → ss.all isInt = true → ss.length = vs.length → Den c s v → (∀ (i : Nat) (s : SV) (v : Value), ss[i]? = some s → vs[i]? = some v → Den c s v) →
    ∃ u, (vs.foldlM Builtin.max2 v).run P w = .ok u w ∧ Den c (ss.foldl imax s) u := by
  intro ss
  induction ss with
  | nil =>
    intro s vs v w _ _ hl hd _
    cases vs with
    | nil => exact ⟨v, by simp, hd⟩
    | cons v vs => simp at hl
  | cons s' ss ih =>
    intro s vs v w h1 h2 hl hd hds
    cases vs with
    | nil => simp at hl
    | cons v' vs =>
      simp only [List.all_cons, Bool.and_eq_true] at h2
      cases s <;> simp [isInt] at h1
      rename_i k n
      cases s' <;> simp [isInt] at h2
      rename_i k' n'
      have hv := hd.int_inv
      have hv' := (hds 0 _ v' rfl rfl).int_inv
      subst hv hv'
      obtain ⟨u, hu, hdu⟩ := ih (.int k (if n' > n then n' else n)) vs (.int k (if n' > n then n' else n)) w rfl (by rw [List.all_eq_true]; exact h2) (by simpa using hl) (.g _ _ (.int _ _)) (fun i s v hs hv => hds (i + 1) s v (by simpa using hs) (by simpa using hv))
      exact ⟨u, by simp [Builtin.max2]; simpa using hu, hdu⟩

theorem foldl_min {c : Cx} : ∀ (ss : List SV) (s : SV) (vs : List Value) (v : Value) (w : World), isInt s = true → ss.all isInt = true → ss.length = vs.length → Den c s v → (∀ (i : Nat) (s : SV) (v : Value), ss[i]? = some s → vs[i]? = some v → Den c s v) →
    ∃ u, (vs.foldlM Builtin.min2 v).run P w = .ok u w ∧ Den c (ss.foldl imin s) u := by
  intro ss
  induction ss with
  | nil =>
    intro s vs v w _ _ hl hd _
    cases vs with
    | nil => exact ⟨v, by simp, hd⟩
    | cons v vs => simp at hl
  | cons s' ss ih =>
    intro s vs v w h1 h2 hl hd hds
    cases vs with
    | nil => simp at hl
    | cons v' vs =>
      simp only [List.all_cons, Bool.and_eq_true] at h2
      cases s <;> simp [isInt] at h1
      rename_i k n
      cases s' <;> simp [isInt] at h2
      rename_i k' n'
      have hv := hd.int_inv
      have hv' := (hds 0 _ v' rfl rfl).int_inv
      subst hv hv'
      obtain ⟨u, hu, hdu⟩ := ih (.int k (if n' < n then n' else n)) vs (.int k (if n' < n then n' else n)) w rfl (by rw [List.all_eq_true]; exact h2) (by simpa using hl) (.g _ _ (.int _ _)) (fun i s v hs hv => hds (i + 1) s v (by simpa using hs) (by simpa using hv))
      exact ⟨u, by simp [Builtin.min2]; simpa using hu, hdu⟩

theorem args_den {c : Cx} {a : Act} {δ : Delta} {t : Operand → TypeId} (p : Pre o sv en nx δ c a) {args : List Operand} (hin : ∀ x ∈ args, x ∈ o.op.operands.toList) :
    ∀ (i : Nat) (s : SV) (v : Value), (args.map fun x => ev Θ (t x) sv x)[i]? = some s → (args.map a.eval)[i]? = some v → Den c s v := by
  intro i s v hs hv
  simp only [List.getElem?_map, Option.map_eq_some_iff] at hs hv
  obtain ⟨x, hx, rfl⟩ := hs
  obtain ⟨x', hx', rfl⟩ := hv
  rw [hx] at hx'
  injection hx' with hx'
  subst hx'
  exact opd p _ x (hin x (List.mem_of_getElem? hx))

theorem ls_max {args : Array Operand} {ts : Array TypeId} (hop : o.op = .call ⟨.builtin .max, args, ts⟩) (h : planK Θ o sv en nx kf = some r) : ∃ δ, kf δ = some r ∧ Local P o sv en nx δ := by
  obtain ⟨args⟩ := args
  simp only [planK, hop] at h
  match args, h with
  | [], h => simp [builtinK] at h
  | [x], h => simp [builtinK] at h
  | x :: y :: l, h =>
    have hin : ∀ z ∈ x :: y :: l, z ∈ o.op.operands.toList := fun z hz => by simpa [hop, Op.operands, Call.operands] using hz
    simp only [List.map_cons, builtinK] at h
    cases hb : (isInt (ev Θ 0 sv x) && isInt (ev Θ 0 sv y) && (l.map (ev Θ 0 sv)).all isInt) <;> rw [hb] at h <;> simp only [cond_true, cond_false, reduceCtorEq] at h
    simp only [Bool.and_eq_true] at hb
    refine ⟨_, h, ids_same _ _ _, fun c a p => ?_⟩
    have hds := args_den (t := fun _ => 0) (Θ := Θ) (args := y :: l) p (fun z hz => hin z (by simp [hz]))
    obtain ⟨u, hu, hd⟩ := foldl_max (P := P) (c := c) ((y :: l).map (ev Θ 0 sv)) (ev Θ 0 sv x) ((y :: l).map a.eval) (a.eval x) c.w hb.1.1 (by simp only [List.map_cons, List.all_cons, Bool.and_eq_true]; exact ⟨hb.1.2, hb.2⟩) (by simp) (opd p 0 x (hin x (by simp))) hds
    exact stp_same (v := u) p.ho (by simp only [execOp, hop, resolve, invoke, builtin, Sem.run_bind, Sem.run_pure, Result.andThen_ok, Builtin.max_, List.map_toArray, List.map_cons] at hu ⊢; rw [hu]; rfl) hd

theorem ls_min {args : Array Operand} {ts : Array TypeId} (hop : o.op = .call ⟨.builtin .min, args, ts⟩) (h : planK Θ o sv en nx kf = some r) : ∃ δ, kf δ = some r ∧ Local P o sv en nx δ := by
  obtain ⟨args⟩ := args
  simp only [planK, hop] at h
  match args, h with
  | [], h => simp [builtinK] at h
  | [x], h => simp [builtinK] at h
  | x :: y :: l, h =>
    have hin : ∀ z ∈ x :: y :: l, z ∈ o.op.operands.toList := fun z hz => by simpa [hop, Op.operands, Call.operands] using hz
    simp only [List.map_cons, builtinK] at h
    cases hb : (isInt (ev Θ 0 sv x) && isInt (ev Θ 0 sv y) && (l.map (ev Θ 0 sv)).all isInt) <;> rw [hb] at h <;> simp only [cond_true, cond_false, reduceCtorEq] at h
    simp only [Bool.and_eq_true] at hb
    refine ⟨_, h, ids_same _ _ _, fun c a p => ?_⟩
    have hds := args_den (t := fun _ => 0) (Θ := Θ) (args := y :: l) p (fun z hz => hin z (by simp [hz]))
    obtain ⟨u, hu, hd⟩ := foldl_min (P := P) (c := c) ((y :: l).map (ev Θ 0 sv)) (ev Θ 0 sv x) ((y :: l).map a.eval) (a.eval x) c.w hb.1.1 (by simp only [List.map_cons, List.all_cons, Bool.and_eq_true]; exact ⟨hb.1.2, hb.2⟩) (by simp) (opd p 0 x (hin x (by simp))) hds
    exact stp_same (v := u) p.ho (by simp only [execOp, hop, resolve, invoke, builtin, Sem.run_bind, Sem.run_pure, Result.andThen_ok, Builtin.min_, List.map_toArray, List.map_cons] at hu ⊢; rw [hu]; rfl) hd

/-- All operations that call no Go function. -/
theorem plan_ok (hty : tyOk P Θ = true) (h : planK Θ o sv en nx kf = some r) : ∃ δ, kf δ = some r ∧ Local P o sv en nx δ := by
  cases hop : o.op with
  | move x => simp only [planK, hop] at h; exact ls_move hop h
  | assign x => simp only [planK, hop] at h; exact ls_assign hop h
  | pick x y z =>
    simp only [planK, hop] at h
    cases hb : ev Θ 0 sv x <;> rw [hb] at h <;> simp only [reduceCtorEq] at h
    exact ls_pick hop hb h
  | alloc t =>
    simp only [planK, hop] at h
    cases ht : Θ.get t <;> rw [ht] at h <;> simp only [reduceCtorEq] at h
    exact ls_alloc hty hop ht h
  | box t x =>
    simp only [planK, hop] at h
    cases hb : (cellsV (ev Θ t sv x)).all cellOk <;> rw [hb] at h <;> simp only [cond_true, cond_false, reduceCtorEq] at h
    exact ls_box hop hb h
  | build t ps => exact ls_build hty hop h
  | buildSlice t n ps => exact ls_buildSlice hty hop h
  | load t x => exact ls_load hty hop h
  | store t x y => exact ls_store hty hop h
  | nilCheck x => exact ls_nilCheck hop h
  | binOp op t x y yt => exact ls_binOp hty hop h
  | unOp op t x => exact ls_unOp hop h
  | convert s d x => exact ls_convert hty hop h
  | makeFunc f first caps =>
    cases f with
    | func f => exact ls_makeFunc hop h
    | _ => simp only [planK, hop, reduceCtorEq] at h
  | makeSlice t x y => exact ls_makeSlice hty hop h
  | slice t x lo hi mx => exact ls_slice hty hop h
  | fieldAddr t x f => exact ls_fieldAddr hty hop h
  | field t x f => exact ls_field hty hop h
  | indexAddr t x y => exact ls_indexAddr hty hop h
  | extract x i => exact ls_extract hop h
  | call cl =>
    obtain ⟨callee, args, ts⟩ := cl
    cases callee with
    | builtin b =>
      cases b with
      | append => exact ls_append hty hop h
      | len => exact ls_len hty hop h
      | max => exact ls_max hop h
      | min => exact ls_min hop h
      | _ => simp only [planK, hop, builtinK, reduceCtorEq] at h
    | _ => simp only [planK, hop, reduceCtorEq] at h
  | _ => simp only [planK, hop, reduceCtorEq] at h

theorem den_frz {c : Cx} {q : Nat} (ho : HeapOk c) {nl : Bool} {fl : CK} {size n : Nat} {cl : Nat → Nat → SV} (he : c.en q = some (.row nl fl size n cl)) {v : Value} (hd : Den c (.row q) v) : Den (c.drop q) (.sl .any fl size n cl) v := by
  have ht := (drop_ok ho q).2
  rw [hd.row_inv he]
  obtain ⟨hf, h⟩ := ho.ents q _ he
  rcases h with ⟨_, rfl, h2⟩ | ⟨h1, cap, arr, e, h2, h3, h4, h5, h6⟩
  · rw [h2]
    exact .g _ _ (.sl _ _ _ _ _ _ (fun _ _ => Go.undef) (Nat.le_refl _) (fun i j hi => by omega) (fun h => by omega) (fun ad ha i j hi => by omega) (fun i j hi => by omega))
  · rw [h2]
    refine .g _ _ (.sl _ _ _ _ _ cap (fun i j => arr.getD (i * size + j) Go.undef) h4 hf (fun _ => ⟨_, rfl, .inr ⟨_, he, by simp [has, h1], rfl⟩⟩) (fun ad ha i j hi hj => ?_) (fun i j hi hj => ?_))
    · injection ha with ha
      subst ha
      obtain ⟨v, hv, _⟩ := h6 i j hi hj
      rw [add_mk, Nat.zero_add]
      show c.w.cell? _ = _
      rw [cell_of h3, hv]
      simp [hv]
    · obtain ⟨v, hv, hd⟩ := h6 i j hi hj
      have : arr.getD (i * size + j) Go.undef = v := by simp [hv]
      rw [this]
      exact hd.trans ht ho

theorem den_frzC {c : Cx} {q : Nat} (ho : HeapOk c) {nl : Bool} {fl : CK} {size n : Nat} {cl : Nat → Nat → SV} (he : c.en q = some (.row nl fl size n cl)) {s : SV} {v : Value} (hd : Den c s v) : Den (c.drop q) (frzC q (.sl .any fl size n cl) s) v := by
  by_cases hr : ∃ p, s = .row p
  · obtain ⟨p, rfl⟩ := hr
    simp only [frzC]
    cases hb : p == q with
    | true =>
      have : p = q := by simpa using hb
      subst this
      exact den_frz ho he hd
    | false => exact hd.trans (drop_ok ho q).2 ho
  · have : frzC q (.sl .any fl size n cl) s = s := by cases s <;> first | rfl | exact absurd ⟨_, rfl⟩ hr
    rw [this]
    exact hd.trans (drop_ok ho q).2 ho

theorem den_frzV {c : Cx} {q : Nat} (ho : HeapOk c) {nl : Bool} {fl : CK} {size n : Nat} {cl : Nat → Nat → SV} (he : c.en q = some (.row nl fl size n cl)) {s : SV} {v : Value} (hd : Den c s v) : Den (c.drop q) (frzV q (.sl .any fl size n cl) s) v := by
  by_cases ha : ∃ cs, s = .agg cs
  · obtain ⟨cs, rfl⟩ := ha
    obtain ⟨vs, rfl, hl, hds⟩ := hd.agg_inv
    refine .agg _ _ (by simpa using hl) fun i s v hs hv => ?_
    simp only [List.getElem?_map, Option.map_eq_some_iff] at hs
    obtain ⟨s', hs', rfl⟩ := hs
    exact den_frzC ho he (hds i s' v hs' hv)
  · have : frzV q (.sl .any fl size n cl) s = frzC q (.sl .any fl size n cl) s := by cases s <;> first | rfl | exact absurd ⟨_, rfl⟩ ha
    rw [this]
    exact den_frzC ho he hd

theorem planZ_ok (hty : tyOk P Θ = true) (F : List Nat) : ∀ (sv : Nat → SV) (en : Nat → Option Ent) (kf : Delta → Option R), planZ Θ o nx F sv en kf = some r → ∃ δ, kf δ = some r ∧ Local P o sv en nx δ := by
  induction F with
  | nil => intro sv en kf h; exact plan_ok hty h
  | cons q F ih =>
    intro sv en kf h
    simp only [planZ] at h
    split at h
    · rename_i nl fl size n cl hq
      obtain ⟨δ, h1, ⟨hid, hst⟩⟩ := ih _ _ _ h
      refine ⟨_, h1, ⟨fun id hi => ?_, hid.le⟩, fun c a p => ?_⟩
      · simp only [List.map_cons, List.mem_cons] at hi ⊢
        rcases hi with rfl | hi
        · exact .inl (.inl rfl)
        · rcases hid.keys id hi with h2 | h2
          · exact .inl (.inr h2)
          · exact .inr h2
      · have he : c.en q = some (.row nl fl size n cl) := (p.rd q (by simp)).trans hq
        obtain ⟨g1, g2⟩ := drop_ok p.ho q
        have hp : Pre o (fun s => frzV q (.sl .any fl size n cl) (sv s)) (fun id => bif id == q then Option.none else en id) nx δ (c.drop q) a :=
          { ho := g1
            sl := fun s hs => den_frzV p.ho he (p.sl s hs)
            rd := fun id hi => by
              simp only [Cx.drop]
              by_cases hb : id = q
              · subst hb; simp
              · have hb' : (id == q) = false := by simp [hb]
                rw [if_neg hb, hb', cond_false]
                exact p.rd id (by simp [hi])
            fresh := fun id hi hn => p.fresh id (by simp only [List.map_cons, List.mem_cons]; exact .inr hi) hn }
        intro Kt Q hK
        refine hst (c.drop q) a hp Kt Q fun v c' k1 k2 k3 k4 k5 => hK v c' k1 k2 (fun id => ?_) (fun id => ?_) (g2.trans k5)
        · rw [k3]; rfl
        · rw [k4]
          simp only [List.map_cons, List.mem_cons]
          constructor
          · rintro (h3 | h3)
            · exact .inl h3
            · exact .inr (.inr h3)
          · rintro (h3 | rfl | h3)
            · exact .inl h3
            · exact .inl (p.ho.lt _ _ he)
            · exact .inr h3
    · exact ih _ _ _ h

end
end Go.Sx
