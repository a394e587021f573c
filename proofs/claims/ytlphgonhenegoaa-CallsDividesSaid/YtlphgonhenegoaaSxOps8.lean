import Derived.Test.YtlphgonhenegoaaSxMap
namespace Go.Sx
section
variable {P : Program} {Θ : Tys} {R : Type} {sv : Nat → SV} {en : Nat → Option Ent} {nx : Nat} {r : R} {kf : Delta → Option R} {o : Oper}
theorem ls_len (hty : tyOk P Θ = true) {args : Array Operand} {ts : Array TypeId} (hop : o.op = .call ⟨.builtin .len, args, ts⟩) (h : planK Θ o sv en nx kf = some r) : ∃ δ, kf δ = some r ∧ Local P o sv en nx δ := by
  obtain ⟨args⟩ := args
  obtain ⟨ts⟩ := ts
  simp only [planK, hop] at h
  match args, h with
  | [], h => simp [builtinK] at h
  | x :: y :: l, h => simp [builtinK] at h
  | [x], h =>
    have hx : x ∈ o.op.operands.toList := by simp [hop, Op.operands, Call.operands]
    simp only [List.map_cons, List.map_nil, builtinK] at h
    split at h
    · rename_i t _
      have run : ∀ (a : Act) (w : World), (execOp a.eval o).run P w = ((Builtin.len_ #[t] o.type #[a.eval x]).run P w).andThen fun v w' => .ok (.value v) w' := fun a w => by
        simp [execOp, hop, resolve, invoke, builtin]
      split at h
      · rename_i h1 h2
        refine ⟨_, h, ids_same _ _ _, fun c a p => ?_⟩
        have hd := opd (Θ := Θ) p 0 x hx
        rw [h2] at hd
        have hu := (rowTy hty h1).slice_
        exact stp_same (v := goInt ((0 : Nat) : Int)) p.ho (by rw [run, hd.slnil_inv.2]; simp [Builtin.len_, run_underlying hu]) (.g _ _ (.int _ _))
      · rename_i n _ h1 h2
        refine ⟨_, h, ids_same _ _ _, fun c a p => ?_⟩
        have hd := opd (Θ := Θ) p 0 x hx
        rw [h2] at hd
        have hu := (rowTy hty h1).slice_
        obtain ⟨aa, cap, U, he, _⟩ := hd.sl_inv
        exact stp_same (v := goInt (n : Int)) p.ho (by rw [run, he]; simp [Builtin.len_, run_underlying hu]) (.g _ _ (.int _ _))
      · rename_i q h1 h2
        split at h
        · rename_i nl fl size n cl he0
          refine ⟨_, h, ids_same _ _ _, fun c a p => ?_⟩
          have he : c.en q = _ := (p.rd q (by simp)).trans he0
          have hd := opd (Θ := Θ) p 0 x hx
          rw [h2] at hd
          have hv := hd.row_inv he
          have hu := (rowTy hty h1).slice_
          obtain ⟨_, ⟨_, rfl, hu2⟩ | ⟨_, cap, arr, et, hu2, _⟩⟩ := p.ho.ents q _ he
          · rw [hu2] at hv
            exact stp_same (v := goInt ((0 : Nat) : Int)) p.ho (by rw [run, hv]; simp [Builtin.len_, run_underlying hu]) (.g _ _ (.int _ _))
          · rw [hu2] at hv
            exact stp_same (v := goInt (n : Int)) p.ho (by rw [run, hv]; simp [Builtin.len_, run_underlying hu]) (.g _ _ (.int _ _))
        · cases h
      · rename_i s h1 h2
        refine ⟨_, h, ids_same _ _ _, fun c a p => ?_⟩
        have hd := opd (Θ := Θ) p 0 x hx
        rw [h2] at hd
        have hu := (rowTy hty h1).str_
        exact stp_same (v := goInt (s.size : Int)) p.ho (by rw [run, hd.str_inv]; simp [Builtin.len_, run_underlying hu]) (.g _ _ (.int _ _))
      · cases h
    · cases h
theorem foldl_max {c : Cx} : ∀ (ss : List SV) (s : SV) (vs : List Value) (v : Value) (w : World), isInt s = true → ss.all isInt = true → ss.length = vs.length → Den c s v → (∀ (i : Nat) (s : SV) (v : Value), ss[i]? = some s → vs[i]? = some v → Den c s v) →
    ∃ u, (vs.foldlM Builtin.max2 v).run P w = .ok u w ∧ Den c (ss.foldl imax s) u := by
  intro ss
  induction ss with
  | nil =>
    intro s vs v w _ _ hl hd _
    cases vs with
    | nil => exact ⟨v, by simp, hd⟩
    | cons v vs => simp at hl
  | cons s' ss ih =>
    intro s vs v w h1 h2 hl hd hds
    cases vs with
    | nil => simp at hl
    | cons v' vs =>
      simp only [List.all_cons, Bool.and_eq_true] at h2
      cases s <;> simp [isInt] at h1
      rename_i k n
      cases s' <;> simp [isInt] at h2
      rename_i k' n'
      have hv := hd.int_inv
      have hv' := (hds 0 _ v' rfl rfl).int_inv
      subst hv hv'
      obtain ⟨u, hu, hdu⟩ := ih (.int k (if n' > n then n' else n)) vs (.int k (if n' > n then n' else n)) w rfl (by rw [List.all_eq_true]; exact h2) (by simpa using hl) (.g _ _ (.int _ _)) (fun i s v hs hv => hds (i + 1) s v (by simpa using hs) (by simpa using hv))
      exact ⟨u, by simp [Builtin.max2]; simpa using hu, hdu⟩
theorem foldl_min {c : Cx} : ∀ (ss : List SV) (s : SV) (vs : List Value) (v : Value) (w : World), isInt s = true → ss.all isInt = true → ss.length = vs.length → Den c s v → (∀ (i : Nat) (s : SV) (v : Value), ss[i]? = some s → vs[i]? = some v → Den c s v) →
    ∃ u, (vs.foldlM Builtin.min2 v).run P w = .ok u w ∧ Den c (ss.foldl imin s) u := by
  intro ss
  induction ss with
  | nil =>
    intro s vs v w _ _ hl hd _
    cases vs with
    | nil => exact ⟨v, by simp, hd⟩
    | cons v vs => simp at hl
  | cons s' ss ih =>
    intro s vs v w h1 h2 hl hd hds
    cases vs with
    | nil => simp at hl
    | cons v' vs =>
      simp only [List.all_cons, Bool.and_eq_true] at h2
      cases s <;> simp [isInt] at h1
      rename_i k n
      cases s' <;> simp [isInt] at h2
      rename_i k' n'
      have hv := hd.int_inv
      have hv' := (hds 0 _ v' rfl rfl).int_inv
      subst hv hv'
      obtain ⟨u, hu, hdu⟩ := ih (.int k (if n' < n then n' else n)) vs (.int k (if n' < n then n' else n)) w rfl (by rw [List.all_eq_true]; exact h2) (by simpa using hl) (.g _ _ (.int _ _)) (fun i s v hs hv => hds (i + 1) s v (by simpa using hs) (by simpa using hv))
      exact ⟨u, by simp [Builtin.min2]; simpa using hu, hdu⟩
theorem args_den {c : Cx} {a : Act} {δ : Delta} {t : Operand → TypeId} (p : Pre o sv en nx δ c a) {args : List Operand} (hin : ∀ x ∈ args, x ∈ o.op.operands.toList) :
    ∀ (i : Nat) (s : SV) (v : Value), (args.map fun x => ev Θ (t x) sv x)[i]? = some s → (args.map a.eval)[i]? = some v → Den c s v := by
  intro i s v hs hv
  simp only [List.getElem?_map, Option.map_eq_some_iff] at hs hv
  obtain ⟨x, hx, rfl⟩ := hs
  obtain ⟨x', hx', rfl⟩ := hv
  rw [hx] at hx'
  injection hx' with hx'
  subst hx'
  exact opd p _ x (hin x (List.mem_of_getElem? hx))
theorem ls_max {args : Array Operand} {ts : Array TypeId} (hop : o.op = .call ⟨.builtin .max, args, ts⟩) (h : planK Θ o sv en nx kf = some r) : ∃ δ, kf δ = some r ∧ Local P o sv en nx δ := by
  obtain ⟨args⟩ := args
  simp only [planK, hop] at h
  match args, h with
  | [], h => simp [builtinK] at h
  | [x], h => simp [builtinK] at h
  | x :: y :: l, h =>
    have hin : ∀ z ∈ x :: y :: l, z ∈ o.op.operands.toList := fun z hz => by simpa [hop, Op.operands, Call.operands] using hz
    simp only [List.map_cons, builtinK] at h
    cases hb : (isInt (ev Θ 0 sv x) && isInt (ev Θ 0 sv y) && (l.map (ev Θ 0 sv)).all isInt) <;> rw [hb] at h <;> simp only [cond_true, cond_false, reduceCtorEq] at h
    simp only [Bool.and_eq_true] at hb
    refine ⟨_, h, ids_same _ _ _, fun c a p => ?_⟩
    have hds := args_den (t := fun _ => 0) (Θ := Θ) (args := y :: l) p (fun z hz => hin z (by simp [hz]))
    obtain ⟨u, hu, hd⟩ := foldl_max (P := P) (c := c) ((y :: l).map (ev Θ 0 sv)) (ev Θ 0 sv x) ((y :: l).map a.eval) (a.eval x) c.w hb.1.1 (by simp only [List.map_cons, List.all_cons, Bool.and_eq_true]; exact ⟨hb.1.2, hb.2⟩) (by simp) (opd p 0 x (hin x (by simp))) hds
    exact stp_same (v := u) p.ho (by simp only [execOp, hop, resolve, invoke, builtin, Sem.run_bind, Sem.run_pure, Result.andThen_ok, Builtin.max_, List.map_toArray, List.map_cons] at hu ⊢; rw [hu]; rfl) hd
theorem ls_min {args : Array Operand} {ts : Array TypeId} (hop : o.op = .call ⟨.builtin .min, args, ts⟩) (h : planK Θ o sv en nx kf = some r) : ∃ δ, kf δ = some r ∧ Local P o sv en nx δ := by
  obtain ⟨args⟩ := args
  simp only [planK, hop] at h
  match args, h with
  | [], h => simp [builtinK] at h
  | [x], h => simp [builtinK] at h
  | x :: y :: l, h =>
    have hin : ∀ z ∈ x :: y :: l, z ∈ o.op.operands.toList := fun z hz => by simpa [hop, Op.operands, Call.operands] using hz
    simp only [List.map_cons, builtinK] at h
    cases hb : (isInt (ev Θ 0 sv x) && isInt (ev Θ 0 sv y) && (l.map (ev Θ 0 sv)).all isInt) <;> rw [hb] at h <;> simp only [cond_true, cond_false, reduceCtorEq] at h
    simp only [Bool.and_eq_true] at hb
    refine ⟨_, h, ids_same _ _ _, fun c a p => ?_⟩
    have hds := args_den (t := fun _ => 0) (Θ := Θ) (args := y :: l) p (fun z hz => hin z (by simp [hz]))
    obtain ⟨u, hu, hd⟩ := foldl_min (P := P) (c := c) ((y :: l).map (ev Θ 0 sv)) (ev Θ 0 sv x) ((y :: l).map a.eval) (a.eval x) c.w hb.1.1 (by simp only [List.map_cons, List.all_cons, Bool.and_eq_true]; exact ⟨hb.1.2, hb.2⟩) (by simp) (opd p 0 x (hin x (by simp))) hds
    exact stp_same (v := u) p.ho (by simp only [execOp, hop, resolve, invoke, builtin, Sem.run_bind, Sem.run_pure, Result.andThen_ok, Builtin.min_, List.map_toArray, List.map_cons] at hu ⊢; rw [hu]; rfl) hd
theorem plan_ok (hty : tyOk P Θ = true) (h : planK Θ o sv en nx kf = some r) : ∃ δ, kf δ = some r ∧ Local P o sv en nx δ := by
  cases hop : o.op with
  | move x => simp only [planK, hop] at h; exact ls_move hop h
  | assign x => simp only [planK, hop] at h; exact ls_assign hop h
  | pick x y z =>
    simp only [planK, hop] at h
    cases hb : ev Θ 0 sv x <;> rw [hb] at h <;> simp only [reduceCtorEq] at h
    exact ls_pick hop hb h
  | alloc t =>
    simp only [planK, hop] at h
    cases ht : Θ.get t <;> rw [ht] at h <;> simp only [reduceCtorEq] at h
    exact ls_alloc hty hop ht h
  | box t x =>
    simp only [planK, hop] at h
    cases hb : (cellsV (ev Θ t sv x)).all cellOk <;> rw [hb] at h <;> simp only [cond_true, cond_false, reduceCtorEq] at h
    exact ls_box hop hb h
  | build t ps => exact ls_build hty hop h
  | buildSlice t n ps => exact ls_buildSlice hty hop h
  | load t x => exact ls_load hty hop h
  | store t x y => exact ls_store hty hop h
  | nilCheck x => exact ls_nilCheck hop h
  | binOp op t x y yt => exact ls_binOp hty hop h
  | unOp op t x => exact ls_unOp hop h
  | convert s d x => exact ls_convert hty hop h
  | makeFunc f first caps =>
    cases f with
    | func f => exact ls_makeFunc hop h
    | _ => simp only [planK, hop, reduceCtorEq] at h
  | makeSlice t x y => exact ls_makeSlice hty hop h
  | slice t x lo hi mx => exact ls_slice hty hop h
  | fieldAddr t x f => exact ls_fieldAddr hty hop h
  | field t x f => exact ls_field hty hop h
  | indexAddr t x y => exact ls_indexAddr hty hop h
  | extract x i => exact ls_extract hop h
  | call cl =>
    obtain ⟨callee, args, ts⟩ := cl
    cases callee with
    | builtin b =>
      cases b with
      | append => exact ls_append hty hop h
      | len => exact ls_len hty hop h
      | max => exact ls_max hop h
      | min => exact ls_min hop h
      | _ => simp only [planK, hop, builtinK, reduceCtorEq] at h
    | _ => simp only [planK, hop, reduceCtorEq] at h
  | _ => simp only [planK, hop, reduceCtorEq] at h
theorem pickA_inv {z : Int} {f : Nat → Option R} : ∀ (m j : Nat), pickA z j m f = some r → ∃ i, j ≤ i ∧ i < j + m ∧ z = (i : Int) ∧ f i = some r := by
  intro m
  induction m with
  | zero => intro j h; cases h
  | succ m ih =>
    intro j h
    simp only [pickA] at h
    cases hb : z == (j : Int) <;> rw [hb] at h <;> simp only [cond_true, cond_false] at h
    · obtain ⟨i, h1, h2, h3⟩ := ih (j + 1) h
      exact ⟨i, by omega, by omega, h3⟩
    · exact ⟨j, Nat.le_refl _, by omega, by simpa using hb, h⟩
theorem allI_at {k : IntKind} {cs : List SV} {as' : List Int} (h : allI k cs = some as') : cs = as'.map (SV.int k) := by
  induction cs generalizing as' with
  | nil => simp [allI] at h; subst h; rfl
  | cons s l ih =>
    cases s <;> simp only [allI, reduceCtorEq] at h
    rename_i k' a
    cases hk : decide (k = k') <;> rw [hk] at h <;> simp only [cond_true, cond_false, reduceCtorEq] at h
    have hk : k = k' := by simpa using hk
    subst hk
    cases hr : allI k l <;> rw [hr] at h <;> simp only [reduceCtorEq] at h
    injection h with h
    subst h
    rw [ih hr]; rfl
theorem allB_at {cs : List SV} {as' : List Bool} (h : allB cs = some as') : cs = as'.map SV.bool := by
  induction cs generalizing as' with
  | nil => simp [allB] at h; subst h; rfl
  | cons s l ih =>
    cases s <;> simp only [allB, reduceCtorEq] at h
    cases hr : allB l <;> rw [hr] at h <;> simp only [reduceCtorEq] at h
    injection h with h
    subst h
    rw [ih hr]; rfl
theorem pickI_at {z : Int} : ∀ (l : List Int) (j i : Nat) (a : Int), z = ((j + i : Nat) : Int) → l[i]? = some a → pickI z j l = a := by
  intro l
  induction l with
  | nil => intro j i a _ h; simp at h
  | cons x l ih =>
    intro j i a hz h
    cases l with
    | nil =>
      cases i with
      | zero => simpa [pickI] using h
      | succ i => simp at h
    | cons y l =>
      simp only [pickI]
      cases i with
      | zero =>
        have : (z == (j : Int)) = true := by simp [hz]
        rw [this, cond_true]; simpa using h
      | succ i =>
        have : (z == (j : Int)) = false := by simp [hz]; omega
        rw [this, cond_false]
        exact ih (j + 1) i a (by rw [hz]; congr 1; omega) (by simpa using h)
theorem pickBo_at {z : Int} : ∀ (l : List Bool) (j i : Nat) (a : Bool), z = ((j + i : Nat) : Int) → l[i]? = some a → pickBo z j l = a := by
  intro l
  induction l with
  | nil => intro j i a _ h; simp at h
  | cons x l ih =>
    intro j i a hz h
    cases l with
    | nil =>
      cases i with
      | zero => simpa [pickBo] using h
      | succ i => simp at h
    | cons y l =>
      simp only [pickBo]
      cases i with
      | zero =>
        have : (z == (j : Int)) = true := by simp [hz]
        rw [this, cond_true]; simpa using h
      | succ i =>
        have : (z == (j : Int)) = false := by simp [hz]; omega
        rw [this, cond_false]
        exact ih (j + 1) i a (by rw [hz]; congr 1; omega) (by simpa using h)
theorem pickS_at {z : Int} {cs : List SV} {v : SV} (h : pickS z cs = some v) {j : Nat} (hz : z = (j : Int)) (hj : j < cs.length) : cs[j]? = some v := by
  unfold pickS at h
  split at h
  · rename_i k a l
    cases hr : allI k l <;> rw [hr] at h <;> simp only [reduceCtorEq] at h
    rename_i as'
    injection h with h
    subst h
    have hc : SV.int k a :: l = (a :: as').map (SV.int k) := by rw [allI_at hr]; rfl
    rw [hc] at hj ⊢
    rw [List.length_map] at hj
    rw [List.getElem?_map, List.getElem?_eq_getElem hj, Option.map_some]
    congr 2
    exact (pickI_at (a :: as') 0 j _ (by rw [hz]; simp) (List.getElem?_eq_getElem hj)).symm
  · rename_i a l
    cases hr : allB l <;> rw [hr] at h <;> simp only [reduceCtorEq] at h
    rename_i as'
    injection h with h
    subst h
    have hc : SV.bool a :: l = (a :: as').map SV.bool := by rw [allB_at hr]; rfl
    rw [hc] at hj ⊢
    rw [List.length_map] at hj
    rw [List.getElem?_map, List.getElem?_eq_getElem hj, Option.map_some]
    congr 2
    exact (pickBo_at (a :: as') 0 j _ (by rw [hz]; simp) (List.getElem?_eq_getElem hj)).symm
  · cases h
theorem candL_len (f : Nat → SV) (st n b : Nat) : (candL f st b n).length = n := by
  induction n generalizing b with
  | zero => rfl
  | succ n ih => simp [candL, ih]
theorem candL_at (f : Nat → SV) (st : Nat) : ∀ (n b j : Nat), j < n → (candL f st b n)[j]? = some (f (b + j * st)) ∧ (candL f st b n).length = n := by
  intro n
  induction n with
  | zero => intro b j h; omega
  | succ n ih =>
    intro b j hj
    have hl := fun b => candL_len f st n b
    cases j with
    | zero => exact ⟨by simp [candL], by simp [candL, hl]⟩
    | succ j =>
      obtain ⟨h1, h2⟩ := ih (b + st) j (by omega)
      refine ⟨?_, by simp [candL, h2]⟩
      simp only [candL, List.getElem?_cons_succ, h1]
      congr 2
      rw [Nat.succ_mul]; omega
theorem pickL_at {z : Int} {f : Nat → SV} {st n j : Nat} (hz : z = (j : Int)) (hj : j < n) : ∀ (m b : Nat) (l : List SV), pickL z f st n b m = some l → l.length = m ∧ ∀ q, q < m → l[q]? = some (f (b + j * st + q)) := by
  intro m
  induction m with
  | zero => intro b l h; simp [pickL] at h; subst h; exact ⟨rfl, fun q hq => by omega⟩
  | succ m ih =>
    intro b l h
    simp only [pickL] at h
    split at h
    · rename_i v l' hv hl'
      injection h with h
      subst h
      obtain ⟨h1, h2⟩ := ih (b + 1) l' hl'
      obtain ⟨c1, c2⟩ := candL_at f st n b j hj
      have h3 := pickS_at hv hz (by rw [c2]; exact hj)
      rw [c1] at h3
      refine ⟨by simp [h1], fun q hq => ?_⟩
      cases q with
      | zero => simpa using h3.symm
      | succ q =>
        simp only [List.getElem?_cons_succ]
        rw [h2 q (by omega)]
        congr 2; omega
    · cases h
theorem fillA_ok {c : Cx} {a : Act} {size : Nat} :
    ∀ (ps : List (Nat × SV)) (xs : List (Nat × Operand)) (cells out : List SV) (cur : List Value), fillA size cells ps = some out →
      ps.length = xs.length → (∀ (k : Nat) (p : Nat × SV), ps[k]? = some p → ∃ x, xs[k]? = some x ∧ x.1 = p.1 ∧ Den c p.2 (a.eval x.2)) → DenL c cells cur →
      ∃ cur' : List Value, Instr.fill (fun i => some (i * size, size)) cur.toArray (xs.map fun x => (x.1, a.eval x.2)) = some cur'.toArray ∧ DenL c out cur' := by
  intro ps
  induction ps with
  | nil =>
    intro xs cells out cur h hl _ hd
    cases xs with
    | nil => simp [fillA] at h; subst h; exact ⟨cur, rfl, hd⟩
    | cons x xs => simp at hl
  | cons p ps ih =>
    intro xs cells out cur h hl hps hd
    cases xs with
    | nil => simp at hl
    | cons x xs =>
      obtain ⟨i, s⟩ := p
      simp only [fillA] at h
      cases hb : ((cellsV s).length == size && Nat.ble (i * size + size) cells.length && (cellsV s).all cellOk) <;> rw [hb] at h <;> simp only [cond_true, cond_false, reduceCtorEq] at h
      rw [Bool.and_eq_true, Bool.and_eq_true] at hb
      obtain ⟨⟨hb1, hb2⟩, hb3⟩ := hb
      have hb1 : (cellsV s).length = size := by simpa using hb1
      have hb2 : i * size + size ≤ cells.length := by simpa using hb2
      obtain ⟨x', hx', hxi, hxd⟩ := hps 0 (i, s) rfl
      simp at hx'
      subst hx'
      obtain ⟨vs, hvs, hl', hdv⟩ := cells_den hxd hb3
      have hl' : (cellsV s).length = vs.length := hl'
      obtain ⟨cur', hc1, hc2⟩ := fill_step hd ⟨hl', fun i s v h1 h2 => (hdv i s v h1 h2).1⟩ (off := i * size) (by omega)
      obtain ⟨cur'', h3, h4⟩ := ih xs _ out cur' h (by simpa using hl) (fun k p hk => by simpa using hps (k + 1) p (by simpa using hk)) hc2
      refine ⟨cur'', ?_, h4⟩
      have hds := hd.1
      simp only [List.map_cons, Instr.fill, hxi, hvs]
      have e1 : ¬ (decide (vs.toArray.size ≠ size) || decide (i * size + vs.toArray.size > cur.toArray.size)) = true := by simp; omega
      rw [if_neg e1, hc1]
      exact h3
theorem ls_buildA (hty : tyOk P Θ = true) {t : TypeId} {ps : Array (Nat × Operand)} (hop : o.op = .build t ps) (h : planA Θ o sv en nx kf = some r) : ∃ δ, kf δ = some r ∧ Local P o sv en nx δ := by
  simp only [planA, hop] at h
  split at h
  · rename_i n e sz by_ zero h1
    split at h
    · rename_i te h2
      split at h
      · rename_i cs hcs
        refine ⟨_, h, ids_same _ _ _, fun c a p => ?_⟩
        have hu := (rowTy hty h1).arr_
        obtain ⟨i, z, hi, hsz, hby, hz, hzs, _⟩ := (rowTy hty h1).info
        have hzd := zerosEq_den (Z := c.Z) (w := c.w) hzs
        have rs := (rowTy hty h2).sizeOf_ c.w
        have hpar : ∀ q ∈ ps.toList, ∀ s, q.2 = .tmp s → Den c (sv s) (a.tmps.getD s Go.undef) := fun q hq s hs => p.sl s (by
          rw [hop]
          simp only [Op.operands]
          rw [← hs]
          exact List.mem_map_of_mem hq)
        obtain ⟨cur', h3, h4⟩ := fillA_ok (c := c) (a := a) (evParts Θ (fun _ => e) sv ps.toList) ps.toList zero cs z.cells.toList hcs (length_evParts _) (evParts_den ps.toList p.ho.gls hpar) ⟨hzd.1, fun i s v hs hv => .g _ _ (hzd.2 i s v hs hv).1⟩
        refine stp_same (v := .agg cur'.toArray) p.ho ?_ (.agg _ _ h4.1 h4.2)
        have e : (ps.map fun (x : Nat × Operand) => (x.1, a.eval x.2)).toList = ps.toList.map fun x => (x.1, a.eval x.2) := by simp
        simp only [execOp, hop, Instr.build, zeroValue, typeInfo, Sem.run_bind, run_program, hi, hz, Result.andThen_ok, Sem.run_pure, run_underlying hu, rs, e]
        simp only [Array.toArray_toList] at h3
        rw [h3]
        rfl
      · cases h
    · cases h
  · cases h
theorem ls_indexA (hty : tyOk P Θ = true) {t : TypeId} {x y : Operand} (hop : o.op = .index t x y) (h : planA Θ o sv en nx kf = some r) : ∃ δ, kf δ = some r ∧ Local P o sv en nx δ := by
  have hx : x ∈ o.op.operands.toList := by simp [hop, Op.operands]
  have hy : y ∈ o.op.operands.toList := by simp [hop, Op.operands]
  simp only [planA, hop] at h
  split at h
  · rename_i n e sz by_ zero h1
    split at h
    · rename_i te h2
      split at h
      · rename_i cs k z h3 h4
        have hback : ∃ j, j < n ∧ z = (j : Int) ∧ (bif isAgg te.d then (bif Nat.ble (j * te.size + te.size) cs.length then kf ⟨.agg (takeN cs (j * te.size) te.size), [], [], nx⟩ else Option.none)
            else (bif Nat.blt (j * te.size) cs.length then kf ⟨lget cs (j * te.size), [], [], nx⟩ else Option.none)) = some r := by
          split at h
          · rename_i ws hws
            cases hb0 : (isTmp y && Nat.ble (n * te.size) cs.length) <;> rw [hb0] at hws <;> simp only [cond_true, cond_false, reduceCtorEq] at hws
            rw [Bool.and_eq_true] at hb0
            have hlen : n * te.size ≤ cs.length := by simpa using hb0.2
            cases hb1 : ((isAgg te.d || Nat.beq te.size 1) && (decide (0 ≤ z) && decide (z < (n : Int)))) <;> rw [hb1] at h <;> simp only [cond_true, cond_false, reduceCtorEq] at h
            simp only [Bool.and_eq_true, decide_eq_true_eq] at hb1
            obtain ⟨h11, h12, h13⟩ := hb1
            have hz : z = (z.toNat : Int) := by omega
            have hjn : z.toNat < n := by omega
            have hmul : z.toNat * te.size + te.size ≤ n * te.size := by rw [← Nat.succ_mul]; exact Nat.mul_le_mul_right _ hjn
            obtain ⟨p1, p2⟩ := pickL_at hz hjn _ _ _ hws
            refine ⟨z.toNat, hjn, hz, ?_⟩
            cases hagg : isAgg te.d with
            | true =>
              rw [hagg] at h
              have e1 : Nat.ble (z.toNat * te.size + te.size) cs.length = true := by simp; omega
              simp only [e1, cond_true]
              have e2 : takeN cs (z.toNat * te.size) te.size = ws := by
                obtain ⟨t1, t2⟩ := takeN_spec cs (z.toNat * te.size) te.size
                refine List.ext_getElem? fun q => ?_
                by_cases hq : q < te.size
                · rw [t2 q hq, p2 q hq, Nat.zero_add]
                · rw [List.getElem?_eq_none (by omega), List.getElem?_eq_none (by omega)]
              rw [e2]
              exact h
            | false =>
              rw [hagg] at h h11
              have hs1 : te.size = 1 := by simpa using h11
              have e1 : Nat.blt (z.toNat * te.size) cs.length = true := by rw [Nat.blt_eq]; omega
              simp only [e1, cond_true, cond_false]
              have e2 : lget ws 0 = lget cs (z.toNat * te.size) := by
                have := p2 0 (by omega)
                rw [lget_some this]; simp
              rw [← e2]
              exact h
          · obtain ⟨j, _, hj, hz, h'⟩ := pickA_inv _ _ h
            exact ⟨j, by omega, hz, h'⟩
        obtain ⟨j, hj, hz, h'⟩ := hback; subst hz; have h := h'
        have hu := (rowTy hty h1).arr_
        have rs := fun w => (rowTy hty h2).sizeOf_ w
        have ra := fun w => (rowTy hty h2).isAgg_ w
        have hj0 : (0 : Int) ≤ (j : Int) ∧ (j : Int) < n := by omega
        cases hagg : isAgg te.d <;> rw [hagg] at h <;> simp only [cond_true, cond_false] at h
        · cases hb : Nat.blt (j * te.size) cs.length <;> rw [hb] at h <;> simp only [cond_true, cond_false, reduceCtorEq] at h
          have hb : j * te.size < cs.length := by simpa [Nat.blt_eq] using hb
          refine ⟨_, h, ids_same _ _ _, fun c a p => ?_⟩
          have hd := opd (Θ := Θ) p t x hx
          have hdi := opd (Θ := Θ) p 0 y hy
          rw [h3] at hd
          rw [h4] at hdi
          obtain ⟨vs, he, hl, hdd⟩ := hd.agg_inv
          have hi : j * te.size < vs.length := by omega
          rw [hagg] at ra
          exact stp_same (v := vs[j * te.size]) p.ho (by simp [execOp, hop, he, hdi.int_inv, Instr.index, asIntOf, run_underlying hu, part, ra, rs, hi, hj]) (hdd _ _ _ (lget_lt hb) (List.getElem?_eq_getElem hi))
        · cases hb : Nat.ble (j * te.size + te.size) cs.length <;> rw [hb] at h <;> simp only [cond_true, cond_false, reduceCtorEq] at h
          have hb : j * te.size + te.size ≤ cs.length := by simpa using hb
          refine ⟨_, h, ids_same _ _ _, fun c a p => ?_⟩
          have hd := opd (Θ := Θ) p t x hx
          have hdi := opd (Θ := Θ) p 0 y hy
          rw [h3] at hd
          rw [h4] at hdi
          obtain ⟨vs, he, hl, hdd⟩ := hd.agg_inv
          rw [hagg] at ra
          obtain ⟨t1, t2⟩ := takeN_spec cs (j * te.size) te.size
          refine stp_same (v := .agg ((vs.drop (j * te.size)).take te.size).toArray) p.ho ?_ (.agg _ _ (by simp [t1]; omega) fun i s v hs hv => ?_)
          · simp [execOp, hop, he, hdi.int_inv, Instr.index, asIntOf, run_underlying hu, part, ra, rs, hj]
          · have hi : i < te.size := by
              rcases Nat.lt_or_ge i te.size with h | h
              · exact h
              · rw [List.getElem?_eq_none (by rw [t1]; exact h)] at hs; cases hs
            rw [t2 i hi] at hs
            injection hs with hs
            subst hs
            rw [List.getElem?_take, if_pos hi, List.getElem?_drop] at hv
            exact hdd _ _ _ (lget_lt (by omega)) hv
      · cases h
    · cases h
  · cases h
theorem ls_indexAddrA (hty : tyOk P Θ = true) {t : TypeId} {x y : Operand} (hop : o.op = .indexAddr t x y) (h : planA Θ o sv en nx kf = some r) : ∃ δ, kf δ = some r ∧ Local P o sv en nx δ := by
  have hx : x ∈ o.op.operands.toList := by simp [hop, Op.operands]
  have hy : y ∈ o.op.operands.toList := by simp [hop, Op.operands]
  simp only [planA, hop] at h
  split at h
  · rename_i n e sz by_ zero h1
    split at h
    · rename_i te h2
      have hu := (rowTy hty h1).arr_
      have rs := fun w => (rowTy hty h2).sizeOf_ w
      have run : ∀ (w : World) (ad : Addr) (k : IntKind) (j : Nat), j < n → (Instr.indexAt t (.pointer (some ad)) (.int k (j : Int))).run P w = .ok (.pointer (some (ad.add (j * te.size)))) w := fun w ad k j hj => by
        have hj0 : (0 : Int) ≤ (j : Int) ∧ (j : Int) < n := by omega
        simp [Instr.indexAt, Instr.sureAddr, asIntOf, run_underlying hu, rs, hj]
      split at h
      · rename_i g off k z h3 h4
        split at h
        · rename_i ent hg
          cases hit : isTmp y with
          | true =>
            rw [hit, cond_true] at h
            cases hbd : (decide (0 ≤ z) && decide (z < (n : Int))) <;> rw [hbd] at h <;> simp only [cond_true, cond_false, reduceCtorEq] at h
            simp only [Bool.and_eq_true, decide_eq_true_eq] at hbd
            obtain ⟨j, rfl⟩ : ∃ j : Nat, z = (j : Int) := ⟨z.toNat, by omega⟩
            refine ⟨_, h, ids_same _ _ _, fun c a p => ?_⟩
            have he : c.en g = some ent := (p.rd g (by simp)).trans hg
            have hd := opd (Θ := Θ) p t x hx
            have hdi := opd (Θ := Θ) p 0 y hy
            rw [h3] at hd
            rw [h4] at hdi
            exact stp_same (v := .pointer (some ⟨c.b g, off + j * te.size, Option.none⟩)) p.ho (by simp [execOp, hop, hd.ptr_inv he, hdi.int_inv, run c.w _ k j (by omega), add_mk]) (.xptr _ _ _ _ _ _ hd.ptr_k rfl fun _ => ⟨by omega, by omega, by simp⟩)
          | false =>
          rw [hit, cond_false] at h
          obtain ⟨j, _, hj, hz, h'⟩ := pickA_inv _ _ h; subst hz; have h := h'
          refine ⟨_, h, ids_same _ _ _, fun c a p => ?_⟩
          have he : c.en g = some ent := (p.rd g (by simp)).trans hg
          have hd := opd (Θ := Θ) p t x hx
          have hdi := opd (Θ := Θ) p 0 y hy
          rw [h3] at hd
          rw [h4] at hdi
          exact stp_same (v := .pointer (some ⟨c.b g, off + j * te.size, Option.none⟩)) p.ho (by simp [execOp, hop, hd.ptr_inv he, hdi.int_inv, run c.w _ k j (by omega), add_mk]) (.ptr _ _ _ hd.ptr_k rfl fun _ => rfl)
        · cases h
      · rename_i m cl k z h3 h4
        split at h
        · rename_i ws hws
          cases hb0 : (isTmp y && Nat.ble (n * te.size) m) <;> rw [hb0] at hws <;> simp only [cond_true, cond_false, reduceCtorEq] at hws
          rw [Bool.and_eq_true] at hb0
          have hlen : n * te.size ≤ m := by simpa using hb0.2
          cases hbd : (decide (0 ≤ z) && decide (z < (n : Int))) <;> rw [hbd] at h <;> simp only [cond_true, cond_false, reduceCtorEq] at h
          simp only [Bool.and_eq_true, decide_eq_true_eq] at hbd
          obtain ⟨j, rfl⟩ : ∃ j : Nat, z = (j : Int) := ⟨z.toNat, by omega⟩
          have hjn : j < n := by omega
          have hmul : j * te.size + te.size ≤ n * te.size := by rw [← Nat.succ_mul]; exact Nat.mul_le_mul_right _ hjn
          obtain ⟨p1, p2⟩ := pickL_at rfl hjn _ _ _ hws
          refine ⟨_, h, ids_same _ _ _, fun c a p => ?_⟩
          have hd := opd (Θ := Θ) p t x hx
          have hdi := opd (Θ := Θ) p 0 y hy
          rw [h3] at hd
          rw [h4] at hdi
          obtain ⟨ad, U, hv, hzz, hc, hdd⟩ := hd.eptr_inv
          refine stp_same (v := .pointer (some (ad.add (j * te.size)))) p.ho (by simp [execOp, hop, hv, hdi.int_inv, run c.w _ k j (by omega)]) (.g _ _ (.eptr _ _ _ (fun q => U (j * te.size + q)) (fun hm => by rw [add_block]; exact hzz (by omega)) (fun q hq => by rw [add_add]; exact hc _ (by omega)) (fun q hq => ?_)))
          rw [lget_some (p2 q hq), Nat.zero_add]
          exact hdd _ (by omega)
        obtain ⟨j, _, hj, hz, h'⟩ := pickA_inv _ _ h; subst hz; have h := h'
        cases hb : Nat.ble (j * te.size) m <;> rw [hb] at h <;> simp only [cond_true, cond_false, reduceCtorEq] at h
        have hb : j * te.size ≤ m := by simpa using hb
        refine ⟨_, h, ids_same _ _ _, fun c a p => ?_⟩
        have hd := opd (Θ := Θ) p t x hx
        have hdi := opd (Θ := Θ) p 0 y hy
        rw [h3] at hd
        rw [h4] at hdi
        obtain ⟨ad, U, hv, hzz, hc, hdd⟩ := hd.eptr_inv
        refine stp_same (v := .pointer (some (ad.add (j * te.size)))) p.ho (by simp [execOp, hop, hv, hdi.int_inv, run c.w _ k j (by omega)]) (.g _ _ (.eptr _ _ _ (fun q => U (j * te.size + q)) (fun hm => by rw [add_block]; exact hzz (by omega)) (fun q hq => by rw [add_add]; exact hc _ (by omega)) (fun q hq => hdd _ (by omega))))
      · rename_i q s i0 off k z h3 h4
        split at h
        · rename_i hg
          obtain ⟨j, _, hj, hz, h'⟩ := pickA_inv _ _ h; subst hz; have h := h'
          refine ⟨_, h, ids_same _ _ _, fun c a p => ?_⟩
          have he := (p.rd q (by simp)).trans hg
          have hd := opd (Θ := Θ) p t x hx
          have hdi := opd (Θ := Θ) p 0 y hy
          rw [h3] at hd
          rw [h4] at hdi
          obtain ⟨fl, m, cl, hent, hi, hv⟩ := hd.wptr_inv he
          refine stp_same (v := .pointer (some ⟨c.b q, i0 * s + off + j * te.size, Option.none⟩)) p.ho (by simp [execOp, hop, hv, hdi.int_inv, run c.w _ k j (by omega), add_mk]) (.wptr _ _ _ _ _ hd.wptr_k rfl fun e' he' => ?_)
          rw [he] at he'
          injection he' with he'
          subst he'
          exact .inl ⟨_, _, _, hent, hi, by rw [Nat.add_assoc]⟩
        · cases h
      · cases h
    · cases h
  · cases h
theorem tabL_at (f : Nat → List SV) : ∀ (n i j : Nat), j < n → (tabL f i n)[j]? = some (f (i + j)) := by
  intro n
  induction n with
  | zero => intro i j h; omega
  | succ n ih =>
    intro i j hj
    cases j with
    | zero => simp [tabL]
    | succ j =>
      simp only [tabL, List.getElem?_cons_succ]
      rw [ih (i + 1) j (by omega)]
      congr 2; omega
theorem ls_sliceA (hty : tyOk P Θ = true) {t : TypeId} {x : Operand} {lo hi mx : Option Operand} (hop : o.op = .slice t x lo hi mx) (h : planA Θ o sv en nx kf = some r) : ∃ δ, kf δ = some r ∧ Local P o sv en nx δ := by
  have hx : x ∈ o.op.operands.toList := by simp [hop, Op.operands]
  cases lo <;> cases hi <;> cases mx <;> simp only [planA, hop, reduceCtorEq] at h
  split at h
  · rename_i n e sz by_ zero h1
    split at h
    · rename_i te m c0 h2 h3
      cases hb : (Nat.ble (n * te.size) m && Nat.blt 0 (n * te.size)) <;> rw [hb] at h <;> simp only [cond_true, cond_false, reduceCtorEq] at h
      rw [Bool.and_eq_true] at hb
      have hb1 : n * te.size ≤ m := by simpa using hb.1
      have hb2 : 0 < n * te.size := by have := hb.2; rwa [Nat.blt_eq] at this
      have hn0 : 0 < n := Nat.pos_of_mul_pos_right hb2
      refine ⟨_, h, ids_same _ _ _, fun c a p => ?_⟩
      have hd := opd (Θ := Θ) p t x hx
      rw [h3] at hd
      obtain ⟨ad, U, hv, hzz, hc, hdd⟩ := hd.eptr_inv
      have hu := (rowTy hty h1).arr_
      have rs := (rowTy hty h2).sizeOf_ c.w
      have cell : ∀ i j, i < n → j < te.size → litC [] (tabL (fun i => tabN c0 (i * te.size) te.size) 0 n) i j = c0 (i * te.size + j) := fun i j hi hj => by
        have h4 := tabL_at (fun i => tabN c0 (i * te.size) te.size) n 0 i hi
        rw [Nat.zero_add] at h4
        obtain ⟨t1, t2⟩ := tabN_spec c0 (i * te.size) te.size
        simp only [litC, List.getD_eq_getElem?_getD, h4, Option.getD_some]
        exact lget_some (t2 j hj)
      refine stp_same (v := .slice (some ad) n n) p.ho (by
        simp only [execOp, hop, hv, Option.map_none, Instr.sliceAt, Instr.sureAddr, Instr.sliceBounds, Sem.run_bind, run_underlying hu, rs, Result.andThen_ok, Sem.run_pure]
        have : ¬ n = 0 := by omega
        simp [this, add_zero]) (.g _ _ (.sl _ _ _ _ _ _ (fun i j => U (i * te.size + j)) (Nat.le_refl _) (fun i j hi hj => ?_) (fun _ => ⟨ad, rfl, hzz (by omega)⟩) (fun ad' ha i j hi hj => ?_) (fun i j hi hj => ?_)))
      · rw [cell i j hi hj]
        have h4 := tabL_at (fun i => tabN c0 (i * te.size) te.size) n 0 i hi
        rw [Nat.zero_add] at h4
        obtain ⟨t1, t2⟩ := tabN_spec c0 (i * te.size) te.size
        exact ckOk_Els h4 (t2 j hj)
      · injection ha with ha
        subst ha
        exact hc _ (Nat.lt_of_lt_of_le (mul_lt_of hi hj) hb1)
      · rw [cell i j hi hj]
        exact hdd _ (Nat.lt_of_lt_of_le (mul_lt_of hi hj) hb1)
    · cases h
  · cases h
theorem local_x {x : Xp} {δ : Delta} {j : Nat} (hs : sv x.s = .xptr x.g x.b x.st x.n x.z) (hz : x.z = (j : Int)) (h : Local P o (putSv sv x.s (.ptr x.g (x.b + j * x.st))) en nx δ) : Local P o sv en nx δ := by
  refine ⟨h.1, fun c a p => h.2 c a ⟨p.ho, fun s hm => ?_, p.rd, p.fresh⟩⟩
  have := p.sl s hm
  unfold putSv
  cases hb : s == x.s with
  | false => simpa using this
  | true =>
    have hb : s = x.s := by simpa using hb
    subst hb
    rw [hs] at this
    have h1 : Sx.one (a.tmps.getD x.s Go.undef) = true := by
      cases this with
      | g _ _ h => cases h
      | xptr _ _ _ _ _ _ _ h => exact h
    refine .ptr _ _ _ this.xptr_k h1 fun he => ?_
    obtain ⟨e, he⟩ := Option.isSome_iff_exists.1 he
    obtain ⟨_, _, h3⟩ := this.xptr_inv he
    rw [h3, hz]; simp
theorem split_ok (hty : tyOk P Θ = true) {x : Xp} (hs : sv x.s = .xptr x.g x.b x.st x.n x.z) (h : splitX Θ o x sv en nx kf = some r) : ∃ δ, kf δ = some r ∧ Local P o sv en nx δ := by
  obtain ⟨j, _, _, hz, h'⟩ := pickA_inv _ _ h
  obtain ⟨δ, h1, h2⟩ := plan_ok hty h'
  exact ⟨δ, h1, local_x hs hz h2⟩
theorem join_ok (hty : tyOk P Θ = true) {x : Xp} {a0 : Operand} (ha : a0 = .tmp x.s) (hmem : a0 ∈ o.op.operands.toList) (hs : sv x.s = .xptr x.g x.b x.st x.n x.z) {δ : Delta} (hi : Ids nx δ) (hg : x.g ∈ δ.rd) {e : Ent} (he : en x.g = some e)
    (hall : ∀ j, j < x.n → x.z = (j : Int) → planK Θ o (putSv sv x.s (.ptr x.g (x.b + j * x.st))) en nx some = some δ) : Local P o sv en nx δ := by
  refine ⟨hi, fun c a p => ?_⟩
  have hd := p.sl x.s (ha ▸ hmem)
  rw [hs] at hd
  obtain ⟨h1, h2, _⟩ := hd.xptr_inv ((p.rd x.g hg).trans he)
  have hz : x.z = ((x.z.toNat : Nat) : Int) := by omega
  obtain ⟨δ', h3, h4⟩ := plan_ok hty (hall x.z.toNat (by omega) hz)
  injection h3 with h3
  subst h3
  exact (local_x hs hz h4).2 c a p
theorem xAt_inv {a : Operand} {x : Xp} (h : xAt sv a = some x) : a = .tmp x.s ∧ sv x.s = .xptr x.g x.b x.st x.n x.z := by
  cases a <;> simp only [xAt, reduceCtorEq] at h
  split at h
  · rename_i hs
    injection h with h
    subst h
    exact ⟨rfl, hs⟩
  · cases h
theorem selC_at {bl : Bool} {x y v : SV} (h : selC bl x y = some v) : v = bif bl then x else y := by
  unfold selC at h
  split at h
  · rename_i k a k' a'
    cases hk : decide (k = k') <;> rw [hk] at h <;> simp only [cond_true, cond_false, reduceCtorEq] at h
    have hk : k = k' := by simpa using hk
    subst hk
    injection h with h
    subst h
    cases bl <;> rfl
  · injection h with h
    subst h
    cases bl <;> rfl
  · cases h
theorem selV_at {bl : Bool} {xs ys vs : List SV} (h : selV bl xs ys = some vs) : vs = bif bl then xs else ys := by
  induction xs generalizing ys vs with
  | nil =>
    cases ys <;> simp only [selV, reduceCtorEq] at h
    injection h with h
    subst h
    cases bl <;> rfl
  | cons x xs ih =>
    cases ys with
    | nil => simp only [selV, reduceCtorEq] at h
    | cons y ys =>
      simp only [selV] at h
      split at h
      · rename_i v l hv hl
        injection h with h
        subst h
        rw [selC_at hv, ih hl]
        cases bl <;> rfl
      · cases h
theorem lsetN_take {cs : List SV} {b m : Nat} (h : b + m ≤ cs.length) : lsetN cs b (takeN cs b m) = cs := by
  obtain ⟨t1, t2⟩ := takeN_spec cs b m
  refine List.ext_getElem? fun i => ?_
  rw [getElem?_lsetN _ _ _ _ (by rw [t1]; exact h), t1]
  split
  · rename_i hi
    rw [t2 _ (by omega), show b + (i - b) = i by omega]
    exact (lget_lt (by omega)).symm
  · rfl
theorem selN_at {z : Int} {vs : List SV} {st : Nat} : ∀ (n b j : Nat) (cs cs' : List SV), selN z vs st b j n cs = some cs' → b + n * st + vs.length ≤ cs.length + st →
    (∀ i, i < n → z = ((j + i : Nat) : Int) → cs' = lsetN cs (b + i * st) vs) ∧ ((∀ i, i < n → z ≠ ((j + i : Nat) : Int)) → cs' = cs) ∧ cs'.length = cs.length := by
  intro n
  induction n with
  | zero =>
    intro b j cs cs' h _
    simp only [selN] at h
    injection h with h
    subst h
    exact ⟨fun i hi => by omega, fun _ => rfl, rfl⟩
  | succ n ih =>
    intro b j cs cs' h hlen
    simp only [selN] at h
    have hb : b + vs.length ≤ cs.length := by rw [Nat.succ_mul] at hlen; omega
    split at h
    · rename_i ws hws
      have hw := selV_at hws
      have hwl : (lsetN cs b ws).length = cs.length := length_lsetN _ _ _
      obtain ⟨i1, i2, i3⟩ := ih (b + st) (j + 1) _ _ h (by rw [hwl]; rw [Nat.succ_mul] at hlen; omega)
      cases hz : (z == (j : Int)) with
      | true =>
        rw [hz, cond_true] at hw
        have hzj : z = (j : Int) := by simpa using hz
        have hno := i2 fun i hi he => by rw [hzj] at he; omega
        rw [hw] at hno
        refine ⟨fun i hi he => ?_, fun hne => absurd (by simpa using hzj) (hne 0 (by omega)), by rw [i3, hwl]⟩
        have : i = 0 := by rw [hzj] at he; omega
        subst this
        rw [hno]; simp
      | false =>
        rw [hz, cond_false] at hw
        have hzj : z ≠ (j : Int) := by simpa using hz
        have hcs : lsetN cs b ws = cs := by rw [hw]; exact lsetN_take hb
        rw [hcs] at i1 i2
        refine ⟨fun i hi he => ?_, fun hne => i2 fun i hi he => hne (i + 1) (by omega) (by rw [he]; congr 1; omega), by rw [i3, hwl]⟩
        cases i with
        | zero => exact absurd (by simpa using he) hzj
        | succ i =>
          rw [i1 i (by omega) (by rw [he]; congr 1; omega)]
          congr 1; rw [Nat.succ_mul]; omega
    · cases h
theorem planX_ok (hty : tyOk P Θ = true) {x : Xp} (hx : xOf o sv = some x) (h : planX Θ o x sv en nx kf = some r) : ∃ δ, kf δ = some r ∧ Local P o sv en nx δ := by
  cases hop : o.op with
  | load t a =>
    simp only [xOf, hop] at hx
    obtain ⟨ha, hs⟩ := xAt_inv hx
    simp only [planX, hop] at h
    split at h
    · rename_i ti cs hti hg
      split at h
      · rename_i vs hvs
        cases hb0 : (Nat.ble (x.b + x.n * x.st + ti.size) (cs.length + x.st) && (isAgg ti.d || Nat.beq ti.size 1)) <;> rw [hb0] at hvs <;> simp only [cond_true, cond_false, reduceCtorEq] at hvs
        rw [Bool.and_eq_true] at hb0
        obtain ⟨hb1, hb2⟩ := hb0
        have hb1 : x.b + x.n * x.st + ti.size ≤ cs.length + x.st := by simpa using hb1
        refine ⟨_, h, join_ok hty ha (by simp [hop, Op.operands]) hs (ids_same _ _ _) (by simp) hg fun j hj hz => ?_⟩
        obtain ⟨p1, p2⟩ := pickL_at hz hj _ _ _ hvs
        have hmul : j * x.st + x.st ≤ x.n * x.st := by rw [← Nat.succ_mul]; exact Nat.mul_le_mul_right _ hj
        have hev : ev Θ 0 (putSv sv x.s (.ptr x.g (x.b + j * x.st))) a = .ptr x.g (x.b + j * x.st) := by rw [ha]; simp [ev, putSv]
        simp only [planK, hop, hti, hev, hg]
        cases hagg : isAgg ti.d with
        | true =>
          have e1 : Nat.ble (x.b + j * x.st + ti.size) cs.length = true := by simp; omega
          simp only [e1, cond_true]
          congr 3
          obtain ⟨t1, t2⟩ := takeN_spec cs (x.b + j * x.st) ti.size
          refine List.ext_getElem? fun q => ?_
          by_cases hq : q < ti.size
          · rw [t2 q hq, p2 q hq]
          · rw [List.getElem?_eq_none (by omega), List.getElem?_eq_none (by omega)]
        | false =>
          rw [hagg] at hb2
          have hs1 : ti.size = 1 := by simpa using hb2
          have e1 : Nat.blt (x.b + j * x.st) cs.length = true := by rw [Nat.blt_eq]; omega
          simp only [e1, cond_true, cond_false]
          congr 2
          have := p2 0 (by omega)
          rw [lget_some this]; simp
      · exact split_ok hty hs h
    · cases h
  | store t a y =>
    simp only [xOf, hop] at hx
    obtain ⟨ha, hs⟩ := xAt_inv hx
    simp only [planX, hop] at h
    split at h
    · rename_i ti cs hti hg
      split at h
      · rename_i cs' hcs'
        cases hb0 : (Nat.ble (x.b + x.n * x.st + ti.size) (cs.length + x.st) && ((cellsV (ev Θ t sv y)).length == ti.size && (cellsV (ev Θ t sv y)).all cellOk)) <;> rw [hb0] at hcs' <;> simp only [cond_true, cond_false, reduceCtorEq] at hcs'
        rw [Bool.and_eq_true] at hb0
        obtain ⟨hb1, hb2⟩ := hb0
        have hb1 : x.b + x.n * x.st + ti.size ≤ cs.length + x.st := by simpa using hb1
        have hb3 := hb2
        rw [Bool.and_eq_true] at hb3
        have hlen : (cellsV (ev Θ t sv y)).length = ti.size := by simpa using hb3.1
        refine ⟨_, h, join_ok hty ha (by simp [hop, Op.operands]) hs ⟨fun id hid => .inl (by simpa using hid), Nat.le_refl _⟩ (by simp) hg fun j hj hz => ?_⟩
        obtain ⟨p1, _, _⟩ := selN_at _ _ _ _ _ hcs' (by rw [hlen]; exact hb1)
        have hmul : j * x.st + x.st ≤ x.n * x.st := by rw [← Nat.succ_mul]; exact Nat.mul_le_mul_right _ hj
        have hev : ev Θ 0 (putSv sv x.s (.ptr x.g (x.b + j * x.st))) a = .ptr x.g (x.b + j * x.st) := by rw [ha]; simp [ev, putSv]
        have hy : ev Θ t (putSv sv x.s (.ptr x.g (x.b + j * x.st))) y = ev Θ t sv y := by
          cases y with
          | tmp q =>
            simp only [ev, putSv]
            cases hq : q == x.s with
            | false => rfl
            | true =>
              have hq : q = x.s := by simpa using hq
              subst hq
              simp only [ev, hs] at hb3
              simp [cellsV, cellOk] at hb3
          | _ => rfl
        have e1 : Nat.ble (x.b + j * x.st + ti.size) cs.length = true := by simp; omega
        simp only [planK, hop, hti, hev, hg, hy, hb2, cond_true, e1]
        rw [p1 j hj (by rw [hz]; simp)]
      · exact split_ok hty hs h
    · cases h
  | nilCheck a =>
    simp only [xOf, hop] at hx
    obtain ⟨ha, hs⟩ := xAt_inv hx
    simp only [planX, hop] at h
    split at h
    · rename_i e he
      refine ⟨_, h, ids_same _ _ _, fun c a' p => ?_⟩
      have hd := p.sl x.s (by simp [hop, Op.operands, ha])
      rw [hs] at hd
      obtain ⟨_, _, h3⟩ := hd.xptr_inv ((p.rd x.g (by simp)).trans he)
      refine stp_same (v := a'.tmps.getD x.s Go.undef) p.ho ?_ hd
      simp only [execOp, hop, ha, Act.eval, h3]
      rfl
    · cases h
  | fieldAddr t a f =>
    simp only [xOf, hop] at hx
    obtain ⟨ha, hs⟩ := xAt_inv hx
    simp only [planX, hop] at h
    exact split_ok hty hs h
  | _ => simp only [xOf, hop, reduceCtorEq] at hx
theorem den_frz {c : Cx} {q : Nat} (ho : HeapOk c) {nl : Bool} {fl : CK} {size n : Nat} {cl : Nat → Nat → SV} (he : c.en q = some (.row nl fl size n cl)) {v : Value} (hd : Den c (.row q) v) : Den (c.drop q) (.sl .any fl size n cl) v := by
  have ht := (drop_ok ho q).2
  rw [hd.row_inv he]
  obtain ⟨hf, h⟩ := ho.ents q _ he
  rcases h with ⟨_, rfl, h2⟩ | ⟨h1, cap, arr, e, h2, h3, h4, h5, h6⟩
  · rw [h2]
    exact .g _ _ (.sl _ _ _ _ _ _ (fun _ _ => Go.undef) (Nat.le_refl _) (fun i j hi => by omega) (fun h => by omega) (fun ad ha i j hi => by omega) (fun i j hi => by omega))
  · rw [h2]
    refine .g _ _ (.sl _ _ _ _ _ cap (fun i j => arr.getD (i * size + j) Go.undef) h4 hf (fun _ => ⟨_, rfl, .inr ⟨_, he, .inl ⟨by simp [has, h1], rfl⟩⟩⟩) (fun ad ha i j hi hj => ?_) (fun i j hi hj => ?_))
    · injection ha with ha
      subst ha
      obtain ⟨v, hv, _⟩ := h6 i j hi hj
      rw [add_mk, Nat.zero_add]
      show c.w.cell? _ = _
      rw [cell_of h3, hv]
      simp [hv]
    · obtain ⟨v, hv, hd⟩ := h6 i j hi hj
      have : arr.getD (i * size + j) Go.undef = v := by simp [hv]
      rw [this]
      exact hd.trans ht ho
theorem den_frzC {c : Cx} {q : Nat} (ho : HeapOk c) {nl : Bool} {fl : CK} {size n : Nat} {cl : Nat → Nat → SV} (he : c.en q = some (.row nl fl size n cl)) {s : SV} {v : Value} (hd : Den c s v) : Den (c.drop q) (frzC q (.sl .any fl size n cl) s) v := by
  by_cases hr : ∃ p, s = .row p
  · obtain ⟨p, rfl⟩ := hr
    simp only [frzC]
    cases hb : p == q with
    | true =>
      have : p = q := by simpa using hb
      subst this
      exact den_frz ho he hd
    | false => exact hd.trans (drop_ok ho q).2 ho
  · have : frzC q (.sl .any fl size n cl) s = s := by cases s <;> first | rfl | exact absurd ⟨_, rfl⟩ hr
    rw [this]
    exact hd.trans (drop_ok ho q).2 ho
theorem den_frzV {c : Cx} {q : Nat} (ho : HeapOk c) {nl : Bool} {fl : CK} {size n : Nat} {cl : Nat → Nat → SV} (he : c.en q = some (.row nl fl size n cl)) {s : SV} {v : Value} (hd : Den c s v) : Den (c.drop q) (frzV q (.sl .any fl size n cl) s) v := by
  by_cases ha : ∃ cs, s = .agg cs
  · obtain ⟨cs, rfl⟩ := ha
    obtain ⟨vs, rfl, hl, hds⟩ := hd.agg_inv
    refine .agg _ _ (by simpa using hl) fun i s v hs hv => ?_
    simp only [List.getElem?_map, Option.map_eq_some_iff] at hs
    obtain ⟨s', hs', rfl⟩ := hs
    exact den_frzC ho he (hds i s' v hs' hv)
  · have : frzV q (.sl .any fl size n cl) s = frzC q (.sl .any fl size n cl) s := by cases s <;> first | rfl | exact absurd ⟨_, rfl⟩ ha
    rw [this]
    exact den_frzC ho he hd
end
end Go.Sx
