import Derived.Test.YtlphgonhenegoaaSxCtx
import Derived.Test.YtlphgonhenegoaaSxWp
namespace Go.Sx
theorem ev_den {Θ : Tys} {c : Cx} {a : Act} {sv : Nat → SV} {t : TypeId} (x : Operand) (hg : Gls c.Z c.w) (h : ∀ s, x = .tmp s → Den c (sv s) (a.tmps.getD s Go.undef)) : Den c (ev Θ t sv x) (a.eval x) := by
  cases x with
  | tmp s => exact h s rfl
  | func f => exact .func f 0 [] [] rfl (linkOk_lt (by decide)) fun i s v hs => by simp at hs
  | global g =>
    show Den c (match glob g with | some cs => .eptr cs.length (lget cs) | Option.none => .undef) _
    cases h : glob g with
    | none => exact .und _
    | some cs => exact .g _ _ (hg g cs h)
  | const v =>
    show Den c (ofConst Θ t v) v
    unfold ofConst
    split
    · exact .g _ _ (.int _ _)
    · exact .g _ _ (.bool _)
    · exact .g _ _ (.str _)
    · unfold nilOf
      split
      · split
        · exact .g _ _ (.slnil _ _ _)
        · exact .und _
      · exact .und _
    · exact .g _ _ .nilp
    · exact .g _ _ .nilm
    · exact .g _ _ .nilf
    · exact .und _
def Stp (P : Program) (o : Oper) (c : Cx) (a : Act) (δ : Delta) : Prop :=
  ∀ (Kt : Act → World → Prop) (Q : Exit → Act → World → Prop),
    (∀ v c', Den c' δ.v v → HeapOk c' → (∀ id, c'.en id = upd c.en δ.upd id) → (∀ id, c'.K id ↔ c.K id ∨ id ∈ δ.upd.map (·.1)) → Trans c c' → Kt (a.put o.dst v) c'.w) → opA P o a c.w Kt Q
structure Pre (o : Oper) (sv : Nat → SV) (en : Nat → Option Ent) (nx : Nat) (δ : Delta) (c : Cx) (a : Act) : Prop where
  ho : HeapOk c
  sl : ∀ s, .tmp s ∈ o.op.operands.toList → Den c (sv s) (a.tmps.getD s Go.undef)
  rd : ∀ id, id ∈ δ.rd → c.en id = en id
  fresh : ∀ id, id ∈ δ.upd.map (·.1) → nx ≤ id → ¬ c.K id
structure Ids (nx : Nat) (δ : Delta) : Prop where
  keys : ∀ id, id ∈ δ.upd.map (·.1) → id ∈ δ.rd ∨ (nx ≤ id ∧ id < δ.nx)
  le : nx ≤ δ.nx
def Local (P : Program) (o : Oper) (sv : Nat → SV) (en : Nat → Option Ent) (nx : Nat) (δ : Delta) : Prop :=
  Ids nx δ ∧ ∀ c a, Pre o sv en nx δ c a → Stp P o c a δ
theorem stp_value {P : Program} {o : Oper} {c : Cx} {a : Act} {δ : Delta} {v : Value} {c' : Cx} (hrun : (execOp a.eval o).run P c.w = .ok (.value v) c'.w)
    (hd : Den c' δ.v v) (ho : HeapOk c') (hen : ∀ id, c'.en id = upd c.en δ.upd id) (hK : ∀ id, c'.K id ↔ c.K id ∨ id ∈ δ.upd.map (·.1)) (ht : Trans c c') : Stp P o c a δ := by
  intro Kt Q h
  exact opA_value hrun (h v c' hd ho hen hK ht)
theorem stp_skip {P : Program} {o : Oper} {c : Cx} {a : Act} {δ : Delta} {c' : Cx} (hrun : (execOp a.eval o).run P c.w = .ok .skip c'.w)
    (hd : δ.v = .none) (ho : HeapOk c') (hen : ∀ id, c'.en id = upd c.en δ.upd id) (hK : ∀ id, c'.K id ↔ c.K id ∨ id ∈ δ.upd.map (·.1)) (ht : Trans c c') : Stp P o c a δ := by
  intro Kt Q h
  exact opA_skip hrun (h Go.undef c' (by rw [hd]; exact .non) ho hen hK ht)
theorem stp_same {P : Program} {o : Oper} {c : Cx} {a : Act} {s : SV} {rd : List Nat} {nx : Nat} {v : Value} (ho : HeapOk c) (hrun : (execOp a.eval o).run P c.w = .ok (.value v) c.w)
    (hd : Den c s v) : Stp P o c a ⟨s, [], rd, nx⟩ :=
  stp_value (c' := c) hrun hd ho (fun _ => rfl) (fun _ => by simp) .refl
theorem ids_same (s : SV) (rd : List Nat) (nx : Nat) : Ids nx ⟨s, [], rd, nx⟩ := ⟨fun id h => by simp at h, Nat.le_refl _⟩
section
variable {P : Program} {Θ : Tys} {R : Type} {sv : Nat → SV} {en : Nat → Option Ent} {nx : Nat} {r : R} {kf : Delta → Option R} {o : Oper}
theorem ls_move {x : Operand} (hop : o.op = .move x) (h : kf ⟨ev Θ o.type sv x, [], [], nx⟩ = some r) : ∃ δ, kf δ = some r ∧ Local P o sv en nx δ :=
  ⟨_, h, ids_same _ _ _, fun c a p => stp_same p.ho (by simp [execOp, hop]) (ev_den x p.ho.gls fun s hs => p.sl s (by simp [hop, Op.operands, hs]))⟩
theorem ls_assign {x : Operand} (hop : o.op = .assign x) (h : kf ⟨ev Θ o.type sv x, [], [], nx⟩ = some r) : ∃ δ, kf δ = some r ∧ Local P o sv en nx δ :=
  ⟨_, h, ids_same _ _ _, fun c a p => stp_same p.ho (by simp [execOp, hop]) (ev_den x p.ho.gls fun s hs => p.sl s (by simp [hop, Op.operands, hs]))⟩
theorem ls_pick {x y z : Operand} (hop : o.op = .pick x y z) {b : Bool} (hb : ev Θ 0 sv x = .bool b)
    (h : (bif b then kf ⟨ev Θ o.type sv y, [], [], nx⟩ else kf ⟨ev Θ o.type sv z, [], [], nx⟩) = some r) : ∃ δ, kf δ = some r ∧ Local P o sv en nx δ := by
  cases b with
  | true =>
    refine ⟨_, h, ids_same _ _ _, fun c a p => ?_⟩
    have hx := ev_den (Θ := Θ) (t := 0) (c := c) (a := a) x p.ho.gls fun s hs => p.sl s (by simp [hop, Op.operands, hs])
    rw [hb] at hx
    exact stp_same p.ho (by simp [execOp, hop, hx.bool_inv, asBool]) (ev_den y p.ho.gls fun s hs => p.sl s (by simp [hop, Op.operands, hs]))
  | false =>
    refine ⟨_, h, ids_same _ _ _, fun c a p => ?_⟩
    have hx := ev_den (Θ := Θ) (t := 0) (c := c) (a := a) x p.ho.gls fun s hs => p.sl s (by simp [hop, Op.operands, hs])
    rw [hb] at hx
    exact stp_same p.ho (by simp [execOp, hop, hx.bool_inv, asBool]) (ev_den z p.ho.gls fun s hs => p.sl s (by simp [hop, Op.operands, hs]))
theorem ls_alloc (hty : tyOk P Θ = true) {t : TypeId} (hop : o.op = .alloc t) {ti : TI} (hti : Θ.get t = some ti) (h : kf ⟨.ptr nx 0, [(nx, some (.blk ti.zero))], [], nx + 1⟩ = some r) :
    ∃ δ, kf δ = some r ∧ Local P o sv en nx δ := by
  refine ⟨_, h, ⟨fun id hid => .inr (by simp at hid; subst hid; exact ⟨Nat.le_refl _, Nat.lt_succ_self _⟩), Nat.le_succ _⟩, fun c a p => ?_⟩
  obtain ⟨i, z, hi, hs, hb, hz, hzs, _⟩ := (rowTy hty hti).info
  have hk : ¬ c.K nx := p.fresh nx (by simp) (Nat.le_refl _)
  have hrun : (execOp a.eval o).run P c.w = .ok (.value (.pointer (some ⟨c.w.heap.size, 0, Option.none⟩))) (c.w.alloc (.cells z.cells t)) := by
    simp [execOp, hop, Instr.alloc, zeroValue, typeInfo, hi, hz, newVar, newRow]
  obtain ⟨h1, h2⟩ := add_ok p.ho hk (e := .blk ti.zero) (b := c.w.heap.size) (u := Go.undef) (Mem.alloc (Mem.refl c) (.cells z.cells t)) (fun _ => Nat.le_refl _) (fun _ => by
    refine ⟨z.cells, t, by simpa [Cx.add] using heap_alloc_new c.w _, ?_, fun i s v hs hv => ?_⟩
    · have := (zerosEq_den (Z := fun _ => False) (w := c.w) hzs).1
      simpa using this.symm
    · obtain ⟨h3, h4⟩ := (zerosEq_den (Z := (c.add nx (.blk ti.zero) c.w.heap.size Go.undef (c.w.alloc (.cells z.cells t))).Z) (w := (c.add nx (.blk ti.zero) c.w.heap.size Go.undef (c.w.alloc (.cells z.cells t))).w) hzs).2 i s v hs (by simpa using hv)
      exact ⟨.g _ _ h3, h4⟩)
  refine stp_value (c' := c.add nx (.blk ti.zero) c.w.heap.size Go.undef (c.w.alloc (.cells z.cells t))) hrun ?_ h1 (fun id => rfl) (fun id => by simp [Cx.add]) h2
  exact .ptr _ _ _ (.inr rfl) rfl fun _ => by simp [Cx.add]
theorem cells_den {c : Cx} {s : SV} {v : Value} (h : Den c s v) (hs : (cellsV s).all cellOk = true) : ∃ vs : List Value, v.cells = vs.toArray ∧ (cellsV s).length = vs.length ∧
    ∀ (i : Nat) (s' : SV) (v' : Value), (cellsV s)[i]? = some s' → vs[i]? = some v' → Den c s' v' ∧ Sx.one v' = true := by
  by_cases hagg : ∃ cs, s = .agg cs
  · obtain ⟨cs, rfl⟩ := hagg
    obtain ⟨vs, rfl, hl, hd⟩ := h.agg_inv
    refine ⟨vs, rfl, hl, fun i s' v' h1 h2 => ?_⟩
    have h3 := hd i s' v' h1 h2
    exact ⟨h3, h3.one (List.all_eq_true.1 hs s' (List.mem_of_getElem? h1))⟩
  · have hc : cellsV s = [s] := by cases s <;> first | rfl | exact absurd ⟨_, rfl⟩ hagg
    rw [hc] at hs ⊢
    have h1 := h.one (by simpa using hs)
    have hv : v.cells = [v].toArray := by cases v <;> first | rfl | simp [Sx.one] at h1
    refine ⟨[v], hv, rfl, fun i s' v' h2 h3 => ?_⟩
    cases i with
    | zero => simp at h2 h3; subst h2 h3; exact ⟨h, h1⟩
    | succ i => simp at h2
theorem ls_box {t : TypeId} {x : Operand} (hop : o.op = .box t x) (hall : (cellsV (ev Θ t sv x)).all cellOk = true)
    (h : kf ⟨.ptr nx 0, [(nx, some (.blk (cellsV (ev Θ t sv x))))], [], nx + 1⟩ = some r) : ∃ δ, kf δ = some r ∧ Local P o sv en nx δ := by
  refine ⟨_, h, ⟨fun id hid => .inr (by simp at hid; subst hid; exact ⟨Nat.le_refl _, Nat.lt_succ_self _⟩), Nat.le_succ _⟩, fun c a p => ?_⟩
  have hk : ¬ c.K nx := p.fresh nx (by simp) (Nat.le_refl _)
  have hx := ev_den (Θ := Θ) (t := t) (c := c) (a := a) x p.ho.gls fun s hs => p.sl s (by simp [hop, Op.operands, hs])
  obtain ⟨vs, hvs, hl, hd⟩ := cells_den hx hall
  have hrun : (execOp a.eval o).run P c.w = .ok (.value (.pointer (some ⟨c.w.heap.size, 0, Option.none⟩))) (c.w.alloc (.cells vs.toArray t)) := by
    simp [execOp, hop, Instr.box, newVar, newRow, hvs]
  obtain ⟨h1, h2⟩ := add_ok p.ho hk (e := .blk (cellsV (ev Θ t sv x))) (b := c.w.heap.size) (u := Go.undef) (Mem.alloc (Mem.refl c) (.cells vs.toArray t)) (fun _ => Nat.le_refl _) (fun ht => by
    refine ⟨vs.toArray, t, by simpa [Cx.add] using heap_alloc_new c.w _, by simpa using hl.symm, fun i s v hs hv => ?_⟩
    obtain ⟨h3, h4⟩ := hd i s v hs (by simpa using hv)
    exact ⟨h3.trans ht p.ho, h4⟩)
  refine stp_value (c' := c.add nx (.blk (cellsV (ev Θ t sv x))) c.w.heap.size Go.undef (c.w.alloc (.cells vs.toArray t))) hrun ?_ h1 (fun id => rfl) (fun id => by simp [Cx.add]) h2
  exact .ptr _ _ _ (.inr rfl) rfl fun _ => by simp [Cx.add]
theorem load_blk (hty : tyOk P Θ = true) {t : TypeId} {ti : TI} (hti : Θ.get t = some ti) {c : Cx} {g off : Nat} {cs : List SV} (ho : HeapOk c) (he : c.en g = some (.blk cs)) :
    (isAgg ti.d = true → off + ti.size ≤ cs.length → ∃ v, (loadVar t ⟨c.b g, off, Option.none⟩).run P c.w = .ok v c.w ∧ Den c (.agg (takeN cs off ti.size)) v) ∧
    (isAgg ti.d = false → off < cs.length → ∃ v, (loadVar t ⟨c.b g, off, Option.none⟩).run P c.w = .ok v c.w ∧ Den c (lget cs off) v) := by
  obtain ⟨arr, e, hb, hl, hd⟩ := ho.ents g _ he
  have ra := (rowTy hty hti).isAgg_ c.w
  have rs := (rowTy hty hti).sizeOf_ c.w
  constructor
  · intro hagg hlen
    rw [hagg] at ra
    have hload := run_loadCells (P := P) c.w ⟨c.b g, off, Option.none⟩ ti.size (fun j => arr.getD (off + j) Go.undef) (fun j hj => by
      rw [add_mk, cell_of hb]
      have : off + j < arr.size := by omega
      simp [this])
    refine ⟨.agg ((List.range ti.size).map fun j => arr.getD (off + j) Go.undef).toArray, by simp [loadVar, ra, rs, hload], ?_⟩
    obtain ⟨t1, t2⟩ := takeN_spec cs off ti.size
    refine .agg _ _ (by simp [t1]) fun i s v hs hv => ?_
    have hi : i < ti.size := by
      rcases Nat.lt_or_ge i ti.size with h | h
      · exact h
      · rw [List.getElem?_eq_none (by rw [t1]; exact h)] at hs; cases hs
    rw [t2 i hi] at hs
    injection hs with hs
    subst hs
    have hi2 : off + i < arr.size := by omega
    simp [hi, hi2] at hv
    subst hv
    exact (hd (off + i) _ _ (lget_lt (by omega)) (by simp [hi2])).1
  · intro hagg hlen
    rw [hagg] at ra
    have hi2 : off < arr.size := by omega
    have hcell : c.w.cell? ⟨c.b g, off, Option.none⟩ = some arr[off] := by rw [cell_of hb]; simp [hi2]
    exact ⟨arr[off], by simp [loadVar, ra, hcell], (hd off _ _ (lget_lt hlen) (by simp [hi2])).1⟩
theorem load_stable (hty : tyOk P Θ = true) {t : TypeId} {ti : TI} (hti : Θ.get t = some ti) {c : Cx} {ad : Addr} {f : Nat → SV} {U : Nat → Value} {m : Nat}
    (hc : ∀ j, j < m → c.w.cell? (ad.add j) = some (U j)) (hd : ∀ j, j < m → DenG c.Z c.w (f j) (U j)) :
    (isAgg ti.d = true → ti.size ≤ m → ∃ v, (loadVar t ad).run P c.w = .ok v c.w ∧ Den c (.agg (tabN f 0 ti.size)) v) ∧
    (isAgg ti.d = false → 0 < m → ∃ v, (loadVar t ad).run P c.w = .ok v c.w ∧ Den c (f 0) v) := by
  have ra := (rowTy hty hti).isAgg_ c.w
  have rs := (rowTy hty hti).sizeOf_ c.w
  constructor
  · intro hagg hlen
    rw [hagg] at ra
    have hload := run_loadCells (P := P) c.w ad ti.size U (fun j hj => hc j (by omega))
    refine ⟨.agg ((List.range ti.size).map U).toArray, by simp [loadVar, ra, rs, hload], ?_⟩
    obtain ⟨t1, t2⟩ := tabN_spec f 0 ti.size
    refine .agg _ _ (by simp [t1]) fun i s v hs hv => ?_
    have hi : i < ti.size := by
      rcases Nat.lt_or_ge i ti.size with h | h
      · exact h
      · rw [List.getElem?_eq_none (by rw [t1]; exact h)] at hs; cases hs
    rw [t2 i hi] at hs
    injection hs with hs
    subst hs
    simp [hi] at hv
    subst hv
    simpa using Den.g (c := c) _ _ (hd i (by omega))
  · intro hagg hlen
    rw [hagg] at ra
    have hcell := hc 0 hlen
    rw [add_zero] at hcell
    exact ⟨U 0, by simp [loadVar, ra, hcell], .g _ _ (hd 0 hlen)⟩
end
end Go.Sx
