import Derived.Test.YtlphgonhenegoaaSxNest
import Derived.Laws.StructEq
namespace Go.Sx
section
variable {P : Program} {Θ : Tys} {R : Type} {sv : Nat → SV} {en : Nat → Option Ent} {nx : Nat} {r : R} {kf : Delta → Option R} {o : Oper}
theorem ls_nilCheck {x : Operand} (hop : o.op = .nilCheck x) (h : planK Θ o sv en nx kf = some r) : ∃ δ, kf δ = some r ∧ Local P o sv en nx δ := by
  have hx : x ∈ o.op.operands.toList := by simp [hop, Op.operands]
  simp only [planK, hop] at h
  cases hv : ev Θ 0 sv x <;> rw [hv] at h <;> simp only [reduceCtorEq] at h
  case ptr g off =>
    cases hg : en g with
    | none => rw [hg] at h; cases h
    | some e =>
      rw [hg] at h
      refine ⟨_, h, ids_same _ _ _, fun c a p => ?_⟩
      have he : c.en g = some e := (p.rd g (by simp)).trans hg
      have hd := opd (Θ := Θ) p 0 x hx
      rw [hv] at hd
      exact stp_same (v := a.eval x) p.ho (by simp [execOp, hop, hd.ptr_inv he]) hd
  case eptr m cl =>
    refine ⟨_, h, ids_same _ _ _, fun c a p => ?_⟩
    have hd := opd (Θ := Θ) p 0 x hx
    rw [hv] at hd
    obtain ⟨ad, U, he, _⟩ := hd.eptr_inv
    exact stp_same (v := a.eval x) p.ho (by simp [execOp, hop, he]) hd
  case wptr q s i off =>
    split at h
    · rename_i hg
      refine ⟨_, h, ids_same _ _ _, fun c a p => ?_⟩
      have he := (p.rd q (by simp)).trans hg
      have hd := opd (Θ := Θ) p 0 x hx
      rw [hv] at hd
      obtain ⟨_, _, _, _, _, hval⟩ := hd.wptr_inv he
      exact stp_same (v := a.eval x) p.ho (by simp [execOp, hop, hval]) hd
    · cases h
  case func f k caps =>
    refine ⟨_, h, ids_same _ _ _, fun c a p => ?_⟩
    have hd := opd (Θ := Θ) p 0 x hx
    rw [hv] at hd
    obtain ⟨vs, he, hy, _⟩ := hd.func_inv
    obtain ⟨g', x', y', hf, hg⟩ := fnVal_func (f := f) hy
    rw [hf] at he
    exact stp_same (v := a.eval x) p.ho (by rcases hg with rfl | ⟨l, rfl⟩ <;> simp [execOp, hop, he]) hd
theorem ibin_ok {op : BinOp} {k k' : IntKind} {n m : Int} {kg : SV → Option R} (hk : (isShift op || decide (k = k')) = true) (h : ibin op k n m kg = some r) :
    ∃ s v, kg s = some r ∧ (∀ w t, (binOp op t (.int k n) (.int k' m)).run P w = .ok v w) ∧ ∀ c, Den c s v := by
  have hkk : isShift op = false → k = k' := fun h' => by rw [h'] at hk; simpa using hk
  cases op <;> simp only [ibin] at h
  case add => have := hkk rfl; subst this; exact ⟨_, _, h, fun w t => by simp [binOp, Op.intArith], fun c => .g _ _ (.int _ _)⟩
  case sub => have := hkk rfl; subst this; exact ⟨_, _, h, fun w t => by simp [binOp, Op.intArith], fun c => .g _ _ (.int _ _)⟩
  case mul => have := hkk rfl; subst this; exact ⟨_, _, h, fun w t => by simp [binOp, Op.intArith], fun c => .g _ _ (.int _ _)⟩
  case quo =>
    have := hkk rfl; subst this
    cases hb : m == 0 <;> rw [hb] at h <;> simp only [cond_true, cond_false, reduceCtorEq] at h
    have hb : ¬ m = 0 := by simpa using hb
    exact ⟨_, _, h, fun w t => by simp [binOp, Op.intDiv, hb], fun c => .g _ _ (.int _ _)⟩
  case rem =>
    have := hkk rfl; subst this
    cases hb : m == 0 <;> rw [hb] at h <;> simp only [cond_true, cond_false, reduceCtorEq] at h
    have hb : ¬ m = 0 := by simpa using hb
    exact ⟨_, _, h, fun w t => by simp [binOp, Op.intDiv, hb], fun c => .g _ _ (.int _ _)⟩
  case and => have := hkk rfl; subst this; exact ⟨_, _, h, fun w t => by simp [binOp, Op.intBits], fun c => .g _ _ (.int _ _)⟩
  case or => have := hkk rfl; subst this; exact ⟨_, _, h, fun w t => by simp [binOp, Op.intBits], fun c => .g _ _ (.int _ _)⟩
  case xor => have := hkk rfl; subst this; exact ⟨_, _, h, fun w t => by simp [binOp, Op.intBits], fun c => .g _ _ (.int _ _)⟩
  case andNot => have := hkk rfl; subst this; exact ⟨_, _, h, fun w t => by simp [binOp, Op.intBits], fun c => .g _ _ (.int _ _)⟩
  case shl =>
    cases hb : decide (m < 0) <;> rw [hb] at h <;> simp only [cond_true, cond_false, reduceCtorEq] at h
    have hb : ¬ m < 0 := by simpa using hb
    exact ⟨_, _, h, fun w t => by simp [binOp, Op.shift, hb], fun c => .g _ _ (.int _ _)⟩
  case shr =>
    cases hb : decide (m < 0) <;> rw [hb] at h <;> simp only [cond_true, cond_false, reduceCtorEq] at h
    have hb : ¬ m < 0 := by simpa using hb
    exact ⟨_, _, h, fun w t => by simp [binOp, Op.shift, hb], fun c => .g _ _ (.int _ _)⟩
  case eql => have := hkk rfl; subst this; exact ⟨_, _, h, fun w t => by simp [binOp, Op.intCmp], fun c => .g _ _ (.bool _)⟩
  case neq => have := hkk rfl; subst this; exact ⟨_, _, h, fun w t => by simp [binOp, Op.intCmp], fun c => .g _ _ (.bool _)⟩
  case lss => have := hkk rfl; subst this; exact ⟨_, _, h, fun w t => by simp [binOp, Op.intCmp], fun c => .g _ _ (.bool _)⟩
  case leq => have := hkk rfl; subst this; exact ⟨_, _, h, fun w t => by simp [binOp, Op.intCmp], fun c => .g _ _ (.bool _)⟩
  case gtr => have := hkk rfl; subst this; exact ⟨_, _, h, fun w t => by simp [binOp, Op.intCmp], fun c => .g _ _ (.bool _)⟩
  case geq => have := hkk rfl; subst this; exact ⟨_, _, h, fun w t => by simp [binOp, Op.intCmp], fun c => .g _ _ (.bool _)⟩
theorem eqGuard_int (op : BinOp) (t : TypeId) (x y : Operand) (k k' : IntKind) (n m : Int) (w : World) : (eqGuard op t x y (.int k n) (.int k' m)).run P w = .ok () w := by
  cases op <;> simp [eqGuard]
theorem agg_vals {k : CK} {xs : List SV} (h : keyCells k xs = true) {c : Cx} {v : Value} (hd : Den c (.agg xs) v) : v = mkV true (xs.map kval) := by
  obtain ⟨vs, rfl, hl, hds⟩ := hd.agg_inv
  simp only [mkV, cond_true]
  congr 2
  refine List.ext_getElem? fun i => ?_
  rw [List.getElem?_map]
  cases hx : xs[i]? with
  | none =>
    have := List.getElem?_eq_none_iff.1 hx
    rw [List.getElem?_eq_none (by omega)]; rfl
  | some s =>
    have hi := (List.getElem?_eq_some_iff.1 hx).1
    have hy : vs[i]? = some vs[i] := List.getElem?_eq_getElem (by omega)
    rw [hy, keyCell_val (keyCells_at h hx) (hds i s _ hx hy)]; rfl
theorem eq_bool {t : TypeId} (hu : P.underlying t = some .bool) (a b : Bool) (w : World) : (Op.equal t (.bool a) (.bool b)).run P w = .ok (a == b) w := run_equalIn_bool' w 9999 t a b hu
theorem eqIn_nil_nil {t e : TypeId} (hu : P.underlying t = some (.slice e)) (d : Nat) (w : World) : (Op.equalIn (d + 1) t (.slice Option.none 0 0) (.slice Option.none 0 0)).run P w = .ok true w := by
  simp [Op.equalIn, run_underlying hu]
theorem eqIn_some_nil {t e : TypeId} (hu : P.underlying t = some (.slice e)) (d : Nat) (w : World) (a : Addr) (n c : Nat) : (Op.equalIn (d + 1) t (.slice (some a) n c) (.slice Option.none 0 0)).run P w = .ok false w := by
  simp [Op.equalIn, run_underlying hu]
theorem eq_nil_nil {t e : TypeId} (hu : P.underlying t = some (.slice e)) (w : World) : (Op.equal t (.slice Option.none 0 0) (.slice Option.none 0 0)).run P w = .ok true w := eqIn_nil_nil hu 9999 w
theorem eq_some_nil {t e : TypeId} (hu : P.underlying t = some (.slice e)) (w : World) (a : Addr) (n c : Nat) : (Op.equal t (.slice (some a) n c) (.slice Option.none 0 0)).run P w = .ok false w := eqIn_some_nil hu 9999 w a n c
theorem eqV_ok (hty : tyOk P Θ = true) {t : TypeId} {x y : SV} {kg : Bool → List Nat → Option R} (h : eqV Θ t en x y kg = some r) :
    ∃ b rd, kg b rd = some r ∧ ∀ (c : Cx) (vx vy : Value) (x' y' : Operand), HeapOk c → (∀ id ∈ rd, c.en id = en id) → Den c x vx → Den c y vy →
      (∀ w, (eqGuard .eql t x' y' vx vy).run P w = .ok () w ∧ (eqGuard .neq t x' y' vx vy).run P w = .ok () w) ∧
      (binOp .eql t vx vy).run P c.w = .ok (.bool b) c.w ∧ (binOp .neq t vx vy).run P c.w = .ok (.bool !b) c.w := by
  unfold eqV at h
  split at h
  · rename_i a b
    split at h
    · rename_i hg
      refine ⟨_, _, h, fun c vx vy x' y' ho hrd hx hy => ?_⟩
      rw [hx.bool_inv, hy.bool_inv]
      have hu := (rowTy hty hg).bool_
      have he := eq_bool hu a b c.w
      exact ⟨fun w => by simp [eqGuard], by simp [binOp, he], by simp [binOp, he]⟩
    · cases h
  · rename_i a b
    refine ⟨_, _, h, fun c vx vy x' y' ho hrd hx hy => ?_⟩
    rw [hx.str_inv, hy.str_inv]
    exact ⟨fun w => by simp [eqGuard], by simp [binOp, Op.stringOp], by simp [binOp, Op.stringOp]⟩
  · rename_i xs ys
    split at h
    · rename_i ti hg
      cases hb : (nestTy Θ 20 t && (isAgg ti.d && (keyCells (ckL ti.zero) xs && keyCells (ckL ti.zero) ys))) <;> rw [hb] at h <;> simp only [cond_true, cond_false, reduceCtorEq] at h
      simp only [Bool.and_eq_true] at hb
      obtain ⟨hn, hag, hkx, hky⟩ := hb
      obtain ⟨b, h1, h2⟩ := eqCells_spec hkx hky
      rw [h1] at h
      refine ⟨_, _, h, fun c vx vy x' y' ho hrd hx hy => ?_⟩
      rw [agg_vals hkx hx, agg_vals hky hy]
      obtain ⟨r', hr, hri⟩ := equalIn_nest hty 20 t hn 10000 (by omega) ti hg c.w xs ys hkx hky
      have hrb : r' = b := by
        cases r' <;> cases b <;> simp_all
      subst hrb
      rw [hag] at hr
      have hh2 : P.eqGuardType P.depth t = false := by
        have hrow := rowTy hty hg
        obtain ⟨d, size, by_, zero⟩ := ti
        cases d <;> simp [isAgg] at hag
        · obtain ⟨fields, hu, _⟩ := hrow.struct_
          exact (hrow.held fields hu).2
        · exact hrow.heldA _ _ hrow.arr_
      simp only [mkV, cond_true] at hr ⊢
      refine ⟨fun w => ⟨run_eqGuard_agg w .eql t x' y' _ _ hh2, run_eqGuard_agg w .neq t x' y' _ _ hh2⟩, ?_, ?_⟩
      · rw [run_eql_struct, hr]; rfl
      · rw [run_neq_struct, hr]; rfl
    · cases h
  · rename_i q _ _ _ _
    split at h
    · rename_i hg he0
      refine ⟨_, _, h, fun c vx vy x' y' ho hrd hx hy => ?_⟩
      have he : c.en q = _ := (hrd q (by simp)).trans he0
      obtain ⟨_, rfl⟩ := hy.slnil_inv
      rw [hx.row_inv he]
      have hu := (rowTy hty hg).slice_
      obtain ⟨_, ⟨rfl, _, h2⟩ | ⟨rfl, cap, arr, e, h2, _⟩⟩ := ho.ents q _ he
      · rw [h2]
        have he := eq_nil_nil hu c.w
        exact ⟨fun w => by simp [eqGuard], by simp [binOp, he], by simp [binOp, he]⟩
      · rw [h2]
        have he := fun n => eq_some_nil hu c.w ⟨c.b q, 0, Option.none⟩ n cap
        exact ⟨fun w => by simp [eqGuard], by simp [binOp, he], by simp [binOp, he]⟩
    · cases h
  · split at h
    · rename_i hg
      refine ⟨_, _, h, fun c vx vy x' y' ho hrd hx hy => ?_⟩
      obtain ⟨_, rfl⟩ := hy.slnil_inv
      obtain ⟨_, rfl⟩ := hx.slnil_inv
      have hu := (rowTy hty hg).slice_
      have he := eq_nil_nil hu c.w
      exact ⟨fun w => by simp [eqGuard], by simp [binOp, he], by simp [binOp, he]⟩
    · cases h
  · cases h
theorem ls_binOp (hty : tyOk P Θ = true) {op : BinOp} {t yt : TypeId} {x y : Operand} (hop : o.op = .binOp op t x y yt) (h : planK Θ o sv en nx kf = some r) : ∃ δ, kf δ = some r ∧ Local P o sv en nx δ := by
  have hx : x ∈ o.op.operands.toList := by simp [hop, Op.operands]
  have hy : y ∈ o.op.operands.toList := by simp [hop, Op.operands]
  simp only [planK, hop] at h
  split at h
  · rename_i k n k' m h1 h2
    cases hb : (isShift op || decide (k = k')) <;> rw [hb] at h <;> simp only [cond_true, cond_false, reduceCtorEq] at h
    obtain ⟨s, v, hs, hrun, hd⟩ := ibin_ok (P := P) hb h
    refine ⟨_, hs, ids_same _ _ _, fun c a p => ?_⟩
    have hdx := opd (Θ := Θ) p t x hx
    have hdy := opd (Θ := Θ) p yt y hy
    rw [h1] at hdx
    rw [h2] at hdy
    exact stp_same p.ho (by simp [execOp, hop, hdx.int_inv, hdy.int_inv, eqGuard_int, hrun]) (hd c)
  · rename_i hni
    split at h
    · obtain ⟨b, rd, hs, hh⟩ := eqV_ok (P := P) hty h
      refine ⟨_, hs, ids_same _ _ _, fun c a p => ?_⟩
      obtain ⟨h1, h2, _⟩ := hh c (a.eval x) (a.eval y) x y p.ho (fun id hid => p.rd id hid) (opd p t x hx) (opd p yt y hy)
      exact stp_same p.ho (by simp [execOp, hop, (h1 c.w).1, h2]) (.g _ _ (.bool _))
    · obtain ⟨b, rd, hs, hh⟩ := eqV_ok (P := P) hty h
      refine ⟨_, hs, ids_same _ _ _, fun c a p => ?_⟩
      obtain ⟨h1, _, h2⟩ := hh c (a.eval x) (a.eval y) x y p.ho (fun id hid => p.rd id hid) (opd p t x hx) (opd p yt y hy)
      exact stp_same p.ho (by simp [execOp, hop, (h1 c.w).2, h2]) (.g _ _ (.bool _))
    · cases h
theorem ls_unOp {op : UnOp} {t : TypeId} {x : Operand} (hop : o.op = .unOp op t x) (h : planK Θ o sv en nx kf = some r) : ∃ δ, kf δ = some r ∧ Local P o sv en nx δ := by
  have hx : x ∈ o.op.operands.toList := by simp [hop, Op.operands]
  simp only [planK, hop] at h
  split at h
  · rename_i k n h1
    refine ⟨_, h, ids_same _ _ _, fun c a p => ?_⟩
    have hdx := opd (Θ := Θ) p t x hx
    rw [h1] at hdx
    exact stp_same p.ho (by simp [execOp, hop, hdx.int_inv, Op.unary, Op.intArith]) (.g _ _ (.int _ _))
  · rename_i k n h1
    refine ⟨_, h, ids_same _ _ _, fun c a p => ?_⟩
    have hdx := opd (Θ := Θ) p t x hx
    rw [h1] at hdx
    exact stp_same p.ho (by simp [execOp, hop, hdx.int_inv, Op.unary, Op.intBits]) (.g _ _ (.int _ _))
  · rename_i b h1
    refine ⟨_, h, ids_same _ _ _, fun c a p => ?_⟩
    have hdx := opd (Θ := Θ) p t x hx
    rw [h1] at hdx
    exact stp_same p.ho (by simp [execOp, hop, hdx.bool_inv, Op.unary]) (.g _ _ (.bool _))
  · cases h
theorem ls_convert (hty : tyOk P Θ = true) {s d : TypeId} {x : Operand} (hop : o.op = .convert s d x) (h : planK Θ o sv en nx kf = some r) : ∃ δ, kf δ = some r ∧ Local P o sv en nx δ := by
  have hx : x ∈ o.op.operands.toList := by simp [hop, Op.operands]
  simp only [planK, hop] at h
  split at h
  · rename_i ti k _ _ _ k' n h1 h2 h3
    refine ⟨_, h, ids_same _ _ _, fun c a p => ?_⟩
    have hdx := opd (Θ := Θ) p s x hx
    rw [h3] at hdx
    obtain ⟨ds, hds, _⟩ := (rowTy hty h1).desc
    have hdd := (rowTy hty h2).int_
    exact stp_same p.ho (by simp [execOp, hop, hdx.int_inv, convert, run_underlying hds, run_underlying hdd, Conv.intToInt]) (.g _ _ (.int _ _))
  · cases h
theorem ls_makeFunc {f : FuncId} {first caps : Array Operand} (hop : o.op = .makeFunc (.func f) first caps) (h : planK Θ o sv en nx kf = some r) : ∃ δ, kf δ = some r ∧ Local P o sv en nx δ := by
  simp only [planK, hop] at h
  cases hb : ((first.toList.map (ev Θ 0 sv) ++ caps.toList.map (ev Θ 0 sv)).all capOk && Nat.blt first.toList.length yK) <;> rw [hb] at h <;> simp only [cond_true, cond_false, reduceCtorEq] at h
  have hk : first.toList.length ≠ yK := by
    simp only [Bool.and_eq_true, Nat.blt_eq] at hb
    omega
  refine ⟨_, h, ids_same _ _ _, fun c a p => ?_⟩
  have hv : (Value.func (.func f) (first.map a.eval) (caps.map a.eval)) = .func (.func f) ((first.toList.map a.eval ++ caps.toList.map a.eval).take first.toList.length).toArray ((first.toList.map a.eval ++ caps.toList.map a.eval).drop first.toList.length).toArray := by
    rw [List.take_left' (by simp), List.drop_left' (by simp)]
    simp [← Array.toList_map]
  refine stp_same (v := .func (.func f) (first.map a.eval) (caps.map a.eval)) p.ho (by simp [execOp, hop, Instr.makeFunc]) ?_
  rw [hv, ← fnVal_lt (f := f) hk]
  refine .func _ _ _ _ (by simp) (linkOk_lt hk) fun i s v hs hv => ?_
  rw [← List.map_append, List.getElem?_map, Option.map_eq_some_iff] at hs hv
  obtain ⟨y, hy1, rfl⟩ := hs
  obtain ⟨y', hy2, rfl⟩ := hv
  rw [hy1] at hy2
  injection hy2 with hy2
  subst hy2
  refine opd p 0 y ?_
  rw [hop]
  simp only [Op.operands, Array.toList_append]
  exact List.mem_of_getElem? hy1
theorem ls_extract {x : Operand} {i : Nat} (hop : o.op = .extract x i) (h : planK Θ o sv en nx kf = some r) : ∃ δ, kf δ = some r ∧ Local P o sv en nx δ := by
  have hx : x ∈ o.op.operands.toList := by simp [hop, Op.operands]
  simp only [planK, hop] at h
  split at h
  · rename_i vs h1
    cases hb : Nat.blt i vs.length <;> rw [hb] at h <;> simp only [cond_true, cond_false, reduceCtorEq] at h
    have hb : i < vs.length := by simpa [Nat.blt_eq] using hb
    refine ⟨_, h, ids_same _ _ _, fun c a p => ?_⟩
    have hdx := opd (Θ := Θ) p 0 x hx
    rw [h1] at hdx
    obtain ⟨us, he, hl, hd⟩ := hdx.tup_inv
    have hi : i < us.length := by omega
    exact stp_same (v := us[i]) p.ho (by simp [execOp, hop, he, Instr.extract, hi]) (hd i _ _ (lget_lt hb) (List.getElem?_eq_getElem hi))
  · cases h
theorem foffs_get {fields : List Field} {i : Nat} {off : Nat} {ft : TypeId} (h : foffs (fields.map fun f => (f.offset, f.type)) i = some (off, ft)) : ∃ f, fields[i]? = some f ∧ f.offset = off ∧ f.type = ft := by
  induction fields generalizing i with
  | nil => simp [foffs] at h
  | cons f fs ih =>
    cases i with
    | zero => simp [foffs] at h; exact ⟨f, rfl, h.1, h.2⟩
    | succ i => simp only [List.map_cons, foffs] at h; simpa using ih h
theorem ls_fieldAddr (hty : tyOk P Θ = true) {t : TypeId} {x : Operand} {fi : Nat} (hop : o.op = .fieldAddr t x fi) (h : planK Θ o sv en nx kf = some r) : ∃ δ, kf δ = some r ∧ Local P o sv en nx δ := by
  have hx : x ∈ o.op.operands.toList := by simp [hop, Op.operands]
  simp only [planK, hop] at h
  split at h
  · rename_i fs _ _ _ h1
    split at h
    · rename_i off ft h2
      split at h
      · rename_i tf h3
        cases hz : tf.size == 0 <;> rw [hz] at h <;> simp only [cond_true, cond_false, reduceCtorEq] at h
        have hz : tf.size ≠ 0 := by simpa using hz
        obtain ⟨fields, hu, hfs, hp⟩ := (rowTy hty h1).struct_
        subst hfs
        obtain ⟨f, hf1, rfl, rfl⟩ := foffs_get h2
        have rs := fun w => (rowTy hty h3).sizeOf_ w
        have hf1 : fields[fi]? = some f := by simpa using hf1
        have run : ∀ (w : World) (ad : Addr), (Instr.fieldAt t (.pointer (some ad)) fi).run P w = .ok (.pointer (some (ad.add f.offset))) w := fun w ad => by
          simp [Instr.fieldAt, run_underlying hu, hf1, Instr.sureAddr, fieldPlace, rs, hz]
        split at h
        · rename_i g o1 h4
          split at h
          · rename_i e he0
            refine ⟨_, h, ids_same _ _ _, fun c a p => ?_⟩
            have he : c.en g = some e := (p.rd g (by simp)).trans he0
            have hd := opd (Θ := Θ) p 0 x hx
            rw [h4] at hd
            refine stp_same (v := .pointer (some ⟨c.b g, o1 + f.offset, Option.none⟩)) p.ho (by simp [execOp, hop, hd.ptr_inv he, run, add_mk]) (.ptr _ _ _ hd.ptr_k rfl fun _ => rfl)
          · cases h
        · rename_i m cl h4
          cases hb : Nat.ble f.offset m <;> rw [hb] at h <;> simp only [cond_true, cond_false, reduceCtorEq] at h
          have hb : f.offset ≤ m := by simpa using hb
          refine ⟨_, h, ids_same _ _ _, fun c a p => ?_⟩
          have hd := opd (Θ := Θ) p 0 x hx
          rw [h4] at hd
          obtain ⟨ad, U, he, hz', hc, hdd⟩ := hd.eptr_inv
          refine stp_same (v := .pointer (some (ad.add f.offset))) p.ho (by simp [execOp, hop, he, run]) (.g _ _ (.eptr _ _ _ (fun j => U (f.offset + j)) (fun hm => ?_) (fun j hj => ?_) (fun j hj => hdd _ (by omega))))
          · rw [add_block]; exact hz' (by omega)
          · rw [add_add]; exact hc _ (by omega)
        · rename_i q s i o1 h4
          split at h
          · rename_i he0
            refine ⟨_, h, ids_same _ _ _, fun c a p => ?_⟩
            have he := (p.rd q (by simp)).trans he0
            have hd := opd (Θ := Θ) p 0 x hx
            rw [h4] at hd
            obtain ⟨fl, n, cl, hent, hi, hval⟩ := hd.wptr_inv he
            refine stp_same (v := .pointer (some ⟨c.b q, i * s + (o1 + f.offset), Option.none⟩)) p.ho (by simp [execOp, hop, hval, run, add_mk, Nat.add_assoc]) (.wptr _ _ _ _ _ hd.wptr_k rfl fun e' he' => ?_)
            rw [he] at he'
            injection he' with he'
            subst he'
            exact .inl ⟨fl, n, cl, hent, hi, rfl⟩
          · cases h
        · cases h
      · cases h
    · cases h
  · cases h
theorem ls_field (hty : tyOk P Θ = true) {t : TypeId} {x : Operand} {fi : Nat} (hop : o.op = .field t x fi) (h : planK Θ o sv en nx kf = some r) : ∃ δ, kf δ = some r ∧ Local P o sv en nx δ := by
  have hx : x ∈ o.op.operands.toList := by simp [hop, Op.operands]
  simp only [planK, hop] at h
  split at h
  · rename_i fs _ _ _ h1
    split at h
    · rename_i off ft h2
      split at h
      · rename_i tf cs h3 h4
        obtain ⟨fields, hu, hfs, hp⟩ := (rowTy hty h1).struct_
        subst hfs
        obtain ⟨f, hf1, rfl, rfl⟩ := foffs_get h2
        have rs := fun w => (rowTy hty h3).sizeOf_ w
        have ra := fun w => (rowTy hty h3).isAgg_ w
        have hf1 : fields[fi]? = some f := by simpa using hf1
        cases hagg : isAgg tf.d <;> rw [hagg] at h <;> simp only [cond_true, cond_false] at h
        · cases hb : Nat.blt f.offset cs.length <;> rw [hb] at h <;> simp only [cond_true, cond_false, reduceCtorEq] at h
          have hb : f.offset < cs.length := by simpa [Nat.blt_eq] using hb
          refine ⟨_, h, ids_same _ _ _, fun c a p => ?_⟩
          have hd := opd (Θ := Θ) p t x hx
          rw [h4] at hd
          obtain ⟨vs, he, hl, hdd⟩ := hd.agg_inv
          have hi : f.offset < vs.length := by omega
          rw [hagg] at ra
          exact stp_same (v := vs[f.offset]) p.ho (by simp [execOp, hop, he, Instr.field, run_underlying hu, hf1, asAgg, part, ra, hi]) (hdd _ _ _ (lget_lt hb) (List.getElem?_eq_getElem hi))
        · cases hb : Nat.ble (f.offset + tf.size) cs.length <;> rw [hb] at h <;> simp only [cond_true, cond_false, reduceCtorEq] at h
          have hb : f.offset + tf.size ≤ cs.length := by simpa using hb
          refine ⟨_, h, ids_same _ _ _, fun c a p => ?_⟩
          have hd := opd (Θ := Θ) p t x hx
          rw [h4] at hd
          obtain ⟨vs, he, hl, hdd⟩ := hd.agg_inv
          rw [hagg] at ra
          obtain ⟨t1, t2⟩ := takeN_spec cs f.offset tf.size
          refine stp_same (v := .agg ((vs.drop f.offset).take tf.size).toArray) p.ho ?_ (.agg _ _ (by simp [t1]; omega) fun i s v hs hv => ?_)
          · simp [execOp, hop, he, Instr.field, run_underlying hu, hf1, asAgg, part, ra, rs]
          · have hi : i < tf.size := by
              rcases Nat.lt_or_ge i tf.size with h | h
              · exact h
              · rw [List.getElem?_eq_none (by rw [t1]; exact h)] at hs; cases hs
            rw [t2 i hi] at hs
            injection hs with hs
            subst hs
            rw [List.getElem?_take, if_pos hi, List.getElem?_drop] at hv
            exact hdd _ _ _ (lget_lt (by omega)) hv
      · cases h
    · cases h
  · cases h
theorem ls_indexAddr (hty : tyOk P Θ = true) {t : TypeId} {x y : Operand} (hop : o.op = .indexAddr t x y) (h : planK Θ o sv en nx kf = some r) : ∃ δ, kf δ = some r ∧ Local P o sv en nx δ := by
  have hx : x ∈ o.op.operands.toList := by simp [hop, Op.operands]
  have hy : y ∈ o.op.operands.toList := by simp [hop, Op.operands]
  simp only [planK, hop] at h
  split at h
  · rename_i e _ _ _ h1
    split at h
    · rename_i te h2
      have hu := (rowTy hty h1).slice_
      have rs := fun w => (rowTy hty h2).sizeOf_ w
      have run : ∀ (w : World) (ad : Addr) (n cap : Nat) (k : IntKind) (z : Int), 0 ≤ z → z < n → (Instr.indexAt t (.slice (some ad) n cap) (.int k z)).run P w = .ok (.pointer (some (ad.add (z.toNat * te.size)))) w := fun w ad n cap k z h0 h1 => by
        simp [Instr.indexAt, asIntOf, run_underlying hu, rs, h0, h1]
      split at h
      · rename_i fl size n cl k z h3 h4
        cases hs : size == te.size <;> rw [hs] at h <;> simp only [cond_true, cond_false, reduceCtorEq] at h
        have hs : size = te.size := by simpa using hs
        subst hs
        cases hb : (decide (0 ≤ z) && decide (z < (n : Int))) <;> rw [hb] at h <;> simp only [cond_true, cond_false, reduceCtorEq] at h
        simp at hb
        refine ⟨_, h, ids_same _ _ _, fun c a p => ?_⟩
        have hd := opd (Θ := Θ) p t x hx
        have hdi := opd (Θ := Θ) p 0 y hy
        rw [h3] at hd
        rw [h4] at hdi
        obtain ⟨aa, cap, U, he, hcap, hfl, hz, hc, hdd⟩ := hd.sl_inv
        obtain ⟨ad, rfl, hzz⟩ := hz (by omega)
        have hi : z.toNat < n := by omega
        refine stp_same (v := .pointer (some (ad.add (z.toNat * te.size)))) p.ho (by simp [execOp, hop, he, hdi.int_inv, run c.w ad n cap k z hb.1 hb.2]) (.g _ _ (.eptr _ _ _ (fun j => U z.toNat j) (fun _ => ?_) (fun j hj => ?_) (fun j hj => by rw [reC_eq (hfl _ j hi hj)]; exact hdd _ j hi hj)))
        · rw [add_block]; exact hzz
        · rw [add_add]; exact hc ad rfl _ j hi hj
      · rename_i q k z h3 h4
        split at h
        · rename_i nl fl size n cl he0
          cases hs : size == te.size <;> rw [hs] at h <;> simp only [cond_true, cond_false, reduceCtorEq] at h
          have hs : size = te.size := by simpa using hs
          subst hs
          cases hb : (decide (0 ≤ z) && decide (z < (n : Int))) <;> rw [hb] at h <;> simp only [cond_true, cond_false, reduceCtorEq] at h
          simp at hb
          refine ⟨_, h, ids_same _ _ _, fun c a p => ?_⟩
          have he : c.en q = some _ := (p.rd q (by simp)).trans he0
          have hd := opd (Θ := Θ) p t x hx
          have hdi := opd (Θ := Θ) p 0 y hy
          rw [h3] at hd
          rw [h4] at hdi
          obtain ⟨_, ⟨_, h5, _⟩ | ⟨rfl, cap, arr, et, h5, _⟩⟩ := p.ho.ents q _ he
          · omega
          · have hv := hd.row_inv he
            rw [h5] at hv
            refine stp_same (v := .pointer (some ⟨c.b q, z.toNat * te.size, Option.none⟩)) p.ho (by simp [execOp, hop, hv, hdi.int_inv, run c.w _ n cap k z hb.1 hb.2, add_mk]) (.wptr _ _ _ _ _ hd.row_k rfl fun e' he' => ?_)
            rw [he] at he'
            injection he' with he'
            subst he'
            exact .inl ⟨_, _, _, rfl, by omega, rfl⟩
        · cases h
      · cases h
    · cases h
  · cases h
end
end Go.Sx
