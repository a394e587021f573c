import Derived.Test.YtlikcijophbkbaaSxOps7
namespace Go.Sx
theorem mkV_inj {c : CK} {ag : Bool} (h1 : ag = false → ckLen c = 1) {xs ys : List SV} (hx : keyCells c xs = true) (hy : keyCells c ys = true) (h : mkV ag (xs.map kval) = mkV ag (ys.map kval)) : xs = ys := by
  refine kvals_inj hx hy ?_
  cases ag with
  | true => simpa [mkV] using h
  | false =>
    have l1 := keyCells_len hx
    have l2 := keyCells_len hy
    rw [h1 rfl] at l1 l2
    obtain ⟨a, rfl⟩ := List.length_eq_one_iff.1 l1
    obtain ⟨b, rfl⟩ := List.length_eq_one_iff.1 l2
    simpa [mkV] using h
theorem fits_val {c : Cx} {ag : Bool} {fk : CK} {s : SV} {v : Value} (h : fits ag fk s = true) (hd : Den c s v) : keyCells fk (cellsV s) = true ∧ v = mkV ag ((cellsV s).map kval) := by
  by_cases ha : ∃ cs, s = .agg cs
  · obtain ⟨cs, rfl⟩ := ha
    simp only [fits, Bool.and_eq_true] at h
    obtain ⟨rfl, h⟩ := h
    exact ⟨h, agg_vals h hd⟩
  · have hc : cellsV s = [s] := by cases s <;> first | rfl | exact absurd ⟨_, rfl⟩ ha
    have hf : fits ag fk s = (!ag && keyCells fk [s]) := by cases s <;> first | rfl | exact absurd ⟨_, rfl⟩ ha
    rw [hf, Bool.and_eq_true] at h
    obtain ⟨ha', h⟩ := h
    have ha' : ag = false := by simpa using ha'
    subst ha'
    rw [hc]
    refine ⟨h, ?_⟩
    simp only [mkV, cond_false, List.map_cons, List.headD_cons]
    exact keyCell_val (keyCells_at h (i := 0) rfl) hd
theorem reC_key {a : CK} {s : SV} (h : keyCell a s = true) : reC a s = s := by
  cases a <;> cases s <;> simp [keyCell] at h <;> simp [reC, toI, toB, toS, *]
theorem lookK_den {c : Cx} {ag : Bool} {fv : CK} {g : Nat → SV} {vc : List SV} (h : keyCells fv vc = true) (hg : ∀ j s, vc[j]? = some s → g j = s) (h1 : ag = false → ckLen fv = 1) : Den c (lookK ag fv g) (mkV ag (vc.map kval)) := by
  have hl := keyCells_len h
  have hj : ∀ j (hj : j < vc.length), reC (ckAt fv j) (g j) = vc[j] := fun j hj => by
    have hs : vc[j]? = some vc[j] := List.getElem?_eq_getElem hj
    rw [hg j _ hs]
    exact reC_key (keyCells_at h hs)
  cases ag with
  | true =>
    simp only [lookK, cond_true, mkV]
    obtain ⟨t1, t2⟩ := tabN_spec (fun j => reC (ckAt fv j) (g j)) 0 (ckLen fv)
    refine .agg _ _ (by rw [t1]; simp [hl]) fun i s v hs hv => ?_
    have hi : i < ckLen fv := by
      have := (List.getElem?_eq_some_iff.1 hs).1
      rwa [t1] at this
    rw [t2 i hi, Nat.zero_add, hj i (by omega)] at hs
    injection hs with hs
    subst hs
    rw [List.getElem?_map, List.getElem?_eq_getElem (by omega)] at hv
    simp only [Option.map_some, Option.some.injEq] at hv
    subst hv
    exact .g _ _ (keyCell_den (keyCells_at h (List.getElem?_eq_getElem (by omega))) _ _)
  | false =>
    have := h1 rfl
    have h0 := hj 0 (by omega)
    simp only [lookK, cond_false, mkV]
    rw [h0]
    have h2 : (vc.map kval).headD Go.undef = kval (vc[0]'(by omega)) := by
      cases vc with
      | nil => simp at hl; omega
      | cons a l => rfl
    rw [h2]
    exact .g _ _ (keyCell_den (keyCells_at h (List.getElem?_eq_getElem (by omega))) _ _)
theorem MapOk.none {k : MK} (h : flatL k.fv = true) : MapOk k noH (noG k.fv) [] where
  own := fun e he => by cases he
  apart := .nil
  get := fun kc hk => by
    obtain ⟨h1, h2⟩ := flat_zeros h
    refine ⟨_, h1, fun j s hs => ?_, .inl ⟨rfl, rfl⟩⟩
    have hj : j < ckLen k.fv := by rw [← keyCells_len h1]; exact (List.getElem?_eq_some_iff.1 hs).1
    rw [h2 j hj] at hs
    injection hs
theorem MapOk.one {k : MK} {hs : List SV → Bool} {gt : List SV → Nat → SV} {es : List MapEntry} (h : MapOk k hs gt es) {e e' : MapEntry} (he : e ∈ es) (he' : e' ∈ es) (hk : e.key = e'.key) : e = e' := by
  have := h.apart
  clear h
  induction es with
  | nil => cases he
  | cons a l ih =>
    obtain ⟨h1, h2⟩ := List.pairwise_cons.1 this
    rcases List.mem_cons.1 he with rfl | he1 <;> rcases List.mem_cons.1 he' with rfl | he1'
    · rfl
    · exact absurd hk (h1 _ he1')
    · exact absurd hk.symm (h1 _ he1)
    · exact ih he1 he1' h2
theorem MapOk.put {k : MK} {hs : List SV → Bool} {gt : List SV → Nat → SV} {es es' : List MapEntry} (h : MapOk k hs gt es) (h1 : k.ka = false → ckLen k.fk = 1) {xs vs : List SV} (hx : keyCells k.fk xs = true) (hv : keyCells k.fv vs = true)
    (hin : ∀ e ∈ es', e ∈ es ∨ e.key = mkV k.ka (xs.map kval)) (hap : es'.Pairwise (fun a b => a.key ≠ b.key)) (hold : ∀ e ∈ es, e.key ≠ mkV k.ka (xs.map kval) → e ∈ es')
    (hnew : ∃ e ∈ es', e.key = mkV k.ka (xs.map kval) ∧ e.val = mkV k.va (vs.map kval)) : MapOk k (putH xs hs) (putG xs vs gt) es' where
  own := fun e he => by
    rcases hin e he with h2 | h2
    · obtain ⟨kc, q1, q2, q3⟩ := h.own e h2
      exact ⟨kc, q1, q2, by simp [putH, q3]⟩
    · exact ⟨xs, hx, h2, by simp [putH, (keyEq_iff hx hx).2 rfl]⟩
  apart := hap
  get := fun kc hk => by
    by_cases he : kc = xs
    · subst he
      have hb := (keyEq_iff hk hk).2 rfl
      obtain ⟨e, q1, q2, q3⟩ := hnew
      exact ⟨vs, hv, fun j s hs => by simp [putG, hb, lget_some hs], .inr ⟨by simp [putH, hb], e, q1, q2, q3⟩⟩
    · have hb : keyEq kc xs = false := by
        cases hb : keyEq kc xs with
        | false => rfl
        | true => exact absurd ((keyEq_iff hk hx).1 hb) he
      obtain ⟨vc, q1, q2, q3⟩ := h.get kc hk
      refine ⟨vc, q1, fun j s hs => by simp [putG, hb, q2 j s hs], ?_⟩
      rcases q3 with ⟨a1, a2⟩ | ⟨a1, e, a2, a3, a4⟩
      · exact .inl ⟨by simp [putH, hb, a1], a2⟩
      · refine .inr ⟨by simp [putH, a1], e, hold e a2 fun hke => he ?_, a3, a4⟩
        exact mkV_inj h1 hk hx (a3.symm.trans hke)
theorem Mem.setObj {c : Cx} {id : Nat} {e : Ent} (he : c.en id = some e) (hh : has e = true) (o : Obj) : Mem c (fun k => k = c.b id) { c.w with heap := c.w.heap.setIfInBounds (c.b id) o } :=
  ⟨rfl, rfl, rfl, by simp, fun k _ ht => by
    have : c.b id ≠ k := fun h => ht h.symm
    simp [this], fun k hk => ⟨id, e, he, hk ▸ ow_b hh⟩⟩
section
variable {P : Program} {Θ : Tys} {R : Type} {sv : Nat → SV} {en : Nat → Option Ent} {nx : Nat} {r : R} {kf : Delta → Option R} {o : Oper}
theorem mkEq_inv {k : MK} {tk te : TI} (h : mkEq k tk te = true) : k = mkOf tk te := by
  obtain ⟨ka, va, fk, fv⟩ := k
  simp only [mkEq, Bool.and_eq_true, beq_iff_eq] at h
  obtain ⟨⟨rfl, rfl⟩, h1, h2⟩ := h
  have h1 := ckEq_eq h1
  have h2 := ckEq_eq h2
  subst h1 h2
  rfl
theorem ls_makeMap (hty : tyOk P Θ = true) {t : TypeId} (hop : o.op = .makeMap t Option.none) (h : planM Θ o sv en nx kf = some r) : ∃ δ, kf δ = some r ∧ Local P o sv en nx δ := by
  simp only [planM, hop] at h
  split at h
  · rename_i kt et _ _ _ h1
    split at h
    · rename_i tk te h2 h3
      cases hb : (nestTy Θ 20 kt && nestTy Θ 20 et) <;> rw [hb] at h <;> simp only [cond_true, cond_false, reduceCtorEq] at h
      rw [Bool.and_eq_true] at hb
      refine ⟨_, h, ⟨fun id hid => .inr (by simp at hid; subst hid; exact ⟨Nat.le_refl _, Nat.lt_succ_self _⟩), Nat.le_succ _⟩, fun c a p => ?_⟩
      have hk : ¬ c.K nx := p.fresh nx (by simp) (Nat.le_refl _)
      have hrun : (execOp a.eval o).run P c.w = .ok (.value (.map (some c.w.heap.size))) (c.w.alloc (.map #[] 0)) := by
        simp only [execOp, hop]; rfl
      have one : ∀ {t : TypeId} {ti : TI}, nestTy Θ 20 t = true → Θ.get t = some ti → isAgg ti.d = false → ckLen (ckL ti.zero) = 1 := fun hn ht hg => by
        rw [ckLen_L, (rowTy hty ht).zlen]; exact nest_one hty hn ht hg
      obtain ⟨h4, h5⟩ := add_ok p.ho hk (e := .mp (mkOf tk te) noH (noG (ckL te.zero))) (b := c.w.heap.size) (u := .map (some c.w.heap.size)) (Mem.alloc (Mem.refl c) (.map #[] 0)) (fun _ => Nat.le_refl _) (fun _ => by
        refine ⟨#[], 0, by simp [Cx.add], by simpa [Cx.add] using heap_alloc_new c.w _, MapOk.none (k := mkOf tk te) (nest_flat 20 et hb.2 te h3), one hb.1 h2, one hb.2 h3⟩)
      refine stp_value hrun ?_ h4 (fun id => rfl) (fun id => by simp [Cx.add]) h5
      exact .row _ _ (.inr rfl) rfl fun _ => by simp [Cx.add]
    · cases h
  · cases h
theorem ls_lookup (hty : tyOk P Θ = true) {t : TypeId} {x i : Operand} {ok : Bool} (hop : o.op = .lookup t x i ok) (h : planM Θ o sv en nx kf = some r) : ∃ δ, kf δ = some r ∧ Local P o sv en nx δ := by
  have hx : x ∈ o.op.operands.toList := by simp [hop, Op.operands]
  have hi : i ∈ o.op.operands.toList := by simp [hop, Op.operands]
  simp only [planM, hop] at h
  split at h
  · rename_i kt et _ _ _ h1
    split at h
    · rename_i tk te q h2 h3 h4
      split at h
      · rename_i k hs gt he0
        cases hb : (mkEq k tk te && (nestTy Θ 20 kt && (nestTy Θ 20 et && fits k.ka k.fk (ev Θ kt sv i)))) <;> rw [hb] at h <;> simp only [cond_true, cond_false, reduceCtorEq] at h
        simp only [Bool.and_eq_true] at hb
        obtain ⟨hmk, hnk, hne, hfit⟩ := hb
        have hmk := mkEq_inv hmk
        subst hmk
        refine ⟨_, h, ids_same _ _ _, fun c a p => ?_⟩
        have hdm := opd (Θ := Θ) p t x hx
        have hdk := opd (Θ := Θ) p kt i hi
        rw [h4] at hdm
        have he : c.en q = some (.mp (mkOf tk te) hs gt) := (p.rd q (by simp)).trans he0
        obtain ⟨es, clock, hu, hblk, hm, o1, o2⟩ := p.ho.ents q _ he
        obtain ⟨hkc, hkv⟩ := fits_val hfit hdk
        have hum := (rowTy hty h1).map_
        generalize hxs : cellsV (ev Θ kt sv i) = xs at *
        have hck := checkKey_nest hty es.isEmpty 20 kt hnk 10000 (by omega) tk h2 c.w xs hkc
        have hfk := findKey_nest hty (n := 20) (by omega) hnk h2 hkc c.w es.toList (fun e he => by
          obtain ⟨kc, q1, q2, _⟩ := hm.own e he
          exact ⟨kc, q1, q2⟩)
        obtain ⟨vc, v1, v2, v3⟩ := hm.get xs hkc
        have hlook := lookK_den (c := c) (ag := (mkOf tk te).va) v1 v2 o2
        have hmv : a.eval x = .map (some (c.b q)) := (hdm.row_inv he).trans hu
        have hkv' : a.eval i = mkV (isAgg tk.d) (xs.map kval) := hkv
        have fin : ∀ (b : Bool), hs xs = b → (execOp a.eval o).run P c.w = .ok (.value (if ok then .tuple #[mkV (mkOf tk te).va (vc.map kval), .bool b] else mkV (mkOf tk te).va (vc.map kval))) c.w →
            Stp P o c a ⟨bif ok then .tup [lookK (mkOf tk te).va (mkOf tk te).fv (gt xs), .bool (hs xs)] else lookK (mkOf tk te).va (mkOf tk te).fv (gt xs), [], [q], nx⟩ := fun b hb hrun => by
          refine stp_same p.ho hrun ?_
          cases ok with
          | false => exact hlook
          | true =>
            refine .tup _ [_, _] rfl fun j s v hs hv => ?_
            match j, hs, hv with
            | 0, hs, hv => simp at hs hv; subst hs hv; exact hlook
            | 1, hs, hv => simp at hs hv; subst hs hv; rw [hb]; exact .g _ _ (.bool _)
            | j + 2, hs, _ => simp at hs
        rcases hfk with ⟨f1, f2⟩ | ⟨j, e, f1, f2, f3⟩
        · have hno : hs xs = false := by
            rcases v3 with ⟨b1, _⟩ | ⟨_, e, b2, b3, _⟩
            · exact b1
            · exact absurd b3 (f2 e b2)
          have hvc : vc = zerosOf (ckL te.zero) := by
            rcases v3 with ⟨_, b1⟩ | ⟨b1, _⟩
            · exact b1
            · rw [hno] at b1; cases b1
          have hzero : (zeroValue et).run P c.w = .ok (mkV (isAgg te.d) (vc.map kval)) c.w := by
            obtain ⟨ii, z, hi1, _, _, hz, hzs, _, _, hag, hon⟩ := (rowTy hty h3).info
            have hcs := zeros_cells hzs (nest_flat 20 et hne te h3)
            rw [hvc, ← hcs]
            have : z = mkV (isAgg te.d) z.cells.toList := by
              cases hg : isAgg te.d with
              | true => obtain ⟨cs, rfl⟩ := hag hg; simp [mkV, Value.cells]
              | false =>
                have := hon hg
                cases z <;> first | rfl | simp [Sx.one] at this
            rw [← this]
            simp [zeroValue, typeInfo, hi1, hz]
          refine fin false hno ?_
          simp only [execOp, hop, hmv, hkv', Instr.lookup, Sem.run_bind, run_underlying hum, Result.andThen_ok, MapKept.run_getObj_map hblk, Sem.run_pure, hck, f1, hzero]
          cases ok <;> simp [mkOf]
        · have hmem : e ∈ es.toList := List.mem_of_getElem? f2
          obtain ⟨kc, g1, g2, g3⟩ := hm.own e hmem
          have hkc' : kc = xs := mkV_inj o1 g1 hkc (g2.symm.trans f3)
          subst hkc'
          have hval : e.val = mkV (mkOf tk te).va (vc.map kval) := by
            rcases v3 with ⟨b1, _⟩ | ⟨_, e', b2, b3, b4⟩
            · rw [g3] at b1; cases b1
            · have := hm.one hmem b2 (f3.trans b3.symm)
              subst this
              exact b4
          refine fin true g3 ?_
          simp only [execOp, hop, hmv, hkv', Instr.lookup, Sem.run_bind, run_underlying hum, Result.andThen_ok, MapKept.run_getObj_map hblk, Sem.run_pure, hck, f1, hval]
      · cases h
    · cases h
  · cases h
theorem setM_ok (hty : tyOk P Θ = true) {t : TypeId} {m i v : Operand} {mt kt' et' : TypeId} (hop : o.op = .mapUpdate t m i v ∨ o.op = .insert t m i v)
    (hkt : ∀ kt et a b z, Θ.get t = some ⟨.map kt et, a, b, z⟩ → kt' = kt ∧ et' = et) (h : setM Θ t (ev Θ mt sv m) (ev Θ kt' sv i) (ev Θ et' sv v) en nx kf = some r) : ∃ δ, kf δ = some r ∧ Local P o sv en nx δ := by
  have hops : m ∈ o.op.operands.toList ∧ i ∈ o.op.operands.toList ∧ v ∈ o.op.operands.toList := by rcases hop with hop | hop <;> simp [hop, Op.operands]
  unfold setM at h
  split at h
  · rename_i kt et _ _ _ h1
    obtain ⟨rfl, rfl⟩ := hkt _ _ _ _ _ h1
    split at h
    · rename_i tk te q h2 h3 h4
      split at h
      · rename_i k hs gt he0
        cases hb : (mkEq k tk te && (nestTy Θ 20 kt' && (fits k.ka k.fk (ev Θ kt' sv i) && fits k.va k.fv (ev Θ et' sv v)))) <;> rw [hb] at h <;> simp only [cond_true, cond_false, reduceCtorEq] at h
        simp only [Bool.and_eq_true] at hb
        obtain ⟨hmk, hnk, hfit, hfitv⟩ := hb
        have hmk := mkEq_inv hmk
        subst hmk
        refine ⟨_, h, ⟨fun id hid => .inl (by simpa using hid), Nat.le_refl _⟩, fun c a p => ?_⟩
        have hdm := opd (Θ := Θ) p mt m hops.1
        have hdk := opd (Θ := Θ) p kt' i hops.2.1
        have hdv := opd (Θ := Θ) p et' v hops.2.2
        rw [h4] at hdm
        have he : c.en q = some (.mp (mkOf tk te) hs gt) := (p.rd q (by simp)).trans he0
        obtain ⟨es, clock, hu, hblk, hm, o1, o2⟩ := p.ho.ents q _ he
        obtain ⟨hkc, hkv⟩ := fits_val hfit hdk
        obtain ⟨hvc, hvv⟩ := fits_val hfitv hdv
        have hum := (rowTy hty h1).map_
        generalize hxs : cellsV (ev Θ kt' sv i) = xs at *
        generalize hvs : cellsV (ev Θ et' sv v) = vs at *
        have hck := checkKey_nest hty false 20 kt' hnk 10000 (by omega) tk h2 c.w xs hkc
        have hfk := findKey_nest hty (n := 20) (by omega) hnk h2 hkc c.w es.toList (fun e he => by
          obtain ⟨kc, q1, q2, _⟩ := hm.own e he
          exact ⟨kc, q1, q2⟩)
        have hmv : a.eval m = .map (some (c.b q)) := (hdm.row_inv he).trans hu
        have hkv' : a.eval i = mkV (isAgg tk.d) (xs.map kval) := hkv
        have hlt : c.b q < c.w.heap.size := (Array.getElem?_eq_some_iff.1 hblk).1
        have fin : ∀ (es' : Array MapEntry) (clock' : Nat), (Instr.mapUpdate t (a.eval m) (a.eval i) (a.eval v)).run P c.w = .ok () { c.w with heap := c.w.heap.setIfInBounds (c.b q) (.map es' clock') } →
            MapOk (mkOf tk te) (putH xs hs) (putG xs vs gt) es'.toList → Stp P o c a ⟨.none, [(q, some (.mp (mkOf tk te) (putH xs hs) (putG xs vs gt)))], [q], nx⟩ := fun es' clock' hrun hm' => by
          obtain ⟨k1, k2⟩ := set_ok p.ho (e := .mp (mkOf tk te) (putH xs hs) (putG xs vs gt)) he rfl rfl (Mem.setObj he rfl (.map es' clock')) (fun _ => ⟨es', clock', hu, by simp [Cx.set, hlt], hm', o1, o2⟩)
          refine stp_skip (c' := c.set q _ _) ?_ rfl k1 (fun id => rfl) (fun id => ?_) k2
          · rcases hop with hop | hop <;> simp [execOp, hop, hrun, Cx.set]
          · simp only [List.map_cons, List.map_nil, List.mem_singleton]
            exact ⟨fun h => .inl h, fun h => h.elim (fun h => h) (fun h => h ▸ p.ho.lt q _ he)⟩
        rcases hfk with ⟨f1, f2⟩ | ⟨j, e, f1, f2, f3⟩
        · refine fin (es.push { key := a.eval i, val := a.eval v, born := clock }) (clock + 1) ?_ (hm.put o1 hkc hvc (fun e he => ?_) ?_ (fun e he _ => ?_) ⟨{ key := a.eval i, val := a.eval v, born := clock }, by simp, hkv, hvv⟩)
          · rw [hmv]
            simp only [Instr.mapUpdate, Sem.run_bind, run_underlying hum, Result.andThen_ok, MapKept.run_getObj_map hblk, hkv', hck, f1]
            exact MapKept.run_setObj_map _ hblk
          · simp at he
            rcases he with he | rfl
            · exact .inl (by simpa using he)
            · exact .inr hkv
          · rw [Array.toList_push, List.pairwise_append]
            refine ⟨hm.apart, by simp, fun x hx y hy => ?_⟩
            simp at hy
            subst hy
            rw [hkv']
            exact f2 x hx
          · simp at he ⊢
            exact .inl he
        · have hj : j < es.size := by have := (List.getElem?_eq_some_iff.1 f2).1; simpa using this
          have hej : es[j] = e := by
            have := f2
            simp [hj] at this
            exact this
          have hmod : (es.modify j fun e => { e with key := a.eval i, val := a.eval v }).toList = es.toList.set j { e with key := a.eval i, val := a.eval v } := by
            rw [Array.toList_modify]
            refine List.ext_getElem? fun n => ?_
            rw [List.getElem?_modify, List.getElem?_set]
            by_cases hn : j = n
            · subst hn
              have hl : j < es.toList.length := by simpa using hj
              rw [f2, if_pos rfl, if_pos hl]; simp
            · rw [if_neg hn]; simp [hn]
          refine fin (es.modify j fun e => { e with key := a.eval i, val := a.eval v }) clock ?_ ?_
          · rw [hmv]
            simp only [Instr.mapUpdate, Sem.run_bind, run_underlying hum, Result.andThen_ok, MapKept.run_getObj_map hblk, hkv', hck, f1]
            have hst := stays_nest (P := P) (isAgg tk.d) hkc o1 c.w
            have : ((es[j]?).map (·.key)).getD (mkV (isAgg tk.d) (xs.map kval)) = mkV (isAgg tk.d) (xs.map kval) := by simp [hj, hej, f3]
            rw [this, hst]
            simp only [Result.andThen_ok]
            exact MapKept.run_setObj_map _ hblk
          · rw [hmod]
            have hmem : e ∈ es.toList := List.mem_of_getElem? f2
            have hlen : j < es.toList.length := by simpa using hj
            refine hm.put o1 hkc hvc (fun e' he' => ?_) ?_ (fun e' he' hne => ?_) ⟨{ e with key := a.eval i, val := a.eval v }, List.mem_set hlen _, hkv, hvv⟩
            · rcases List.mem_or_eq_of_mem_set he' with h5 | rfl
              · exact .inl h5
              · exact .inr hkv
            · have hap := hm.apart
              have : (es.toList.set j { e with key := a.eval i, val := a.eval v }).map (·.key) = es.toList.map (·.key) := by
                rw [List.map_set]
                refine List.ext_getElem? fun n => ?_
                rw [List.getElem?_set]
                split
                · rename_i hjn
                  subst hjn
                  rw [if_pos (by simpa using hlen), List.getElem?_map, f2]
                  simp only [Option.map_some]
                  rw [f3, hkv']
                · rfl
              have hp : (es.toList.map (·.key)).Pairwise (· ≠ ·) := List.pairwise_map.2 hap
              rw [← this] at hp
              exact List.pairwise_map.1 hp
            · obtain ⟨n, hn⟩ := List.mem_iff_getElem?.1 he'
              refine List.mem_iff_getElem?.2 ⟨n, ?_⟩
              rw [List.getElem?_set_ne]
              · exact hn
              · rintro rfl
                rw [f2] at hn
                injection hn with hn
                subst hn
                exact hne f3
      · cases h
    · cases h
  · cases h
theorem planM_ok (hty : tyOk P Θ = true) (h : planM Θ o sv en nx kf = some r) : ∃ δ, kf δ = some r ∧ Local P o sv en nx δ := by
  cases hop : o.op with
  | makeMap t x =>
    cases x with
    | none => exact ls_makeMap hty hop h
    | some x => simp only [planM, hop, reduceCtorEq] at h
  | lookup t x i ok => exact ls_lookup hty hop h
  | mapUpdate t m i v =>
    simp only [planM, hop] at h
    split at h
    · rename_i kt et _ _ _ h1
      exact setM_ok hty (.inl hop) (fun _ _ _ _ _ h2 => by rw [h1] at h2; simp at h2; exact ⟨h2.1.1, h2.1.2⟩) h
    · cases h
  | insert t m i v =>
    simp only [planM, hop] at h
    split at h
    · rename_i kt et _ _ _ h1
      exact setM_ok hty (.inr hop) (fun _ _ _ _ _ h2 => by rw [h1] at h2; simp at h2; exact ⟨h2.1.1, h2.1.2⟩) h
    · cases h
  | _ => simp only [planM, hop, reduceCtorEq] at h
end
end Go.Sx
