import Derived.Test.YtlphgonhenegoaaSxOps4
namespace Go.Sx
section
variable {P : Program} {Θ : Tys} {R : Type} {sv : Nat → SV} {en : Nat → Option Ent} {nx : Nat} {r : R} {kf : Delta → Option R} {o : Oper}
theorem made_get {z : Array Value} {n i j : Nat} (hj : j < z.size) (hi : i < n) : (madeCells z (n * z.size))[i * z.size + j]? = z[j]? := by
  have h1 : i * z.size + j < n * z.size := mul_lt_of hi hj
  have h2 : (i * z.size + j) % z.size = j := by rw [Nat.mul_comm, Nat.mul_add_mod, Nat.mod_eq_of_lt hj]
  simp [madeCells, h1, h2, hj]
theorem ls_makeSlice (hty : tyOk P Θ = true) {t : TypeId} {x y : Operand} (hop : o.op = .makeSlice t x y) (h : planK Θ o sv en nx kf = some r) : ∃ δ, kf δ = some r ∧ Local P o sv en nx δ := by
  have hx : x ∈ o.op.operands.toList := by simp [hop, Op.operands]
  have hy : y ∈ o.op.operands.toList := by simp [hop, Op.operands]
  simp only [planK, hop] at h
  split at h
  · rename_i e _ _ _ h1
    split at h
    · rename_i te h2
      split at h
      · rename_i k n k' m h3 h4
        cases hb : (decide (0 ≤ n) && decide (n ≤ m) && decide (m ≤ 1073741824)) <;> rw [hb] at h <;> simp only [cond_true, cond_false, reduceCtorEq] at h
        simp at hb
        obtain ⟨⟨hb1, hb2⟩, hb3⟩ := hb
        refine ⟨_, h, ⟨fun id hid => .inr (by simp at hid; subst hid; exact ⟨Nat.le_refl _, Nat.lt_succ_self _⟩), Nat.le_succ _⟩, fun c a p => ?_⟩
        have hk : ¬ c.K nx := p.fresh nx (by simp) (Nat.le_refl _)
        have hdx := opd (Θ := Θ) p 0 x hx
        have hdy := opd (Θ := Θ) p 0 y hy
        rw [h3] at hdx
        rw [h4] at hdy
        have hu := (rowTy hty h1).slice_
        obtain ⟨i, z, hi, hsz, hby, hz, hzs, hle, _⟩ := (rowTy hty h2).info
        have hzd := zerosEq_den (Z := c.Z) (w := c.w) hzs
        have hzl : z.cells.size = te.zero.length := by simpa using hzd.1.symm
        have hrun := run_make (P := P) c.w t e i z hu hi hz k k' n m hb1 hb2 (by
          have : (i.bytes : Int) * m ≤ 65536 * 1073741824 := by
            have h5 : (i.bytes : Int) ≤ 65536 := by omega
            exact Int.le_trans (Int.mul_le_mul_of_nonneg_right h5 (by omega)) (Int.mul_le_mul_of_nonneg_left hb3 (by omega))
          omega) (by omega)
        have hzsz : z.cells.size = i.size := by rw [hzl, (rowTy hty h2).zlen, hsz]
        obtain ⟨c', hw, h5, h6, h7, h8, h9⟩ := new_row (nx := nx) (fl := ckL te.zero) (size := te.size) (n := n.toNat) (cap := m.toNat) (cl := zeroC te.zero) (arr := madeCells z.cells (m.toNat * i.size)) (e := e) p.ho hk (Mem.refl c) (by omega)
          (by rw [size_madeCells, hsz]; exact Nat.le_refl _) (fun i' j' hi' hj' => ckOk_L (lget_lt (by omega))) (fun i' j' hi' hj' => by
            rw [← hsz, ← hzsz, made_get (by omega) (by omega)]
            have hj2 : j' < z.cells.size := by omega
            refine ⟨z.cells[j'], by simp [hj2], ?_⟩
            exact (hzd.2 j' _ _ (lget_lt (by omega)) (by simp [hj2])).1)
        exact stp_value (c' := c') (by rw [hw]; simp [execOp, hop, hdx.int_inv, hdy.int_inv, hrun]) h9 h5 h7 (fun id => by rw [h8]; simp) h6
      · cases h
    · cases h
  · cases h
def DenE (c : Cx) (size len : Nat) (els : List (List SV)) (cur : List Value) : Prop :=
  els.length = len ∧ (∀ (i : Nat) (es : List SV), els[i]? = some es → es.length = size) ∧ cur.length = len * size ∧
    ∀ (i j : Nat) (es : List SV) (v : Value), els[i]? = some es → j < size → cur[i * size + j]? = some v → Den c (lget es j) v
theorem fillE_ok {c : Cx} {a : Act} {size len : Nat} : ∀ (ps : List (Nat × SV)) (xs : List (Nat × Operand)) (els out : List (List SV)) (cur : List Value), fillE size els ps = some out →
      ps.length = xs.length → (∀ (k : Nat) (p : Nat × SV), ps[k]? = some p → ∃ x, xs[k]? = some x ∧ x.1 = p.1 ∧ Den c p.2 (a.eval x.2)) → DenE c size len els cur →
      ∃ cur' : List Value, Instr.fill (fun i => some (i * size, size)) cur.toArray (xs.map fun x => (x.1, a.eval x.2)) = some cur'.toArray ∧ DenE c size len out cur' := by
  intro ps
  induction ps with
  | nil =>
    intro xs els out cur h hl _ hd
    cases xs with
    | nil => simp [fillE] at h; subst h; exact ⟨cur, rfl, hd⟩
    | cons x xs => simp at hl
  | cons p ps ih =>
    intro xs els out cur h hl hps hd
    cases xs with
    | nil => simp at hl
    | cons x xs =>
      obtain ⟨i, s⟩ := p
      simp only [fillE] at h
      cases hb : ((cellsV s).length == size && Nat.blt i els.length && (cellsV s).all cellOk) <;> rw [hb] at h <;> simp only [cond_true, cond_false, reduceCtorEq] at h
      rw [Bool.and_eq_true, Bool.and_eq_true] at hb
      obtain ⟨⟨hb1, hb2⟩, hb3⟩ := hb
      have hb1 : (cellsV s).length = size := by simpa using hb1
      have hb2 : i < els.length := by simpa [Nat.blt_eq] using hb2
      obtain ⟨x', hx', hxi, hxd⟩ := hps 0 (i, s) rfl
      simp at hx'
      subst hx'
      obtain ⟨vs, hvs, hl', hdv⟩ := cells_den hxd hb3
      have hl' : (cellsV s).length = vs.length := hl'
      obtain ⟨d1, d2, d3, d4⟩ := hd
      have hfit : i * size + size ≤ len * size := by
        have : (i + 1) * size ≤ len * size := Nat.mul_le_mul_right _ (by omega)
        rw [Nat.add_mul] at this; omega
      obtain ⟨f1, f2⟩ := foldl_set vs (i * size) cur.toArray 0 (by simp; omega)
      have hd' : DenE c size len (els.set i (cellsV s)) ((vs.zipIdx 0).foldl (fun (cs : Array Value) (p : Value × Nat) => cs.setIfInBounds (i * size + p.2) p.1) cur.toArray).toList := by
        refine ⟨by simpa using d1, fun k es hk => ?_, ?_, fun k j es v hk hj hv => ?_⟩
        · rw [List.getElem?_set] at hk
          by_cases hik : i = k
          · rw [if_pos hik, if_pos hb2] at hk
            injection hk with hk
            rw [← hk]; exact hb1
          · rw [if_neg hik] at hk; exact d2 k es hk
        · have := f1; simp at this; simp [d3.symm]; simpa using this
        · rw [Array.getElem?_toList, f2] at hv
          simp only [Nat.add_zero] at hv
          rw [List.getElem?_set] at hk
          by_cases hik : i = k
          · subst hik
            rw [if_pos rfl, if_pos hb2] at hk
            injection hk with hk
            subst hk
            rw [if_pos (by omega)] at hv
            have : i * size + j - i * size = j := by omega
            rw [this] at hv
            exact (hdv j _ v (lget_lt (by omega)) hv).1
          · rw [if_neg hik] at hk
            have hkl : k < len := by rw [← d1]; exact (List.getElem?_eq_some_iff.1 hk).1
            rw [if_neg] at hv
            · exact d4 k j es v hk hj (by simpa using hv)
            · rintro ⟨h5, h6⟩
              rcases Nat.lt_or_ge k i with h | h
              · have : (k + 1) * size ≤ i * size := Nat.mul_le_mul_right _ h
                rw [Nat.add_mul] at this; omega
              · have : (i + 1) * size ≤ k * size := Nat.mul_le_mul_right _ (by omega)
                rw [Nat.add_mul] at this; omega
      obtain ⟨cur'', h3, h4⟩ := ih xs _ out _ h (by simpa using hl) (fun k p hk => by simpa using hps (k + 1) p (by simpa using hk)) hd'
      refine ⟨cur'', ?_, h4⟩
      simp only [List.map_cons, Instr.fill, hxi, hvs]
      have e1 : ¬ (decide (vs.toArray.size ≠ size) || decide (i * size + vs.toArray.size > cur.toArray.size)) = true := by simp; omega
      rw [if_neg e1]
      simpa using h3
theorem ls_buildSlice (hty : tyOk P Θ = true) {t : TypeId} {len : Nat} {ps : Array (Nat × Operand)} (hop : o.op = .buildSlice t len ps) (h : planK Θ o sv en nx kf = some r) : ∃ δ, kf δ = some r ∧ Local P o sv en nx δ := by
  simp only [planK, hop] at h
  split at h
  · rename_i e _ _ _ h1
    split at h
    · rename_i te h2
      split at h
      · rename_i els hels
        cases hb : (els.all (·.all groundOk) && Nat.ble (len * te.size) 16777216) <;> rw [hb] at h <;> simp only [cond_true, cond_false, reduceCtorEq] at h
        rw [Bool.and_eq_true] at hb
        obtain ⟨hb1, hb2⟩ := hb
        have hb2 : len * te.size ≤ 16777216 := by simpa using hb2
        refine ⟨_, h, ⟨fun id hid => .inr (by simp at hid; subst hid; exact ⟨Nat.le_refl _, Nat.lt_succ_self _⟩), Nat.le_succ _⟩, fun c a p => ?_⟩
        have hk : ¬ c.K nx := p.fresh nx (by simp) (Nat.le_refl _)
        have hu := (rowTy hty h1).slice_
        obtain ⟨i, z, hi, hsz, hby, hz, hzs, hle, _⟩ := (rowTy hty h2).info
        have hzd := zerosEq_den (Z := c.Z) (w := c.w) hzs
        have hzl : z.cells.size = te.zero.length := by simpa using hzd.1.symm
        have hzn : te.zero.length = te.size := (rowTy hty h2).zlen
        have rs := fun w => (rowTy hty h2).sizeOf_ w
        have hpar : ∀ q ∈ ps.toList, ∀ s, q.2 = .tmp s → Den c (sv s) (a.tmps.getD s Go.undef) := fun q hq s hs => p.sl s (by
          rw [hop]
          simp only [Op.operands]
          rw [← hs]
          exact List.mem_map_of_mem hq)
        have hstart : DenE c te.size len (List.replicate len te.zero) (madeCells z.cells (len * te.size)).toList := by
          refine ⟨by simp, fun i es hi => ?_, by simp [madeCells], fun i' j es v hi' hj hv => ?_⟩
          · have := List.mem_of_getElem? hi
            simp at this
            rw [this.2]; exact hzn
          · have := List.mem_of_getElem? hi'
            simp at this
            have hlt : i' < len := by simpa using (List.getElem?_eq_some_iff.1 hi').1
            rw [this.2]
            rw [Array.getElem?_toList] at hv
            rw [show te.size = z.cells.size by omega] at hv hj
            rw [made_get hj hlt] at hv
            exact .g _ _ (hzd.2 j _ v (lget_lt (by omega)) (by simpa using hv)).1
        obtain ⟨cur', h3, h4, h5, h6, h7⟩ := fillE_ok (c := c) (a := a) (evParts Θ (fun _ => e) sv ps.toList) ps.toList (List.replicate len te.zero) els _ hels (length_evParts _) (evParts_den ps.toList p.ho.gls hpar) hstart
        obtain ⟨c', hw, g5, g6, g7, g8, g9⟩ := new_row (nx := nx) (fl := ckEls (ckL te.zero) els) (size := te.size) (n := len) (cap := len) (cl := litC te.zero els) (arr := cur'.toArray) (e := e) p.ho hk (Mem.refl c) (Nat.le_refl _)
          (by simp [h6]) (fun i' j' hi' hj' => by
            have hi2 : i' < els.length := by omega
            have hl2 := h5 i' _ (List.getElem?_eq_getElem hi2)
            simp only [litC, List.getD_eq_getElem?_getD, List.getElem?_eq_getElem hi2, Option.getD_some]
            exact ckOk_Els (List.getElem?_eq_getElem hi2) (lget_lt (by omega))) (fun i' j' hi' hj' => by
            have hi2 : i' < els.length := by omega
            have hlt : i' * te.size + j' < cur'.length := by rw [h6]; exact mul_lt_of hi' hj'
            refine ⟨cur'[i' * te.size + j'], by simp [hlt], ?_⟩
            have hl2 := h5 i' _ (List.getElem?_eq_getElem hi2)
            have hd := h7 i' j' _ _ (List.getElem?_eq_getElem hi2) hj' (List.getElem?_eq_getElem hlt)
            simp only [litC, List.getD_eq_getElem?_getD, List.getElem?_eq_getElem hi2, Option.getD_some]
            exact hd.ground (List.all_eq_true.1 (List.all_eq_true.1 hb1 els[i'] (List.getElem_mem hi2)) _ (List.mem_of_getElem? (lget_lt (by omega)))))
        refine stp_value (c' := c') ?_ g9 g5 g7 (fun id => by rw [g8]; simp) g6
        rw [hw]
        have e0 : (ps.map fun (x : Nat × Operand) => (x.1, a.eval x.2)).toList = ps.toList.map fun x => (x.1, a.eval x.2) := by simp
        have hn : ¬ len * te.size > 2 ^ 24 := by omega
        simp only [Array.toArray_toList] at h3
        by_cases h0 : len * te.size = 0
        · have hm0 : madeCells z.cells (len * te.size) = (Array.range (len * te.size)).map (fun x => (#[] : Array Value)[x % (#[] : Array Value).size]!) := by rw [h0]; simp [madeCells]
          rw [hm0] at h3
          simp only [execOp, hop, Instr.buildSlice, Sem.run_bind, run_underlying hu, Result.andThen_ok, rs, Sem.run_pure, if_neg hn, if_pos h0, e0, newRow]
          rw [h3]
          simp
        · simp only [madeCells] at h3
          simp only [execOp, hop, Instr.buildSlice, Sem.run_bind, run_underlying hu, Result.andThen_ok, rs, Sem.run_pure, if_neg hn, if_neg h0, e0, newRow, zeroValue, typeInfo, run_program, hi, hz]
          rw [h3]
          simp
      · cases h
    · cases h
  · cases h
end
end Go.Sx
