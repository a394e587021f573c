import Derived.Test.YtlphgonhenegoaaSxOps
namespace Go.Sx
section
variable {P : Program} {Θ : Tys} {R : Type} {sv : Nat → SV} {en : Nat → Option Ent} {nx : Nat} {r : R} {kf : Delta → Option R} {o : Oper}
theorem opd {c : Cx} {a : Act} {δ : Delta} (p : Pre o sv en nx δ c a) (t : TypeId) (x : Operand) (hx : x ∈ o.op.operands.toList) : Den c (ev Θ t sv x) (a.eval x) :=
  ev_den x p.ho.gls fun s hs => p.sl s (hs ▸ hx)
theorem row_at {c : Cx} {q size i off : Nat} {v : Value} (ho : HeapOk c) (hd : Den c (.wptr q size i off) v) {nl0 : Bool} {f0 : CK} {s0 n0 : Nat} {c0 : Nat → Nat → SV} (he : c.en q = some (.row nl0 f0 s0 n0 c0)) :
    ∃ fl n cl arr et, Ent.row nl0 f0 s0 n0 c0 = .row false fl size n cl ∧ i < n ∧ v = .pointer (some ⟨c.b q, i * size + off, Option.none⟩) ∧ c.w.heap[c.b q]? = some (.cells arr et (0, 0)) ∧ n * size ≤ arr.size ∧
      ∀ j, j < size → ckOk (ckAt fl j) (cl i j) = true ∧ ∃ u, arr[i * size + j]? = some u ∧ DenG c.Z c.w (cl i j) u := by
  obtain ⟨fl, n, cl, hee, hi, hv⟩ := hd.wptr_inv he
  rw [hee] at he ⊢
  obtain ⟨hck, h | ⟨_, cap, arr, et, _, hb, hcap, hsz, hcell⟩⟩ := ho.ents q _ he
  · simp at h
  · exact ⟨fl, n, cl, arr, et, rfl, hi, hv, hb, Nat.le_trans (Nat.mul_le_mul_right _ hcap) hsz, fun j hj => ⟨hck i j hi hj, hcell i j hi hj⟩⟩
theorem mul_lt_of {i n size j : Nat} (hi : i < n) (hj : j < size) : i * size + j < n * size := by
  have : (i + 1) * size ≤ n * size := Nat.mul_le_mul_right _ hi
  rw [Nat.add_mul] at this
  omega
theorem ls_load (hty : tyOk P Θ = true) {t : TypeId} {x : Operand} (hop : o.op = .load t x) (h : planK Θ o sv en nx kf = some r) : ∃ δ, kf δ = some r ∧ Local P o sv en nx δ := by
  have hx : x ∈ o.op.operands.toList := by simp [hop, Op.operands]
  simp only [planK, hop] at h
  cases hti : Θ.get t with
  | none => rw [hti] at h; cases h
  | some ti =>
    rw [hti] at h
    simp only at h
    cases hv : ev Θ 0 sv x <;> rw [hv] at h <;> simp only [reduceCtorEq] at h
    case ptr g off =>
      cases hg : en g with
      | none => rw [hg] at h; cases h
      | some e =>
        rw [hg] at h
        cases e with
        | row => cases h
        | mp => cases h
        | fm => cases h
        | fx => cases h
        | lp => cases h
        | mx => cases h
        | blk cs =>
          simp only at h
          cases hagg : isAgg ti.d <;> rw [hagg] at h <;> simp only [cond_true, cond_false] at h
          · cases hb : Nat.blt off cs.length <;> rw [hb] at h <;> simp only [cond_true, cond_false, reduceCtorEq] at h
            refine ⟨_, h, ids_same _ _ _, fun c a p => ?_⟩
            have he : c.en g = some (.blk cs) := (p.rd g (by simp)).trans hg
            have hd := opd (Θ := Θ) p 0 x hx
            rw [hv] at hd
            obtain ⟨v, h1, h2⟩ := (load_blk hty hti (off := off) p.ho he).2 hagg (by simpa [Nat.blt_eq] using hb)
            exact stp_same p.ho (by simp [execOp, hop, Instr.loadAt, hd.ptr_inv he, Instr.sureAddr, h1]) h2
          · cases hb : Nat.ble (off + ti.size) cs.length <;> rw [hb] at h <;> simp only [cond_true, cond_false, reduceCtorEq] at h
            refine ⟨_, h, ids_same _ _ _, fun c a p => ?_⟩
            have he : c.en g = some (.blk cs) := (p.rd g (by simp)).trans hg
            have hd := opd (Θ := Θ) p 0 x hx
            rw [hv] at hd
            obtain ⟨v, h1, h2⟩ := (load_blk hty hti (off := off) p.ho he).1 hagg (by simpa using hb)
            exact stp_same p.ho (by simp [execOp, hop, Instr.loadAt, hd.ptr_inv he, Instr.sureAddr, h1]) h2
    case eptr m cl =>
      cases hagg : isAgg ti.d <;> rw [hagg] at h <;> simp only [cond_true, cond_false] at h
      · cases hb : Nat.blt 0 m <;> rw [hb] at h <;> simp only [cond_true, cond_false, reduceCtorEq] at h
        refine ⟨_, h, ids_same _ _ _, fun c a p => ?_⟩
        have hd := opd (Θ := Θ) p 0 x hx
        rw [hv] at hd
        obtain ⟨ad, U, he, _, hc, hdd⟩ := hd.eptr_inv
        obtain ⟨v, h1, h2⟩ := (load_stable hty hti hc hdd).2 hagg (by simpa [Nat.blt_eq] using hb)
        exact stp_same p.ho (by simp [execOp, hop, Instr.loadAt, he, Instr.sureAddr, h1]) h2
      · cases hb : Nat.ble ti.size m <;> rw [hb] at h <;> simp only [cond_true, cond_false, reduceCtorEq] at h
        refine ⟨_, h, ids_same _ _ _, fun c a p => ?_⟩
        have hd := opd (Θ := Θ) p 0 x hx
        rw [hv] at hd
        obtain ⟨ad, U, he, _, hc, hdd⟩ := hd.eptr_inv
        obtain ⟨v, h1, h2⟩ := (load_stable hty hti hc hdd).1 hagg (by simpa using hb)
        exact stp_same p.ho (by simp [execOp, hop, Instr.loadAt, he, Instr.sureAddr, h1]) h2
    case wptr q size i off =>
      cases hg : en q with
      | none => rw [hg] at h; cases h
      | some e =>
        rw [hg] at h
        cases e with
        | blk => cases h
        | mp => cases h
        | fm => cases h
        | fx => cases h
        | lp => cases h
        | mx => cases h
        | row nl fl size' n cl =>
          simp only at h
          cases hb : (size' == size && Nat.ble (off + ti.size) size) <;> rw [hb] at h <;> simp only [cond_true, cond_false, reduceCtorEq] at h
          simp at hb
          obtain ⟨rfl, hle⟩ := hb
          have key : ∀ c a δ, Pre o sv en nx δ c a → δ.rd = [q] → ∃ arr et, a.eval x = .pointer (some ⟨c.b q, i * size' + off, Option.none⟩) ∧ c.w.heap[c.b q]? = some (.cells arr et (0, 0)) ∧
              ∀ j, off + j < size' → c.w.cell? ((⟨c.b q, i * size' + off, Option.none⟩ : Addr).add j) = some (arr.getD (i * size' + off + j) Go.undef) ∧ DenG c.Z c.w (reC (ckAt fl (off + j)) (cl i (off + j))) (arr.getD (i * size' + off + j) Go.undef) := by
            intro c a δ p hrd
            have he : c.en q = some (.row nl fl size' n cl) := (p.rd q (by simp [hrd])).trans hg
            have hd := opd (Θ := Θ) p 0 x hx
            rw [hv] at hd
            obtain ⟨fl', n', cl', arr, et, hent, hi, hval, hblk, hsz, hcell⟩ := row_at p.ho hd he
            injection hent with e1 e2 e3 e4 e5
            subst e1 e2 e4 e5
            refine ⟨arr, et, hval, hblk, fun j hj => ?_⟩
            obtain ⟨hck, u, h1, h2⟩ := hcell (off + j) hj
            rw [reC_eq hck]
            rw [← Nat.add_assoc] at h1
            rw [add_mk, cell_of hblk, h1]
            simp only [Array.getD_eq_getD_getElem?, h1, Option.getD_some]
            exact ⟨trivial, h2⟩
          cases hagg : isAgg ti.d <;> rw [hagg] at h <;> simp only [cond_true, cond_false] at h
          · cases hb : Nat.blt off size' <;> rw [hb] at h <;> simp only [cond_true, cond_false, reduceCtorEq] at h
            refine ⟨_, h, ids_same _ _ _, fun c a p => ?_⟩
            obtain ⟨arr, et, hval, hblk, hcell⟩ := key c a _ p rfl
            have hb' : off < size' := by simpa [Nat.blt_eq] using hb
            obtain ⟨v, h1, h2⟩ := (load_stable hty hti (c := c) (f := fun j => reC (ckAt fl (off + j)) (cl i (off + j))) (m := 1) (fun j hj => (hcell j (by omega)).1) (fun j hj => (hcell j (by omega)).2)).2 hagg (by omega)
            exact stp_same p.ho (by simp [execOp, hop, Instr.loadAt, hval, Instr.sureAddr, h1]) h2
          · refine ⟨_, h, ids_same _ _ _, fun c a p => ?_⟩
            obtain ⟨arr, et, hval, hblk, hcell⟩ := key c a _ p rfl
            have hts : tabN (fun j => reC (ckAt fl j) (cl i j)) off ti.size = tabN (fun j => reC (ckAt fl (off + j)) (cl i (off + j))) 0 ti.size := by
              apply List.ext_getElem?
              intro j
              by_cases hj : j < ti.size
              · rw [(tabN_spec _ _ _).2 j hj, (tabN_spec _ _ _).2 j hj]; simp
              · rw [List.getElem?_eq_none (by rw [(tabN_spec _ _ _).1]; omega), List.getElem?_eq_none (by rw [(tabN_spec _ _ _).1]; omega)]
            obtain ⟨v, h1, h2⟩ := (load_stable hty hti (c := c) (f := fun j => reC (ckAt fl (off + j)) (cl i (off + j))) (m := ti.size) (fun j hj => (hcell j (by omega)).1) (fun j hj => (hcell j (by omega)).2)).1 hagg (Nat.le_refl _)
            exact stp_same (v := v) p.ho (by simp [execOp, hop, Instr.loadAt, hval, Instr.sureAddr, h1]) (by rw [hts]; exact h2)
theorem setCs_get (i0 j0 : Nat) (cl : Nat → Nat → SV) (vs : List SV) (i j : Nat) :
    setCs i0 j0 cl vs i j = if i = i0 ∧ j0 ≤ j ∧ j < j0 + vs.length then lget vs (j - j0) else cl i j := by
  induction vs generalizing j0 cl with
  | nil => simp [setCs]; intro _ _ _; omega
  | cons v vs ih =>
    simp only [setCs, ih, List.length_cons, setC]
    by_cases h1 : i = i0 ∧ j0 + 1 ≤ j ∧ j < j0 + 1 + vs.length
    · rw [if_pos h1, if_pos ⟨h1.1, by omega, by omega⟩]
      have : j - j0 = (j - (j0 + 1)) + 1 := by omega
      simp [lget, this]
    · rw [if_neg h1]
      by_cases h2 : i = i0 ∧ j = j0
      · obtain ⟨rfl, rfl⟩ := h2
        rw [if_pos ⟨rfl, by omega, by omega⟩]
        simp [lget]
      · have : (i == i0 && j == j0) = false := by simp; intro h; exact fun h' => h2 ⟨h, h'⟩
        rw [this, if_neg (by omega)]
        rfl
theorem ls_store (hty : tyOk P Θ = true) {t : TypeId} {x y : Operand} (hop : o.op = .store t x y) (h : planK Θ o sv en nx kf = some r) : ∃ δ, kf δ = some r ∧ Local P o sv en nx δ := by
  have hx : x ∈ o.op.operands.toList := by simp [hop, Op.operands]
  have hy : y ∈ o.op.operands.toList := by simp [hop, Op.operands]
  simp only [planK, hop] at h
  cases hti : Θ.get t with
  | none => rw [hti] at h; cases h
  | some ti =>
    rw [hti] at h
    simp only at h
    cases hall : ((cellsV (ev Θ t sv y)).length == ti.size && (cellsV (ev Θ t sv y)).all cellOk) <;> rw [hall] at h <;> simp only [cond_true, cond_false, reduceCtorEq] at h
    rw [Bool.and_eq_true] at hall
    obtain ⟨hlen, hall⟩ := hall
    have hlen : (cellsV (ev Θ t sv y)).length = ti.size := by simpa using hlen
    have rs := fun w => (rowTy hty hti).sizeOf_ w
    cases hv : ev Θ 0 sv x <;> rw [hv] at h <;> simp only [reduceCtorEq] at h
    case ptr g off =>
      cases hg : en g with
      | none => rw [hg] at h; cases h
      | some e =>
        rw [hg] at h
        cases e with
        | row => cases h
        | mp => cases h
        | fm => cases h
        | fx => cases h
        | lp => cases h
        | mx => cases h
        | blk cs =>
          simp only at h
          cases hb : Nat.ble (off + ti.size) cs.length <;> rw [hb] at h <;> simp only [cond_true, cond_false, reduceCtorEq] at h
          have hb : off + ti.size ≤ cs.length := by simpa using hb
          refine ⟨_, h, ⟨fun id hid => .inl (by simpa using hid), Nat.le_refl _⟩, fun c a p => ?_⟩
          have he : c.en g = some (.blk cs) := (p.rd g (by simp)).trans hg
          have hd := opd (Θ := Θ) p 0 x hx
          rw [hv] at hd
          have hdy := opd (Θ := Θ) p t y hy
          obtain ⟨vs, hvs, hl, hdv⟩ := cells_den hdy hall
          obtain ⟨arr, et, hblk, hsz, hcs⟩ := p.ho.ents g _ he
          have h1 : ∀ v ∈ vs, Sx.one v = true := fun v hvm => by
            obtain ⟨i, hi⟩ := List.mem_iff_getElem?.1 hvm
            have hi2 : i < (cellsV (ev Θ t sv y)).length := by rw [hl]; exact (List.getElem?_eq_some_iff.1 hi).1
            exact (hdv i _ v (lget_lt hi2) hi).2
          have hrun : (execOp a.eval o).run P c.w = .ok .skip (c.w.setRow (c.b g) (putAt arr off vs)) := by
            have hst := run_storeCells (P := P) (o := off) (vs := vs) hblk (by omega) h1
            simp [execOp, hop, Instr.storeAt, hd.ptr_inv he, Instr.sureAddr, storeVar, rs, hvs, ← hl, hlen, hst]
          have hpl : off + vs.length ≤ arr.size := by omega
          obtain ⟨h2, h3⟩ := set_ok p.ho (e := .blk (lsetN cs off (cellsV (ev Θ t sv y)))) he rfl (by simp [shape, length_lsetN]) (Mem.setRow he rfl (putAt arr off vs)) (fun ht => by
            refine ⟨putAt arr off vs, et, heap_setRow hblk, by rw [size_putAt hpl, length_lsetN]; exact hsz, fun i s v hs hv => ?_⟩
            rw [getElem?_lsetN _ _ _ _ (by omega)] at hs
            replace hv := (get_putAt hpl i).symm.trans hv
            rw [hl] at hs
            by_cases hin : off ≤ i ∧ i < off + vs.length
            · rw [if_pos hin] at hs hv
              obtain ⟨h4, h5⟩ := hdv _ s v hs hv
              exact ⟨h4.trans ht p.ho, h5⟩
            · rw [if_neg hin] at hs hv
              obtain ⟨h4, h5⟩ := hcs _ s v hs hv
              exact ⟨h4.trans ht p.ho, h5⟩)
          exact stp_skip (c' := c.set g (.blk (lsetN cs off (cellsV (ev Θ t sv y)))) (c.w.setRow (c.b g) (putAt arr off vs))) hrun rfl h2 (fun id => rfl) (fun id => by
            simp only [Cx.set, List.map_cons, List.map_nil, List.mem_singleton]
            exact ⟨.inl, fun h => h.elim (fun h => h) (fun e => e ▸ p.ho.lt g _ he)⟩) h3
    case wptr q size i off =>
      cases hg : en q with
      | none => rw [hg] at h; cases h
      | some e =>
        rw [hg] at h
        cases e with
        | blk => cases h
        | mp => cases h
        | fm => cases h
        | fx => cases h
        | lp => cases h
        | mx => cases h
        | row nl fl size' n cl =>
          simp only at h
          cases hb : (size' == size && Nat.ble (off + ti.size) size && (cellsV (ev Θ t sv y)).all groundOk) <;> rw [hb] at h <;> simp only [cond_true, cond_false, reduceCtorEq] at h
          rw [Bool.and_eq_true] at hb
          obtain ⟨hb, hgr⟩ := hb
          simp at hb
          obtain ⟨rfl, hle⟩ := hb
          refine ⟨_, h, ⟨fun id hid => .inl (by simpa using hid), Nat.le_refl _⟩, fun c a p => ?_⟩
          have he : c.en q = some (.row nl fl size' n cl) := (p.rd q (by simp)).trans hg
          have hd := opd (Θ := Θ) p 0 x hx
          rw [hv] at hd
          have hdy := opd (Θ := Θ) p t y hy
          obtain ⟨vs, hvs, hl, hdv⟩ := cells_den hdy hall
          obtain ⟨fl', n', cl', arr, et, hent, hi, hval, hblk, hsz, hcell⟩ := row_at p.ho hd he
          injection hent with e1 e2 e3 e4 e5
          subst e1 e2 e4 e5
          obtain ⟨hflat, hor⟩ := p.ho.ents q _ he
          have h1 : ∀ v ∈ vs, Sx.one v = true := fun v hvm => by
            obtain ⟨i, hi⟩ := List.mem_iff_getElem?.1 hvm
            have hi2 : i < (cellsV (ev Θ t sv y)).length := by rw [hl]; exact (List.getElem?_eq_some_iff.1 hi).1
            exact (hdv i _ v (lget_lt hi2) hi).2
          have hlt : i * size' + size' ≤ n * size' := by
            have : (i + 1) * size' ≤ n * size' := Nat.mul_le_mul_right _ hi
            rw [Nat.add_mul] at this; omega
          have hpl : i * size' + off + vs.length ≤ arr.size := by omega
          have hrun : (execOp a.eval o).run P c.w = .ok .skip (c.w.setRow (c.b q) (putAt arr (i * size' + off) vs)) := by
            have hst := run_storeCells (P := P) (o := i * size' + off) (vs := vs) hblk hpl h1
            simp [execOp, hop, Instr.storeAt, hval, Instr.sureAddr, storeVar, rs, hvs, ← hl, hlen, hst]
          obtain ⟨h2, h3⟩ := set_ok p.ho (e := .row false (ckPut fl off (cellsV (ev Θ t sv y))) size' n (setCs i off cl (cellsV (ev Θ t sv y)))) he rfl (by simp [shape]) (Mem.setRow he rfl (putAt arr (i * size' + off) vs)) (fun ht => by
            refine ⟨fun i' j' hi' hj' => ?_, ?_⟩
            · rw [setCs_get]
              split
              · rename_i hc
                have := ckOk_put_new (c := fl) (i := off) (vs := cellsV (ev Θ t sv y)) (j := j' - off) (lget_lt (by omega))
                rwa [show off + (j' - off) = j' by omega] at this
              · exact ckOk_put_old (hflat i' j' hi' hj')
            · obtain h | ⟨_, cap, arr', et', hu, hblk', hcap, hsz', hcell'⟩ := hor
              · simp at h
              · rw [hblk] at hblk'
                injection hblk' with hblk'
                injection hblk' with h6 h7
                subst h6 h7
                refine .inr ⟨rfl, cap, putAt arr (i * size' + off) vs, et, hu, heap_setRow hblk, hcap, by rw [size_putAt hpl]; exact hsz', fun i' j' hi' hj' => ?_⟩
                obtain ⟨u, hu1, hu2⟩ := hcell' i' j' hi' hj'
                rw [setCs_get, hl]
                have hgp := get_putAt hpl (i' * size' + j')
                by_cases hin : i' = i ∧ off ≤ j' ∧ j' < off + vs.length
                · obtain ⟨rfl, h8, h9⟩ := hin
                  rw [if_pos ⟨rfl, h8, h9⟩]
                  rw [if_pos ⟨by omega, by omega⟩] at hgp
                  have h10 : j' - off < vs.length := by omega
                  have h11 : i' * size' + j' - (i' * size' + off) = j' - off := by omega
                  rw [h11, List.getElem?_eq_getElem h10] at hgp
                  have hs := lget_lt (l := cellsV (ev Θ t sv y)) (i := j' - off) (by omega)
                  obtain ⟨h12, _⟩ := hdv (j' - off) _ _ hs (List.getElem?_eq_getElem h10)
                  exact ⟨_, hgp, ((h12.ground (List.all_eq_true.1 hgr _ (List.mem_of_getElem? hs))).trans ht p.ho)⟩
                · rw [if_neg hin]
                  have : ¬ (i * size' + off ≤ i' * size' + j' ∧ i' * size' + j' < i * size' + off + vs.length) := by
                    rintro ⟨h8, h9⟩
                    apply hin
                    have hii : i' = i := by
                      rcases Nat.lt_trichotomy i' i with h | h | h
                      · have : (i' + 1) * size' ≤ i * size' := Nat.mul_le_mul_right _ h
                        rw [Nat.add_mul] at this; omega
                      · exact h
                      · have : (i + 1) * size' ≤ i' * size' := Nat.mul_le_mul_right _ h
                        rw [Nat.add_mul] at this; omega
                    subst hii
                    exact ⟨rfl, by omega, by omega⟩
                  rw [if_neg this] at hgp
                  exact ⟨u, hgp.trans hu1, hu2.trans ht p.ho⟩)
          exact stp_skip (c' := c.set q (.row false (ckPut fl off (cellsV (ev Θ t sv y))) size' n (setCs i off cl (cellsV (ev Θ t sv y)))) (c.w.setRow (c.b q) (putAt arr (i * size' + off) vs))) hrun rfl h2 (fun id => rfl) (fun id => by
            simp only [Cx.set, List.map_cons, List.map_nil, List.mem_singleton]
            exact ⟨.inl, fun h => h.elim (fun h => h) (fun e => e ▸ p.ho.lt q _ he)⟩) h3
end
end Go.Sx
