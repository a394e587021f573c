import Derived.Test.YtlikcijophbkbaaSxStr
import Derived.Test.YtlikcijophbkbaaSxFam
namespace Go.Sx
theorem rearr_ok {c c' : Cx} {T : Nat → Prop} (M : Nat → Prop) (ho : HeapOk c) (m : Mem c T c'.w) (hT : ∀ k, T k → ∃ d e, M d ∧ c.en d = some e ∧ c.ow d e k) (hK : ∀ id, c.K id → c'.K id)
    (hZ : ∀ k, c.Z k → c'.Z k) (hZ' : ∀ k, c'.Z k → c.Z k ∨ ((∃ d e, M d ∧ c.en d = some e ∧ c.ow d e k) ∧ ∀ j e, M j → c'.en j = some e → ¬ c'.ow j e k))
    (hout : ∀ j, ¬ M j → c'.en j = c.en j ∧ ∀ e, c.en j = some e → c'.b j = c.b j ∧ c'.u j = c.u j ∧ c'.o j = c.o j)
    (hin : ∀ j e', M j → c'.en j = some e' → c'.K j ∧ (Trans c c' → EntOk c' j e') ∧ ((∃ e, c.en j = some e ∧ c'.b j = c.b j ∧ c'.u j = c.u j ∧ shape e' = shape e ∧ (c'.o j).y = (c.o j).y) ∨ ¬ c.K j) ∧
      ∀ k, c'.ow j e' k → c.w.heap.size ≤ k ∨ ∃ d e, M d ∧ c.en d = some e ∧ c.ow d e k)
    (hinM : ∀ j j' e e' k, M j → M j' → c'.en j = some e → c'.en j' = some e' → c'.ow j e k → c'.ow j' e' k → j = j') : HeapOk c' ∧ Trans c c' := by
  have outw : ∀ j e k, ¬ M j → c'.en j = some e → c'.ow j e k → c.en j = some e ∧ c.ow j e k := fun j e k hj he hk => by
    obtain ⟨h1, h2⟩ := hout j hj
    rw [h1] at he
    obtain ⟨hb, _, ho'⟩ := h2 e he
    refine ⟨he, ?_⟩
    rcases hk with ⟨a, b⟩ | ⟨a, b⟩
    · exact .inl ⟨a, by rw [← hb]; exact b⟩
    · exact .inr ⟨a, by rw [← ho']; exact b⟩
  have ht : Trans c c' :=
    { os := m.os, tape := m.tape, output := m.output, size := m.size, kn := hK, zs := hZ
      znew := fun k hk => by
        rcases hZ' k hk with h | ⟨⟨d, e, _, h1, h2⟩, _⟩
        · exact .inl h
        · exact .inr (.inr ⟨d, e, h1, h2⟩)
      keep := fun k hk hn => m.same k hk fun ht => by
        obtain ⟨d, e, _, h1, h2⟩ := hT k ht
        exact hn d e h1 h2
      old := fun id e' he' => by
        by_cases hM : M id
        · exact (hin id e' hM he').2.2.1
        · obtain ⟨h1, h2⟩ := hout id hM
          rw [h1] at he'
          obtain ⟨hb, hu, ho'⟩ := h2 e' he'
          exact .inl ⟨e', he', hb, hu, rfl, by rw [ho']⟩
      loc := fun id e' k he' hk => by
        by_cases hM : M id
        · rcases (hin id e' hM he').2.2.2 k hk with h | ⟨d, e, _, h1, h2⟩
          · exact .inl h
          · exact .inr ⟨d, e, h1, h2⟩
        · obtain ⟨h1, h2⟩ := outw id e' k hM he' hk
          exact .inr ⟨id, e', h1, h2⟩ }
  refine ⟨⟨fun id e he => ?_, fun id e he => ?_, fun id id' e e' k h1 h2 hh1 hh2 => ?_, fun k hk => ?_, fun k hk id e he hh => ?_, ht.gls ho⟩, ht⟩
  · by_cases hM : M id
    · exact (hin id e hM he).1
    · rw [(hout id hM).1] at he
      exact hK id (ho.lt id e he)
  · by_cases hM : M id
    · exact (hin id e hM he).2.1 ht
    · obtain ⟨h1, h2⟩ := hout id hM
      rw [h1] at he
      obtain ⟨hb, hu, ho'⟩ := h2 e he
      refine (ho.ents id e he).trans ht ho hb hu ho' fun k hk => m.same k ((ho.ents id e he).olt hk) fun hTk => ?_
      obtain ⟨d, e1, hd, h3, h4⟩ := hT k hTk
      exact hM (ho.inj id d e e1 k he h3 hk h4 ▸ hd)
  · have mix : ∀ j j' e e', M j → ¬ M j' → c'.en j = some e → c'.en j' = some e' → c'.ow j e k → c'.ow j' e' k → False := fun j j' e e' a1 a2 a3 a4 a5 a6 => by
      obtain ⟨b1, b2⟩ := outw j' e' k a2 a4 a6
      rcases (hin j e a1 a3).2.2.2 k a5 with h | ⟨d, e1, hd, h3, h4⟩
      · have := (ho.ents j' e' b1).olt b2
        omega
      · exact a2 (ho.inj j' d e' e1 k b1 h3 b2 h4 ▸ hd)
    by_cases hM : M id <;> by_cases hM' : M id'
    · exact hinM id id' e e' k hM hM' h1 h2 hh1 hh2
    · exact (mix id id' e e' hM hM' h1 h2 hh1 hh2).elim
    · exact (mix id' id e' e hM' hM h2 h1 hh2 hh1).elim
    · obtain ⟨a1, a2⟩ := outw id e k hM h1 hh1
      obtain ⟨b1, b2⟩ := outw id' e' k hM' h2 hh2
      exact ho.inj id id' e e' k a1 b1 a2 b2
  · rcases hZ' k hk with h | ⟨⟨d, e, _, h1, h2⟩, _⟩
    · exact Nat.lt_of_lt_of_le (ho.zlt k h) m.size
    · exact Nat.lt_of_lt_of_le ((ho.ents d e h1).olt h2) m.size
  · by_cases hM : M id
    · rcases hZ' k hk with h | ⟨_, h⟩
      · rcases (hin id e hM he).2.2.2 k hh with h1 | ⟨d, e1, _, h3, h4⟩
        · have := ho.zlt k h; omega
        · exact ho.zno k h d e1 h3 h4
      · exact h id e hM he hh
    · obtain ⟨a1, a2⟩ := outw id e k hM he hh
      rcases hZ' k hk with h | ⟨⟨d, e1, hd, h3, h4⟩, _⟩
      · exact ho.zno k h id e a1 a2
      · exact hM (ho.inj id d e e1 k a1 h3 a2 h4 ▸ hd)
section
variable {P : Program} {Θ : Tys} {R : Type} {sv : Nat → SV} {en : Nat → Option Ent} {nx : Nat} {r : R} {kf : Delta → Option R} {o : Oper}
theorem ls_lenY (hty : tyOk P Θ = true) {args : Array Operand} {ts : Array TypeId} (hop : o.op = .call ⟨.builtin .len, args, ts⟩) (h : planY Θ o sv en nx kf = some r) : ∃ δ, kf δ = some r ∧ Local P o sv en nx δ := by
  obtain ⟨args⟩ := args
  obtain ⟨ts⟩ := ts
  simp only [planY, hop] at h
  split at h
  · rename_i x t
    have hx : x ∈ o.op.operands.toList := by simp [hop, Op.operands, Call.operands]
    have run : ∀ (a : Act) (w : World), (execOp a.eval o).run P w = ((Builtin.len_ #[t] o.type #[a.eval x]).run P w).andThen fun v w' => .ok (.value v) w' := fun a w => by
      simp [execOp, hop, resolve, invoke, builtin]
    split at h
    · rename_i q i j h1 h2
      split at h
      · rename_i ik n ln gt he0
        refine ⟨_, h, ids_same _ _ _, fun c a p => ?_⟩
        have he : c.en q = some (.mx ik n ln gt) := (p.rd q (by simp)).trans he0
        have hd := opd (Θ := Θ) p 0 x hx
        rw [h2] at hd
        have hu := (rowTy hty h1).slice_
        obtain ⟨hi, _, hv⟩ := hd.wptr_mx he
        obtain ⟨_, ⟨h00, _⟩ | ⟨_, cap, arr, e, _, _, _, _, hm⟩⟩ := p.ho.ents q _ he
        · omega
        have hv : a.eval x = .slice (some ⟨(c.o q).y (3 * i), 0, Option.none⟩) (ln i) ((c.o q).y (3 * i + 2)) := by rw [hv, ← hm.len i hi]; rfl
        exact stp_same (v := goInt ((ln i : Nat) : Int)) p.ho (by rw [run, hv]; simp [Builtin.len_, run_underlying hu]) (.g _ _ (.int _ _))
      · cases h
    · rename_i q h1 h2
      split at h
      · rename_i ik n ln gt he0
        refine ⟨_, h, ids_same _ _ _, fun c a p => ?_⟩
        have he : c.en q = some (.mx ik n ln gt) := (p.rd q (by simp)).trans he0
        have hd := opd (Θ := Θ) p 0 x hx
        rw [h2] at hd
        have hu := (rowTy hty h1).slice_
        have hv := hd.row_inv he
        obtain ⟨_, ⟨rfl, hu2⟩ | ⟨_, cap, arr, e, hu2, _⟩⟩ := p.ho.ents q _ he
        · rw [hu2] at hv
          exact stp_same (v := goInt ((0 : Nat) : Int)) p.ho (by rw [run, hv]; simp [Builtin.len_, run_underlying hu]) (.g _ _ (.int _ _))
        rw [hu2] at hv
        exact stp_same (v := goInt ((n : Nat) : Int)) p.ho (by rw [run, hv]; simp [Builtin.len_, run_underlying hu]) (.g _ _ (.int _ _))
      · cases h
    · cases h
  · cases h
theorem ls_indexY (hty : tyOk P Θ = true) {t : TypeId} {x y : Operand} (hop : o.op = .indexAddr t x y) (h : planY Θ o sv en nx kf = some r) : ∃ δ, kf δ = some r ∧ Local P o sv en nx δ := by
  have hx : x ∈ o.op.operands.toList := by simp [hop, Op.operands]
  have hy : y ∈ o.op.operands.toList := by simp [hop, Op.operands]
  simp only [planY, hop] at h
  split at h
  · rename_i e _ _ _ h1
    have hu := (rowTy hty h1).slice_
    split at h
    · rename_i te q i0 j0 k z h2 h3 h4
      have rs := fun w => (rowTy hty h2).sizeOf_ w
      split at h
      · rename_i ik n ln gt he0
        cases hb : (te.size == 1 && (decide (0 ≤ z) && decide (z < (ln i0 : Int)))) <;> rw [hb] at h <;> simp only [cond_true, cond_false, reduceCtorEq] at h
        simp only [Bool.and_eq_true, decide_eq_true_eq, beq_iff_eq] at hb
        obtain ⟨hs1, hz0, hz1⟩ := hb
        refine ⟨_, h, ids_same _ _ _, fun c a p => ?_⟩
        have he : c.en q = some (.mx ik n ln gt) := (p.rd q (by simp)).trans he0
        have hd := opd (Θ := Θ) p t x hx
        have hdi := opd (Θ := Θ) p 0 y hy
        rw [h3] at hd
        rw [h4] at hdi
        obtain ⟨hi, _, hv⟩ := hd.wptr_mx he
        obtain ⟨_, ⟨h00, _⟩ | ⟨_, cap, arr, e, _, _, _, _, hm⟩⟩ := p.ho.ents q _ he
        · omega
        have hl := hm.len i0 hi
        have hv : a.eval x = .slice (some ⟨(c.o q).y (3 * i0), 0, Option.none⟩) (ln i0) ((c.o q).y (3 * i0 + 2)) := by rw [hv, ← hl]; rfl
        have run : (Instr.indexAt t (.slice (some ⟨(c.o q).y (3 * i0), 0, Option.none⟩) (ln i0) ((c.o q).y (3 * i0 + 2))) (.int k z)).run P c.w = .ok (.pointer (some ⟨(c.o q).y (3 * i0), z.toNat, Option.none⟩)) c.w := by
          simp [Instr.indexAt, asIntOf, run_underlying hu, rs, hz0, hz1, hs1, add_mk]
        refine stp_same (v := .pointer (some ⟨(c.o q).y (3 * i0), z.toNat, Option.none⟩)) p.ho (by simp [execOp, hop, hv, hdi.int_inv, run]) (.wptr _ _ _ _ _ hd.wptr_k rfl fun e' he' => ?_)
        rw [he] at he'
        injection he' with he'
        subst he'
        exact .inr ⟨⟨ik, n, ln, gt, rfl, hi⟩, fun _ => by rw [hl]; omega, rfl⟩
      · cases h
    · rename_i te q k z h2 h3 h4
      have rs := fun w => (rowTy hty h2).sizeOf_ w
      split at h
      · rename_i ik n ln gt he0
        cases hb : (te.size == 1 && (decide (0 ≤ z) && decide (z < (n : Int)))) <;> rw [hb] at h <;> simp only [cond_true, cond_false, reduceCtorEq] at h
        simp only [Bool.and_eq_true, decide_eq_true_eq, beq_iff_eq] at hb
        obtain ⟨hs1, hz0, hz1⟩ := hb
        refine ⟨_, h, ids_same _ _ _, fun c a p => ?_⟩
        have he : c.en q = some (.mx ik n ln gt) := (p.rd q (by simp)).trans he0
        have hd := opd (Θ := Θ) p t x hx
        have hdi := opd (Θ := Θ) p 0 y hy
        rw [h3] at hd
        rw [h4] at hdi
        have hv := hd.row_inv he
        obtain ⟨_, ⟨h00, _⟩ | ⟨_, cap, arr, e, hu2, _⟩⟩ := p.ho.ents q _ he
        · omega
        rw [hu2] at hv
        have run : (Instr.indexAt t (.slice (some ⟨c.b q, 0, Option.none⟩) n cap) (.int k z)).run P c.w = .ok (.pointer (some ⟨c.b q, z.toNat, Option.none⟩)) c.w := by
          simp [Instr.indexAt, asIntOf, run_underlying hu, rs, hz0, hz1, hs1, add_mk]
        refine stp_same (v := .pointer (some ⟨c.b q, z.toNat, Option.none⟩)) p.ho (by simp [execOp, hop, hv, hdi.int_inv, run]) (.wptr _ _ _ _ _ hd.row_k rfl fun e' he' => ?_)
        rw [he] at he'
        injection he' with he'
        subst he'
        exact .inr ⟨⟨ik, n, ln, gt, rfl, by omega⟩, fun h => (by cases h), rfl⟩
      · cases h
    · cases h
  · cases h
theorem load_one (hty : tyOk P Θ = true) {t : TypeId} {ti : TI} (hti : Θ.get t = some ti) (hag : isAgg ti.d = false) {w : World} {ad : Addr} {v : Value} (hc : w.cell? ad = some v) : (loadVar t ad).run P w = .ok v w := by
  have ra := (rowTy hty hti).isAgg_ w
  rw [hag] at ra
  simp [loadVar, ra, hc]
theorem ls_loadY (hty : tyOk P Θ = true) {t : TypeId} {x : Operand} (hop : o.op = .load t x) (h : planY Θ o sv en nx kf = some r) : ∃ δ, kf δ = some r ∧ Local P o sv en nx δ := by
  have hx : x ∈ o.op.operands.toList := by simp [hop, Op.operands]
  simp only [planY, hop] at h
  split at h
  · rename_i ti q i j h1 h2
    split at h
    · rename_i ik n ln gt he0
      cases hb : (ti.size == 1 && !(isAgg ti.d)) <;> rw [hb] at h <;> simp only [cond_true, cond_false, reduceCtorEq] at h
      simp only [Bool.and_eq_true, beq_iff_eq, Bool.not_eq_true'] at hb
      obtain ⟨hs1, hag⟩ := hb
      refine ⟨_, h, ids_same _ _ _, fun c a p => ?_⟩
      have he : c.en q = some (.mx ik n ln gt) := (p.rd q (by simp)).trans he0
      have hd := opd (Θ := Θ) p 0 x hx
      rw [h2] at hd
      obtain ⟨hi, _, hv⟩ := hd.wptr_mx he
      obtain ⟨_, ⟨h00, _⟩ | ⟨_, cap, arr, e, _, hblk, hcap, hsz, hm⟩⟩ := p.ho.ents q _ he
      · omega
      have hc : c.w.cell? ⟨c.b q, i, Option.none⟩ = some (.slice (some ⟨(c.o q).y (3 * i), 0, Option.none⟩) (ln i) ((c.o q).y (3 * i + 2))) := by rw [cell_of hblk]; exact hm.hdr i hi
      have hl := load_one hty h1 hag hc
      have hv : a.eval x = .pointer (some ⟨c.b q, i, Option.none⟩) := hv
      refine stp_same (v := .slice (some ⟨(c.o q).y (3 * i), 0, Option.none⟩) (ln i) ((c.o q).y (3 * i + 2))) p.ho (by simp [execOp, hop, Instr.loadAt, hv, Instr.sureAddr, hl]) (.wptr _ _ _ _ _ hd.wptr_k rfl fun e' he' => ?_)
      rw [he] at he'
      injection he' with he'
      subst he'
      exact .inr ⟨⟨ik, n, ln, gt, rfl, hi⟩, fun h => (by cases h), by rw [← hm.len i hi]; rfl⟩
    · cases h
  · rename_i ti q i j h1 h2
    split at h
    · rename_i ik n ln gt he0
      cases hb : (ti.size == 1 && !(isAgg ti.d)) <;> rw [hb] at h <;> simp only [cond_true, cond_false, reduceCtorEq] at h
      simp only [Bool.and_eq_true, beq_iff_eq, Bool.not_eq_true'] at hb
      obtain ⟨hs1, hag⟩ := hb
      refine ⟨_, h, ids_same _ _ _, fun c a p => ?_⟩
      have he : c.en q = some (.mx ik n ln gt) := (p.rd q (by simp)).trans he0
      have hd := opd (Θ := Θ) p 0 x hx
      rw [h2] at hd
      obtain ⟨hi, hj, hv⟩ := hd.wptr_mx he
      obtain ⟨_, ⟨h00, _⟩ | ⟨_, cap, arr, e, _, _, _, _, hm⟩⟩ := p.ho.ents q _ he
      · omega
      obtain ⟨arr', ety, hb2, hl1, hl2, hcell⟩ := hm.row i hi
      have hj := hj rfl
      rw [hm.len i hi] at hj
      have hc : c.w.cell? ⟨(c.o q).y (3 * i), j, Option.none⟩ = some (.int ik (gt i j)) := by rw [cell_of hb2]; exact hcell j hj
      have hl := load_one hty h1 hag hc
      have hv : a.eval x = .pointer (some ⟨(c.o q).y (3 * i), j, Option.none⟩) := hv
      exact stp_same (v := .int ik (gt i j)) p.ho (by simp [execOp, hop, Instr.loadAt, hv, Instr.sureAddr, hl]) (.g _ _ (.int _ _))
    · cases h
  · cases h
theorem ls_storeY (hty : tyOk P Θ = true) {t : TypeId} {x y : Operand} (hop : o.op = .store t x y) (h : planY Θ o sv en nx kf = some r) : ∃ δ, kf δ = some r ∧ Local P o sv en nx δ := by
  have hx : x ∈ o.op.operands.toList := by simp [hop, Op.operands]
  have hy : y ∈ o.op.operands.toList := by simp [hop, Op.operands]
  simp only [planY, hop] at h
  split at h
  · rename_i ti q i j ik' v h1 h2 h3
    have rs := fun w => (rowTy hty h1).sizeOf_ w
    split at h
    · rename_i ik n ln gt he0
      cases hb : (ti.size == 1 && (!(isAgg ti.d) && decide (ik = ik'))) <;> rw [hb] at h <;> simp only [cond_true, cond_false, reduceCtorEq] at h
      simp only [Bool.and_eq_true, beq_iff_eq, Bool.not_eq_true', decide_eq_true_eq] at hb
      obtain ⟨hs1, hag, rfl⟩ := hb
      refine ⟨_, h, ⟨fun id hid => .inl (by simpa using hid), Nat.le_refl _⟩, fun c a p => ?_⟩
      have he : c.en q = some (.mx ik n ln gt) := (p.rd q (by simp)).trans he0
      have hd := opd (Θ := Θ) p 0 x hx
      have hdy := opd (Θ := Θ) p t y hy
      rw [h2] at hd
      rw [h3] at hdy
      obtain ⟨hi, hj, hv⟩ := hd.wptr_mx he
      obtain ⟨hxl, ⟨h00, _⟩ | ⟨hn0, cap, arr, e, hu, hblk, hcap, hsz, hm⟩⟩ := p.ho.ents q _ he
      · omega
      obtain ⟨arr', ety, hb2, hl1, hl2, hcell⟩ := hm.row i hi
      have hj := hj rfl
      rw [hm.len i hi] at hj
      have hval : a.eval x = .pointer (some ⟨(c.o q).y (3 * i), j, Option.none⟩) := hv
      have hvy : a.eval y = .int ik v := hdy.int_inv
      obtain ⟨hox, hne⟩ := hm.own i hi
      generalize hB : (c.o q).y (3 * i) = B at *
      have hpl : j + [Value.int ik v].length ≤ arr'.size := by simp; omega
      have hrun : (execOp a.eval o).run P c.w = .ok .skip (c.w.setRow B (putAt arr' j [.int ik v])) := by
        have hst := run_storeCells (P := P) (o := j) (vs := [.int ik v]) hb2 hpl (by simp [Sx.one])
        simp [execOp, hop, Instr.storeAt, hval, Instr.sureAddr, storeVar, rs, hvy, Value.cells, hs1, hst]
      have hlt : B < c.w.heap.size := hxl B hox
      let c1 : Cx := { c with en := fun j => if j = q then some (.mx ik n ln (setG i j v gt)) else c.en j, w := c.w.setRow B (putAt arr' j [.int ik v]) }
      let c2 : Cx := { c with en := fun k => if k = q then some (.mx ik n ln (setG i j v gt)) else c.en k, w := c.w.setRow B (putAt arr' j [.int ik v]) }
      have own : ∀ k, c.ow q (.mx ik n ln gt) k ↔ (c.b q = k ∨ (c.o q).x k) := fun k => by simp [Cx.ow, has, fam, hn0]
      obtain ⟨k1, k2⟩ := rearr_ok (c' := c2) (T := fun k => k = B) (fun k => k = q) p.ho
        ⟨rfl, rfl, rfl, by rw [size_setRow]; exact Nat.le_refl _, fun k _ ht => heap_setRow_ne _ _ _ _ ht, fun k hk => ⟨q, _, he, (own k).2 (.inr (hk ▸ hox))⟩⟩
        (fun k hk => ⟨q, _, rfl, he, (own k).2 (.inr (hk ▸ hox))⟩) (fun id h => h) (fun k h => h) (fun k h => .inl h)
        (fun k hk => ⟨by have hk : k ≠ q := hk; simp [c2, hk], fun _ _ => ⟨rfl, rfl, rfl⟩⟩)
        (fun k e' hk he' => by
          have hk : k = q := hk
          subst hk
          have : .mx ik n ln (setG i j v gt) = e' := by simpa [c2] using he'
          subst this
          refine ⟨p.ho.lt k _ he, fun _ => ?_, .inl ⟨_, he, rfl, rfl, rfl, rfl⟩, fun m hm' => .inr ⟨k, _, rfl, he, (own m).2 ?_⟩⟩
          · refine ⟨fun m hm' => by show m < (c.w.setRow B _).heap.size; rw [size_setRow]; exact hxl m hm', .inr ⟨hn0, cap, arr, e, hu, ?_, hcap, hsz, ?_⟩⟩
            · show (c.w.setRow B _).heap[c.b k]? = _
              rw [heap_setRow_ne _ _ _ _ (fun h => hne h.symm)]
              exact hblk
            · refine ⟨hm.hdr, hm.len, fun i' hi' => hm.own i' hi', fun i' hi' => ?_, hm.inj⟩
              by_cases hii : i' = i
              · subst hii
                refine ⟨putAt arr' j [.int ik v], ety, ?_, hl1, by rw [size_putAt hpl]; exact hl2, fun j' hj' => ?_⟩
                · show (c.w.setRow B _).heap[(c.o k).y (3 * i')]? = _
                  rw [hB]
                  exact heap_setRow hb2
                · rw [get_putAt hpl]
                  by_cases hjj : j' = j
                  · subst hjj
                    rw [if_pos (by simp)]
                    simp [setG]
                  · rw [if_neg (by simp; omega), hcell j' hj']
                    have e1 : (j' == j) = false := by simpa using hjj
                    simp [setG, e1]
              · obtain ⟨arr2, ety2, g1, g2, g3, g4⟩ := hm.row i' hi'
                refine ⟨arr2, ety2, ?_, g2, g3, fun j' hj' => ?_⟩
                · show (c.w.setRow B _).heap[(c.o k).y (3 * i')]? = _
                  rw [heap_setRow_ne _ _ _ _ (fun h => hii (hm.inj i' i hi' hi (h.trans hB.symm)))]
                  exact g1
                · rw [g4 j' hj']
                  have e1 : (i' == i) = false := by simpa using hii
                  simp [setG, e1]
          · rcases hm' with ⟨_, h⟩ | ⟨_, h⟩
            · exact .inl h
            · exact .inr h)
        (fun k k' _ _ _ hk hk' _ _ _ _ => by rw [hk, hk'])
      exact stp_skip (c' := c2) hrun rfl k1 (fun id => rfl) (fun id => by
        simp only [List.map_cons, List.map_nil, List.mem_cons, List.not_mem_nil, or_false]
        exact ⟨.inl, fun h => h.elim (fun h => h) (fun h => h ▸ p.ho.lt q _ he)⟩) k2
    · cases h
  · cases h
def yOf (B n cap : Nat) : Nat → Nat
  | 0 => B
  | 1 => n
  | _ => cap
theorem ls_buildY (hty : tyOk P Θ = true) {t : TypeId} {len : Nat} {ps : Array (Nat × Operand)} (hop : o.op = .buildSlice t len ps) (h : planY Θ o sv en nx kf = some r) : ∃ δ, kf δ = some r ∧ Local P o sv en nx δ := by
  simp only [planY, hop] at h
  split at h
  · rename_i _ _ _ e _ _ _ pp h1 hps
    have hx : pp ∈ o.op.operands.toList := by simp [hop, Op.operands, hps]
    have hps' : ps = #[(0, pp)] := by cases ps; simp_all
    split at h
    · rename_i te q h2 h3
      split at h
      · rename_i ik n cl he0
        cases hb : (te.size == 1) <;> rw [hb] at h <;> simp only [cond_true, cond_false, reduceCtorEq] at h
        have hs1 : te.size = 1 := by simpa using hb
        refine ⟨_, h, ⟨fun id hid => ?_, Nat.le_succ _⟩, fun c a p => ?_⟩
        · simp only [List.map_cons, List.map_nil, List.mem_cons, List.not_mem_nil, or_false] at hid
          rcases hid with rfl | rfl
          · exact .inl (by simp)
          · exact .inr ⟨Nat.le_refl _, Nat.lt_succ_self _⟩
        have hk : ¬ c.K nx := p.fresh nx (by simp) (Nat.le_refl _)
        have hu := (rowTy hty h1).slice_
        obtain ⟨i, z, hi, hsz, hby, hz, hzs, hle, _⟩ := (rowTy hty h2).info
        have rs := fun w => (rowTy hty h2).sizeOf_ w
        have hzl : z.cells.size = 1 := by
          have := (zerosEq_den (Z := fun _ => False) (w := default) hzs).1
          rw [(rowTy hty h2).zlen] at this
          simp at this
          omega
        have he : c.en q = some (.row false (.cons (.int ik) .nil) 1 n cl) := (p.rd q (by simp)).trans he0
        have hqn : q ≠ nx := fun e => hk (e ▸ p.ho.lt q _ he)
        have hd := opd (Θ := Θ) p e pp hx
        rw [h3] at hd
        have hv := hd.row_inv he
        obtain ⟨hfl, ⟨h, _⟩ | ⟨_, cap, arr, et, hu2, hblk, hcap, hszr, hcell⟩⟩ := p.ho.ents q _ he
        · cases h
        rw [hu2] at hv
        have hlt : c.b q < c.w.heap.size := (Array.getElem?_eq_some_iff.1 hblk).1
        generalize hB : c.b q = B at *
        have hrun : (execOp a.eval o).run P c.w = .ok (.value (.slice (some ⟨c.w.heap.size, 0, Option.none⟩) 1 1)) (c.w.alloc (.cells #[.slice (some ⟨B, 0, Option.none⟩) n cap] e)) := by
          have hset : ∀ (A : Array Value) (v : Value), A.size = 1 → A.setIfInBounds 0 v = #[v] := fun A v h => by
            apply Array.ext
            · simp [h]
            · intro k h1 h2
              have : k = 0 := by simp at h2; omega
              subst this
              simp
          have hcs : (Value.slice (some ⟨B, 0, Option.none⟩) n cap).cells = #[.slice (some ⟨B, 0, Option.none⟩) n cap] := rfl
          simp [execOp, hop, hps', Instr.buildSlice, run_underlying hu, rs, hs1, zeroValue, typeInfo, hi, hz, hv, Instr.fill, hcs, newRow]
          rw [hset _ _ (by simp)]
        let c1 : Cx := { b := fun k => if k = nx then c.w.heap.size else c.b k, o := fun k => if k = nx then ⟨fun m => m = B, yOf B n cap⟩ else c.o k, u := fun k => if k = nx then .slice (some ⟨c.w.heap.size, 0, Option.none⟩) 1 1 else c.u k
                         en := fun k => if k = nx then some (.mx ik 1 (constL n) (rowG cl)) else if k = q then Option.none else c.en k, K := fun k => c.K k ∨ k = nx, Z := c.Z, w := c.w.alloc (.cells #[.slice (some ⟨B, 0, Option.none⟩) n cap] e) }
        have ownq : c.ow q (.row false (.cons (.int ik) .nil) 1 n cl) B := .inl ⟨rfl, hB⟩
        have own1 : ∀ e' k, c1.en nx = some e' → c1.ow nx e' k → k = c.w.heap.size ∨ k = B := fun e' k h1 h2 => by
          rcases h2 with ⟨_, h2⟩ | ⟨_, h2⟩
          · exact .inl (by simpa [c1] using h2.symm)
          · exact .inr (by simpa [c1] using h2)
        obtain ⟨k1, k2⟩ := rearr_ok (c' := c1) (T := fun _ => False) (fun k => k = q ∨ k = nx) p.ho (Mem.alloc (Mem.refl c) _) (fun k h => h.elim) (fun id h => .inl h) (fun k h => h) (fun k h => .inl h)
          (fun k hk => by
            have a1 : k ≠ q := fun h => hk (.inl h)
            have a2 : k ≠ nx := fun h => hk (.inr h)
            exact ⟨by simp [c1, a1, a2], fun _ _ => ⟨by simp [c1, a2], by simp [c1, a2], by simp [c1, a2]⟩⟩)
          (fun k e' hk he' => by
            rcases hk with rfl | rfl
            · exfalso; simp [c1, hqn] at he'
            · have : .mx ik 1 (constL n) (rowG cl) = e' := by simpa [c1] using he'
              subst this
              refine ⟨.inr rfl, fun ht => ?_, .inr hk, fun m hm => ?_⟩
              · refine ⟨fun m hm => ?_, .inr ⟨by omega, 1, #[.slice (some ⟨B, 0, Option.none⟩) n cap], e, by simp [c1], by simpa [c1] using heap_alloc_new c.w _, Nat.le_refl _, by simp, ?_⟩⟩
                · have : m = B := by simpa [c1] using hm
                  subst this
                  simp [c1]; omega
                · have hold : (c.w.alloc (.cells #[.slice (some ⟨B, 0, Option.none⟩) n cap] e)).heap[B]? = some (.cells arr et (0, 0)) := by
                    rw [← hblk]; exact heap_alloc_old c.w _ _ hlt
                  refine ⟨fun i' hi' => ?_, fun i' hi' => ?_, fun i' hi' => ?_, fun i' hi' => ?_, fun i' i'' a1 a2 _ => by omega⟩
                  · obtain rfl : i' = 0 := by omega
                    simp [c1, yOf, constL]
                  · obtain rfl : i' = 0 := by omega
                    simp [c1, yOf, constL]
                  · obtain rfl : i' = 0 := by omega
                    simp [c1, yOf]; omega
                  · obtain rfl : i' = 0 := by omega
                    refine ⟨arr, et, by simpa [c1, yOf] using hold, by simpa [c1, yOf, constL] using hcap, by simpa [c1, yOf] using hszr, fun j hj => ?_⟩
                    have hj : j < n := hj
                    obtain ⟨v, hv1, hv2⟩ := hcell j 0 hj (by omega)
                    have hck := hfl j 0 hj (by omega)
                    have e1 : j * 1 + 0 = j := by omega
                    rw [e1] at hv1
                    rw [hv1]
                    show some v = some (.int ik (toI (cl j 0)))
                    cases hcl : cl j 0 with
                    | int k m =>
                      rw [hcl] at hv2 hck
                      simp [ckAt, ckOk] at hck
                      subst hck
                      cases hv2
                      rfl
                    | _ => rw [hcl] at hck; simp [ckAt, ckOk] at hck
              · rcases own1 _ m he' hm with h | h
                · exact .inl (Nat.le_of_eq h.symm)
                · exact .inr ⟨q, _, .inl rfl, he, h ▸ ownq⟩)
          (fun k k' e1 e2 m hk hk' h1 h2 _ _ => by
            rcases hk with rfl | rfl <;> rcases hk' with rfl | rfl
            · rfl
            · exfalso; simp [c1, hqn] at h1
            · exfalso; simp [c1, hqn] at h2
            · rfl)
        refine stp_value (c' := c1) hrun (.row _ _ (.inr rfl) rfl fun _ => by simp [c1]) k1 (fun id => rfl) (fun id => ?_) k2
        simp only [List.map_cons, List.map_nil, List.mem_cons, List.not_mem_nil, or_false]
        exact ⟨fun h => h.elim .inl (fun h => .inr (.inr h)), fun h => h.elim .inl (fun h => h.elim (fun h => .inl (h ▸ p.ho.lt q _ he)) .inr)⟩
      · cases h
    · cases h
  · cases h
theorem bltT {i n : Nat} (h : i < n) : Nat.blt i n = true := by rw [Nat.blt_eq]; exact h
theorem bltF (n : Nat) : Nat.blt n n = false := by
  cases h : Nat.blt n n
  · rfl
  · rw [Nat.blt_eq] at h; omega
theorem MxOk.cat {w w' : World} {b1 b2 b' : Nat} {o1 o2 : Own} {ik : IntKind} {n : Nat} {ln ln' : Nat → Nat} {gt gt' : Nat → Nat → Int} {arr1 arr2 arr' : Array Value} (h1 : MxOk w b1 o1 ik n ln gt arr1) (h2 : MxOk w b2 o2 ik 1 ln' gt' arr2)
    (hd : ∀ i, i < n → o1.y (3 * i) ≠ o2.y 0) (hb1 : ∀ i, i < n → o1.y (3 * i) ≠ b') (hb2 : o2.y 0 ≠ b') (hw1 : ∀ i, i < n → w'.heap[o1.y (3 * i)]? = w.heap[o1.y (3 * i)]?) (hw2 : w'.heap[o2.y 0]? = w.heap[o2.y 0]?)
    (ha1 : ∀ i, i < n → arr'[i]? = arr1[i]?) (ha2 : arr'[n]? = arr2[0]?) :
    MxOk w' b' ⟨fun k => o1.x k ∨ o2.x k, fun m => if m < 3 * n then o1.y m else o2.y (m - 3 * n)⟩ ik (n + 1) (catL n ln ln') (catG n gt gt') arr' := by
  have yl : ∀ i t, i < n → t ≤ 2 → (if 3 * i + t < 3 * n then o1.y (3 * i + t) else o2.y (3 * i + t - 3 * n)) = o1.y (3 * i + t) := fun i t hi ht => if_pos (by omega)
  have yl0 : ∀ i, i < n → (if 3 * i < 3 * n then o1.y (3 * i) else o2.y (3 * i - 3 * n)) = o1.y (3 * i) := fun i hi => if_pos (by omega)
  have yr : ∀ t, (if 3 * n + t < 3 * n then o1.y (3 * n + t) else o2.y (3 * n + t - 3 * n)) = o2.y t := fun t => by rw [if_neg (by omega)]; congr 1; omega
  have yr0 : (if 3 * n < 3 * n then o1.y (3 * n) else o2.y (3 * n - 3 * n)) = o2.y 0 := yr 0
  have cl1 : ∀ i, i < n → catL n ln ln' i = ln i := fun i hi => by unfold catL; rw [bltT hi]; rfl
  have cl2 : catL n ln ln' n = ln' 0 := by unfold catL; rw [bltF n]; simp
  have cg1 : ∀ i, i < n → catG n gt gt' i = gt i := fun i hi => by unfold catG; rw [bltT hi]; rfl
  have cg2 : catG n gt gt' n = gt' 0 := by unfold catG; rw [bltF n]; simp
  have sp : ∀ i, i < n + 1 → i < n ∨ i = n := fun i hi => by omega
  refine ⟨fun i hi => ?_, fun i hi => ?_, fun i hi => ?_, fun i hi => ?_, fun i i' hi hi' he => ?_⟩
  · rcases sp i hi with h | rfl
    · show arr'[i]? = some (.slice (some ⟨if 3 * i < 3 * n then _ else _, 0, Option.none⟩) _ (if 3 * i + 2 < 3 * n then _ else _))
      rw [yl0 i h, yl i 2 h (by omega), cl1 i h, ha1 i h]
      exact h1.hdr i h
    · show arr'[i]? = some (.slice (some ⟨if 3 * i < 3 * i then _ else _, 0, Option.none⟩) _ (if 3 * i + 2 < 3 * i then _ else _))
      rw [yr0, yr 2, cl2, ha2]
      exact h2.hdr 0 (by omega)
  · rcases sp i hi with h | rfl
    · show (if 3 * i + 1 < 3 * n then _ else _) = _
      rw [yl i 1 h (by omega), cl1 i h]
      exact h1.len i h
    · show (if 3 * i + 1 < 3 * i then _ else _) = _
      rw [yr 1, cl2]
      exact h2.len 0 (by omega)
  · rcases sp i hi with h | rfl
    · show (o1.x (if 3 * i < 3 * n then _ else _) ∨ o2.x (if 3 * i < 3 * n then _ else _)) ∧ (if 3 * i < 3 * n then _ else _) ≠ b'
      rw [yl0 i h]
      exact ⟨.inl (h1.own i h).1, hb1 i h⟩
    · show (o1.x (if 3 * i < 3 * i then _ else _) ∨ o2.x (if 3 * i < 3 * i then _ else _)) ∧ (if 3 * i < 3 * i then _ else _) ≠ b'
      rw [yr0]
      exact ⟨.inr (h2.own 0 (by omega)).1, hb2⟩
  · rcases sp i hi with h | rfl
    · obtain ⟨a, e, g1, g2⟩ := h1.row i h
      refine ⟨a, e, ?_, ?_⟩
      · show w'.heap[if 3 * i < 3 * n then _ else _]? = _
        rw [yl0 i h, hw1 i h]
        exact g1
      · show _ ≤ (if 3 * i + 2 < 3 * n then _ else _) ∧ (if 3 * i + 2 < 3 * n then _ else _) ≤ _ ∧ _
        rw [yl i 2 h (by omega), cl1 i h, cg1 i h]
        exact g2
    · obtain ⟨a, e, g1, g2⟩ := h2.row 0 (by omega)
      refine ⟨a, e, ?_, ?_⟩
      · show w'.heap[if 3 * i < 3 * i then _ else _]? = _
        rw [yr0, hw2]
        exact g1
      · show _ ≤ (if 3 * i + 2 < 3 * i then _ else _) ∧ (if 3 * i + 2 < 3 * i then _ else _) ≤ _ ∧ _
        rw [yr 2, cl2, cg2]
        exact g2
  · have he : (if 3 * i < 3 * n then o1.y (3 * i) else o2.y (3 * i - 3 * n)) = (if 3 * i' < 3 * n then o1.y (3 * i') else o2.y (3 * i' - 3 * n)) := he
    rcases sp i hi with h | rfl <;> rcases sp i' hi' with h' | rfl
    · rw [yl0 i h, yl0 i' h'] at he
      exact h1.inj i i' h h' he
    · rw [yl0 i h, yr0] at he
      exact absurd he (hd i h)
    · rw [yl0 i' h', yr0] at he
      exact absurd he.symm (hd i' h')
    · rfl
theorem ls_appendY (hty : tyOk P Θ = true) {args : Array Operand} {ts : Array TypeId} (hop : o.op = .call ⟨.builtin .append, args, ts⟩) (h : planY Θ o sv en nx kf = some r) : ∃ δ, kf δ = some r ∧ Local P o sv en nx δ := by
  obtain ⟨args⟩ := args
  obtain ⟨ts⟩ := ts
  simp only [planY, hop] at h
  split at h
  · rename_i x y t t'
    have hx : x ∈ o.op.operands.toList := by simp [hop, Op.operands, Call.operands]
    have hy : y ∈ o.op.operands.toList := by simp [hop, Op.operands, Call.operands]
    split at h
    · rename_i e _ _ _ e' _ _ _ h1 h2
      have hu := (rowTy hty h1).slice_
      have hu' := (rowTy hty h2).slice_
      split at h
      · rename_i te fl0 size0 n0 c0 q h3 h4 h5
        obtain ⟨i, z, hi, hsz, hby, hz, hzs, hle, _⟩ := (rowTy hty h3).info
        have hzl : z.cells.size = i.size := by
          have := (zerosEq_den (Z := fun _ => False) (w := default) hzs).1
          rw [(rowTy hty h3).zlen] at this
          simp at this
          omega
        have hby' : i.bytes ≤ 65536 := by omega
        split at h
        · rename_i ik m ln gt he0
          cases hb : (te.size == 1 && (m == 1)) <;> rw [hb] at h <;> simp only [cond_true, cond_false, reduceCtorEq] at h
          simp only [Bool.and_eq_true, beq_iff_eq] at hb
          obtain ⟨hs1, rfl⟩ := hb
          have his : i.size = 1 := by omega
          refine ⟨_, h, ⟨fun id hid => ?_, Nat.le_succ _⟩, fun c a p => ?_⟩
          · simp only [List.map_cons, List.map_nil, List.mem_cons, List.not_mem_nil, or_false] at hid
            rcases hid with rfl | rfl
            · exact .inl (by simp)
            · exact .inr ⟨Nat.le_refl _, Nat.lt_succ_self _⟩
          have hk : ¬ c.K nx := p.fresh nx (by simp) (Nat.le_refl _)
          have he : c.en q = some (.mx ik 1 ln gt) := (p.rd q (by simp)).trans he0
          have hqn : q ≠ nx := fun e => hk (e ▸ p.ho.lt q _ he)
          have hdx := opd (Θ := Θ) p 0 x hx
          have hdy := opd (Θ := Θ) p 0 y hy
          rw [h4] at hdx
          rw [h5] at hdy
          obtain ⟨_, hvx⟩ := hdx.slnil_inv
          have hvy := hdy.row_inv he
          obtain ⟨hxl, ⟨h00, _⟩ | ⟨_, cap, arr, et, hu2, hblk, hcap, hsza, hm⟩⟩ := p.ho.ents q _ he
          · omega
          rw [hu2] at hvy
          have hX : ∀ ad, some (⟨c.b q, 0, Option.none⟩ : Addr) = some ad → ∀ j, j < 1 * i.size → c.w.cell? (ad.add j) = some (arr.getD j Go.undef) := fun ad ha j hj => by
            injection ha with ha
            subst ha
            have : j < arr.size := by omega
            rw [add_mk, Nat.zero_add, cell_of hblk]
            simp [this]
          rcases run_append (ty := o.type) (w := c.w) hu hu' hi hz hzl hby' Option.none (some ⟨c.b q, 0, Option.none⟩) 0 0 1 cap (.inl (by omega)) (fun _ => Go.undef) (fun j => arr.getD j Go.undef) (by simp) (by simp) (fun _ => ⟨_, rfl⟩) hX with ⟨hge, hrun⟩ | ⟨hlt, nc, rest, hnc, hrs, hrun⟩
          · omega
          rw [his] at hrun hrs
          generalize hA : ((List.range (0 * 1)).map fun _ => Go.undef).toArray ++ ((List.range (1 * 1)).map fun j => arr.getD j Go.undef).toArray ++ rest = A at hrun
          have hA0 : A[0]? = arr[0]? := by
            rw [← hA, Array.getElem?_append_left (by simp), Array.getElem?_append_right (by simp)]
            have : 0 < arr.size := by omega
            simp [this]
          have hAs : A.size = nc := by
            rw [← hA]
            simp [hrs]
            omega
          let c1 : Cx := { b := fun k => if k = nx then c.w.heap.size else c.b k, o := fun k => if k = nx then c.o q else c.o k, u := fun k => if k = nx then .slice (some ⟨c.w.heap.size, 0, Option.none⟩) 1 nc else c.u k
                           en := fun k => if k = nx then some (.mx ik 1 ln gt) else if k = q then Option.none else c.en k, K := fun k => c.K k ∨ k = nx, Z := c.Z, w := c.w.drew.alloc (.cells A e) }
          have own : ∀ k, c.ow q (.mx ik 1 ln gt) k ↔ (c.b q = k ∨ (c.o q).x k) := fun k => by simp [Cx.ow, has, fam]
          obtain ⟨k1, k2⟩ := rearr_ok (c' := c1) (T := fun _ => False) (fun k => k = q ∨ k = nx) p.ho ((Mem.drew c).alloc _) (fun k h => h.elim) (fun id h => .inl h) (fun k h => h) (fun k h => .inl h)
            (fun k hk => by
              have a1 : k ≠ q := fun h => hk (.inl h)
              have a2 : k ≠ nx := fun h => hk (.inr h)
              exact ⟨by simp [c1, a1, a2], fun _ _ => ⟨by simp [c1, a2], by simp [c1, a2], by simp [c1, a2]⟩⟩)
            (fun k e' hk he' => by
              rcases hk with rfl | rfl
              · exfalso; simp [c1, hqn] at he'
              · have : .mx ik 1 ln gt = e' := by simpa [c1] using he'
                subst this
                refine ⟨.inr rfl, fun ht => ?_, .inr hk, fun m hm' => ?_⟩
                · refine ⟨fun m hm' => ?_, .inr ⟨by omega, nc, A, e, by simp [c1], by simpa [c1] using heap_alloc_new c.w.drew _, by omega, by omega, ?_⟩⟩
                  · have := hxl m (by simpa [c1] using hm')
                    simp [c1]; omega
                  · have same : ∀ m, (c.o q).x m → (c.w.drew.alloc (.cells A e)).heap[m]? = c.w.heap[m]? := fun m hm' => heap_alloc_old c.w.drew _ _ (hxl m hm')
                    have h0 := hm.mono (w' := c1.w) (o' := c1.o k) (b' := c.b q) rfl (by simp [c1]) (fun m h => by simpa [c1] using h) same
                    refine ⟨fun i' hi' => ?_, h0.len, fun i' hi' => ⟨(h0.own i' hi').1, ?_⟩, h0.row, h0.inj⟩
                    · obtain rfl : i' = 0 := by omega
                      rw [hA0]
                      exact h0.hdr 0 hi'
                    · have := hxl _ (hm.own i' hi').1
                      simp [c1]; omega
                · rcases hm' with ⟨_, h⟩ | ⟨_, h⟩
                  · exact .inl (by have : c.w.heap.size = m := by simpa [c1] using h
                                   omega)
                  · exact .inr ⟨q, _, .inl rfl, he, (own m).2 (.inr (by simpa [c1] using h))⟩)
            (fun k k' e1 e2 m hk hk' h1 h2 _ _ => by
              rcases hk with rfl | rfl <;> rcases hk' with rfl | rfl
              · rfl
              · exfalso; simp [c1, hqn] at h1
              · exfalso; simp [c1, hqn] at h2
              · rfl)
          refine stp_value (c' := c1) (v := .slice (some ⟨c.w.heap.size, 0, Option.none⟩) 1 nc) ?_ (.row _ _ (.inr rfl) rfl fun _ => by simp [c1]) k1 (fun id => rfl) (fun id => ?_) k2
          · rw [invoke_append hop]
            simp only [List.map_toArray, List.map_cons, List.map_nil, hvx, hvy, hrun]
            rfl
          · simp only [List.map_cons, List.map_nil, List.mem_cons, List.not_mem_nil, or_false]
            exact ⟨fun h => h.elim .inl (fun h => .inr (.inr h)), fun h => h.elim .inl (fun h => h.elim (fun h => .inl (h ▸ p.ho.lt q _ he)) .inr)⟩
        · cases h
      · rename_i te g q h3 h4 h5
        obtain ⟨i, z, hi, hsz, hby, hz, hzs, hle, _⟩ := (rowTy hty h3).info
        have hzl : z.cells.size = i.size := by
          have := (zerosEq_den (Z := fun _ => False) (w := default) hzs).1
          rw [(rowTy hty h3).zlen] at this
          simp at this
          omega
        have hby' : i.bytes ≤ 65536 := by omega
        split at h
        · rename_i ik n ln gt ik' m ln' gt' he0g he0
          cases hgq : (g == q) <;> rw [hgq] at h <;> simp only [cond_true, cond_false, reduceCtorEq] at h
          cases hb : (te.size == 1 && ((m == 1 && decide (ik = ik')) && room (n + 1))) <;> rw [hb] at h <;> simp only [cond_true, cond_false, reduceCtorEq] at h
          simp only [Bool.and_eq_true, beq_iff_eq, decide_eq_true_eq] at hb
          simp only [beq_eq_false_iff_ne] at hgq
          obtain ⟨hs1, ⟨rfl, rfl⟩, hroom⟩ := hb
          have hroom : n + 1 ≤ 1073741824 := by simpa [room] using hroom
          have his : i.size = 1 := by omega
          refine ⟨_, h, ⟨fun id hid => ?_, Nat.le_succ _⟩, fun c a p => ?_⟩
          · simp only [List.map_cons, List.map_nil, List.mem_cons, List.not_mem_nil, or_false] at hid
            rcases hid with rfl | rfl | rfl
            · exact .inl (by simp)
            · exact .inl (by simp)
            · exact .inr ⟨Nat.le_refl _, Nat.lt_succ_self _⟩
          have hk : ¬ c.K nx := p.fresh nx (by simp) (Nat.le_refl _)
          have heg : c.en g = some (.mx ik n ln gt) := (p.rd g (by simp)).trans he0g
          have he : c.en q = some (.mx ik 1 ln' gt') := (p.rd q (by simp)).trans he0
          have hqn : q ≠ nx := fun e => hk (e ▸ p.ho.lt q _ he)
          have hgn : g ≠ nx := fun e => hk (e ▸ p.ho.lt g _ heg)
          have hdx := opd (Θ := Θ) p 0 x hx
          have hdy := opd (Θ := Θ) p 0 y hy
          rw [h4] at hdx
          rw [h5] at hdy
          have hvx := hdx.row_inv heg
          have hvy := hdy.row_inv he
          obtain ⟨hxlg, horg⟩ := p.ho.ents g _ heg
          obtain ⟨hxl, ⟨h00, _⟩ | ⟨_, cap, arr, et, hu2, hblk, hcap, hsza, hm⟩⟩ := p.ho.ents q _ he
          · omega
          rw [hu2] at hvy
          have owng : ∀ k, c.ow g (.mx ik n ln gt) k ↔ ((n ≠ 0 ∧ c.b g = k) ∨ (c.o g).x k) := fun k => by simp [Cx.ow, has, fam]
          have ownq : ∀ k, c.ow q (.mx ik 1 ln' gt') k ↔ (c.b q = k ∨ (c.o q).x k) := fun k => by simp [Cx.ow, has, fam]
          have apart : ∀ k, ((n ≠ 0 ∧ c.b g = k) ∨ (c.o g).x k) → (c.b q = k ∨ (c.o q).x k) → False := fun k h1 h2 => hgq (p.ho.inj g q _ _ k heg he ((owng k).2 h1) ((ownq k).2 h2))
          have hX : ∀ ad, some (⟨c.b q, 0, Option.none⟩ : Addr) = some ad → ∀ j, j < 1 * i.size → c.w.cell? (ad.add j) = some (arr.getD j Go.undef) := fun ad ha j hj => by
            injection ha with ha
            subst ha
            have : j < arr.size := by omega
            rw [add_mk, Nat.zero_add, cell_of hblk]
            simp [this]
          have fin : ∀ (arrg : Array Value) (b' cap' : Nat) (A : Array Value) (w' : World) (T : Nat → Prop), MxOk c.w (c.b g) (c.o g) ik n ln gt arrg → ((n ≠ 0 ∧ b' = c.b g) ∨ c.w.heap.size ≤ b') → b' < w'.heap.size → Mem c T w' → (∀ k, T k → n ≠ 0 ∧ k = c.b g) → (∃ et, w'.heap[b']? = some (.cells A et (0, 0))) → n + 1 ≤ cap' → cap' ≤ A.size →
              (∀ j, j < n → A[j]? = arrg[j]?) → A[n]? = arr[0]? → (execOp a.eval o).run P c.w = .ok (.value (.slice (some ⟨b', 0, Option.none⟩) (n + 1) cap')) w' →
              Stp P o c a ⟨.row nx, [(g, Option.none), (q, Option.none), (nx, some (.mx ik (n + 1) (catL n ln ln') (catG n gt gt')))], [g, q], nx + 1⟩ := fun arrg b' cap' A w' T hmg hb' hbl hM hT hbk hc1 hc2 ha1 ha2 hrun => by
            have hbx1 : ∀ i', i' < n → (c.o g).y (3 * i') ≠ b' := fun i' hi' => by
              rcases hb' with ⟨_, h⟩ | h
              · rw [h]; exact (hmg.own i' hi').2
              · have := hxlg _ (hmg.own i' hi').1
                omega
            have hbx2 : (c.o q).y 0 ≠ b' := by
              have h0 := (hm.own 0 (by omega)).1
              rcases hb' with ⟨hn, h⟩ | h
              · rw [h]; exact fun h2 => apart _ (.inl ⟨hn, h2.symm⟩) (.inr h0)
              · have := hxl _ h0
                have e0 : (c.o q).y (3 * 0) = (c.o q).y 0 := rfl
                omega
            have sameg : ∀ i', i' < n → w'.heap[(c.o g).y (3 * i')]? = c.w.heap[(c.o g).y (3 * i')]? := fun i' hi' => hM.same _ (hxlg _ (hmg.own i' hi').1) fun ht => (hmg.own i' hi').2 (hT _ ht).2
            have sameq : w'.heap[(c.o q).y 0]? = c.w.heap[(c.o q).y 0]? := hM.same _ (hxl _ (hm.own 0 (by omega)).1) fun ht => apart _ (.inl ⟨(hT _ ht).1, (hT _ ht).2.symm⟩) (.inr (hm.own 0 (by omega)).1)
            have hcat := hmg.cat (w' := w') (b' := b') (arr' := A) hm (fun i' hi' h => apart _ (.inr (hmg.own i' hi').1) (.inr (h ▸ (hm.own 0 (by omega)).1))) hbx1 hbx2 sameg sameq ha1 ha2
            let c1 : Cx := { b := fun k => if k = nx then b' else c.b k, o := fun k => if k = nx then ⟨fun k => (c.o g).x k ∨ (c.o q).x k, fun m => if m < 3 * n then (c.o g).y m else (c.o q).y (m - 3 * n)⟩ else c.o k
                             u := fun k => if k = nx then .slice (some ⟨b', 0, Option.none⟩) (n + 1) cap' else c.u k
                             en := fun k => if k = nx then some (.mx ik (n + 1) (catL n ln ln') (catG n gt gt')) else if k = q then Option.none else if k = g then Option.none else c.en k, K := fun k => c.K k ∨ k = nx, Z := c.Z, w := w' }
            obtain ⟨k1, k2⟩ := rearr_ok (c' := c1) (T := T) (fun k => k = g ∨ k = q ∨ k = nx) p.ho hM (fun k hk => ⟨g, _, .inl rfl, heg, (owng k).2 (.inl ⟨(hT k hk).1, (hT k hk).2.symm⟩)⟩) (fun id h => .inl h) (fun k h => h) (fun k h => .inl h)
              (fun k hk => by
                have a1 : k ≠ g := fun h => hk (.inl h)
                have a2 : k ≠ q := fun h => hk (.inr (.inl h))
                have a3 : k ≠ nx := fun h => hk (.inr (.inr h))
                exact ⟨by simp [c1, a1, a2, a3], fun _ _ => ⟨by simp [c1, a3], by simp [c1, a3], by simp [c1, a3]⟩⟩)
              (fun k e' hk he' => by
                rcases hk with rfl | rfl | rfl
                · exfalso; simp [c1, hgn] at he'
                · exfalso; simp [c1, hqn] at he'
                · have : .mx ik (n + 1) (catL n ln ln') (catG n gt gt') = e' := by simpa [c1] using he'
                  subst this
                  refine ⟨.inr rfl, fun ht => ?_, .inr hk, fun m hm' => ?_⟩
                  · refine ⟨fun m hm' => ?_, .inr ⟨by omega, cap', A, ?_⟩⟩
                    · have hm' : (c.o g).x m ∨ (c.o q).x m := by simpa [c1] using hm'
                      have : m < c.w.heap.size := hm'.elim (hxlg m) (hxl m)
                      exact Nat.lt_of_lt_of_le this hM.size
                    · have hcat' : MxOk c1.w (c1.b k) (c1.o k) ik (n + 1) (catL n ln ln') (catG n gt gt') A := by simpa [c1] using hcat
                      obtain ⟨et', h⟩ := hbk
                      exact ⟨et', by simp [c1], by simpa [c1] using h, hc1, hc2, hcat'⟩
                  · rcases hm' with ⟨_, h⟩ | ⟨_, h⟩
                    · have h : b' = m := by simpa [c1] using h
                      rcases hb' with ⟨hn, h2⟩ | h2
                      · exact .inr ⟨g, _, .inl rfl, heg, (owng m).2 (.inl ⟨hn, h2.symm.trans h⟩)⟩
                      · exact .inl (h ▸ h2)
                    · have h : (c.o g).x m ∨ (c.o q).x m := by simpa [c1] using h
                      rcases h with h | h
                      · exact .inr ⟨g, _, .inl rfl, heg, (owng m).2 (.inr h)⟩
                      · exact .inr ⟨q, _, .inr (.inl rfl), he, (ownq m).2 (.inr h)⟩)
              (fun k k' e1 e2 m hk hk' h1 h2 _ _ => by
                rcases hk with rfl | rfl | rfl
                · exfalso; simp [c1, hgn] at h1
                · exfalso; simp [c1, hqn] at h1
                · rcases hk' with rfl | rfl | rfl
                  · exfalso; simp [c1, hgn] at h2
                  · exfalso; simp [c1, hqn] at h2
                  · rfl)
            refine stp_value (c' := c1) hrun (.row _ _ (.inr rfl) rfl fun _ => by simp [c1]) k1 (fun id => ?_) (fun id => ?_) k2
            · simp only [upd, c1]
            · simp only [List.map_cons, List.map_nil, List.mem_cons, List.not_mem_nil, or_false]
              exact ⟨fun h => h.elim .inl (fun h => .inr (.inr (.inr h))), fun h => h.elim .inl (fun h => h.elim (fun h => .inl (h ▸ p.ho.lt g _ heg)) (fun h => h.elim (fun h => .inl (h ▸ p.ho.lt q _ he)) .inr))⟩
          rcases horg with ⟨hn0, hu2g⟩ | ⟨hn0, capg, arrg, etg, hu2g, hblkg, hcapg, hszg, hmg⟩
          · subst hn0
            rw [hu2g] at hvx
            have hmg : MxOk c.w (c.b g) (c.o g) ik 0 ln gt #[] := ⟨fun i hi => by omega, fun i hi => by omega, fun i hi => by omega, fun i hi => by omega, fun i i' hi => by omega⟩
            rcases run_append (ty := o.type) (w := c.w) hu hu' hi hz hzl hby' Option.none (some ⟨c.b q, 0, Option.none⟩) 0 0 1 cap (.inl (by omega)) (fun _ => Go.undef) (fun j => arr.getD j Go.undef) (by simp) (by simp) (fun _ => ⟨_, rfl⟩) hX with ⟨hge, hrun⟩ | ⟨hlt, nc, rest, hnc, hrs, hrun⟩
            · omega
            rw [his] at hrun hrs
            generalize hA : ((List.range (0 * 1)).map fun _ => Go.undef).toArray ++ ((List.range (1 * 1)).map fun j => arr.getD j Go.undef).toArray ++ rest = A at hrun
            have hAs : A.size = nc := by
              rw [← hA]
              simp [hrs]
              omega
            have h0 : 0 < arr.size := by omega
            refine fin #[] c.w.heap.size nc A (c.w.drew.alloc (.cells A e)) (fun _ => False) hmg (.inr (Nat.le_refl _)) (by simp) ((Mem.drew c).alloc _) (fun k h => h.elim) ⟨_, heap_alloc_new c.w.drew _⟩ hnc (by omega) (fun j hj => by omega) ?_ ?_
            · rw [← hA, Array.getElem?_append_left (by simp), Array.getElem?_append_right (by simp)]
              simp [h0]
            · rw [invoke_append hop]
              simp only [List.map_toArray, List.map_cons, List.map_nil, hvx, hvy, hrun]
              rfl
          rw [hu2g] at hvx
          have hU : ∀ ad, some (⟨c.b g, 0, Option.none⟩ : Addr) = some ad → ∀ j, j < n * i.size → c.w.cell? (ad.add j) = some (arrg.getD j Go.undef) := fun ad ha j hj => by
            injection ha with ha
            subst ha
            have : j < arrg.size := by rw [his] at hj; omega
            rw [add_mk, Nat.zero_add, cell_of hblkg]
            simp [this]
          rcases run_append (ty := o.type) (w := c.w) hu hu' hi hz hzl hby' (some ⟨c.b g, 0, Option.none⟩) (some ⟨c.b q, 0, Option.none⟩) n capg 1 cap (.inl hroom) (fun j => arrg.getD j Go.undef) (fun j => arr.getD j Go.undef) (fun _ => ⟨_, rfl⟩) hU (fun _ => ⟨_, rfl⟩) hX with ⟨hge, hrun⟩ | ⟨hlt, nc, rest, hnc, hrs, hrun⟩
          · rw [his] at hrun
            have h0 : arr[0]? = some (arr.getD 0 Go.undef) := by
              have : 0 < arr.size := by omega
              simp [this]
            have hhd := hm.hdr 0 (by omega)
            have hvs : (List.range (1 * 1)).map (fun j => arr.getD j Go.undef) = [arr.getD 0 Go.undef] := by simp [List.range_succ]
            rw [hvs, Nat.mul_one] at hrun
            have hone : Sx.one (arr.getD 0 Go.undef) = true := by
              rw [h0] at hhd
              injection hhd with hhd
              rw [hhd]; rfl
            have hpl : n + [arr.getD 0 Go.undef].length ≤ arrg.size := by simp; omega
            have hst := run_storeCells (P := P) (o := n) (vs := [arr.getD 0 Go.undef]) hblkg hpl (by simpa using hone)
            refine fin arrg (c.b g) capg (putAt arrg n [arr.getD 0 Go.undef]) (c.w.setRow (c.b g) (putAt arrg n [arr.getD 0 Go.undef])) (fun k => k = c.b g) hmg (.inl ⟨hn0, rfl⟩) ?_ (Mem.setRow heg (by simp [has, hn0]) _) (fun k h => ⟨hn0, h⟩) ⟨_, heap_setRow hblkg⟩ hge (by rw [size_putAt hpl]; exact hszg) (fun j hj => ?_) ?_ ?_
            · rw [size_setRow]; exact (Array.getElem?_eq_some_iff.1 hblkg).1
            · rw [get_putAt hpl, if_neg (by omega)]
            · rw [get_putAt hpl, if_pos (by simp), h0]
              simp
            · rw [invoke_append hop]
              have hst' : (storeCells ((⟨c.b g, 0, Option.none⟩ : Addr).add n) [arr.getD 0 Go.undef]).run P c.w = .ok () (c.w.setRow (c.b g) (putAt arrg n [arr.getD 0 Go.undef])) := by
                rw [add_mk, Nat.zero_add]; exact hst
              simp only [List.map_toArray, List.map_cons, List.map_nil, hvx, hvy, hrun, appRes, hst']
              rfl
          · rw [his] at hrun hrs
            generalize hA : ((List.range (n * 1)).map fun j => arrg.getD j Go.undef).toArray ++ ((List.range (1 * 1)).map fun j => arr.getD j Go.undef).toArray ++ rest = A at hrun
            have hAs : A.size = nc := by
              rw [← hA]
              simp [hrs]
              omega
            have h0 : 0 < arr.size := by omega
            refine fin arrg c.w.heap.size nc A (c.w.drew.alloc (.cells A e)) (fun _ => False) hmg (.inr (Nat.le_refl _)) (by simp) ((Mem.drew c).alloc _) (fun k h => h.elim) ⟨_, heap_alloc_new c.w.drew _⟩ hnc (by omega) (fun j hj => ?_) ?_ ?_
            · have h1 : j < arrg.size := by omega
              rw [← hA, Array.getElem?_append_left (by simp; omega), Array.getElem?_append_left (by simp; omega)]
              simp [h1, hj]
            · rw [← hA, Array.getElem?_append_left (by simp), Array.getElem?_append_right (by simp)]
              simp [h0]
            · rw [invoke_append hop]
              simp only [List.map_toArray, List.map_cons, List.map_nil, hvx, hvy, hrun]
              rfl
        · cases h
      · cases h
    · cases h
  · cases h
theorem planY_ok (hty : tyOk P Θ = true) (h : planY Θ o sv en nx kf = some r) : ∃ δ, kf δ = some r ∧ Local P o sv en nx δ := by
  cases hop : o.op with
  | load t x => exact ls_loadY hty hop h
  | store t x y => exact ls_storeY hty hop h
  | indexAddr t x y => exact ls_indexY hty hop h
  | buildSlice t len ps => exact ls_buildY hty hop h
  | call cl =>
    obtain ⟨f, args, ts⟩ := cl
    cases f with
    | builtin b =>
      cases b with
      | len => exact ls_lenY hty hop h
      | append => exact ls_appendY hty hop h
      | _ => simp only [planY, hop, reduceCtorEq] at h
    | _ => simp only [planY, hop, reduceCtorEq] at h
  | _ => simp only [planY, hop, reduceCtorEq] at h
end
end Go.Sx
