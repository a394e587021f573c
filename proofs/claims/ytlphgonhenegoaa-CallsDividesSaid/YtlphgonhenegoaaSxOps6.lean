import Derived.Test.YtlphgonhenegoaaSxOps5
namespace Go.Sx
section
variable {P : Program} {Θ : Tys} {R : Type} {sv : Nat → SV} {en : Nat → Option Ent} {nx : Nat} {r : R} {kf : Delta → Option R} {o : Oper}
theorem bnd_inv {x : Option SV} {d : Nat} {kg : Int → Option R} (h : bnd x d kg = some r) : ∃ z, kg z = some r ∧ (x = Option.none ∧ z = d ∨ ∃ k, x = some (.int k z)) := by
  unfold bnd at h
  split at h
  · exact ⟨_, h, .inl ⟨rfl, rfl⟩⟩
  · exact ⟨_, h, .inr ⟨_, rfl⟩⟩
  · cases h
def BndOk (v : Option Value) (d : Nat) (z : Int) : Prop := (v = Option.none ∧ z = d) ∨ ∃ k, v = some (.int k z)
theorem bnd_den {c : Cx} {a : Act} {x : Option Operand} {d : Nat} {z : Int} (hx : ∀ y, x = some y → Den c (ev Θ 0 sv y) (a.eval y)) (h : x.map (ev Θ 0 sv) = Option.none ∧ z = d ∨ ∃ k, x.map (ev Θ 0 sv) = some (.int k z)) : BndOk (x.map a.eval) d z := by
  cases x with
  | none =>
    rcases h with ⟨_, h⟩ | ⟨k, h⟩
    · exact .inl ⟨rfl, h⟩
    · cases h
  | some y =>
    rcases h with ⟨h, _⟩ | ⟨k, h⟩
    · cases h
    · simp only [Option.map_some, Option.some.injEq] at h
      have := hx y rfl
      rw [h] at this
      exact .inr ⟨k, by simp [this.int_inv]⟩
theorem run_sliceAt {t e : TypeId} {te : TI} (hu : P.underlying t = some (.slice e)) (w : World) (rs : (Go.sizeOf e).run P w = .ok te.size w) {lo hi : Option Value} {l h : Int} {a : Option Addr} {n cap : Nat}
    (hlo : BndOk lo 0 l) (hhi : BndOk hi n h) (h0 : 0 ≤ l) (hlh : l ≤ h) (hn : h ≤ n) (hcap : n ≤ cap) :
    (Instr.sliceAt t (.slice a n cap) lo hi Option.none).run P w = .ok (.slice (if cap = l.toNat then a else a.map (·.add (l.toNat * te.size))) (h.toNat - l.toNat) (cap - l.toNat)) w := by
  have hc : h ≤ cap := by omega
  have h0h : 0 ≤ h := by omega
  rcases hlo with ⟨rfl, rfl⟩ | ⟨k1, rfl⟩ <;> rcases hhi with ⟨rfl, rfl⟩ | ⟨k2, rfl⟩
  · simp [Instr.sliceAt, Instr.slice, Instr.sliceBounds, run_underlying hu, rs]
  · simp [Instr.sliceAt, Instr.slice, Instr.sliceBounds, Instr.sliceBound, asIntOf, run_underlying hu, rs, h0h, hc]
  · have e1 : l ≤ (n : Int) := hlh
    simp [Instr.sliceAt, Instr.slice, Instr.sliceBounds, Instr.sliceBound, asIntOf, run_underlying hu, rs, h0, e1]
  · have e1 : l ≤ max h 0 := by omega
    simp [Instr.sliceAt, Instr.slice, Instr.sliceBounds, Instr.sliceBound, asIntOf, run_underlying hu, rs, h0, h0h, hc, e1]
theorem run_sliceAt0 {t e : TypeId} {te : TI} (hu : P.underlying t = some (.slice e)) (w : World) (rs : (Go.sizeOf e).run P w = .ok te.size w) {k k' : IntKind} {a : Option Addr} {n cap : Nat} :
    (Instr.sliceAt t (.slice a n cap) Option.none (some (.int k 0)) (some (.int k' 0))).run P w = .ok (.slice a 0 0) w := by
  simp [Instr.sliceAt, Instr.slice, Instr.sliceBounds, Instr.sliceBound, asIntOf, run_underlying hu, rs]
theorem ls_slice (hty : tyOk P Θ = true) {t : TypeId} {x : Operand} {lo hi mx : Option Operand} (hop : o.op = .slice t x lo hi mx) (h : planK Θ o sv en nx kf = some r) : ∃ δ, kf δ = some r ∧ Local P o sv en nx δ := by
  have hx : x ∈ o.op.operands.toList := by simp [hop, Op.operands]
  have hlo : ∀ y, lo = some y → y ∈ o.op.operands.toList := fun y hy => by simp [hop, Op.operands, hy]
  have hhi : ∀ y, hi = some y → y ∈ o.op.operands.toList := fun y hy => by simp [hop, Op.operands, hy]
  have hmx : ∀ y, mx = some y → y ∈ o.op.operands.toList := fun y hy => by simp [hop, Op.operands, hy]
  simp only [planK, hop] at h
  split at h
  · rename_i e _ _ _ h1
    have hu := (rowTy hty h1).slice_
    cases hte : Θ.get e with
    | none => rw [hte] at h; cases h
    | some te =>
      rw [hte] at h
      simp only at h
      have rs := fun w => (rowTy hty hte).sizeOf_ w
      split at h
      · rename_i fl size n cl h2
        obtain ⟨l, hb1, hl⟩ := bnd_inv h
        obtain ⟨hh, hb2, hhh⟩ := bnd_inv hb1
        cases hb : (size == te.size && (decide (0 ≤ l) && decide (l ≤ hh) && decide (hh ≤ (n : Int)))) <;> rw [hb] at hb2 <;> simp only [cond_true, cond_false, reduceCtorEq] at hb2
        simp at hb
        obtain ⟨rfl, ⟨g1, g2⟩, g3⟩ := hb
        refine ⟨_, hb2, ids_same _ _ _, fun c a p => ?_⟩
        have hd := opd (Θ := Θ) p t x hx
        rw [h2] at hd
        obtain ⟨aa, cap, U, he, hcap, hfl, hz, hc, hdd⟩ := hd.sl_inv
        have hrun := run_sliceAt (a := aa) hu c.w (rs c.w) (bnd_den (fun y hy => opd (Θ := Θ) p 0 y (hlo y hy)) hl) (bnd_den (fun y hy => opd (Θ := Θ) p 0 y (hhi y hy)) hhh) g1 g2 g3 hcap
        refine stp_same (v := .slice (if cap = l.toNat then aa else aa.map (·.add (l.toNat * te.size))) (hh.toNat - l.toNat) (cap - l.toNat)) p.ho (by simp only [execOp, hop, he, Option.map_none, hrun, Sem.run_bind, Result.andThen_ok, Sem.run_pure]) (.g _ _ (.sl _ _ _ _ _ _ (fun i j => U (l.toNat + i) j) (by omega) (fun i j hi hj => hfl _ j (by omega) hj) (fun hn => ?_) (fun ad ha i j hi hj => ?_) (fun i j hi hj => hdd _ j (by omega) hj)))
        · obtain ⟨ad, rfl, hzz⟩ := hz (by omega)
          rw [if_neg (by omega)]
          exact ⟨ad.add (l.toNat * te.size), rfl, by rw [add_block]; exact hzz⟩
        · rw [if_neg (by omega)] at ha
          cases aa with
          | none => cases ha
          | some ad0 =>
            simp at ha
            subst ha
            rw [add_add, ← Nat.add_assoc, ← Nat.add_mul]
            exact hc ad0 rfl _ j (by omega) hj
      · rename_i q h2
        split at h
        · rename_i nl fl size n cl he0
          obtain ⟨l, hb1, hl⟩ := bnd_inv h
          obtain ⟨hh, hb2, hhh⟩ := bnd_inv hb1
          cases hb : (size == te.size && (decide (0 ≤ l) && decide (l ≤ hh) && decide (hh ≤ (n : Int)))) <;> rw [hb] at hb2 <;> simp only [cond_true, cond_false, reduceCtorEq] at hb2
          simp at hb
          obtain ⟨rfl, ⟨g1, g2⟩, g3⟩ := hb
          refine ⟨_, hb2, ⟨fun id hid => .inl (by simpa using hid), Nat.le_refl _⟩, fun c a p => ?_⟩
          have he : c.en q = _ := (p.rd q (by simp)).trans he0
          have hd := opd (Θ := Θ) p t x hx
          rw [h2] at hd
          have hv := hd.row_inv he
          obtain ⟨d1, d2⟩ := drop_ok p.ho q
          obtain ⟨hfl, hent⟩ := p.ho.ents q _ he
          have hKK : ∀ id, (c.drop q).K id ↔ c.K id ∨ id ∈ [(q, (Option.none : Option Ent))].map (·.1) := fun id => by
            simp only [List.map_cons, List.map_nil, List.mem_singleton]
            exact ⟨.inl, fun h => h.elim (fun h => h) (fun e => e ▸ p.ho.lt q _ he)⟩
          have hbl := bnd_den (fun y hy => opd (Θ := Θ) p 0 y (hlo y hy)) hl
          have hbh := bnd_den (fun y hy => opd (Θ := Θ) p 0 y (hhi y hy)) hhh
          rcases hent with ⟨rfl, rfl, hu2⟩ | ⟨rfl, cap, arr, et, hu2, hblk, hcap, hsz, hcell⟩
          · rw [hu2] at hv
            have hrun := run_sliceAt (a := Option.none) hu c.w (rs c.w) hbl hbh g1 g2 g3 (Nat.le_refl 0)
            refine stp_value (c' := c.drop q) (v := .slice (if 0 = l.toNat then Option.none else Option.map (fun (x : Addr) => x.add (l.toNat * te.size)) Option.none) (hh.toNat - l.toNat) (0 - l.toNat)) ?_ ?_ d1 (fun _ => rfl) hKK d2
            · simp only [execOp, hop, hv, Option.map_none, hrun, Sem.run_bind, Result.andThen_ok, Sem.run_pure]; rfl
            · exact .g _ _ (.sl _ _ _ _ _ _ (fun _ _ => Go.undef) (by omega) (fun i j hi hj => by omega) (fun hn => by omega) (fun ad ha i j hi hj => by omega) (fun i j hi hj => by omega))
          · rw [hu2] at hv
            have hrun := run_sliceAt (a := some ⟨c.b q, 0, Option.none⟩) hu c.w (rs c.w) hbl hbh g1 g2 g3 hcap
            refine stp_value (c' := c.drop q) (v := .slice (if cap = l.toNat then some ⟨c.b q, 0, Option.none⟩ else Option.map (fun (x : Addr) => x.add (l.toNat * te.size)) (some ⟨c.b q, 0, Option.none⟩)) (hh.toNat - l.toNat) (cap - l.toNat)) ?_ ?_ d1 (fun _ => rfl) hKK d2
            · simp only [execOp, hop, hv, Option.map_none, hrun, Sem.run_bind, Result.andThen_ok, Sem.run_pure]; rfl
            · refine .g _ _ (.sl _ _ _ _ _ _ (fun i j => arr.getD ((l.toNat + i) * te.size + j) Go.undef) (by omega) (fun i j hi hj => hfl _ j (by omega) hj) (fun hn => ?_) (fun ad ha i j hi hj => ?_) (fun i j hi hj => ?_))
              · rw [if_neg (by omega)]
                exact ⟨_, rfl, .inr ⟨_, he, .inl ⟨rfl, by rw [add_block]⟩⟩⟩
              · rw [if_neg (by omega)] at ha
                simp at ha
                subst ha
                rw [add_add, add_mk]
                obtain ⟨v, hv1, hv2⟩ := hcell (l.toNat + i) j (by omega) hj
                show c.w.cell? _ = _
                rw [cell_of hblk]
                have e1 : 0 + (l.toNat * te.size + (i * te.size + j)) = (l.toNat + i) * te.size + j := by rw [Nat.add_mul]; omega
                rw [e1, hv1]
                simp [hv1]
              · obtain ⟨v, hv1, hv2⟩ := hcell (l.toNat + i) j (by omega) hj
                have : arr.getD ((l.toNat + i) * te.size + j) Go.undef = v := by simp [hv1]
                rw [this]
                exact hv2.trans d2 p.ho
        · cases h
      · rename_i fl size n cl m h2
        split at h
        · rename_i k hz k' z h3 h4
          cases hb : (hz == 0 && z == 0) <;> rw [hb] at h <;> simp only [cond_true, cond_false, reduceCtorEq] at h
          simp at hb
          obtain ⟨rfl, rfl⟩ := hb
          refine ⟨_, h, ids_same _ _ _, fun c a p => ?_⟩
          have hd := opd (Θ := Θ) p t x hx
          rw [h2] at hd
          obtain ⟨aa, cap, U, he, hcap, hfl, hz, hc, hdd⟩ := hd.sl_inv
          obtain ⟨y, rfl, hy⟩ := Option.map_eq_some_iff.1 h3
          have hdy := opd (Θ := Θ) p 0 y (hhi y rfl)
          have hdm := opd (Θ := Θ) p 0 m (hmx m rfl)
          rw [hy] at hdy
          rw [h4] at hdm
          have hrun := run_sliceAt0 (a := aa) (n := n) (cap := cap) (k := k) (k' := k') hu c.w (rs c.w)
          exact stp_same (v := .slice aa 0 0) p.ho (by simp only [execOp, hop, he, Option.map_none, Option.map_some, hdy.int_inv, hdm.int_inv, hrun, Sem.run_bind, Result.andThen_ok, Sem.run_pure]) (.g _ _ (.slcap _ _ _ _))
        · cases h
      · rename_i q m h2
        split at h
        · rename_i k hz k' z nl fl size n cl h3 h4 he0
          cases hb : (hz == 0 && z == 0) <;> rw [hb] at h <;> simp only [cond_true, cond_false, reduceCtorEq] at h
          simp at hb
          obtain ⟨rfl, rfl⟩ := hb
          refine ⟨_, h, ids_same _ _ _, fun c a p => ?_⟩
          have he : c.en q = _ := (p.rd q (by simp)).trans he0
          have hd := opd (Θ := Θ) p t x hx
          rw [h2] at hd
          have hv := hd.row_inv he
          obtain ⟨y, rfl, hy⟩ := Option.map_eq_some_iff.1 h3
          have hdy := opd (Θ := Θ) p 0 y (hhi y rfl)
          have hdm := opd (Θ := Θ) p 0 m (hmx m rfl)
          rw [hy] at hdy
          rw [h4] at hdm
          obtain ⟨_, ⟨_, _, hu2⟩ | ⟨_, cap, arr, et, hu2, _⟩⟩ := p.ho.ents q _ he
          · rw [hu2] at hv
            have hrun := run_sliceAt0 (a := Option.none) (n := 0) (cap := 0) (k := k) (k' := k') hu c.w (rs c.w)
            exact stp_same (v := .slice Option.none 0 0) p.ho (by simp only [execOp, hop, hv, Option.map_none, Option.map_some, hdy.int_inv, hdm.int_inv, hrun, Sem.run_bind, Result.andThen_ok, Sem.run_pure]) (.g _ _ (.slcap _ _ _ _))
          · rw [hu2] at hv
            have hrun := run_sliceAt0 (a := some ⟨c.b q, 0, Option.none⟩) (n := n) (cap := cap) (k := k) (k' := k') hu c.w (rs c.w)
            exact stp_same (v := .slice (some ⟨c.b q, 0, Option.none⟩) 0 0) p.ho (by simp only [execOp, hop, hv, Option.map_none, Option.map_some, hdy.int_inv, hdm.int_inv, hrun, Sem.run_bind, Result.andThen_ok, Sem.run_pure]) (.g _ _ (.slcap _ _ _ _))
        · cases h
      · cases h
  · cases h
end
end Go.Sx
