import Derived.Test.YtlphgonhenegoaaP3
set_option linter.unusedVariables false
set_option linter.unusedSimpArgs false
set_option maxHeartbeats 0
set_option maxRecDepth 100000
namespace Go.Proofs.Ytlphgonhenegoaa
open Go.Sx
section
def mv (c : Cn) (u : Bool) (F f : Nat) : Nat := bif u then (if F < f then f - F - 1 else (c.H - F - 1) + (c.H - f)) else (if f < F then F - 1 - f else (F - 1 - c.L) + (f - c.L))
def dir (c : Cn) (u : Bool) (F : Nat) : Bool := bif u then decide (F < c.H) else !decide (c.L < F)
def pot (c : Cn) (r : Rd) (f : Nat) : Nat := if r.doing = 2 then r.left + c.M + mv c (dir c r.up r.F) r.F f * (c.S + c.M) else r.left + mv c r.up r.F f * (c.S + c.M)
theorem mulS (a q : Nat) : (a + 1) * q = a * q + q := Nat.succ_mul a q
theorem mulLe {a b : Nat} (q : Nat) (h : a ≤ b) : a * q ≤ b * q := Nat.mul_le_mul_right q h
theorem side_wit {u : Bool} {F W f : Nat} (hW : W < 64) (hf : W.testBit f = true) (h : side u F W = false) : (u = true → f ≤ F) ∧ (u = false → F ≤ f) := by
  have h6 := bit_lt hW hf
  constructor
  · rintro rfl
    simp only [side, cond_true] at h
    rcases Nat.lt_or_ge F f with hlt | hge
    · rw [up_iff.2 ⟨f, h6, hlt, hf⟩] at h; cases h
    · exact hge
  · rintro rfl
    simp only [side, cond_false] at h
    rcases Nat.lt_or_ge f F with hlt | hge
    · rw [dn_iff.2 ⟨f, h6, hlt, hf⟩] at h; cases h
    · exact hge
theorem side_true {c : Cn} {u : Bool} {F W : Nat} (hw : ∀ i, W.testBit i = true → c.L ≤ i ∧ i ≤ c.H) (h : side u F W = true) : (u = true → F < c.H) ∧ (u = false → c.L < F) := by
  constructor
  · rintro rfl
    simp only [side, cond_true] at h
    obtain ⟨i, _, h2, h3⟩ := up_iff.1 h
    have := hw i h3
    omega
  · rintro rfl
    simp only [side, cond_false] at h
    obtain ⟨i, _, h2, h3⟩ := dn_iff.1 h
    have := hw i h3
    omega
def All (c : Cn) (P : Nat) : Prop := Fl c P ∧ ∀ i, c.L ≤ i → i ≤ c.H → P.testBit i = true
theorem side_all {c : Cn} {u : Bool} {F W : Nat} (hc : c.Ok) (hF : c.L ≤ F ∧ F ≤ c.H) (hw : ∀ i, W.testBit i = true → c.L ≤ i ∧ i ≤ c.H) (ha : ∀ i, c.L ≤ i → i ≤ c.H → W.testBit i = true) : (bif side u F W then u else !u) = dir c u F ∨ c.L = c.H := by
  have h5 := hc.h5
  by_cases hLH : c.L = c.H
  · exact .inr hLH
  left
  cases u with
  | true =>
    simp only [dir, cond_true, side, Bool.not_true]
    by_cases h : F < c.H
    · rw [up_iff.2 ⟨F + 1, by omega, by omega, ha _ (by omega) (by omega)⟩]
      simp [h]
    · have : up F W = false := by
        cases hu : up F W with
        | false => rfl
        | true =>
          obtain ⟨i, _, h2, h3⟩ := up_iff.1 hu
          have := hw i h3
          omega
      rw [this]
      simp [h]
  | false =>
    simp only [dir, cond_false, side, Bool.not_false]
    by_cases h : c.L < F
    · rw [dn_iff.2 ⟨F - 1, by omega, by omega, ha _ (by omega) (by omega)⟩]
      simp [h]
    · have : dn F W = false := by
        cases hu : dn F W with
        | false => rfl
        | true =>
          obtain ⟨i, _, h2, h3⟩ := dn_iff.1 hu
          have := hw i h3
          omega
      rw [this]
      simp [h]
theorem press_bit {r : Rd} {P f : Nat} (h : r.W.testBit f = true) : (pressR r P).W.testBit f = true := by
  show (r.W ||| _).testBit f = true
  rw [Nat.testBit_or, h]
  rfl
structure Step (c : Cn) (r : Rd) (f P : Nat) : Prop where
  one : 1 ≤ pot c r f
  srv : (servR r P).testBit f = decide (pot c r f = 1)
  go : pot c r f ≠ 1 → (tickR c.M c.S r P).W.testBit f = true ∧ pot c (tickR c.M c.S r P) f + 1 ≤ pot c r f ∧ (All c P → pot c (tickR c.M c.S r P) f + 1 = pot c r f)
theorem pow_bit (F f : Nat) : (2 ^ F).testBit f = decide (F = f) := by rw [Nat.testBit_two_pow]
theorem step {c : Cn} {r : Rd} (hc : c.Ok) (h : Ok c r) {f : Nat} (hf : r.W.testBit f = true) {P : Nat} (hP : Fl c P) : Step c r f P := by
  have hm1 := hc.m1
  have hs1 := hc.s1
  have hF := h.f
  have hfb := h.w f hf
  have hd2 := h.d
  generalize hq : c.S + c.M = q
  have hW0 : r.W ≠ 0 := fun h0 => by rw [h0] at hf; simp at hf
  by_cases h0 : r.doing = 0
  · exact absurd (h.d0 h0).2 hW0
  by_cases hl : 1 < r.left
  · -- nothing but time
    have he : endR r = ⟨r.F, r.up, r.stood, r.doing, r.left - 1, r.W⟩ := by simp [endR, h0, hl]
    have ht : tickR c.M c.S r P = pressR ⟨r.F, r.up, r.stood, r.doing, r.left - 1, r.W⟩ P := by
      unfold tickR
      rw [he]
      unfold beginR
      rw [if_pos (show (pressR ⟨r.F, r.up, r.stood, r.doing, r.left - 1, r.W⟩ P).doing ≠ 0 from h0)]
    have hb : begS (pressR (endR r) P) = false := by
      rw [he]
      have : (r.doing == 0) = false := by simpa using h0
      simp [begS, pressR, this]
    have hpot : pot c (tickR c.M c.S r P) f + 1 = pot c r f := by
      rw [ht]
      simp only [pot, pressR]
      split <;> omega
    refine ⟨by omega, ?_, fun _ => ⟨by rw [ht]; exact press_bit hf, by omega, fun _ => hpot⟩⟩
    have : (servR r P).testBit f = false := by
      unfold servR
      rw [hb, he]
      simp only [cond_false, Nat.or_zero, servP]
      split
      · rename_i h2
        have hF' := (h.d2 h2).2.2
        have hne : r.F ≠ f := fun e => by rw [e] at hF'; rw [hf] at hF'; cases hF'
        rw [Nat.testBit_and, pow_bit]
        simp [hne]
      · simp
    rw [this]
    have : pot c r f ≠ 1 := by
      have : 1 ≤ pot c (tickR c.M c.S r P) f := by
        rw [ht]
        simp only [pot, pressR]
        split <;> omega
      omega
    simp [this]
  by_cases h1 : r.doing = 1
  · obtain ⟨⟨hl1, _⟩, hsd⟩ := h.d1 h1
    have hl1 : r.left = 1 := by omega
    obtain ⟨hu, hd⟩ := side_lt hc h.w hsd
    generalize hF' : (bif r.up then r.F + 1 else r.F - 1) = F'
    have he : endR r = ⟨F', r.up, false, 0, 0, r.W⟩ := by simp [endR, h0, hl, h1, hF']
    have hmid : Mid c (pressR (endR r) P) := press_mid hc (end_mid hc h) hP
    have hpr : pressR (endR r) P = ⟨F', r.up, false, 0, 0, r.W ||| P⟩ := by rw [he]; simp [pressR]
    have hpot : pot c r f = 1 + mv c r.up r.F f * q := by simp [pot, h1, hl1, hq]
    have hsp : servP (endR r) P = 0 := by rw [he]; simp [servP]
    have hWf : (r.W ||| P).testBit f = true := by rw [Nat.testBit_or, hf]; rfl
    have hWn : r.W ||| P ≠ 0 := fun h0 => by rw [h0] at hWf; simp at hWf
    rw [hpr] at hmid
    have hw := hmid.w
    have hw6 : r.W ||| P < 64 := hmid.w6
    have hmf : c.L ≤ F' ∧ F' ≤ c.H := hmid.f
    have hF6 : F' < 6 := by have := hc.h5; omega
    have hbeg : begS (pressR (endR r) P) = (r.W ||| P).testBit F' := by
      rw [hpr]
      have : (r.W ||| P != 0) = true := by simpa using hWn
      simp [begS, this]
    have hsrv : servR r P = bif (r.W ||| P).testBit F' then 2 ^ F' else 0 := by
      unfold servR
      rw [hsp, hbeg, he, Nat.zero_or]
    have htk : tickR c.M c.S r P = bif (r.W ||| P).testBit F' then ⟨F', r.up, true, 2, c.S, off (r.W ||| P) F'⟩ else ⟨F', bif side r.up F' (r.W ||| P) then r.up else !r.up, false, 1, c.M, r.W ||| P⟩ := by
      unfold tickR
      rw [hpr]
      unfold beginR
      rw [if_neg (show ¬ ((0 : Nat) ≠ 0) by omega), if_neg (show ¬ (r.W ||| P = 0) from hWn)]
      simp
    by_cases hff : f = F'
    · subst hff
      have hmv : mv c r.up r.F f = 0 := by
        unfold mv
        cases hup : r.up with
        | true => rw [hup] at hF'; simp only [cond_true] at hF' ⊢; rw [if_pos (by omega)]; omega
        | false => rw [hup] at hF'; simp only [cond_false] at hF' ⊢; have := hd hup; rw [if_pos (by omega)]; omega
      have hp1 : pot c r f = 1 := by rw [hpot, hmv]; simp
      refine ⟨by omega, ?_, fun hne => absurd hp1 hne⟩
      rw [hsrv, hWf, cond_true, pow_bit, hp1]
      simp
    · -- mv turns
      have hmv : (∀ u', (u' = r.up → (u' = true → F' < c.H) → (u' = false → c.L < F') → mv c u' F' f + 1 = mv c r.up r.F f)) ∧ mv c (dir c r.up F') F' f + 1 = mv c r.up r.F f ∧ ((r.up = true → f ≤ F') → (r.up = false → F' ≤ f) → mv c (!r.up) F' f + 1 ≤ mv c r.up r.F f) := by
        unfold mv dir
        cases hup : r.up with
        | true =>
          rw [hup] at hF'
          simp only [cond_true] at hF'
          have := hu hup
          refine ⟨fun u' hu' g1 _ => ?_, ?_, fun g1 _ => ?_⟩
          · subst hu'
            have := g1 rfl
            simp only [cond_true]
            split <;> split <;> omega
          · by_cases hx : F' < c.H
            · simp only [cond_true, hx, decide_true]
              split <;> split <;> omega
            · simp only [cond_true, hx, decide_false, cond_false]
              split <;> split <;> omega
          · have := g1 rfl
            simp only [cond_true, Bool.not_true, cond_false]
            split <;> split <;> omega
        | false =>
          rw [hup] at hF'
          simp only [cond_false] at hF'
          have := hd hup
          refine ⟨fun u' hu' _ g1 => ?_, ?_, fun _ g1 => ?_⟩
          · subst hu'
            have := g1 rfl
            simp only [cond_false]
            split <;> split <;> omega
          · by_cases hx : c.L < F'
            · simp only [cond_false, hx, decide_true, Bool.not_true]
              split <;> split <;> omega
            · simp only [cond_false, hx, decide_false, Bool.not_false, cond_true]
              split <;> split <;> omega
          · have := g1 rfl
            simp only [cond_false, Bool.not_false, cond_true]
            split <;> split <;> omega
      obtain ⟨mv1, mv2, mv3⟩ := hmv
      have hpn : pot c r f ≠ 1 := by
        rw [hpot, ← mv2, mulS]
        omega
      refine ⟨by rw [hpot]; omega, ?_, fun _ => ?_⟩
      · rw [hsrv]
        cases (r.W ||| P).testBit F' with
        | true =>
          have : ¬ F' = f := fun e => hff e.symm
          rw [cond_true, pow_bit]
          simp [hpn, this]
        | false => simp [hpn]
      · rw [htk]
        cases hb : (r.W ||| P).testBit F' with
        | true =>
          simp only [cond_true]
          have hfb' : (off (r.W ||| P) F').testBit f = true := by
            rw [off_bit F' hF6 _ hw6 f (bit_lt hw6 hWf), hWf]
            simp [hff]
          have : pot c ⟨F', r.up, true, 2, c.S, off (r.W ||| P) F'⟩ f + 1 = pot c r f := by
            rw [hpot, ← mv2, mulS]
            simp only [pot, if_true, hq]
            omega
          exact ⟨hfb', by omega, fun _ => this⟩
        | false =>
          simp only [cond_false]
          refine ⟨hWf, ?_, fun ha => ?_⟩
          · rw [hpot]
            cases hs : side r.up F' (r.W ||| P) with
            | true =>
              simp only [cond_true, pot, hq]
              obtain ⟨g1, g2⟩ := side_true hw hs
              have := mv1 r.up rfl g1 g2
              rw [← this, mulS]
              simp
              omega
            | false =>
              simp only [cond_false, pot, hq]
              obtain ⟨g1, g2⟩ := side_wit hw6 hWf hs
              have := mulLe q (mv3 g1 g2)
              rw [mulS] at this
              simp
              omega
          · have := ha.2 F' hmf.1 hmf.2
            rw [Nat.testBit_or, this, Bool.or_true] at hb
            cases hb
  · have h2 : r.doing = 2 := by omega
    obtain ⟨⟨hl1, _⟩, hst, hbF⟩ := h.d2 h2
    have hl1 : r.left = 1 := by omega
    have hne : f ≠ r.F := fun e => by rw [← e, hf] at hbF; cases hbF
    have he : endR r = ⟨r.F, r.up, r.stood, 0, 0, r.W⟩ := by simp [endR, h0, hl, h1]
    have hmid : Mid c (pressR (endR r) P) := press_mid hc (end_mid hc h) hP
    have hpr : pressR (endR r) P = ⟨r.F, r.up, r.stood, 0, 0, r.W ||| P⟩ := by rw [he]; simp [pressR]
    have hpot : pot c r f = 1 + c.M + mv c (dir c r.up r.F) r.F f * q := by simp [pot, h2, hl1, hq]
    have hsp : servP (endR r) P = 0 := by rw [he]; simp [servP]
    have hWf : (r.W ||| P).testBit f = true := by rw [Nat.testBit_or, hf]; rfl
    have hWn : r.W ||| P ≠ 0 := fun h0 => by rw [h0] at hWf; simp at hWf
    rw [hpr] at hmid
    have hw := hmid.w
    have hw6 : r.W ||| P < 64 := hmid.w6
    have hW2 : (r.W ||| P == 2 ^ r.F) = false := by
      rw [beq_eq_false_iff_ne]
      intro e
      rw [e, pow_bit] at hWf
      simp at hWf
      exact hne hWf.symm
    have hbeg : begS (pressR (endR r) P) = false := by
      rw [hpr]
      simp [begS, hst, hW2]
    have hsrv : servR r P = 0 := by
      unfold servR
      rw [hsp, hbeg]
      simp
    have htk : tickR c.M c.S r P = ⟨r.F, bif side r.up r.F (r.W ||| P) then r.up else !r.up, r.stood, 1, c.M, r.W ||| P⟩ := by
      unfold tickR
      rw [hpr]
      unfold beginR
      rw [if_neg (show ¬ ((0 : Nat) ≠ 0) by omega), if_neg (show ¬ (r.W ||| P = 0) from hWn)]
      simp [hst, hW2]
    refine ⟨by omega, ?_, fun _ => ?_⟩
    · rw [hsrv, hpot]
      have : ¬ 1 + c.M + mv c (dir c r.up r.F) r.F f * q = 1 := by omega
      simp [this]
    · rw [htk]
      refine ⟨hWf, ?_, fun ha => ?_⟩
      · rw [hpot]
        simp only [pot, hq]
        have key : mv c (bif side r.up r.F (r.W ||| P) then r.up else !r.up) r.F f ≤ mv c (dir c r.up r.F) r.F f := by
          cases hs : side r.up r.F (r.W ||| P) with
          | true =>
            obtain ⟨g1, g2⟩ := side_true hw hs
            have : dir c r.up r.F = r.up := by
              unfold dir
              cases hup : r.up with
              | true => simp [g1 hup]
              | false => simp [g2 hup]
            rw [this]
            exact Nat.le_refl _
          | false =>
            obtain ⟨g1, g2⟩ := side_wit hw6 hWf hs
            unfold dir mv
            cases hup : r.up with
            | true =>
              have := g1 hup
              simp only [cond_false, cond_true, Bool.not_true]
              by_cases hx : r.F < c.H
              · simp only [hx, decide_true, cond_true]
                split <;> split <;> omega
              · simp only [hx, decide_false, cond_false]
                exact Nat.le_refl _
            | false =>
              have := g2 hup
              simp only [cond_false, cond_true, Bool.not_false]
              by_cases hx : c.L < r.F
              · simp only [hx, decide_true, Bool.not_true, cond_false]
                split <;> split <;> omega
              · simp only [hx, decide_false, Bool.not_false, cond_true]
                exact Nat.le_refl _
        have := mulLe q key
        simp
        omega
      · rw [hpot]
        simp only [pot, hq]
        have ha' : ∀ i, c.L ≤ i → i ≤ c.H → (r.W ||| P).testBit i = true := fun i h1 h2 => by rw [Nat.testBit_or, ha.2 i h1 h2, Bool.or_true]
        rcases side_all (u := r.up) hc hF hw ha' with e | e
        · rw [e]
          simp
          omega
        · omega
end
end Go.Proofs.Ytlphgonhenegoaa
