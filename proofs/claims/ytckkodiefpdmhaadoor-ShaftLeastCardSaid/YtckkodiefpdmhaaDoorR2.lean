import Derived.Test.YtckkodiefpdmhaaDoorR1
set_option linter.unusedSectionVars false
set_option linter.unusedVariables false
set_option linter.unusedSimpArgs false
set_option maxHeartbeats 0
set_option maxRecDepth 100000
namespace Go.Proofs.YtckkodiefpdmhaaDoor
open Go.Sx
open Classical
noncomputable section
variable {R : Type}
theorem stP_spec (w : api_Works) : ∀ n, match stP w n with
    | none => ∀ y, y < n → okX w y = false
    | some (b, e) => b < n ∧ okX w b = true ∧ e = endX w b ∧ ∀ y, y < n → okX w y = true → e ≤ endX w y := by
  intro n
  induction n with
  | zero => intro y hy; omega
  | succ n ih =>
    simp only [stP]
    cases h : stP w n with
    | none =>
      rw [h] at ih
      simp only at ih ⊢
      cases g : okX w n
      · intro y hy
        by_cases e : y = n
        · rw [e]; exact g
        · exact ih y (by omega)
      · refine ⟨by omega, by simp [g], by simp, fun y hy hk => ?_⟩
        by_cases e : y = n
        · rw [e]; exact Int.le_refl _
        · rw [ih y (by omega)] at hk; cases hk
    | some be =>
      obtain ⟨b, e⟩ := be
      rw [h] at ih
      simp only at ih ⊢
      obtain ⟨i1, i2, i3, i4⟩ := ih
      cases g : okX w n
      · simp only [Bool.and_false, cond_false]
        refine ⟨by omega, i2, i3, fun y hy hk => ?_⟩
        by_cases e1 : y = n
        · rw [e1, g] at hk; cases hk
        · exact i4 y (by omega) hk
      · by_cases g2 : endX w n < e
        · simp only [decide_eq_true g2, Bool.and_self, cond_true]
          refine ⟨by omega, by simp [g], by simp, fun y hy hk => ?_⟩
          by_cases e1 : y = n
          · rw [e1]; exact Int.le_refl _
          · have := i4 y (by omega) hk; omega
        · simp only [decide_eq_false g2, Bool.false_and, cond_false]
          refine ⟨by omega, i2, i3, fun y hy hk => ?_⟩
          by_cases e1 : y = n
          · rw [e1]; omega
          · exact i4 y (by omega) hk
structure Good (w : api_Works) (p : Arr Int) : Prop where
  b1 : ∀ i, i < w.Jobs.n → bad1 w p i = false
  b2 : ∀ i, i < w.Jobs.n → bad2 w p i = false
  b3 : ∀ x, x < w.Until.toNat → bad3 w p x = false
  b4 : ∀ x, x < w.Until.toNat → bad4 w p x = false
  b5 : ∀ x, x < w.Until.toNat → bad5 w p x = false
theorem fnd_no {P : Nat → Bool} {q : Nat} (h : ∀ i, i < q → P i = false) : fnd P q 0 = none := by
  cases e : fnd P q 0 with
  | none => rfl
  | some j =>
    obtain ⟨a, b, c⟩ := fnd_some e
    rw [h j (by omega)] at a; cases a
theorem good_iff {w : api_Works} {p : Arr Int} : (jdg w p).1 = 0 ↔ Good w p := by
  constructor
  · intro h
    unfold jdg at h
    cases h1 : fnd (bad1 w p) w.Jobs.n 0 with
    | some i => rw [h1] at h; simp at h
    | none =>
    rw [h1] at h
    cases h2 : fnd (bad2 w p) w.Jobs.n 0 with
    | some i => rw [h2] at h; simp at h
    | none =>
    rw [h2] at h
    cases h3 : fnd (bad3 w p) w.Until.toNat 0 with
    | some i => rw [h3] at h; simp at h
    | none =>
    rw [h3] at h
    cases h4 : fnd (bad4 w p) w.Until.toNat 0 with
    | some i => rw [h4] at h; simp at h
    | none =>
    rw [h4] at h
    cases h5 : fnd (bad5 w p) w.Until.toNat 0 with
    | some i => rw [h5] at h; simp at h
    | none => exact ⟨fun i hi => fnd_none h1 i (by omega) (by omega), fun i hi => fnd_none h2 i (by omega) (by omega), fun i hi => fnd_none h3 i (by omega) (by omega), fun i hi => fnd_none h4 i (by omega) (by omega), fun i hi => fnd_none h5 i (by omega) (by omega)⟩
  · intro h
    unfold jdg
    rw [fnd_no h.b1, fnd_no h.b2, fnd_no h.b3, fnd_no h.b4, fnd_no h.b5]
theorem Good.fits {w : api_Works} (v : VW w) {p : Arr Int} (h : Good w p) : ∀ i, i < w.Jobs.n → 0 ≤ p.f i ∧ p.f i + (w.Jobs.f i).Nights ≤ w.Until := fun i hi => by
  have := h.b1 i hi
  unfold bad1 at this
  simp only [Bool.or_eq_false_iff, decide_eq_false_iff_not] at this
  omega
structure Tight (w w' : api_Works) : Prop where
  j : w'.Jobs = w.Jobs
  m : w'.Machines = w.Machines
  c : w'.Crews ≤ w.Crews
  u : w'.Until ≤ w.Until
  nn : w.Never.n ≤ w'.Never.n
  nf : ∀ i, i < w.Never.n → w'.Never.f i = w.Never.f i
theorem dig_code {U : Nat} (hU : 0 < U) : ∀ (n : Nat) (f : Nat → Nat), (∀ i, i < n → f i < U) → ∃ x, x < U ^ n ∧ ∀ i, i < n → digL U n x i = f i := by
  intro n
  induction n with
  | zero => intro f _; exact ⟨0, by simp, fun i hi => by omega⟩
  | succ n ih =>
    intro f hf
    obtain ⟨x, h1, h2⟩ := ih f (fun i hi => hf i (by omega))
    have hn := hf n (by omega)
    refine ⟨x * U + f n, ?_, fun i hi => ?_⟩
    · rw [Nat.pow_succ]
      calc x * U + f n < x * U + U := by omega
        _ = (x + 1) * U := by rw [Nat.add_mul, Nat.one_mul]
        _ ≤ U ^ n * U := Nat.mul_le_mul_right _ h1
    · by_cases e : i = n
      · rw [e, digL_last, Nat.mul_comm x U, Nat.mul_add_mod, Nat.mod_eq_of_lt hn]
      · rw [digL_low (by omega), Nat.mul_comm x U, Nat.mul_add_div hU, Nat.div_eq_of_lt hn, Nat.add_zero]
        exact h2 i (by omega)
theorem plE_cases {w : api_Works} (v : VW w) : plE w = 0 ∨ plE w = 2 ∨ plE w = 3 := by
  unfold plE
  rw [if_neg (fun k => k v)]
  by_cases h : cnt w > 200000
  · rw [if_pos h]; omega
  · rw [if_neg h]; cases stP w (cnt w) <;> simp
end
end Go.Proofs.YtckkodiefpdmhaaDoor
