import Derived.Test.YtckkodiefpdmhaaDoorR1
set_option linter.unusedSectionVars false
set_option linter.unusedVariables false
set_option linter.unusedSimpArgs false
set_option maxHeartbeats 0
set_option maxRecDepth 100000
namespace Go.Proofs.YtckkodiefpdmhaaDoor
open Go.Sx
open Classical
noncomputable section
variable {R : Type}
theorem stP_spec (w : api_Works) : ∀ n, match stP w n with
    | none => ∀ y, y < n → okX w y = false
    | some (b, e) => b < n ∧ okX w b = true ∧ e = endX w b ∧ ∀ y, y < n → okX w y = true → e ≤ endX w y := by
  intro n
  induction n with
  | zero => intro y hy; omega
  | succ n ih =>
    simp only [stP]
    cases h : stP w n with
    | none =>
      rw [h] at ih
      simp only at ih ⊢
      cases g : okX w n
      · intro y hy
        by_cases e : y = n
        · rw [e]; exact g
        · exact ih y (by omega)
      · refine ⟨by omega, by simp [g], by simp, fun y hy hk => ?_⟩
        by_cases e : y = n
        · rw [e]; exact Int.le_refl _
        · rw [ih y (by omega)] at hk; cases hk
    | some be =>
      obtain ⟨b, e⟩ := be
      rw [h] at ih
      simp only at ih ⊢
      obtain ⟨i1, i2, i3, i4⟩ := ih
      cases g : okX w n
      · simp only [Bool.and_false, cond_false]
        refine ⟨by omega, i2, i3, fun y hy hk => ?_⟩
        by_cases e1 : y = n
        · rw [e1, g] at hk; cases hk
        · exact i4 y (by omega) hk
      · by_cases g2 : endX w n < e
        · simp only [decide_eq_true g2, Bool.and_self, cond_true]
          refine ⟨by omega, by simp [g], by simp, fun y hy hk => ?_⟩
          by_cases e1 : y = n
          · rw [e1]; exact Int.le_refl _
          · have := i4 y (by omega) hk; omega
        · simp only [decide_eq_false g2, Bool.false_and, cond_false]
          refine ⟨by omega, i2, i3, fun y hy hk => ?_⟩
          by_cases e1 : y = n
          · rw [e1]; omega
          · exact i4 y (by omega) hk
structure Good (w : api_Works) (p : Arr Int) : Prop where
  b1 : ∀ i, i < w.Jobs.n → bad1 w p i = false
  b2 : ∀ i, i < w.Jobs.n → bad2 w p i = false
  b3 : ∀ x, x < w.Until.toNat → bad3 w p x = false
  b4 : ∀ x, x < w.Until.toNat → bad4 w p x = false
  b5 : ∀ x, x < w.Until.toNat → bad5 w p x = false
theorem fnd_no {P : Nat → Bool} {q : Nat} (h : ∀ i, i < q → P i = false) : fnd P q 0 = none := by
  cases e : fnd P q 0 with
  | none => rfl
  | some j =>
    obtain ⟨a, b, c⟩ := fnd_some e
    rw [h j (by omega)] at a; cases a
theorem good_iff {w : api_Works} {p : Arr Int} : (jdg w p).1 = 0 ↔ Good w p := by
  constructor
  · intro h
    unfold jdg at h
    cases h1 : fnd (bad1 w p) w.Jobs.n 0 with
    | some i => rw [h1] at h; simp at h
    | none =>
    rw [h1] at h
    cases h2 : fnd (bad2 w p) w.Jobs.n 0 with
    | some i => rw [h2] at h; simp at h
    | none =>
    rw [h2] at h
    cases h3 : fnd (bad3 w p) w.Until.toNat 0 with
    | some i => rw [h3] at h; simp at h
    | none =>
    rw [h3] at h
    cases h4 : fnd (bad4 w p) w.Until.toNat 0 with
    | some i => rw [h4] at h; simp at h
    | none =>
    rw [h4] at h
    cases h5 : fnd (bad5 w p) w.Until.toNat 0 with
    | some i => rw [h5] at h; simp at h
    | none => exact ⟨fun i hi => fnd_none h1 i (by omega) (by omega), fun i hi => fnd_none h2 i (by omega) (by omega), fun i hi => fnd_none h3 i (by omega) (by omega), fun i hi => fnd_none h4 i (by omega) (by omega), fun i hi => fnd_none h5 i (by omega) (by omega)⟩
  · intro h
    unfold jdg
    rw [fnd_no h.b1, fnd_no h.b2, fnd_no h.b3, fnd_no h.b4, fnd_no h.b5]
theorem Good.fits {w : api_Works} (v : VW w) {p : Arr Int} (h : Good w p) : ∀ i, i < w.Jobs.n → 0 ≤ p.f i ∧ p.f i + (w.Jobs.f i).Nights ≤ w.Until := fun i hi => by
  have := h.b1 i hi
  unfold bad1 at this
  simp only [Bool.or_eq_false_iff, decide_eq_false_iff_not] at this
  omega
theorem nt_off {w : api_Works} {p : Arr Int} {x : Int} : ∀ i, (∀ j, j < i → p.f j + (w.Jobs.f j).Nights ≤ x) → nt w p x i = (0, 0, false) := by
  intro i
  induction i with
  | zero => intro _; rfl
  | succ i ih =>
    intro h
    have := h i (by omega)
    simp only [nt]
    rw [decide_eq_false (show ¬ x < p.f i + (w.Jobs.f i).Nights by omega), Bool.and_false, cond_false]
    exact ih (fun j hj => h j (by omega))
structure Tight (w w' : api_Works) : Prop where
  j : w'.Jobs = w.Jobs
  m : w'.Machines = w.Machines
  c : w'.Crews ≤ w.Crews
  u : w'.Until ≤ w.Until
  nn : w.Never.n ≤ w'.Never.n
  nf : ∀ i, i < w.Never.n → w'.Never.f i = w.Never.f i
theorem nt_same {w w' : api_Works} (hj : w'.Jobs = w.Jobs) (p : Arr Int) (x : Int) : ∀ i, nt w' p x i = nt w p x i := by
  intro i
  induction i with
  | zero => rfl
  | succ i ih => simp only [nt, ih, hj]
theorem Good.loose {w w' : api_Works} (t : Tight w w') (v : VW w) (v' : VW w') {p : Arr Int} (h : Good w' p) : Good w p := by
  have hf := h.fits v'
  rw [t.j] at hf
  have hA : ∀ x : Int, ntA w' p x = ntA w p x := fun x => by unfold ntA; rw [nt_same t.j, t.j]
  have off : ∀ x : Nat, ¬ x < w'.Until.toNat → ntA w p (x : Int) = (0, 0, false) := fun x hx => by
    unfold ntA
    exact nt_off _ (fun j hj => by have := hf j hj; have := v'.u; omega)
  refine ⟨fun i hi => ?_, fun i hi => ?_, fun x hx => ?_, fun x hx => ?_, fun x hx => ?_⟩
  · have := hf i hi
    have := t.u
    unfold bad1
    rw [decide_eq_false (show ¬ p.f i < 0 by omega), decide_eq_false (show ¬ p.f i > w.Until - (w.Jobs.f i).Nights by omega)]
    rfl
  · have := h.b2 i (by rw [t.j]; exact hi)
    unfold bad2 at this ⊢
    rw [t.j] at this
    rw [← this]
    exact anyN_congr (fun k _ _ => by unfold late; rw [t.j])
  · by_cases g : x < w'.Until.toNat
    · have := h.b3 x g
      unfold bad3 at this ⊢
      rw [hA] at this; exact this
    · unfold bad3; rw [off x g]
  · by_cases g : x < w'.Until.toNat
    · have := h.b4 x g
      unfold bad4 at this ⊢
      rw [hA] at this
      have := t.c
      simp only [decide_eq_false_iff_not] at *
      omega
    · unfold bad4; rw [off x g]
      have := v.c
      simp only [decide_eq_false_iff_not]
      omega
  · by_cases g : x < w'.Until.toNat
    · have := h.b5 x g
      unfold bad5 at this ⊢
      rw [hA] at this
      cases e : anyN (inSet w (ntA w p x).1) w.Never.n 0
      · rfl
      · obtain ⟨i, h1, h2, h3⟩ := anyN_iff.1 e
        have hh : anyN (inSet w' (ntA w p x).1) w'.Never.n 0 = true := anyN_iff.2 ⟨i, h1, by have := t.nn; omega, by
          unfold inSet at h3 ⊢
          rw [t.nf i (by omega)]; exact h3⟩
        rw [this] at hh; cases hh
    · unfold bad5; rw [off x g]
      cases e : anyN (inSet w (0, 0, false).1) w.Never.n 0
      · rfl
      · obtain ⟨i, h1, h2, h3⟩ := anyN_iff.1 e
        unfold inSet at h3
        have := v.never i (by omega)
        simp only [Nat.zero_and, decide_eq_true_eq] at h3
        omega
theorem dig_code {U : Nat} (hU : 0 < U) : ∀ (n : Nat) (f : Nat → Nat), (∀ i, i < n → f i < U) → ∃ x, x < U ^ n ∧ ∀ i, i < n → digL U n x i = f i := by
  intro n
  induction n with
  | zero => intro f _; exact ⟨0, by simp, fun i hi => by omega⟩
  | succ n ih =>
    intro f hf
    obtain ⟨x, h1, h2⟩ := ih f (fun i hi => hf i (by omega))
    have hn := hf n (by omega)
    refine ⟨x * U + f n, ?_, fun i hi => ?_⟩
    · rw [Nat.pow_succ]
      calc x * U + f n < x * U + U := by omega
        _ = (x + 1) * U := by rw [Nat.add_mul, Nat.one_mul]
        _ ≤ U ^ n * U := Nat.mul_le_mul_right _ h1
    · by_cases e : i = n
      · rw [e, digL_last, Nat.mul_comm x U, Nat.mul_add_mod, Nat.mod_eq_of_lt hn]
      · rw [digL_low (by omega), Nat.mul_comm x U, Nat.mul_add_div hU, Nat.div_eq_of_lt hn, Nat.add_zero]
        exact h2 i (by omega)
theorem endN_jobs {w w' : api_Works} (hj : w'.Jobs = w.Jobs) (f : Nat → Int) : ∀ i, endN w' f i = endN w f i := by
  intro i
  induction i with
  | zero => rfl
  | succ i ih => simp only [endN, ih, hj]
theorem okX_loose {w w' : api_Works} (t : Tight w w') (v : VW w) (v' : VW w') {b : Nat} (h : okX w' b = true) : ∃ x, x < cnt w ∧ okX w x = true ∧ endX w x = endX w' b := by
  have u := v.u
  have u' := v'.u
  have hU : 0 < w.Until.toNat := by omega
  have hU' : 0 < w'.Until.toNat := by omega
  have tu := t.u
  obtain ⟨x, h1, h2⟩ := dig_code hU w.Jobs.n (fun i => digL w'.Until.toNat w'.Jobs.n b i) (fun i hi => by have := digL_lt hU' (n := w'.Jobs.n) (x := b) (i := i); omega)
  have hf : ∀ i, i < w.Jobs.n → (planA w' b).f i = (planA w x).f i := fun i hi => by
    show ((digL w'.Until.toNat w'.Jobs.n b i : Nat) : Int) = ((digL w.Until.toNat w.Jobs.n x i : Nat) : Int)
    rw [h2 i hi]
  refine ⟨x, h1, ?_, ?_⟩
  · unfold okX at h ⊢
    have g : (jdg w' (planA w' b)).1 = 0 := by simpa using h
    have := (good_iff.2 ((good_iff.1 g).loose t v v'))
    rw [jdg_congr v hf] at this
    simpa using this
  · unfold endX
    rw [t.j, endN_jobs t.j]
    exact (endN_congr _ (fun j hj => hf j hj)).symm
theorem plan_tight {w w' : api_Works} (t : Tight w w') (v : VW w) (v' : VW w') (h : plE w' = 0) (h2 : ¬ plE w = 2) : plE w = 0 ∧ plEnd w ≤ plEnd w' := by
  have hc : ¬ cnt w > 200000 := fun g => h2 (by unfold plE; rw [if_neg (fun k => k v), if_pos g])
  have e1 : plE w = match stP w (cnt w) with | none => 3 | some _ => 0 := by unfold plE; rw [if_neg (fun k => k v), if_neg hc]; cases stP w (cnt w) <;> rfl
  have hc' : ¬ cnt w' > 200000 := fun g => by unfold plE at h; rw [if_neg (fun k => k v'), if_pos g] at h; omega
  have e2 : plE w' = match stP w' (cnt w') with | none => 3 | some _ => 0 := by unfold plE; rw [if_neg (fun k => k v'), if_neg hc']; cases stP w' (cnt w') <;> rfl
  have s' := stP_spec w' (cnt w')
  cases k' : stP w' (cnt w') with
  | none => rw [k'] at e2; rw [h] at e2; simp at e2
  | some be' =>
    obtain ⟨b', e'⟩ := be'
    rw [k'] at s'
    obtain ⟨_, s2, s3, _⟩ := s'
    obtain ⟨x, x1, x2, x3⟩ := okX_loose t v v' s2
    have s := stP_spec w (cnt w)
    cases k : stP w (cnt w) with
    | none => rw [k] at s; have := s x x1; rw [x2] at this; cases this
    | some be =>
      obtain ⟨b, e⟩ := be
      rw [k] at s e1
      obtain ⟨_, _, r3, r4⟩ := s
      refine ⟨e1, ?_⟩
      have := r4 x x1 x2
      have p1 : plEnd w = e := by unfold plEnd; rw [if_pos e1, k]
      have p2 : plEnd w' = e' := by unfold plEnd; rw [if_pos h, k']
      rw [p1, p2, s3, ← x3]
      exact this
theorem plE_cases {w : api_Works} (v : VW w) : plE w = 0 ∨ plE w = 2 ∨ plE w = 3 := by
  unfold plE
  rw [if_neg (fun k => k v)]
  by_cases h : cnt w > 200000
  · rw [if_pos h]; omega
  · rw [if_neg h]; cases stP w (cnt w) <;> simp
end
end Go.Proofs.YtckkodiefpdmhaaDoor
