import Derived.Test.YtpillmoddoccfaaSiP8
set_option linter.unusedVariables false
set_option linter.unusedSimpArgs false
set_option linter.unusedSectionVars false
set_option maxHeartbeats 0
set_option maxRecDepth 100000
namespace Go.Proofs.Ytpillmoddoccfaa
namespace Si
open Go.Sx Li
open Classical
noncomputable section
variable {R : Type}
def stQ (W K : Int) (s : Int × Int × Int) : Int := if s.2.1 = 0 then s.1 else if s.2.1 = 1 then W - 1 + s.2.2 else if s.1 = 0 then 2 * W + K else W + K - 1 + s.1
theorem sim {W K : Nat} (h1 : 1 ≤ W) {s : Int × Int × Int} (h : DV W K s) (hp : s.2.1 = 2 → 1 ≤ s.1) (b : Bool) :
    stQ W K (dStep W K b s) = nextI W K b (stQ W K s) ∧ ((dStep W K b s).2.1 = 0 → 1 ≤ (dStep W K b s).1) ∧ 0 ≤ stQ W K s ∧ stQ W K s < 2 * W + K := by
  obtain ⟨a, p, l⟩ := s
  unfold DV at h
  simp only at h hp
  rcases h with ⟨e1, e2, e3⟩ | ⟨e1, e2, e3, e4⟩ | ⟨e1, e2, e3⟩
  · subst e1
    have hb : dBrk W K b (a, 0, l) = (a, 0, l) := by unfold dBrk; rw [if_neg (fun h => h.2 rfl)]
    unfold dStep
    rw [hb]
    unfold dMv dHold stQ nextI opE
    simp only [if_true]
    rw [if_pos (show a < (W : Int) from e3)]
    by_cases c : a + 1 = W
    · simp only [if_pos c]
      by_cases c2 : K = 0
      · subst c2; simp; omega
      · have : ¬ (K : Int) = 0 := by omega
        have : 0 < K := by omega
        simp [*]; omega
    · simp [c]; omega
  · subst e1 e2
    have q : stQ W K ((W : Int), 1, l) = W - 1 + l := by unfold stQ; simp
    rw [q]
    unfold nextI
    rw [if_neg (by omega), if_pos (by omega)]
    cases b
    · have hb : dBrk W K false ((W : Int), 1, l) = ((W : Int), 1, l) := by unfold dBrk; rw [if_neg (fun h => by simp at h)]
      unfold dStep
      rw [hb]
      unfold dMv stQ
      by_cases c : l - 1 = 0
      · simp [c]; omega
      · simp [c]
        rw [if_pos (by omega)]
        omega
    · have hb : dBrk W K true ((W : Int), 1, l) = dHold K W := by unfold dBrk; rw [if_pos ⟨rfl, by simp⟩, if_neg (by simp)]
      unfold dStep
      rw [hb]
      have c0 : ¬ (K : Int) = 0 := by omega
      have hh : dHold K (W : Int) = ((W : Int), 1, (K : Int)) := by unfold dHold; rw [if_neg c0]
      rw [hh]
      unfold dMv stQ agE
      by_cases c : (K : Int) - 1 = 0
      · have : ¬ 1 < K := by omega
        simp [c, this]; omega
      · have : 1 < K := by omega
        simp [c, this]; omega
  · subst e1
    have ha := hp rfl
    have q : stQ W K (a, 2, l) = W + K - 1 + a := by unfold stQ; rw [if_neg (by simp), if_neg (by simp), if_neg (show ¬ a = 0 by omega)]
    rw [q]
    unfold nextI
    rw [if_neg (by omega), if_neg (by omega), show (W : Int) + K - 1 + a - (W + K - 1) = a by omega]
    cases b
    · have hb : dBrk W K false (a, 2, l) = (a, 2, l) := by unfold dBrk; rw [if_neg (fun h => by simp at h)]
      unfold dStep
      rw [hb]
      unfold dMv stQ lessI
      by_cases c : a - 1 = 0
      · have : ¬ 1 < a := by omega
        simp [c, this]; omega
      · have : 1 < a := by omega
        simp [c, this]; omega
    · by_cases c : a < W
      · have hb : dBrk W K true (a, 2, l) = (a, 0, l) := by unfold dBrk; rw [if_pos ⟨rfl, by simp⟩, if_pos c]
        unfold dStep
        rw [hb]
        unfold dMv dHold stQ backI opE
        simp only [if_true]
        by_cases c1 : a + 1 = W
        · simp only [if_pos c1]
          by_cases c2 : K = 0
          · subst c2; simp; omega
          · have : ¬ (K : Int) = 0 := by omega
            have : 0 < K := by omega
            simp [*]; omega
        · have c3 : ¬ a = (W : Int) := by omega
          simp [c1, c3]; omega
      · have ea : a = W := by omega
        subst ea
        have hb : dBrk W K true ((W : Int), 2, l) = dHold K W := by unfold dBrk; rw [if_pos ⟨rfl, by simp⟩, if_neg (by simp)]
        unfold dStep
        rw [hb]
        unfold backI
        rw [if_neg (show ¬ (W : Int) + 1 = W by omega), if_pos rfl]
        by_cases c0 : K = 0
        · subst c0
          have hh : dHold ((0 : Nat) : Int) (W : Int) = ((W : Int), 2, (0 : Int)) := by unfold dHold; simp
          rw [hh]
          unfold dMv stQ lessI
          by_cases c2 : (W : Int) - 1 = 0
          · have : ¬ 1 < (W : Int) := by omega
            simp [c2]; omega
          · have : 1 < (W : Int) := by omega
            simp [c2]; omega
        · have c0' : ¬ (K : Int) = 0 := by omega
          have hh : dHold K (W : Int) = ((W : Int), 1, (K : Int)) := by unfold dHold; rw [if_neg c0']
          rw [hh, if_pos (show 0 < K by omega)]
          unfold dMv stQ agE
          by_cases c : (K : Int) - 1 = 0
          · have : ¬ 1 < K := by omega
            simp [c, this]; omega
          · have : 1 < K := by omega
            simp [c, this]; omega
theorem dm_run {W K : Nat} (h1 : 1 ≤ W) {m : pMa} {w : Arr Int} (h : DM W K m w) {br : Arr Int} (hu : upB br) {n : Nat} (hn : DN W K br n) {x : Nat → Int} (hx : ∀ i, i < n → x i = if isBr br (i : Int) then 1 else 0) : ∀ t, t ≤ n → (runP m x t).State = stQ W K (dSt W K br t) ∧ DV W K (dSt W K br t) ∧ (1 ≤ t → (dSt W K br t).2.1 = 0 → 1 ≤ (dSt W K br t).1) := by
  intro t
  induction t with
  | zero =>
    intro _
    refine ⟨rfl, .inl ⟨rfl, Int.le_refl 0, by show (0 : Int) < W; omega⟩, fun h => by omega⟩
  | succ t ih =>
    intro ht
    obtain ⟨g1, g2, g3⟩ := ih (by omega)
    have hp : (dSt W K br t).2.1 = 2 → 1 ≤ (dSt W K br t).1 := by
      intro h3
      cases t with
      | zero => have e : (dSt W K br 0).2.1 = 0 := rfl; omega
      | succ t => exact hn.before (t + 1) (by omega) (by omega)
    obtain ⟨s1, s2, s3, s4⟩ := sim h1 g2 hp (decide (isBr br (t : Int)))
    have e : dSt W K br (t + 1) = dStep W K (decide (isBr br (t : Int))) (dSt W K br t) := rfl
    refine ⟨?_, (dSt_ok (by omega) (by omega) hu g2 hp).1, fun _ => by rw [e]; exact s2⟩
    have hb : (x t).toNat.testBit 0 = decide (isBr br (t : Int)) := by
      rw [hx t (by omega)]
      by_cases c : isBr br (t : Int)
      · simp [c]
      · simp [c]
    show (stepE m (runP m x t) (x t).toNat).State = _
    rw [step_next h1 h (q := (stQ W K (dSt W K br t)).toNat) (by rw [g1]; omega) (by omega), e, s1, hb]
    show nextI W K _ _ = _
    congr 1
    omega
end
end Si
end Go.Proofs.Ytpillmoddoccfaa
