/-
  Drive: Step, the order of ticks, Play.
-/
import Derived.Test.YtpillmoddoccfaaDrP4
import Derived.Test.YtpillmoddoccfaaSxMath
set_option linter.unusedVariables false
set_option linter.unusedSimpArgs false
namespace Go.Proofs.Ytpillmoddoccfaa
namespace Dr
open Go.Sx

section
variable {R : Type}

/-! ### The order of ticks -/

theorem tick_mono {e : api_Escalator} {v v' load force : Int} (h : v ≤ v') : tickS e v load force ≤ tickS e v' load force := by
  unfold tickS
  generalize (-(gOf e load) - (e.Drag + force)) / (e.Empty + load) = q1
  generalize (gOf e load - (e.Drag + force)) / (e.Empty + load) = q2
  generalize gOf e load = g
  split <;> split <;> omega

theorem tick_force {e : api_Escalator} {v load force force' : Int} (hm : 0 < e.Empty + load) (h : force ≤ force') :
    max (tickS e v load force') (-(tickS e v load force')) ≤ max (tickS e v load force) (-(tickS e v load force)) := by
  have h1 : (-(gOf e load) - (e.Drag + force')) / (e.Empty + load) ≤ (-(gOf e load) - (e.Drag + force)) / (e.Empty + load) := Int.ediv_le_ediv hm (by omega)
  have h2 : (gOf e load - (e.Drag + force')) / (e.Empty + load) ≤ (gOf e load - (e.Drag + force)) / (e.Empty + load) := Int.ediv_le_ediv hm (by omega)
  unfold tickS
  split <;> omega

structure StepArgs (v load force : Int) : Prop where
  v1 : -10000000 ≤ v
  v2 : v ≤ 10000000
  l1 : 0 ≤ load
  l2 : load ≤ 100000
  f1 : 0 ≤ force
  f2 : force ≤ 30000000
theorem StepArgs.ok {e : api_Escalator} {v load force : Int} (h : StepArgs v load force) (he : VE e) : TickOk e v load force :=
  ⟨he.e1, he.e2, he.p1, he.p2, he.d1, he.d2, h.l1, h.l2, h.f1, h.f2, by have := h.v1; omega, by have := h.v2; omega⟩

open Classical in
noncomputable def stepV (e : api_Escalator) (v load force : Int) : Int × Int :=
  if VE e then (if StepArgs v load force then (tickS e v load force, 0) else (0, 1)) else (0, 10)

theorem stepV_neg {e : api_Escalator} {v load force : Int} (he : VE e) (h : ¬ StepArgs v load force) : stepV e v load force = (0, 1) := by unfold stepV; rw [if_pos he, if_neg h]
theorem stepV_pos {e : api_Escalator} {v load force : Int} (he : VE e) (h : StepArgs v load force) : stepV e v load force = (tickS e v load force, 0) := by unfold stepV; rw [if_pos he, if_pos h]

/-! ### Capacity -/

/-- The load that the motor has force to spare for. -/
def spareV (e : api_Escalator) : Int := if e.Up then e.Motor - e.Drag else e.Motor + e.Drag

theorem Capacity_1_eq (N : Nat) {e : api_Escalator} (he : VE e) {n : Int} (h1 : 0 ≤ n) (h2 : n ≤ 100000) (k : Bool → Option R) :
    drive_Capacity_1 N n e.Up e.Empty e.Pull e.Drag e.Motor e.Brakes k = k (decide (e.Pull * n ≤ spareV e)) := by
  rw [drive_Capacity_1_def]
  unfold drive_Capacity_1_m spareV
  have hp := mul_range he.p1 he.p2 h1 h2
  have d1 := he.d1; have d2 := he.d2
  rw [w64_eq (n := e.Pull * n) (by omega) (by omega), w64_eq (by omega) (by omega), w64_eq (by omega) (by omega)]
  cases e.Up
  · simp only [cond_false, Bool.false_eq_true, if_false]
    congr 1
    exact decide_eq_decide.2 (by omega)
  · simp only [cond_true, if_true]
    congr 1
    exact decide_eq_decide.2 (by omega)

/-- The greatest load up to a bound that is driven. -/
theorem Capacity_l8_eq (N : Nat) {e : api_Escalator} (he : VE e) (c : Int) (hc : ∀ n : Int, 0 ≤ n → n ≤ 100000 → (e.Pull * n ≤ spareV e ↔ n ≤ c)) (k0 : Int → Option R) : ∀ (n : Nat) (low high : Int), 0 ≤ low → low ≤ high → high ≤ 100000 → low ≤ c → c ≤ high → (high - low).toNat < 2 ^ n →
    drive_Capacity_l8 N (n + 1) low high e.Up e.Empty e.Pull e.Drag e.Motor e.Brakes k0 = k0 c := by
  intro n
  induction n with
  | zero =>
    intro low high h1 h2 h3 h4 h5 h6
    have : low = high := by omega
    subst this
    unfold drive_Capacity_l8 drive_Capacity_b8
    simp only [Int.lt_irrefl, decide_false, cond_false]
    congr 1; omega
  | succ n ih =>
    intro low high h1 h2 h3 h4 h5 h6
    unfold drive_Capacity_l8 drive_Capacity_b8
    by_cases hlt : low < high
    · have hw : w64 (Int.tdiv (w64 (w64 (low + high) + 1)) 2) = (low + high + 1) / 2 := by
        rw [w64_eq (n := low + high) (by omega) (by omega), w64_eq (n := low + high + 1) (by omega) (by omega), Int.tdiv_eq_ediv_of_nonneg (by omega), w64_eq (by omega) (by omega)]
      have hp : (2 : Nat) ^ (n + 1) = 2 * 2 ^ n := by rw [Nat.pow_succ]; omega
      simp only [hlt, decide_true, cond_true, hw]
      rw [Capacity_1_eq N he (by omega) (by omega)]
      have hm := hc ((low + high + 1) / 2) (by omega) (by omega)
      by_cases hd : e.Pull * ((low + high + 1) / 2) ≤ spareV e
      · have := hm.1 hd
        simp only [hd, decide_true, cond_true]
        exact ih _ _ (by omega) (by omega) (by omega) (by omega) (by omega) (by omega)
      · have : ¬ ((low + high + 1) / 2 ≤ c) := fun h => hd (hm.2 h)
        simp only [hd, decide_false, cond_false]
        rw [w64_eq (by omega) (by omega)]
        exact ih _ _ (by omega) (by omega) (by omega) (by omega) (by omega) (by omega)
    · simp only [hlt, decide_false, cond_false]
      congr 1; omega

open Classical in
noncomputable def capV (e : api_Escalator) : Int × Int :=
  if VE e then (if spareV e < 0 then (0, 1) else if e.Pull = 0 then (100000, 0) else (min 100000 (spareV e / e.Pull), 0)) else (0, 10)

theorem Capacity_eq {N : Nat} (hN : 200 ≤ N) (e : api_Escalator) (k : Int → Int → Option R) : drive_Capacity N e k = k (capV e).1 (capV e).2 := by
  rw [drive_Capacity_def]
  unfold drive_Capacity_m
  rw [Check_eq (by omega)]
  by_cases he : VE e
  case neg =>
    have h1 : checkV e = 10 := by unfold checkV; rw [if_neg he]
    have h2 : capV e = (0, 10) := by unfold capV; rw [if_neg he]
    rw [h1, h2]; rfl
  have h1 : checkV e = 0 := by unfold checkV; rw [if_pos he]
  rw [h1, Capacity_1_eq N he (by omega) (by omega)]
  simp only [bne_self_eq_false, cond_false, Int.mul_zero]
  unfold capV
  rw [if_pos he]
  have p1 := he.p1
  by_cases hs : spareV e < 0
  · have : ¬ (0 ≤ spareV e) := by omega
    simp only [this, decide_false, Bool.not_false, cond_true, hs, if_true]
  · have h0 : 0 ≤ spareV e := by omega
    simp only [h0, decide_true, Bool.not_true, cond_false, hs, if_false]
    obtain ⟨M, rfl⟩ : ∃ M, N = M + 18 := ⟨N - 18, by omega⟩
    have hl : ∀ c : Int, 0 ≤ c → c ≤ 100000 → (∀ n : Int, 0 ≤ n → n ≤ 100000 → (e.Pull * n ≤ spareV e ↔ n ≤ c)) →
        drive_Capacity_l8 (M + 18) (M + 18) 0 100000 e.Up e.Empty e.Pull e.Drag e.Motor e.Brakes (fun r438 => k r438 0) = k c 0 := by
      intro c c1 c2 hc
      refine Capacity_l8_eq (M + 18) he c hc (fun r => k r 0) (M + 17) 0 100000 (by omega) (by omega) (by omega) c1 c2 ?_
      have : (2 : Nat) ^ (M + 17) = 2 ^ M * 131072 := by rw [Nat.pow_add]
      have : 0 < (2 : Nat) ^ M := Nat.two_pow_pos M
      omega
    by_cases hp : e.Pull = 0
    · rw [if_pos hp]
      exact hl 100000 (by omega) (by omega) (fun n a b => by rw [hp, Int.zero_mul]; omega)
    · rw [if_neg hp]
      have hq := Int.ediv_nonneg h0 p1
      exact hl _ (by omega) (by omega) (fun n a b => by
        have := Int.le_ediv_iff_mul_le (a := n) (b := spareV e) (c := e.Pull) (by omega)
        rw [Int.mul_comm]
        omega)

end
end Dr
end Go.Proofs.Ytpillmoddoccfaa
