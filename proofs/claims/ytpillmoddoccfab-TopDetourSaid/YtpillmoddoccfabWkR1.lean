/-
  Works: what a statement looks at, and the check of a plan.
-/
import Derived.Test.YtpillmoddoccfabWkPA
set_option linter.unusedSectionVars false
set_option linter.unusedVariables false
set_option linter.unusedSimpArgs false
set_option maxHeartbeats 0
set_option maxRecDepth 100000
namespace Go.Proofs.Ytpillmoddoccfab
namespace Wk
open Go.Sx
open Classical
noncomputable section
variable {R : Type}
theorem farw_l5 (w : api_Works) (hj : w.Jobs.n ≤ 10) (N : Nat) {K : Bool → Option R} {T : Option R} (hK : ∀ b, (b = false → ∀ i, i < w.Jobs.n → (w.Jobs.f i).After.n ≤ 10) → K b = T) :
    ∀ (q i n : Nat) (c : Int), i + q = w.Jobs.n → q < n → (∀ x, x < i → (w.Jobs.f x).After.n ≤ 10) → newellaw09_FarWorks_l5 N n c (i : Int) w (fun r => K r) (fun r513 => bif decide (r513 > (20000 : Int)) then K (decide (r513 ≤ (200000 : Int))) else K false) = T := by
  intro q
  induction q with
  | zero =>
    intro i n c h1 h2 h3
    obtain ⟨n, rfl⟩ : ∃ m, n = m + 1 := ⟨n - 1, by omega⟩
    unfold newellaw09_FarWorks_l5 newellaw09_FarWorks_b5
    rw [ltF (show w.Jobs.n ≤ i by omega), cond_false]
    have hall : ∀ i, i < w.Jobs.n → (w.Jobs.f i).After.n ≤ 10 := fun x hx => h3 x (by omega)
    show (bif decide (c > (20000 : Int)) then K (decide (c ≤ (200000 : Int))) else K false) = T
    cases decide (c > (20000 : Int))
    · exact hK _ (fun _ => hall)
    · exact hK _ (fun _ => hall)
  | succ q ih =>
    intro i n c h1 h2 h3
    obtain ⟨n, rfl⟩ : ∃ m, n = m + 1 := ⟨n - 1, by omega⟩
    unfold newellaw09_FarWorks_l5 newellaw09_FarWorks_b5
    rw [ltT (show i < w.Jobs.n by omega), show decide ((0 : Int) ≤ (i : Int)) = true by simp, w64_eq (show -9223372036854775808 ≤ (i : Int) + 1 by omega) (by omega), show (i : Int) + 1 = ((i + 1 : Nat) : Int) by omega]
    simp only [cond_true, Bool.and_self, Int.toNat_natCast]
    by_cases h : (w.Jobs.f i).After.n ≤ 10
    rotate_left
    · rw [decide_eq_true (show (((w.Jobs.f i).After.n : Nat) : Int) > 10 by omega), cond_true]
      exact hK true (fun h => by cases h)
    rw [decide_eq_false (show ¬ (((w.Jobs.f i).After.n : Nat) : Int) > 10 by omega), cond_false]
    have hr : ∀ c : Int, newellaw09_FarWorks_l5 N n c ((i + 1 : Nat) : Int) w (fun r => K r) (fun r513 => bif decide (r513 > (20000 : Int)) then K (decide (r513 ≤ (200000 : Int))) else K false) = T := fun c => ih (i + 1) n c (by omega) (by omega) (fun x hx => by
      by_cases e : x = i
      · rw [e]; exact h
      · exact h3 x (by omega))
    rw [hr, hr]
    simp only [Bool.cond_self]
theorem viaFarW {w : api_Works} {N : Nat} (hN : 20 ≤ N) {K : Bool → Option R} {T : Option R} (h : ∀ b, (b = false → NF w) → K b = T) : newellaw09_FarWorks N w K = T := by
  rw [newellaw09_FarWorks_def]
  unfold newellaw09_FarWorks_m
  by_cases h1 : w.Jobs.n ≤ 10
  rotate_left
  · rw [decide_eq_true (show ((w.Jobs.n : Nat) : Int) > 10 by omega), cond_true]
    exact h true (fun h => by cases h)
  rw [decide_eq_false (show ¬ ((w.Jobs.n : Nat) : Int) > 10 by omega), cond_false]
  by_cases h2 : w.Never.n ≤ 30
  rotate_left
  · rw [decide_eq_true (show ((w.Never.n : Nat) : Int) > 30 by omega), cond_true]
    exact h true (fun h => by cases h)
  rw [decide_eq_false (show ¬ ((w.Never.n : Nat) : Int) > 30 by omega), cond_false]
  exact farw_l5 w h1 N (K := K) (fun b hb => h b (fun e => ⟨h1, h2, hb e⟩)) w.Jobs.n 0 N 1 (by omega) (by omega) (fun x hx => by omega)

theorem neB {a b : Nat} (h : ¬ a = b) : ((a : Int) != (b : Int)) = true := bne_iff_ne.2 (by omega)
theorem eqB' {a b : Nat} (h : a = b) : ((a : Int) != (b : Int)) = false := by rw [h]; exact bne_self_eq_false _
theorem ck_eq {w : api_Works} (nf : NF w) (p : Arr Int) (N : Nat) (hN : 100 ≤ N) (k : Int → Option R) : shaft_checkPlan N w p k = k (if VW w then (if p.n = w.Jobs.n then 0 else 1) else 92) := by
  rw [shaft_checkPlan_def]
  unfold shaft_checkPlan_m
  rw [sWorks_eq nf N hN]
  unfold errW
  by_cases v : VW w
  rotate_left
  · rw [if_neg v, if_neg v]; rfl
  rw [if_pos v, if_pos v, show ((0 : Int) != 0) = false from rfl, cond_false]
  by_cases h : p.n = w.Jobs.n
  · rw [h, bne_self_eq_false, if_pos rfl]; rfl
  · rw [if_neg h, neB h]; rfl
def outB (p : Arr Int) (i : Nat) : Bool := !decide (0 ≤ p.f i ∧ p.f i ≤ 24)
end
end Wk
end Go.Proofs.Ytpillmoddoccfab
