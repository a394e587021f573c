/-
  Works: both judgements of a plan are alike.
-/
import Derived.Test.YtpillmoddoccfabWkP9
import Derived.Test.YtpillmoddoccfabSxMath
set_option linter.unusedSectionVars false
set_option linter.unusedVariables false
set_option linter.unusedSimpArgs false
set_option maxHeartbeats 0
set_option maxRecDepth 100000
namespace Go.Proofs.Ytpillmoddoccfab
namespace Wk
open Go.Sx
open Classical
noncomputable section
variable {R : Type}
section
variable {w : api_Works} (v : VW w) {p : Arr Int} (hn : p.n = w.Jobs.n) (hb : ∀ i, i < w.Jobs.n → 0 ≤ p.f i ∧ p.f i ≤ 24)
include v
theorem never_eq {S : Nat} (hS : S < 4096) {i : Nat} (hi : i < w.Never.n) : (w64 (↑(BitVec.toNat (BitVec.ofInt (IntKind.bits IntKind.i64) ((S : Nat) : Int) &&& BitVec.ofInt (IntKind.bits IntKind.i64) (w.Never.f i))) : Int) == w.Never.f i) = inSet w S i := by
  have h := v.never i hi
  have hp := pow_le12 v.m.2
  obtain ⟨m, hm⟩ : ∃ m : Nat, w.Never.f i = (m : Int) := ⟨(w.Never.f i).toNat, by omega⟩
  rw [inSet, hm, show w64 _ = ((S &&& m : Nat) : Int) from and64 (by omega) (by omega), Int.toNat_natCast]
  rw [Bool.eq_iff_iff, decide_eq_true_eq, beq_iff_eq]
include hn hb
theorem ntA_lt (x : Int) : (ntA w p x).1 < 4096 ∧ (ntA w p x).2.1 ≤ w.Jobs.n := nt_lt v p x _ (Nat.le_refl _)
theorem l24 (N : Nat) (r x : Int) (tw : Bool) (jb : Int) {S : Nat} (hS : S < 4096) (k10 : Bool → Option R) : ∀ (q i n : Nat) (b : Bool), i + q = w.Never.n → q < n →
    newelref09_reason_l24 N n p r x ((S : Nat) : Int) jb tw b (i : Int) w k10 = k10 (b || anyN (inSet w S) q i) := by
  have hnv := v.nv
  intro q
  induction q with
  | zero =>
    intro i n b h1 h2
    obtain ⟨n, rfl⟩ : ∃ m, n = m + 1 := ⟨n - 1, by omega⟩
    unfold newelref09_reason_l24 newelref09_reason_b24
    rw [ltF (show w.Never.n ≤ i by omega), cond_false]
    simp [anyN]
  | succ q ih =>
    intro i n b h1 h2
    obtain ⟨n, rfl⟩ : ∃ m, n = m + 1 := ⟨n - 1, by omega⟩
    unfold newelref09_reason_l24 newelref09_reason_b24
    simp only [ltT (show i < w.Never.n by omega), nat_nonneg, Bool.and_self, cond_true, Int.toNat_natCast (n := i), w64_succ (show i < 1000000000000 by omega), never_eq v hS (show i < w.Never.n by omega), anyN]
    cases b
    · simp only [cond_false, Bool.false_or]
      exact ih (i + 1) n _ (by omega) (by omega)
    · simp only [cond_true, Bool.true_or]
      have := ih (i + 1) n true (by omega) (by omega)
      rw [Bool.true_or] at this
      exact this
/-- What is wrong in a night, by the number of the reason. -/
def badR (w : api_Works) (p : Arr Int) (r : Nat) : Nat → Bool := if r = 3 then bad3 w p else if r = 4 then bad4 w p else bad5 w p
theorem l19 (N : Nat) (hN : 40 ≤ N) {r : Nat} (hr : 3 ≤ r ∧ r ≤ 5) (kr : Int → Option R) (k8 : Unit → Option R) : ∀ (q x n : Nat), x + q = w.Until.toNat → q < n →
    newelref09_reason_l19 N n p (r : Int) (x : Int) w kr k8 = match fnd (badR w p r) q x with | some j => kr (j : Int) | none => k8 () := by
  have hu := v.u
  intro q
  induction q with
  | zero =>
    intro x n h1 h2
    obtain ⟨n, rfl⟩ : ∃ m, n = m + 1 := ⟨n - 1, by omega⟩
    unfold newelref09_reason_l19 newelref09_reason_b19
    rw [decide_eq_false (by omega), cond_false]; rfl
  | succ q ih =>
    intro x n h1 h2
    obtain ⟨n, rfl⟩ : ∃ m, n = m + 1 := ⟨n - 1, by omega⟩
    have hih := ih (x + 1) n (by omega) (by omega)
    have h24 := fun k10 => l24 (R := R) v hn hb N (r : Int) (x : Int) (ntA w p (x : Int)).2.2 (((ntA w p (x : Int)).2.1 : Nat) : Int) (ntA_lt v hn hb (x : Int)).1 k10 w.Never.n 0 N false (by omega) (by have := v.nv; omega)
    rw [show ((0 : Nat) : Int) = 0 from rfl] at h24
    unfold newelref09_reason_l19 newelref09_reason_b19
    rw [decide_eq_true (show (x : Int) < w.Until by omega), cond_true, out_eq v hn hb N (by omega) (x : Int) (by omega), h24]
    simp only [fnd, w64_succ (show x < 1000000000000 by omega), Bool.false_or]
    rw [hih]
    rw [show anyN (inSet w (ntA w p (x : Int)).1) w.Never.n 0 = bad5 w p x from rfl, show decide ((((ntA w p (x : Int)).2.1 : Nat) : Int) > w.Crews) = bad4 w p x from rfl, show (ntA w p (x : Int)).2.2 = bad3 w p x from rfl]
    have : r = 3 ∨ r = 4 ∨ r = 5 := by omega
    rcases this with rfl | rfl | rfl
    · rw [show badR w p 3 x = bad3 w p x from rfl, show (((3 : Nat) : Int) == 3) = true from rfl, show (((3 : Nat) : Int) == 4) = false from rfl, show (((3 : Nat) : Int) == 5) = false from rfl]
      cases bad3 w p x <;> rfl
    · rw [show badR w p 4 x = bad4 w p x from rfl, show (((4 : Nat) : Int) == 3) = false from rfl, show (((4 : Nat) : Int) == 4) = true from rfl, show (((4 : Nat) : Int) == 5) = false from rfl]
      cases bad4 w p x <;> rfl
    · rw [show badR w p 5 x = bad5 w p x from rfl, show (((5 : Nat) : Int) == 3) = false from rfl, show (((5 : Nat) : Int) == 4) = false from rfl, show (((5 : Nat) : Int) == 5) = true from rfl]
      cases bad5 w p x <;> rfl
end

theorem bounds_of {w : api_Works} (v : VW w) {p : Arr Int} (h : fnd (bad1 w p) w.Jobs.n 0 = none) : ∀ i, i < w.Jobs.n → 0 ≤ p.f i ∧ p.f i + (w.Jobs.f i).Nights ≤ w.Until := by
  intro i hi
  have := fnd_none h i (by omega) (by omega)
  simp only [bad1, Bool.or_eq_false_iff, decide_eq_false_iff_not] at this
  omega
theorem bounds24 {w : api_Works} (v : VW w) {p : Arr Int} (h : fnd (bad1 w p) w.Jobs.n 0 = none) : ∀ i, i < w.Jobs.n → 0 ≤ p.f i ∧ p.f i ≤ 24 := by
  intro i hi
  have h1 := bounds_of v h i hi
  have h2 := (v.jobs i hi).n
  have h3 := v.u
  unfold job at h2
  omega
theorem reason_eq {w : api_Works} (v : VW w) {p : Arr Int} (hn : p.n = w.Jobs.n) (N : Nat) (hN : 100 ≤ N) (k : Int → Int → Option R) : newelref09_reason N w p k = k (jdg w p).1 (jdg w p).2 := by
  rw [newelref09_reason_def]
  unfold newelref09_reason_m jdg
  have hj := v.j
  have hu := v.u
  have h2 := r_l2 (R := R) v hn N (fun r675 r676 => k r675 r676) (fun _ => newelref09_reason_l7 N N p 0 w (fun r692 r693 => k r692 r693) (fun _ => newelref09_reason_l16 N N p 3 w (fun r779 r780 => k r779 r780) (fun _ => k 0 0))) w.Jobs.n 0 N (by omega) (by omega)
  rw [show ((0 : Nat) : Int) = 0 from rfl] at h2
  rw [h2]
  cases h1 : fnd (bad1 w p) w.Jobs.n 0 with
  | some i => rfl
  | none =>
    have hb := bounds24 v h1
    simp only
    have h8 := r_l7 (R := R) v hn hb N (by omega) (fun r692 r693 => k r692 r693) (fun _ => newelref09_reason_l16 N N p 3 w (fun r779 r780 => k r779 r780) (fun _ => k 0 0)) w.Jobs.n 0 N (by omega) (by omega)
    rw [show ((0 : Nat) : Int) = 0 from rfl] at h8
    rw [h8]
    cases h3 : fnd (bad2 w p) w.Jobs.n 0 with
    | some i => rfl
    | none =>
      simp only
      obtain ⟨n, hNn⟩ : ∃ m, N = m + 4 := ⟨N - 4, by omega⟩
      have ea := fun (kr : Int → Option R) k8 => l19 (R := R) v hn hb N (by omega) (r := 3) (by omega) kr k8 w.Until.toNat 0 N (by omega) (by omega)
      have eb := fun (kr : Int → Option R) k8 => l19 (R := R) v hn hb N (by omega) (r := 4) (by omega) kr k8 w.Until.toNat 0 N (by omega) (by omega)
      have ec := fun (kr : Int → Option R) k8 => l19 (R := R) v hn hb N (by omega) (r := 5) (by omega) kr k8 w.Until.toNat 0 N (by omega) (by omega)
      rw [show ((0 : Nat) : Int) = 0 from rfl] at ea eb ec
      rw [show ((3 : Nat) : Int) = 3 from rfl] at ea
      rw [show ((4 : Nat) : Int) = 4 from rfl] at eb
      rw [show ((5 : Nat) : Int) = 5 from rfl] at ec
      have run : ∀ n, newelref09_reason_l16 N (n + 4) p 3 w (fun r779 r780 => k r779 r780) (fun _ => k 0 0) = match fnd (bad3 w p) w.Until.toNat 0 with
          | some j => k 3 (j : Int)
          | none => match fnd (bad4 w p) w.Until.toNat 0 with
            | some j => k 4 (j : Int)
            | none => match fnd (bad5 w p) w.Until.toNat 0 with
              | some j => k 5 (j : Int)
              | none => k 0 0 := by
        intro n
        simp only [newelref09_reason_l16, newelref09_reason_b16, show decide ((3 : Int) ≤ 5) = true from rfl, show decide ((4 : Int) ≤ 5) = true from rfl, show decide ((5 : Int) ≤ 5) = true from rfl, show decide ((6 : Int) ≤ 5) = false from rfl, cond_true, cond_false,
          show w64 (3 + 1) = 4 by rw [w64_eq (by omega) (by omega)]; rfl, show w64 (4 + 1) = 5 by rw [w64_eq (by omega) (by omega)]; rfl, show w64 (5 + 1) = 6 by rw [w64_eq (by omega) (by omega)]; rfl, ea, eb, ec]
        rfl
      have := run n
      rw [← hNn] at this
      rw [this]
      cases fnd (bad3 w p) w.Until.toNat 0 <;> simp only
      cases fnd (bad4 w p) w.Until.toNat 0 <;> simp only
      cases fnd (bad5 w p) w.Until.toNat 0 <;> simp only
end
end Wk
end Go.Proofs.Ytpillmoddoccfab
