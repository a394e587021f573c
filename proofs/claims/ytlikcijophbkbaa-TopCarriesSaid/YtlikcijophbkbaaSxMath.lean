import Derived.Test.YtlikcijophbkbaaSxEnd
namespace Go.Sx
theorem mul_range {a b A B : Int} (ha : 0 ≤ a) (ha' : a ≤ A) (hb : 0 ≤ b) (hb' : b ≤ B) : 0 ≤ a * b ∧ a * b ≤ A * B :=
  ⟨Int.mul_nonneg ha hb, Int.mul_le_mul ha' hb' hb (by omega)⟩
theorem nat_nonneg (i : Nat) : decide ((0 : Int) ≤ (i : Int)) = true := by simp
theorem w64_succ {i : Nat} (h : i < 1000000000000) : w64 ((i : Int) + 1) = ((i + 1 : Nat) : Int) := by rw [w64_eq (by omega) (by omega)]; simp
end Go.Sx
