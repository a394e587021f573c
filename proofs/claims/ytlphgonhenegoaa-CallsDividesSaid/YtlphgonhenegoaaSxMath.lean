import Derived.Test.YtlphgonhenegoaaSxEnd
namespace Go.Sx
theorem nat_nonneg (i : Nat) : decide ((0 : Int) ≤ (i : Int)) = true := by simp
theorem w64_succ {i : Nat} (h : i < 1000000000000) : w64 ((i : Int) + 1) = ((i + 1 : Nat) : Int) := by rw [w64_eq (by omega) (by omega)]; simp
end Go.Sx
