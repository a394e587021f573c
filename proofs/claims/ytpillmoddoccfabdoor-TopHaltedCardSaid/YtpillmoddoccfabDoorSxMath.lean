import Derived.Test.YtpillmoddoccfabDoorSxEnd
namespace Go.Sx
theorem nat_nonneg (i : Nat) : decide ((0 : Int) ≤ (i : Int)) = true := by simp
theorem w64_succ {i : Nat} (h : i < 1000000000000) : w64 ((i : Int) + 1) = ((i + 1 : Nat) : Int) := by rw [w64_eq (by omega) (by omega)]; simp
theorem u64_nat {n : Nat} (h : n < 1000000000) : IntKind.wrap IntKind.u64 (n : Int) = n := by
  have : IntKind.u64.wrap (n : Int) = (n : Int) % 18446744073709551616 := by simp [IntKind.wrap, IntKind.bits, IntKind.signed]
  rw [this]; omega
end Go.Sx
