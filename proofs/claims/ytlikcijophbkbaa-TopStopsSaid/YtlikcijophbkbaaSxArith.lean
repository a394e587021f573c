import Derived.Laws.BitsLemmas
import GoSem.Claim
namespace Go.Sx
theorem w64_id {n : Int} (h1 : -9223372036854775808 ≤ n) (h2 : n < 9223372036854775808) : IntKind.i64.wrap n = n := by
  rw [IntKind.wrap_i64]; omega
theorem ofInt_nat {a : Nat} (ha : a < 9223372036854775808) : (BitVec.ofInt IntKind.i64.bits (a : Int)).toNat = a := by
  show (BitVec.ofInt 64 (a : Int)).toNat = a
  rw [BitVec.ofInt_natCast, BitVec.toNat_ofNat]; exact Nat.mod_eq_of_lt (by omega)
theorem and64 {a b : Nat} (ha : a < 9223372036854775808) (hb : b < 9223372036854775808) :
    IntKind.i64.wrap ((BitVec.ofInt IntKind.i64.bits (a : Int) &&& BitVec.ofInt IntKind.i64.bits (b : Int)).toNat : Int) = ((a &&& b : Nat) : Int) := by
  have hx : a &&& b < 2 ^ 63 := Nat.and_lt_two_pow _ (by omega)
  rw [BitVec.toNat_and, ofInt_nat ha, ofInt_nat hb]
  exact w64_id (by omega) (by omega)
theorem fdiv_pow {a : Int} (ha : 0 ≤ a) (i : Nat) : a.fdiv (2 ^ i) = ((a.toNat / 2 ^ i : Nat) : Int) := by
  obtain ⟨n, rfl⟩ := Int.eq_ofNat_of_zero_le ha
  rw [Int.fdiv_eq_ediv_of_nonneg _ (by exact Int.pow_nonneg (by omega))]
  simp
theorem bit64 {a : Int} (h0 : 0 ≤ a) (h1 : a < 9223372036854775808) {i : Nat} (hi : i < 64) :
    IntKind.i64.wrap ((BitVec.ofInt IntKind.i64.bits (a.fdiv (2 ^ min i IntKind.i64.bits)) &&& BitVec.ofInt IntKind.i64.bits 1).toNat : Int) = if a.toNat.testBit i then 1 else 0 := by
  have hm : min i IntKind.i64.bits = i := by show min i 64 = i; omega
  rw [hm, fdiv_pow h0]
  have hlt : a.toNat / 2 ^ i < 9223372036854775808 := Nat.lt_of_le_of_lt (Nat.div_le_self _ _) (by omega)
  have := and64 (b := 1) hlt (by omega)
  rw [show ((1 : Nat) : Int) = 1 from rfl] at this
  rw [this, Nat.and_one_is_mod, Nat.testBit_eq_decide_div_mod_eq]
  have h2 : a.toNat / 2 ^ i % 2 < 2 := Nat.mod_lt _ (by omega)
  by_cases h : a.toNat / 2 ^ i % 2 = 1
  · rw [h]; rfl
  · have h3 : a.toNat / 2 ^ i % 2 = 0 := by omega
    rw [h3]; rfl
theorem bit64_eq0 {a : Int} (h0 : 0 ≤ a) (h1 : a < 9223372036854775808) {i : Nat} (hi : i < 64) :
    (IntKind.i64.wrap ((BitVec.ofInt IntKind.i64.bits (a.fdiv (2 ^ min i IntKind.i64.bits)) &&& BitVec.ofInt IntKind.i64.bits 1).toNat : Int) == 0) = !(a.toNat.testBit i) := by
  rw [bit64 h0 h1 hi]
  cases a.toNat.testBit i <;> rfl
theorem wf_i64 {n : Int} (h : (Lit.int .i64 n).wf = true) : -9223372036854775808 ≤ n ∧ n < 9223372036854775808 := by
  simp [Lit.wf, IntKind.min, IntKind.max, IntKind.signed, IntKind.bits] at h
  omega
end Go.Sx
