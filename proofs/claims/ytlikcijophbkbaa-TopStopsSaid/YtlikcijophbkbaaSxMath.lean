import Derived.Test.YtlikcijophbkbaaSxEnd
namespace Go.Sx
theorem ediv_of {a b q r : Int} (hb : 0 < b) (h : b * q + r = a) (h0 : 0 ≤ r) (h1 : r < b) : a / b = q :=
  ((Int.ediv_emod_unique hb).2 ⟨by omega, h0, h1⟩).1
theorem ediv_neg_of {a b q r : Int} (hb : 0 < b) (h : b * q + r = a) (h0 : r < 0) (h1 : -b < r) : a / b = q - 1 := by
  refine ((Int.ediv_emod_unique (r := r + b) hb).2 ⟨?_, by omega, by omega⟩).1
  rw [Int.mul_sub, Int.mul_one]
  omega
theorem tdiv_floor {a b : Int} (hb : 0 < b) : (if a.tmod b < 0 then a.tdiv b - 1 else a.tdiv b) = a / b := by
  have h := Int.mul_tdiv_add_tmod a b
  have h1 := Int.tmod_lt_of_pos a hb
  have h2 := Int.lt_tmod_of_pos a hb
  split
  · rename_i hr; exact (ediv_neg_of hb h hr h2).symm
  · rename_i hr; exact (ediv_of hb h (by omega) h1).symm
theorem ediv_bounds {a m B : Int} (hm : 0 < m) (hB : 0 ≤ B) (h1 : -B ≤ a) (h2 : a ≤ B) : -B ≤ a / m ∧ a / m ≤ B := by
  constructor
  · rw [Int.le_ediv_iff_mul_le hm]
    have : -B * m ≤ -B * 1 := Int.mul_le_mul_of_nonpos_left (by omega) (by omega)
    omega
  · have h3 : a / m < B + 1 := by
      rw [Int.ediv_lt_iff_lt_mul hm]
      have : (B + 1) * 1 ≤ (B + 1) * m := Int.mul_le_mul_of_nonneg_left (by omega) (by omega)
      omega
    omega
theorem tdiv_bounds {a m B : Int} (hm : 0 < m) (hB : 0 ≤ B) (h1 : -B ≤ a) (h2 : a ≤ B) : -B ≤ a.tdiv m ∧ a.tdiv m ≤ B := by
  rcases Int.le_total 0 a with h | h
  · rw [Int.tdiv_eq_ediv_of_nonneg h]
    exact ediv_bounds hm hB h1 h2
  · have e : a.tdiv m = -((-a).tdiv m) := by rw [Int.neg_tdiv]; omega
    rw [e, Int.tdiv_eq_ediv_of_nonneg (by omega)]
    have := ediv_bounds (a := -a) hm hB (by omega) (by omega)
    omega
theorem div_cross {a b m n : Int} (hm : 0 < m) (hn : 0 < n) (h : a * n ≤ b * m) : a / m ≤ b / n := by
  rw [Int.le_ediv_iff_mul_le hn]
  have h1 : a / m * m ≤ a := Int.ediv_mul_le _ (by omega)
  have h2 : a / m * m * n ≤ a * n := Int.mul_le_mul_of_nonneg_right h1 (by omega)
  have h3 : (a / m * n) * m ≤ b * m := by
    have : a / m * m * n = a / m * n * m := by rw [Int.mul_assoc, Int.mul_comm m n, ← Int.mul_assoc]
    omega
  exact Int.le_of_mul_le_mul_right h3 hm
theorem mul_range {a b A B : Int} (ha : 0 ≤ a) (ha' : a ≤ A) (hb : 0 ≤ b) (hb' : b ≤ B) : 0 ≤ a * b ∧ a * b ≤ A * B :=
  ⟨Int.mul_nonneg ha hb, Int.mul_le_mul ha' hb' hb (by omega)⟩
theorem nat_nonneg (i : Nat) : decide ((0 : Int) ≤ (i : Int)) = true := by simp
theorem w64_succ {i : Nat} (h : i < 1000000000000) : w64 ((i : Int) + 1) = ((i + 1 : Nat) : Int) := by rw [w64_eq (by omega) (by omega)]; simp
theorem u64_nat {n : Nat} (h : n < 1000000000) : IntKind.wrap IntKind.u64 (n : Int) = n := by
  have : IntKind.u64.wrap (n : Int) = (n : Int) % 18446744073709551616 := by simp [IntKind.wrap, IntKind.bits, IntKind.signed]
  rw [this]; omega
end Go.Sx
