/-
  Energy: bills.
-/
import Derived.Test.YtfaefhegfcidpaaP2
set_option linter.unusedVariables false
set_option linter.unusedSimpArgs false
namespace Go.Proofs.Ytfaefhegfcidpaa
open Go.Sx

/-- One element changed. -/
def setI (a : Arr Int) (i : Nat) (v : Int) : Arr Int := lst intC a.n (setCs i 0 (Cod.cell intC a.f) [SV.int IntKind.i64 v])
theorem setI_n (a : Arr Int) (i : Nat) (v : Int) : (setI a i v).n = a.n := rfl
theorem setI_f (a : Arr Int) (i : Nat) (v : Int) (j : Nat) : (setI a i v).f j = if j = i then v else a.f j := by
  show toI (setC i 0 (Cod.cell intC a.f) (SV.int IntKind.i64 v) j 0) = _
  unfold setC
  by_cases h : j = i
  · subst h; simp [toI]
  · have : (j == i) = false := by simpa using h
    rw [this, if_neg h]
    rfl
def zerI (n : Nat) : Arr Int := lst intC n (zeroC [SV.int IntKind.i64 0])
theorem zerI_n (n : Nat) : (zerI n).n = n := rfl
def emI : Arr Int := lst intC 0 (zeroC [SV.int IntKind.i64 0])

/-- One more at the end. -/
def pushI (a : Arr Int) (v : Int) : Arr Int := lst intC (a.n + 1) (catC a.n (Cod.cell intC a.f) (litC [SV.int IntKind.i64 0] [[SV.int IntKind.i64 v]]))
theorem pushI_n (a : Arr Int) (v : Int) : (pushI a v).n = a.n + 1 := rfl
theorem pushI_is (a : Arr Int) (v : Int) : (pushI a v).Is (a.n + 1) (fun i => if i = a.n then v else a.f i) :=
  Arr.Is.push_int (a := a) (n := a.n) (g := fun i => if i = a.n then v else a.f i) ⟨rfl, fun i hi => (if_neg (by omega)).symm⟩ (by simp)
theorem pushI_lt {a : Arr Int} {v : Int} {i : Nat} (h : i < a.n) : (pushI a v).f i = a.f i := by
  rw [(pushI_is a v).get i (by omega), if_neg (by omega)]
theorem pushI_eq {a : Arr Int} {v : Int} : (pushI a v).f a.n = v := by
  rw [(pushI_is a v).get a.n (by omega), if_pos rfl]

/-! ### Bills of powers -/
def psum (t : api_Times) (pw : Nat → Int) : Nat → Int
  | 0 => 0
  | n + 1 => psum t pw n + pw n * (t.Periods.f n).Lasts * (t.Periods.f n).Price
def pmax (pw : Nat → Int) : Nat → Int
  | 0 => 0
  | n + 1 => max (pmax pw n) (pw n)
def billS (t : api_Times) (pw : Nat → Int) : Int := psum t pw t.Periods.n + t.Peak * pmax pw t.Periods.n

/-- Powers as they can be. -/
def powP (pw : Nat → Int) (n : Nat) : Prop := ∀ j, j < n → -200000000000 ≤ pw j ∧ pw j ≤ 200000000000

theorem psum_congr {t : api_Times} {pw pw' : Nat → Int} : ∀ {n : Nat}, (∀ j, j < n → pw j = pw' j) → psum t pw n = psum t pw' n
  | 0, _ => rfl
  | n + 1, h => by simp only [psum]; rw [psum_congr (fun j hj => h j (by omega)), h n (by omega)]
theorem pmax_congr {pw pw' : Nat → Int} : ∀ {n : Nat}, (∀ j, j < n → pw j = pw' j) → pmax pw n = pmax pw' n
  | 0, _ => rfl
  | n + 1, h => by simp only [pmax]; rw [pmax_congr (fun j hj => h j (by omega)), h n (by omega)]
theorem billS_congr {t : api_Times} {pw pw' : Nat → Int} (h : ∀ j, j < t.Periods.n → pw j = pw' j) : billS t pw = billS t pw' := by
  unfold billS
  rw [psum_congr h, pmax_congr h]

theorem mul_abs {a c A C : Int} (h1 : -A ≤ a) (h2 : a ≤ A) (hA : 0 ≤ A) (h3 : 0 ≤ c) (h4 : c ≤ C) : -(A * C) ≤ a * c ∧ a * c ≤ A * C := by
  rcases Int.le_total 0 a with h | h
  · have h5 := mul_range h h2 h3 h4
    have : 0 ≤ A * C := Int.mul_nonneg hA (by omega)
    omega
  · have h5 := mul_range (a := -a) (b := c) (A := A) (B := C) (by omega) (by omega) h3 h4
    rw [Int.neg_mul] at h5
    omega

theorem term_bounds {t : api_Times} (ht : VT t) {p : Int} (hp : -200000000000 ≤ p ∧ p ≤ 200000000000) {n : Nat} (hn : n < t.Periods.n) :
    (-200000000000000 ≤ p * (t.Periods.f n).Lasts ∧ p * (t.Periods.f n).Lasts ≤ 200000000000000) ∧ -20000000000000000 ≤ p * (t.Periods.f n).Lasts * (t.Periods.f n).Price ∧ p * (t.Periods.f n).Lasts * (t.Periods.f n).Price ≤ 20000000000000000 := by
  have h := ht.per n hn
  have h1 := mul_abs (a := p) (A := 200000000000) (c := (t.Periods.f n).Lasts) (C := 1000) (by omega) (by omega) (by omega) (by have := h.l1; omega) h.l2
  have h2 := mul_abs (a := p * (t.Periods.f n).Lasts) (A := 200000000000000) (c := (t.Periods.f n).Price) (C := 100) (by omega) (by omega) (by omega) h.c1 h.c2
  exact ⟨by omega, by omega⟩

theorem psum_bounds {t : api_Times} (ht : VT t) {pw : Nat → Int} : ∀ {n : Nat}, n ≤ t.Periods.n → powP pw n → -(n * 20000000000000000 : Int) ≤ psum t pw n ∧ psum t pw n ≤ n * 20000000000000000
  | 0, _, _ => by simp [psum]
  | n + 1, hn, h => by
    have h1 := psum_bounds ht (n := n) (by omega) (fun j hj => h j (by omega))
    have h2 := (term_bounds ht (h n (by omega)) (n := n) (by omega)).2
    simp only [psum]
    omega
theorem pmax_bounds {pw : Nat → Int} : ∀ {n : Nat}, powP pw n → 0 ≤ pmax pw n ∧ pmax pw n ≤ 200000000000
  | 0, _ => by simp [pmax]
  | n + 1, h => by
    have h1 := pmax_bounds (n := n) (fun j hj => h j (by omega))
    have h2 := h n (by omega)
    simp only [pmax]
    omega
theorem billS_bounds {t : api_Times} (ht : VT t) {pw : Nat → Int} (h : powP pw t.Periods.n) : (0 ≤ t.Peak * pmax pw t.Periods.n ∧ t.Peak * pmax pw t.Periods.n ≤ 200000000000000) ∧ -200000000000000000 ≤ psum t pw t.Periods.n ∧ psum t pw t.Periods.n ≤ 200000000000000000 := by
  have h1 := pmax_bounds h
  have h2 := mul_range ht.k1 ht.k2 h1.1 h1.2
  have h3 := psum_bounds ht (Nat.le_refl _) h
  have h4 := ht.n2
  refine ⟨by omega, ?_⟩
  omega

/-- A bill grows with the powers. -/
theorem psum_mono {t : api_Times} (ht : VT t) {pw pw' : Nat → Int} : ∀ {n : Nat}, n ≤ t.Periods.n → (∀ j, j < n → pw j ≤ pw' j) → psum t pw n ≤ psum t pw' n
  | 0, _, _ => Int.le_refl _
  | n + 1, hn, h => by
    have h1 := psum_mono ht (n := n) (by omega) (fun j hj => h j (by omega))
    have hp := ht.per n (by omega)
    have h2 : pw n * (t.Periods.f n).Lasts ≤ pw' n * (t.Periods.f n).Lasts := Int.mul_le_mul_of_nonneg_right (h n (by omega)) (by have := hp.l1; omega)
    have h3 : pw n * (t.Periods.f n).Lasts * (t.Periods.f n).Price ≤ pw' n * (t.Periods.f n).Lasts * (t.Periods.f n).Price := Int.mul_le_mul_of_nonneg_right h2 hp.c1
    simp only [psum]
    omega
theorem pmax_mono {pw pw' : Nat → Int} : ∀ {n : Nat}, (∀ j, j < n → pw j ≤ pw' j) → pmax pw n ≤ pmax pw' n
  | 0, _ => Int.le_refl _
  | n + 1, h => by
    have h1 := pmax_mono (n := n) (fun j hj => h j (by omega))
    have h2 := h n (by omega)
    simp only [pmax]
    omega
theorem billS_mono {t : api_Times} (ht : VT t) {pw pw' : Nat → Int} (h : ∀ j, j < t.Periods.n → pw j ≤ pw' j) : billS t pw ≤ billS t pw' := by
  have h1 := psum_mono ht (Nat.le_refl _) h
  have h2 : t.Peak * pmax pw t.Periods.n ≤ t.Peak * pmax pw' t.Periods.n := Int.mul_le_mul_of_nonneg_left (pmax_mono h) ht.k1
  unfold billS
  omega

theorem ifmaxg (a c : Int) : (if c > a then c else a) = max a c := by omega

section
variable {R : Type}

theorem bill_l3_eq (N : Nat) {t : api_Times} (ht : VT t) {a : Arr Int} (hn : a.n = t.Periods.n) (hp : powP a.f t.Periods.n) (k : Int → Int → Option R) : ∀ (r i n : Nat), i + r = t.Periods.n → r < n →
    energy_bill_l3 N n a (psum t a.f i) (pmax a.f i) t.Periods (t.Periods.n : Int) (i : Int) t k = k (psum t a.f t.Periods.n) (pmax a.f t.Periods.n) := by
  have hn2 := ht.n2
  intro r
  induction r with
  | zero =>
    intro i n h1 h2
    obtain ⟨n, rfl⟩ : ∃ m, n = m + 1 := ⟨n - 1, by omega⟩
    unfold energy_bill_l3 energy_bill_b3
    simp only [lt_false (show t.Periods.n ≤ i by omega), cond_false]
    rw [show i = t.Periods.n by omega]
  | succ r ih =>
    intro i n h1 h2
    obtain ⟨n, rfl⟩ : ∃ m, n = m + 1 := ⟨n - 1, by omega⟩
    unfold energy_bill_l3 energy_bill_b3
    have hb := psum_bounds ht (n := i) (by omega) (fun j hj => hp j (by omega))
    have ht1 := term_bounds ht (hp i (by omega)) (n := i) (by omega)
    simp only [lt_true (show i < t.Periods.n by omega), lt_true (show i < a.n by omega), nat_nonneg, Bool.and_self, cond_true, Int.toNat_natCast, w64_succ (show i < 1000000000000 by omega), ifmaxg]
    rw [w64_eq (n := a.f i * _) (by omega) (by omega), w64_eq (n := a.f i * _ * _) (by omega) (by omega), w64_eq (by omega) (by omega)]
    exact ih (i + 1) n (by omega) (by omega)

theorem bill_eq {N : Nat} (hN : 20 ≤ N) {t : api_Times} (ht : VT t) {a : Arr Int} (hn : a.n = t.Periods.n) (hp : powP a.f t.Periods.n) (k : Int → Option R) : energy_bill N t a k = k (billS t a.f) := by
  rw [energy_bill_def]
  unfold energy_bill_m
  have hn2 := ht.n2
  have hb := billS_bounds ht hp
  refine Eq.trans (bill_l3_eq N ht hn hp _ t.Periods.n 0 N (by omega) (by omega)) ?_
  show k (w64 (psum t a.f t.Periods.n + w64 (t.Peak * pmax a.f t.Periods.n))) = _
  rw [w64_eq (n := t.Peak * _) (by omega) (by omega), w64_eq (by omega) (by omega)]
  rfl

/-- The powers of flows at the paces of a plan. -/
def pwS (b : api_Band) (p fl : Arr Int) (j : Nat) : Int := powerS b (fl.f j) (p.f j)

theorem refbill_l3_eq (N : Nat) {b : api_Band} (h : VB b) {t : api_Times} (ht : VT t) {p fl : Arr Int} (hn : p.n = t.Periods.n) (hfl : fl.n = t.Periods.n) (hf : ∀ j, j < t.Periods.n → Fp (fl.f j) (p.f j)) (k : Int → Int → Option R) : ∀ (r i n : Nat), i + r = t.Periods.n → r < n →
    newelref11_bill_l3 N n p fl (psum t (pwS b p fl) i) (pmax (pwS b p fl) i) (i : Int) b t k = k (psum t (pwS b p fl) t.Periods.n) (pmax (pwS b p fl) t.Periods.n) := by
  have hn2 := ht.n2
  have hp : powP (pwS b p fl) t.Periods.n := fun j hj => power_bounds h (hf j hj)
  intro r
  induction r with
  | zero =>
    intro i n h1 h2
    obtain ⟨n, rfl⟩ : ∃ m, n = m + 1 := ⟨n - 1, by omega⟩
    unfold newelref11_bill_l3 newelref11_bill_b3
    simp only [lt_false (show p.n ≤ i by omega), cond_false]
    rw [show i = t.Periods.n by omega]
  | succ r ih =>
    intro i n h1 h2
    obtain ⟨n, rfl⟩ : ∃ m, n = m + 1 := ⟨n - 1, by omega⟩
    unfold newelref11_bill_l3 newelref11_bill_b3
    have hb := psum_bounds ht (n := i) (by omega) (fun j hj => hp j (by omega))
    have ht1 := term_bounds ht (hp i (by omega)) (n := i) (by omega)
    simp only [lt_true (show i < t.Periods.n by omega), lt_true (show i < p.n by omega), lt_true (show i < fl.n by omega), nat_nonneg, Bool.and_self, cond_true, Int.toNat_natCast, w64_succ (show i < 1000000000000 by omega), ifmaxg, refpower_eq N h (hf i (by omega))]
    have e : powerS b (fl.f i) (p.f i) = pwS b p fl i := rfl
    rw [e, w64_eq (n := pwS b p fl i * _) (by omega) (by omega), w64_eq (n := pwS b p fl i * _ * _) (by omega) (by omega), w64_eq (by omega) (by omega)]
    exact ih (i + 1) n (by omega) (by omega)

theorem refbill_eq {N : Nat} (hN : 20 ≤ N) {b : api_Band} (h : VB b) {t : api_Times} (ht : VT t) {p fl : Arr Int} (hn : p.n = t.Periods.n) (hfl : fl.n = t.Periods.n) (hf : ∀ j, j < t.Periods.n → Fp (fl.f j) (p.f j)) (k : Int → Option R) : newelref11_bill N b t p fl k = k (billS t (pwS b p fl)) := by
  rw [newelref11_bill_def]
  unfold newelref11_bill_m
  have hn2 := ht.n2
  have hp : powP (pwS b p fl) t.Periods.n := fun j hj => power_bounds h (hf j hj)
  have hb := billS_bounds ht hp
  refine Eq.trans (refbill_l3_eq N h ht hn hfl hf _ t.Periods.n 0 N (by omega) (by omega)) ?_
  show k (w64 (psum t (pwS b p fl) t.Periods.n + w64 (pmax (pwS b p fl) t.Periods.n * t.Peak))) = _
  rw [Int.mul_comm, w64_eq (n := t.Peak * _) (by omega) (by omega), w64_eq (by omega) (by omega)]
  rfl

/-! ### Bill -/
/-- Flows of times. -/
def flP (t : api_Times) (fl : Arr Int) (j : Nat) : Prop := (t.Periods.f j).Flow.Low ≤ fl.f j ∧ fl.f j ≤ (t.Periods.f j).Flow.High
def areP (t : api_Times) (fl : Arr Int) : Prop := fl.n = t.Periods.n ∧ ∀ j, j < fl.n → flP t fl j

theorem flP_range {t : api_Times} (ht : VT t) {fl : Arr Int} {j : Nat} (hj : j < t.Periods.n) (h : flP t fl j) : 0 ≤ fl.f j ∧ fl.f j ≤ 100 := by
  have h1 := ht.per j hj
  have h2 := h1.f1
  have h3 := h1.f3
  unfold flP at h
  omega
theorem plan_fp {b : api_Band} (h : VB b) {t : api_Times} {p : Arr Int} (hp : planP b t p) {j : Nat} (hj : j < t.Periods.n) {f : Int} (hf : 0 ≤ f ∧ f ≤ 100) : Fp f (p.f j) :=
  isIn_fp h (hp.2 j (by rw [hp.1]; exact hj)) hf

open Classical in
theorem Are_l4_eq (N : Nat) {t : api_Times} {fl : Arr Int} (hn : fl.n = t.Periods.n) (hn2 : t.Periods.n ≤ 1000) (kr : Bool → Option R) (k0 : Unit → Option R) : ∀ (r i n : Nat), i + r = fl.n → r < n →
    newelref11_Are_l4 N n fl (i : Int) t kr k0 = if (∀ j, i ≤ j → j < fl.n → flP t fl j) then k0 () else kr false := by
  intro r
  induction r with
  | zero =>
    intro i n h1 h2
    obtain ⟨n, rfl⟩ : ∃ m, n = m + 1 := ⟨n - 1, by omega⟩
    unfold newelref11_Are_l4 newelref11_Are_b4
    rw [if_pos (show ∀ j, i ≤ j → j < fl.n → flP t fl j from fun j h3 h4 => by omega)]
    simp only [lt_false (show fl.n ≤ i by omega), cond_false]
  | succ r ih =>
    intro i n h1 h2
    obtain ⟨n, rfl⟩ : ∃ m, n = m + 1 := ⟨n - 1, by omega⟩
    unfold newelref11_Are_l4 newelref11_Are_b4
    simp only [lt_true (show i < fl.n by omega), lt_true (show i < t.Periods.n by omega), nat_nonneg, Bool.and_self, cond_true, Int.toNat_natCast, w64_succ (show i < 1000000000000 by omega), within_eq]
    by_cases hp : flP t fl i
    · have hp' := hp
      unfold flP at hp'
      simp only [hp', and_self, decide_true, Bool.not_true, cond_false, all_step (P := flP t fl) hp]
      exact ih (i + 1) n (by omega) (by omega)
    · rw [if_neg (fun g => hp (g i (Nat.le_refl _) (by omega)))]
      unfold flP at hp
      simp only [hp, decide_false, Bool.not_false, cond_true]

open Classical in
theorem Are_eq {N : Nat} (hN : 20 ≤ N) {t : api_Times} (ht : VT t) (fl : Arr Int) (k : Bool → Option R) : newelref11_Are N t fl k = k (decide (areP t fl)) := by
  rw [newelref11_Are_def]
  unfold newelref11_Are_m
  have hn2 := ht.n2
  by_cases hn : fl.n = t.Periods.n
  rotate_left
  · have : ((fl.n : Int) != (t.Periods.n : Int)) = true := by simp; omega
    rw [decide_eq_false (fun g => hn g.1)]
    simp only [this, cond_true]
  have : ((fl.n : Int) != (t.Periods.n : Int)) = false := by simp; omega
  simp only [this, cond_false]
  refine Eq.trans (Are_l4_eq N hn (by omega) _ _ fl.n 0 N (by omega) (by omega)) ?_
  by_cases hp : ∀ j, j < fl.n → flP t fl j
  · rw [decide_eq_true (show areP t fl from ⟨hn, hp⟩), if_pos (fun j _ hj => hp j hj)]
  · rw [decide_eq_false (show ¬ areP t fl from fun g => hp g.2), if_neg (fun g => hp (fun j hj => g j (by omega) hj))]

open Classical in
theorem Bill_l8_eq (N : Nat) {b : api_Band} (h : VB b) {t : api_Times} (ht : VT t) {p fl : Arr Int} (hp : planP b t p) (hn : fl.n = p.n) (kr : Int → Int → Option R) (k0 : Arr Int → Option R) (v : Int) (c : Bool) (hk0 : ∀ a : Arr Int, a.n = t.Periods.n → (∀ j, j < t.Periods.n → flP t fl j ∧ a.f j = pwS b p fl j) → k0 a = kr v 0) : ∀ (r i n : Nat) (a : Arr Int), i + r = fl.n → r < n → a.n = t.Periods.n → (∀ j, j < i → flP t fl j ∧ a.f j = pwS b p fl j) →
    energy_Bill_l8 N n p fl (fl.n : Int) (i : Int) b t c a kr k0 = if (∀ j, i ≤ j → j < fl.n → flP t fl j) then kr v 0 else kr 0 1 := by
  have hn2 := ht.n2
  have hpn := hp.1
  intro r
  induction r with
  | zero =>
    intro i n a h1 h2 h3 h4
    obtain ⟨n, rfl⟩ : ∃ m, n = m + 1 := ⟨n - 1, by omega⟩
    unfold energy_Bill_l8 energy_Bill_b8
    rw [if_pos (show ∀ j, i ≤ j → j < fl.n → flP t fl j from fun j h3 h4 => by omega)]
    simp only [lt_false (show fl.n ≤ i by omega), cond_false]
    exact hk0 a h3 (fun j hj => h4 j (by omega))
  | succ r ih =>
    intro i n a h1 h2 h3 h4
    obtain ⟨n, rfl⟩ : ∃ m, n = m + 1 := ⟨n - 1, by omega⟩
    unfold energy_Bill_l8 energy_Bill_b8
    simp only [lt_true (show i < fl.n by omega), lt_true (show i < t.Periods.n by omega), lt_true (show i < p.n by omega), lt_true (show i < a.n by omega), nat_nonneg, Bool.and_self, cond_true, Int.toNat_natCast, w64_succ (show i < 1000000000000 by omega)]
    by_cases c1 : fl.f i < (t.Periods.f i).Flow.Low
    · rw [if_neg (fun g => by have := g i (Nat.le_refl _) (by omega); unfold flP at this; omega)]
      simp only [c1, decide_true, cond_true]
    by_cases c2 : fl.f i > (t.Periods.f i).Flow.High
    · rw [if_neg (fun g => by have := g i (Nat.le_refl _) (by omega); unfold flP at this; omega)]
      simp only [c1, c2, decide_false, cond_false, decide_true, cond_true]
    have hfl : flP t fl i := ⟨by omega, by omega⟩
    have hf := plan_fp h hp (j := i) (by omega) (flP_range ht (by omega) hfl)
    simp only [c1, c2, decide_false, cond_false, power_eq N h hf, all_step (P := flP t fl) hfl]
    refine ih (i + 1) n (setI a i (powerS b (fl.f i) (p.f i))) (by omega) (by omega) h3 (fun j hj => ?_)
    rw [setI_f]
    by_cases e : j = i
    · subst e; rw [if_pos rfl]; exact ⟨hfl, rfl⟩
    · rw [if_neg e]; exact h4 j (by omega)

open Classical in
noncomputable def billE (b : api_Band) (t : api_Times) (p fl : Arr Int) : Int := if planV b t p = 0 then if areP t fl then 0 else 1 else planV b t p
noncomputable def billV (b : api_Band) (t : api_Times) (p fl : Arr Int) : Int := if billE b t p fl = 0 then billS t (pwS b p fl) else 0

theorem billE_zero {b : api_Band} {t : api_Times} {p fl : Arr Int} : billE b t p fl = 0 ↔ VB b ∧ VT t ∧ planP b t p ∧ areP t fl := by
  unfold billE
  by_cases h : planV b t p = 0
  · rw [if_pos h]
    have h1 := planV_zero.1 h
    by_cases h2 : areP t fl <;> simp [h2, h1]
  · rw [if_neg h]
    constructor
    · intro g; exact absurd g h
    · intro g; exact absurd (planV_zero.2 ⟨g.1, g.2.1, g.2.2.1⟩) h

theorem Bill_eq {N : Nat} (hN : 20 ≤ N) (b : api_Band) (t : api_Times) (p fl : Arr Int) (k : Int → Int → Option R) : energy_Bill N b t p fl k = k (billV b t p fl) (billE b t p fl) := by
  classical
  rw [energy_Bill_def]
  unfold energy_Bill_m
  rw [checkPlan_eq hN]
  by_cases h : planV b t p = 0
  rotate_left
  · have e : billE b t p fl = planV b t p := by unfold billE; rw [if_neg h]
    have e2 : billV b t p fl = 0 := by unfold billV; rw [e, if_neg h]
    have : (planV b t p != 0) = true := by simpa using h
    rw [e, e2]
    simp only [this, cond_true]
  obtain ⟨hb, ht, hp⟩ := planV_zero.1 h
  have hpn := hp.1
  have hn2 := ht.n2
  rw [h]
  simp only [bne_self_eq_false, cond_false]
  by_cases hn : fl.n = p.n
  rotate_left
  · have : ((fl.n : Int) != (p.n : Int)) = true := by simp; omega
    have e : billE b t p fl = 1 := by unfold billE; rw [if_pos h, if_neg (fun g => hn (by rw [g.1, hpn]))]
    have e2 : billV b t p fl = 0 := by unfold billV; rw [e, if_neg (by omega)]
    rw [e, e2]
    simp only [this, cond_true]
  have c1 : ((fl.n : Int) != (p.n : Int)) = false := by simp; omega
  have c2 : decide ((p.n : Int) ≤ (1073741824 : Int)) = true := by simp; omega
  simp only [c1, cond_false, Int.le_refl, decide_true, c2, Bool.and_self, cond_true]
  refine Eq.trans (Bill_l8_eq N hb ht hp hn (fun r215 r216 => k r215 r216) _ (billS t (pwS b p fl)) false (fun a h3 h4 => ?_) fl.n 0 N (zerI p.n) (by omega) (by omega) hpn (fun j hj => by omega)) ?_
  · refine Eq.trans (bill_eq hN ht h3 (fun j hj => ?_) _) ?_
    · rw [(h4 j hj).2]
      exact power_bounds hb (plan_fp hb hp hj (flP_range ht hj (h4 j hj).1))
    · rw [billS_congr (fun j hj => (h4 j hj).2)]
  · by_cases ha : ∀ j, j < fl.n → flP t fl j
    · have e : billE b t p fl = 0 := billE_zero.2 ⟨hb, ht, hp, by rw [hn, hpn], ha⟩
      rw [if_pos (fun j _ hj => ha j hj), e]
      unfold billV
      rw [if_pos e]
    · have e : billE b t p fl = 1 := by unfold billE; rw [if_pos h, if_neg (fun g => ha g.2)]
      rw [if_neg (fun g => ha (fun j hj => g j (by omega) hj)), e]
      unfold billV
      rw [if_neg (by omega)]

theorem refBill_eq {N : Nat} (hN : 20 ≤ N) (b : api_Band) (t : api_Times) (p fl : Arr Int) (k : Int → Int → Option R) : newelref11_Bill N b t p fl k = k (billV b t p fl) (billE b t p fl) := by
  classical
  rw [newelref11_Bill_def]
  unfold newelref11_Bill_m
  rw [refPlan_eq hN]
  by_cases h : planV b t p = 0
  rotate_left
  · have e : billE b t p fl = planV b t p := by unfold billE; rw [if_neg h]
    have e2 : billV b t p fl = 0 := by unfold billV; rw [e, if_neg h]
    have : (planV b t p != 0) = true := by simpa using h
    rw [e, e2]
    simp only [this, cond_true]
  obtain ⟨hb, ht, hp⟩ := planV_zero.1 h
  have hpn := hp.1
  rw [h]
  simp only [bne_self_eq_false, cond_false, Are_eq hN ht]
  by_cases ha : areP t fl
  · have e : billE b t p fl = 0 := billE_zero.2 ⟨hb, ht, hp, ha⟩
    rw [decide_eq_true ha, e]
    unfold billV
    rw [if_pos e]
    refine refbill_eq hN hb ht hpn ha.1 (fun j hj => plan_fp hb hp hj (flP_range ht hj (ha.2 j (by rw [ha.1]; exact hj)))) _
  · have e : billE b t p fl = 1 := by unfold billE; rw [if_pos h, if_neg ha]
    rw [decide_eq_false ha, e]
    unfold billV
    rw [if_neg (by omega)]
    rfl

/-! ### Bounds -/
/-- The flows with the least or the greatest power. -/
def endF (b : api_Band) (t : api_Times) (most : Bool) (j : Nat) : Int := if b.Up = most then (t.Periods.f j).Flow.High else (t.Periods.f j).Flow.Low
def pwE (b : api_Band) (t : api_Times) (p : Arr Int) (most : Bool) (j : Nat) : Int := powerS b (endF b t most j) (p.f j)

theorem endF_range {b : api_Band} {t : api_Times} (ht : VT t) (most : Bool) {j : Nat} (hj : j < t.Periods.n) : 0 ≤ endF b t most j ∧ endF b t most j ≤ 100 := by
  have h1 := ht.per j hj
  have h2 := h1.f1
  have h3 := h1.f2
  have h4 := h1.f3
  unfold endF
  split <;> omega

theorem ends_val {b : api_Band} (h : VB b) {q : api_Period} (hq : perP q) {x : Int} (hx : 1 ≤ x ∧ x ≤ 100) :
    (if powerS b q.Flow.High x < powerS b q.Flow.Low x then powerS b q.Flow.High x else powerS b q.Flow.Low x) = powerS b (if b.Up = false then q.Flow.High else q.Flow.Low) x ∧
    (if powerS b q.Flow.High x > powerS b q.Flow.Low x then powerS b q.Flow.High x else powerS b q.Flow.Low x) = powerS b (if b.Up = true then q.Flow.High else q.Flow.Low) x := by
  have f1 := hq.f1
  have f2 := hq.f2
  have f3 := hq.f3
  have hf : Fp q.Flow.Low x := ⟨f1, by omega, hx.1, hx.2⟩
  cases hu : b.Up with
  | true =>
    have := power_up h hu hf f2
    simp only [if_true, Bool.true_eq_false, if_false]
    constructor <;> split <;> omega
  | false =>
    have := power_down h (by rw [hu]; simp) hf f2
    simp only [if_true, Bool.false_eq_true, if_false]
    constructor <;> split <;> omega

theorem ends_eq (N : Nat) {b : api_Band} (h : VB b) {q : api_Period} (hq : perP q) {x : Int} (hx : 1 ≤ x ∧ x ≤ 100) (k : Int → Int → Option R) :
    energy_ends N b q x k = k (powerS b (if b.Up = false then q.Flow.High else q.Flow.Low) x) (powerS b (if b.Up = true then q.Flow.High else q.Flow.Low) x) := by
  rw [energy_ends_def]
  unfold energy_ends_m
  have f1 := hq.f1
  have f2 := hq.f2
  have f3 := hq.f3
  rw [power_eq N h ⟨f1, by omega, hx.1, hx.2⟩, power_eq N h ⟨by omega, f3, hx.1, hx.2⟩]
  obtain ⟨e1, e2⟩ := ends_val h hq hx
  rw [e1, e2]

theorem plan_pace {b : api_Band} (h : VB b) {t : api_Times} {p : Arr Int} (hp : planP b t p) {j : Nat} (hj : j < t.Periods.n) : 1 ≤ p.f j ∧ p.f j ≤ 100 := by
  have := plan_fp h hp hj (f := 0) (by omega)
  exact ⟨this.p1, this.p2⟩

theorem Bounds_l6_eq (N : Nat) {b : api_Band} (h : VB b) {t : api_Times} (ht : VT t) {p : Arr Int} (hp : planP b t p) (sp : api_Span) (u v : Bool) (k0 : Arr Int → Arr Int → Option R) (key : Option R) (hk0 : ∀ x y : Arr Int, x.n = t.Periods.n → y.n = t.Periods.n → (∀ j, j < t.Periods.n → x.f j = pwE b t p false j) → (∀ j, j < t.Periods.n → y.f j = pwE b t p true j) → k0 x y = key) : ∀ (r i n : Nat) (x y : Arr Int), i + r = t.Periods.n → r < n → x.n = t.Periods.n → y.n = t.Periods.n → (∀ j, j < i → x.f j = pwE b t p false j) → (∀ j, j < i → y.f j = pwE b t p true j) →
    energy_Bounds_l6 N n p t.Periods (t.Periods.n : Int) (i : Int) b t sp u x v y k0 = key := by
  have hn2 := ht.n2
  have hpn := hp.1
  intro r
  induction r with
  | zero =>
    intro i n x y h1 h2 h3 h4 h5 h6
    obtain ⟨n, rfl⟩ : ∃ m, n = m + 1 := ⟨n - 1, by omega⟩
    unfold energy_Bounds_l6 energy_Bounds_b6
    simp only [lt_false (show t.Periods.n ≤ i by omega), cond_false]
    exact hk0 x y h3 h4 (fun j hj => h5 j (by omega)) (fun j hj => h6 j (by omega))
  | succ r ih =>
    intro i n x y h1 h2 h3 h4 h5 h6
    obtain ⟨n, rfl⟩ : ∃ m, n = m + 1 := ⟨n - 1, by omega⟩
    unfold energy_Bounds_l6 energy_Bounds_b6
    simp only [lt_true (show i < t.Periods.n by omega), lt_true (show i < p.n by omega), lt_true (show i < x.n by omega), lt_true (show i < y.n by omega), nat_nonneg, Bool.and_self, cond_true, Int.toNat_natCast, w64_succ (show i < 1000000000000 by omega), ends_eq N h (ht.per i (by omega)) (plan_pace h hp (j := i) (by omega))]
    refine ih (i + 1) n (setI x i (pwE b t p false i)) (setI y i (pwE b t p true i)) (by omega) (by omega) h3 h4 (fun j hj => ?_) (fun j hj => ?_)
    · rw [setI_f]
      by_cases e : j = i
      · subst e; rw [if_pos rfl]
      · rw [if_neg e]; exact h5 j (by omega)
    · rw [setI_f]
      by_cases e : j = i
      · subst e; rw [if_pos rfl]
      · rw [if_neg e]; exact h6 j (by omega)

noncomputable def boundsV (b : api_Band) (t : api_Times) (p : Arr Int) : api_Span := if planV b t p = 0 then ⟨billS t (pwE b t p false), billS t (pwE b t p true)⟩ else ⟨0, 0⟩

theorem pwE_pow {b : api_Band} (h : VB b) {t : api_Times} (ht : VT t) {p : Arr Int} (hp : planP b t p) (most : Bool) : powP (pwE b t p most) t.Periods.n := fun j hj =>
  power_bounds h (plan_fp h hp hj (endF_range ht most hj))

theorem Bounds_eq {N : Nat} (hN : 20 ≤ N) (b : api_Band) (t : api_Times) (p : Arr Int) (k : api_Span → Int → Option R) : energy_Bounds N b t p k = k (boundsV b t p) (planV b t p) := by
  rw [energy_Bounds_def]
  unfold energy_Bounds_m
  rw [checkPlan_eq hN]
  unfold boundsV
  by_cases h : planV b t p = 0
  rotate_left
  · have : (planV b t p != 0) = true := by simpa using h
    rw [if_neg h]
    simp only [this, cond_true]
  obtain ⟨hb, ht, hp⟩ := planV_zero.1 h
  have hpn := hp.1
  have hn2 := ht.n2
  have c2 : decide ((p.n : Int) ≤ (1073741824 : Int)) = true := by simp; omega
  rw [h, if_pos rfl]
  simp only [bne_self_eq_false, cond_false, Int.le_refl, decide_true, c2, Bool.and_self, cond_true]
  refine Bounds_l6_eq N hb ht hp _ _ _ _ _ (fun x y h1 h2 h3 h4 => ?_) t.Periods.n 0 N (zerI p.n) (zerI p.n) (by omega) (by omega) hpn hpn (fun j hj => by omega) (fun j hj => by omega)
  rw [bill_eq hN ht h1 (fun j hj => by rw [h3 j hj]; exact pwE_pow hb ht hp false j hj), bill_eq hN ht h2 (fun j hj => by rw [h4 j hj]; exact pwE_pow hb ht hp true j hj), billS_congr h3, billS_congr h4]

theorem refends_l3_eq (N : Nat) {b : api_Band} {t : api_Times} (hn : t.Periods.n ≤ 1000) (most : Bool) : ∀ (r i n : Nat) (c : Bool) (a : Arr Int), i + r = t.Periods.n → r < n → a.Is i (endF b t most) →
    ∃ (c' : Bool) (a' : Arr Int), a'.Is t.Periods.n (endF b t most) ∧ ∀ {R : Type} (k : Bool → Arr Int → Option R), newelref11_ends_l3 N n most (i : Int) b t c a k = k c' a' := by
  intro r
  induction r with
  | zero =>
    intro i n c a h1 h2 ha
    obtain ⟨n, rfl⟩ : ∃ m, n = m + 1 := ⟨n - 1, by omega⟩
    have : i = t.Periods.n := by omega
    subst this
    refine ⟨c, a, ha, fun k => ?_⟩
    unfold newelref11_ends_l3 newelref11_ends_b3
    simp only [lt_false (Nat.le_refl t.Periods.n), cond_false]
  | succ r ih =>
    intro i n c a h1 h2 ha
    obtain ⟨n, rfl⟩ : ∃ m, n = m + 1 := ⟨n - 1, by omega⟩
    have ha' := ha.push_int (z := [SV.int IntKind.i64 0]) (v := endF b t most i) rfl
    obtain ⟨c', a', h3, h4⟩ := ih (i + 1) n false _ (by omega) (by omega) ha'
    refine ⟨c', a', h3, fun {R} k => ?_⟩
    unfold newelref11_ends_l3 newelref11_ends_b3
    have hr : room (a.n + 1) = true := room_of (by rw [ha.len]; omega)
    have h5 := h4 k
    simp only [lt_true (show i < t.Periods.n by omega), nat_nonneg, Bool.and_self, cond_true, Int.toNat_natCast, w64_succ (show i < 1000000000000 by omega), hr]
    unfold endF at h5
    by_cases hu : b.Up = most
    · have : (b.Up == most) = true := by simpa using hu
      rw [if_pos hu] at h5
      simp only [this, cond_true]
      exact h5
    · have : (b.Up == most) = false := by simpa using hu
      rw [if_neg hu] at h5
      simp only [this, cond_false]
      exact h5

theorem refends_eq {N : Nat} (hN : 1001 ≤ N) {b : api_Band} {t : api_Times} (hn : t.Periods.n ≤ 1000) (most : Bool) : ∃ (c' : Bool) (a' : Arr Int), a'.Is t.Periods.n (endF b t most) ∧ ∀ {R : Type} (k : Bool → Arr Int → Option R), newelref11_ends N b t most k = k c' a' := by
  obtain ⟨c', a', h1, h2⟩ := refends_l3_eq N (b := b) hn most t.Periods.n 0 N true emI (by omega) (by omega) Arr.Is.zero
  refine ⟨c', a', h1, fun {R} k => ?_⟩
  rw [newelref11_ends_def]
  unfold newelref11_ends_m
  exact h2 k

theorem refBounds_eq {N : Nat} (hN : 1001 ≤ N) (b : api_Band) (t : api_Times) (p : Arr Int) (k : api_Span → Int → Option R) : newelref11_Bounds N b t p k = k (boundsV b t p) (planV b t p) := by
  rw [newelref11_Bounds_def]
  unfold newelref11_Bounds_m
  rw [refPlan_eq (by omega)]
  unfold boundsV
  by_cases h : planV b t p = 0
  rotate_left
  · have : (planV b t p != 0) = true := by simpa using h
    rw [if_neg h]
    simp only [this, cond_true]
  obtain ⟨hb, ht, hp⟩ := planV_zero.1 h
  have hpn := hp.1
  have hn2 := ht.n2
  rw [h, if_pos rfl]
  obtain ⟨c1, a1, i1, q1⟩ := refends_eq hN (b := b) (t := t) (by omega) false
  obtain ⟨c2, a2, i2, q2⟩ := refends_eq hN (b := b) (t := t) (by omega) true
  have e1 : ∀ j, j < t.Periods.n → pwS b p a1 j = pwE b t p false j := fun j hj => by unfold pwS pwE; rw [i1.get j hj]
  have e2 : ∀ j, j < t.Periods.n → pwS b p a2 j = pwE b t p true j := fun j hj => by unfold pwS pwE; rw [i2.get j hj]
  simp only [bne_self_eq_false, cond_false, q1, q2]
  rw [refbill_eq (by omega) hb ht hpn i1.len (fun j hj => by rw [i1.get j hj]; exact plan_fp hb hp hj (endF_range ht false hj)), refbill_eq (by omega) hb ht hpn i2.len (fun j hj => by rw [i2.get j hj]; exact plan_fp hb hp hj (endF_range ht true hj)), billS_congr e1, billS_congr e2]

end
end Go.Proofs.Ytfaefhegfcidpaa
