/-
  Energy: bills.
-/
import Derived.Test.YtpillmoddoccfaaEnP2
import Derived.Test.YtpillmoddoccfaaSxMath
set_option linter.unusedVariables false
set_option linter.unusedSimpArgs false
namespace Go.Proofs.Ytpillmoddoccfaa
namespace En
open Go.Sx

/-- One element changed. -/
def setI (a : Arr Int) (i : Nat) (v : Int) : Arr Int := lst intC a.n (setCs i 0 (Cod.cell intC a.f) [SV.int IntKind.i64 v])
theorem setI_n (a : Arr Int) (i : Nat) (v : Int) : (setI a i v).n = a.n := rfl
theorem setI_f (a : Arr Int) (i : Nat) (v : Int) (j : Nat) : (setI a i v).f j = if j = i then v else a.f j := by
  show toI (setC i 0 (Cod.cell intC a.f) (SV.int IntKind.i64 v) j 0) = _
  unfold setC
  by_cases h : j = i
  · subst h; simp [toI]
  · have : (j == i) = false := by simpa using h
    rw [this, if_neg h]
    rfl
def zerI (n : Nat) : Arr Int := lst intC n (zeroC [SV.int IntKind.i64 0])
theorem zerI_n (n : Nat) : (zerI n).n = n := rfl
def emI : Arr Int := lst intC 0 (zeroC [SV.int IntKind.i64 0])

/-- One more at the end. -/
def pushI (a : Arr Int) (v : Int) : Arr Int := lst intC (a.n + 1) (catC a.n (Cod.cell intC a.f) (litC [SV.int IntKind.i64 0] [[SV.int IntKind.i64 v]]))
theorem pushI_n (a : Arr Int) (v : Int) : (pushI a v).n = a.n + 1 := rfl
theorem pushI_is (a : Arr Int) (v : Int) : (pushI a v).Is (a.n + 1) (fun i => if i = a.n then v else a.f i) :=
  Arr.Is.push_int (a := a) (n := a.n) (g := fun i => if i = a.n then v else a.f i) ⟨rfl, fun i hi => (if_neg (by omega)).symm⟩ (by simp)
theorem pushI_lt {a : Arr Int} {v : Int} {i : Nat} (h : i < a.n) : (pushI a v).f i = a.f i := by
  rw [(pushI_is a v).get i (by omega), if_neg (by omega)]
theorem pushI_eq {a : Arr Int} {v : Int} : (pushI a v).f a.n = v := by
  rw [(pushI_is a v).get a.n (by omega), if_pos rfl]

/-! ### Bills of powers -/
def psum (t : api_Times) (pw : Nat → Int) : Nat → Int
  | 0 => 0
  | n + 1 => psum t pw n + pw n * (t.Periods.f n).Lasts * (t.Periods.f n).Price
def pmax (pw : Nat → Int) : Nat → Int
  | 0 => 0
  | n + 1 => max (pmax pw n) (pw n)
def billS (t : api_Times) (pw : Nat → Int) : Int := psum t pw t.Periods.n + t.Peak * pmax pw t.Periods.n

/-- Powers as they can be. -/
def powP (pw : Nat → Int) (n : Nat) : Prop := ∀ j, j < n → -200000000000 ≤ pw j ∧ pw j ≤ 200000000000

theorem psum_congr {t : api_Times} {pw pw' : Nat → Int} : ∀ {n : Nat}, (∀ j, j < n → pw j = pw' j) → psum t pw n = psum t pw' n
  | 0, _ => rfl
  | n + 1, h => by simp only [psum]; rw [psum_congr (fun j hj => h j (by omega)), h n (by omega)]
theorem pmax_congr {pw pw' : Nat → Int} : ∀ {n : Nat}, (∀ j, j < n → pw j = pw' j) → pmax pw n = pmax pw' n
  | 0, _ => rfl
  | n + 1, h => by simp only [pmax]; rw [pmax_congr (fun j hj => h j (by omega)), h n (by omega)]
theorem billS_congr {t : api_Times} {pw pw' : Nat → Int} (h : ∀ j, j < t.Periods.n → pw j = pw' j) : billS t pw = billS t pw' := by
  unfold billS
  rw [psum_congr h, pmax_congr h]

theorem mul_abs {a c A C : Int} (h1 : -A ≤ a) (h2 : a ≤ A) (hA : 0 ≤ A) (h3 : 0 ≤ c) (h4 : c ≤ C) : -(A * C) ≤ a * c ∧ a * c ≤ A * C := by
  rcases Int.le_total 0 a with h | h
  · have h5 := mul_range h h2 h3 h4
    have : 0 ≤ A * C := Int.mul_nonneg hA (by omega)
    omega
  · have h5 := mul_range (a := -a) (b := c) (A := A) (B := C) (by omega) (by omega) h3 h4
    rw [Int.neg_mul] at h5
    omega

theorem term_bounds {t : api_Times} (ht : VT t) {p : Int} (hp : -200000000000 ≤ p ∧ p ≤ 200000000000) {n : Nat} (hn : n < t.Periods.n) :
    (-200000000000000 ≤ p * (t.Periods.f n).Lasts ∧ p * (t.Periods.f n).Lasts ≤ 200000000000000) ∧ -20000000000000000 ≤ p * (t.Periods.f n).Lasts * (t.Periods.f n).Price ∧ p * (t.Periods.f n).Lasts * (t.Periods.f n).Price ≤ 20000000000000000 := by
  have h := ht.per n hn
  have h1 := mul_abs (a := p) (A := 200000000000) (c := (t.Periods.f n).Lasts) (C := 1000) (by omega) (by omega) (by omega) (by have := h.l1; omega) h.l2
  have h2 := mul_abs (a := p * (t.Periods.f n).Lasts) (A := 200000000000000) (c := (t.Periods.f n).Price) (C := 100) (by omega) (by omega) (by omega) h.c1 h.c2
  exact ⟨by omega, by omega⟩

theorem psum_bounds {t : api_Times} (ht : VT t) {pw : Nat → Int} : ∀ {n : Nat}, n ≤ t.Periods.n → powP pw n → -(n * 20000000000000000 : Int) ≤ psum t pw n ∧ psum t pw n ≤ n * 20000000000000000
  | 0, _, _ => by simp [psum]
  | n + 1, hn, h => by
    have h1 := psum_bounds ht (n := n) (by omega) (fun j hj => h j (by omega))
    have h2 := (term_bounds ht (h n (by omega)) (n := n) (by omega)).2
    simp only [psum]
    omega
theorem pmax_bounds {pw : Nat → Int} : ∀ {n : Nat}, powP pw n → 0 ≤ pmax pw n ∧ pmax pw n ≤ 200000000000
  | 0, _ => by simp [pmax]
  | n + 1, h => by
    have h1 := pmax_bounds (n := n) (fun j hj => h j (by omega))
    have h2 := h n (by omega)
    simp only [pmax]
    omega
theorem billS_bounds {t : api_Times} (ht : VT t) {pw : Nat → Int} (h : powP pw t.Periods.n) : (0 ≤ t.Peak * pmax pw t.Periods.n ∧ t.Peak * pmax pw t.Periods.n ≤ 200000000000000) ∧ -200000000000000000 ≤ psum t pw t.Periods.n ∧ psum t pw t.Periods.n ≤ 200000000000000000 := by
  have h1 := pmax_bounds h
  have h2 := mul_range ht.k1 ht.k2 h1.1 h1.2
  have h3 := psum_bounds ht (Nat.le_refl _) h
  have h4 := ht.n2
  refine ⟨by omega, ?_⟩
  omega

/-- A bill grows with the powers. -/
theorem psum_mono {t : api_Times} (ht : VT t) {pw pw' : Nat → Int} : ∀ {n : Nat}, n ≤ t.Periods.n → (∀ j, j < n → pw j ≤ pw' j) → psum t pw n ≤ psum t pw' n
  | 0, _, _ => Int.le_refl _
  | n + 1, hn, h => by
    have h1 := psum_mono ht (n := n) (by omega) (fun j hj => h j (by omega))
    have hp := ht.per n (by omega)
    have h2 : pw n * (t.Periods.f n).Lasts ≤ pw' n * (t.Periods.f n).Lasts := Int.mul_le_mul_of_nonneg_right (h n (by omega)) (by have := hp.l1; omega)
    have h3 : pw n * (t.Periods.f n).Lasts * (t.Periods.f n).Price ≤ pw' n * (t.Periods.f n).Lasts * (t.Periods.f n).Price := Int.mul_le_mul_of_nonneg_right h2 hp.c1
    simp only [psum]
    omega
theorem pmax_mono {pw pw' : Nat → Int} : ∀ {n : Nat}, (∀ j, j < n → pw j ≤ pw' j) → pmax pw n ≤ pmax pw' n
  | 0, _ => Int.le_refl _
  | n + 1, h => by
    have h1 := pmax_mono (n := n) (fun j hj => h j (by omega))
    have h2 := h n (by omega)
    simp only [pmax]
    omega
theorem billS_mono {t : api_Times} (ht : VT t) {pw pw' : Nat → Int} (h : ∀ j, j < t.Periods.n → pw j ≤ pw' j) : billS t pw ≤ billS t pw' := by
  have h1 := psum_mono ht (Nat.le_refl _) h
  have h2 : t.Peak * pmax pw t.Periods.n ≤ t.Peak * pmax pw' t.Periods.n := Int.mul_le_mul_of_nonneg_left (pmax_mono h) ht.k1
  unfold billS
  omega

theorem ifmaxg (a c : Int) : (if c > a then c else a) = max a c := by omega

section
variable {R : Type}

theorem bill_l3_eq (N : Nat) {t : api_Times} (ht : VT t) {a : Arr Int} (hn : a.n = t.Periods.n) (hp : powP a.f t.Periods.n) (k : Int → Int → Option R) : ∀ (r i n : Nat), i + r = t.Periods.n → r < n →
    energy_bill_l3 N n a (psum t a.f i) (pmax a.f i) t.Periods (t.Periods.n : Int) (i : Int) t k = k (psum t a.f t.Periods.n) (pmax a.f t.Periods.n) := by
  have hn2 := ht.n2
  intro r
  induction r with
  | zero =>
    intro i n h1 h2
    obtain ⟨n, rfl⟩ : ∃ m, n = m + 1 := ⟨n - 1, by omega⟩
    unfold energy_bill_l3 energy_bill_b3
    simp only [lt_false (show t.Periods.n ≤ i by omega), cond_false]
    rw [show i = t.Periods.n by omega]
  | succ r ih =>
    intro i n h1 h2
    obtain ⟨n, rfl⟩ : ∃ m, n = m + 1 := ⟨n - 1, by omega⟩
    unfold energy_bill_l3 energy_bill_b3
    have hb := psum_bounds ht (n := i) (by omega) (fun j hj => hp j (by omega))
    have ht1 := term_bounds ht (hp i (by omega)) (n := i) (by omega)
    simp only [lt_true (show i < t.Periods.n by omega), lt_true (show i < a.n by omega), nat_nonneg, Bool.and_self, cond_true, Int.toNat_natCast, w64_succ (show i < 1000000000000 by omega), ifmaxg]
    rw [w64_eq (n := a.f i * _) (by omega) (by omega), w64_eq (n := a.f i * _ * _) (by omega) (by omega), w64_eq (by omega) (by omega)]
    exact ih (i + 1) n (by omega) (by omega)

theorem bill_eq {N : Nat} (hN : 20 ≤ N) {t : api_Times} (ht : VT t) {a : Arr Int} (hn : a.n = t.Periods.n) (hp : powP a.f t.Periods.n) (k : Int → Option R) : energy_bill N t a k = k (billS t a.f) := by
  rw [energy_bill_def]
  unfold energy_bill_m
  have hn2 := ht.n2
  have hb := billS_bounds ht hp
  refine Eq.trans (bill_l3_eq N ht hn hp _ t.Periods.n 0 N (by omega) (by omega)) ?_
  show k (w64 (psum t a.f t.Periods.n + w64 (t.Peak * pmax a.f t.Periods.n))) = _
  rw [w64_eq (n := t.Peak * _) (by omega) (by omega), w64_eq (by omega) (by omega)]
  rfl

/-- The powers of flows at the paces of a plan. -/
def pwS (b : api_Band) (p fl : Arr Int) (j : Nat) : Int := powerS b (fl.f j) (p.f j)

/-! ### Bill -/
/-- Flows of times. -/
def flP (t : api_Times) (fl : Arr Int) (j : Nat) : Prop := (t.Periods.f j).Flow.Low ≤ fl.f j ∧ fl.f j ≤ (t.Periods.f j).Flow.High
def areP (t : api_Times) (fl : Arr Int) : Prop := fl.n = t.Periods.n ∧ ∀ j, j < fl.n → flP t fl j

theorem flP_range {t : api_Times} (ht : VT t) {fl : Arr Int} {j : Nat} (hj : j < t.Periods.n) (h : flP t fl j) : 0 ≤ fl.f j ∧ fl.f j ≤ 100 := by
  have h1 := ht.per j hj
  have h2 := h1.f1
  have h3 := h1.f3
  unfold flP at h
  omega
theorem plan_fp {b : api_Band} (h : VB b) {t : api_Times} {p : Arr Int} (hp : planP b t p) {j : Nat} (hj : j < t.Periods.n) {f : Int} (hf : 0 ≤ f ∧ f ≤ 100) : Fp f (p.f j) :=
  isIn_fp h (hp.2 j (by rw [hp.1]; exact hj)) hf

open Classical in
noncomputable def billE (b : api_Band) (t : api_Times) (p fl : Arr Int) : Int := if planV b t p = 0 then if areP t fl then 0 else 1 else planV b t p
noncomputable def billV (b : api_Band) (t : api_Times) (p fl : Arr Int) : Int := if billE b t p fl = 0 then billS t (pwS b p fl) else 0

theorem billE_zero {b : api_Band} {t : api_Times} {p fl : Arr Int} : billE b t p fl = 0 ↔ VB b ∧ VT t ∧ planP b t p ∧ areP t fl := by
  unfold billE
  by_cases h : planV b t p = 0
  · rw [if_pos h]
    have h1 := planV_zero.1 h
    by_cases h2 : areP t fl <;> simp [h2, h1]
  · rw [if_neg h]
    constructor
    · intro g; exact absurd g h
    · intro g; exact absurd (planV_zero.2 ⟨g.1, g.2.1, g.2.2.1⟩) h

/-! ### Bounds -/
/-- The flows with the least or the greatest power. -/
def endF (b : api_Band) (t : api_Times) (most : Bool) (j : Nat) : Int := if b.Up = most then (t.Periods.f j).Flow.High else (t.Periods.f j).Flow.Low
def pwE (b : api_Band) (t : api_Times) (p : Arr Int) (most : Bool) (j : Nat) : Int := powerS b (endF b t most j) (p.f j)

theorem endF_range {b : api_Band} {t : api_Times} (ht : VT t) (most : Bool) {j : Nat} (hj : j < t.Periods.n) : 0 ≤ endF b t most j ∧ endF b t most j ≤ 100 := by
  have h1 := ht.per j hj
  have h2 := h1.f1
  have h3 := h1.f2
  have h4 := h1.f3
  unfold endF
  split <;> omega

theorem ends_val {b : api_Band} (h : VB b) {q : api_Period} (hq : perP q) {x : Int} (hx : 1 ≤ x ∧ x ≤ 100) :
    (if powerS b q.Flow.High x < powerS b q.Flow.Low x then powerS b q.Flow.High x else powerS b q.Flow.Low x) = powerS b (if b.Up = false then q.Flow.High else q.Flow.Low) x ∧
    (if powerS b q.Flow.High x > powerS b q.Flow.Low x then powerS b q.Flow.High x else powerS b q.Flow.Low x) = powerS b (if b.Up = true then q.Flow.High else q.Flow.Low) x := by
  have f1 := hq.f1
  have f2 := hq.f2
  have f3 := hq.f3
  have hf : Fp q.Flow.Low x := ⟨f1, by omega, hx.1, hx.2⟩
  cases hu : b.Up with
  | true =>
    have := power_up h hu hf f2
    simp only [if_true, Bool.true_eq_false, if_false]
    constructor <;> split <;> omega
  | false =>
    have := power_down h (by rw [hu]; simp) hf f2
    simp only [if_true, Bool.false_eq_true, if_false]
    constructor <;> split <;> omega

theorem ends_eq (N : Nat) {b : api_Band} (h : VB b) {q : api_Period} (hq : perP q) {x : Int} (hx : 1 ≤ x ∧ x ≤ 100) (k : Int → Int → Option R) :
    energy_ends N b q x k = k (powerS b (if b.Up = false then q.Flow.High else q.Flow.Low) x) (powerS b (if b.Up = true then q.Flow.High else q.Flow.Low) x) := by
  rw [energy_ends_def]
  unfold energy_ends_m
  have f1 := hq.f1
  have f2 := hq.f2
  have f3 := hq.f3
  rw [power_eq N h ⟨f1, by omega, hx.1, hx.2⟩, power_eq N h ⟨by omega, f3, hx.1, hx.2⟩]
  obtain ⟨e1, e2⟩ := ends_val h hq hx
  rw [e1, e2]

theorem plan_pace {b : api_Band} (h : VB b) {t : api_Times} {p : Arr Int} (hp : planP b t p) {j : Nat} (hj : j < t.Periods.n) : 1 ≤ p.f j ∧ p.f j ≤ 100 := by
  have := plan_fp h hp hj (f := 0) (by omega)
  exact ⟨this.p1, this.p2⟩

noncomputable def boundsV (b : api_Band) (t : api_Times) (p : Arr Int) : api_Span := if planV b t p = 0 then ⟨billS t (pwE b t p false), billS t (pwE b t p true)⟩ else ⟨0, 0⟩

theorem pwE_pow {b : api_Band} (h : VB b) {t : api_Times} (ht : VT t) {p : Arr Int} (hp : planP b t p) (most : Bool) : powP (pwE b t p most) t.Periods.n := fun j hj =>
  power_bounds h (plan_fp h hp hj (endF_range ht most hj))

end
end En
end Go.Proofs.Ytpillmoddoccfaa
