import Derived.Test.YtckkodiefpdmhaaDoorR2
set_option linter.unusedSectionVars false
set_option linter.unusedVariables false
set_option linter.unusedSimpArgs false
set_option maxHeartbeats 0
set_option maxRecDepth 100000
namespace Go.Proofs.YtckkodiefpdmhaaDoor
open Go.Sx
open Classical
noncomputable section
def mxF (e : Nat → Int) (a : Arr Int) : Nat → Int
  | 0 => 0
  | k + 1 => mxI (mxF e a k) (e (a.f k).toNat)
def eF (w : api_Works) : Nat → Nat → Int
  | 0 => fun _ => 0
  | i + 1 => fun j => if j = i then mxF (eF w i) (w.Jobs.f i).After (w.Jobs.f i).After.n + (w.Jobs.f i).Nights else eF w i j
def mF (w : api_Works) : Nat → Nat → Int
  | 0 => fun _ => 0
  | i + 1 => fun j => if j = (w.Jobs.f i).Machine.toNat then mF w i j + (w.Jobs.f i).Nights else mF w i j
def tF (w : api_Works) : Nat → Int
  | 0 => 0
  | i + 1 => tF w i + (w.Jobs.f i).Nights
def bF (w : api_Works) : Nat → Int
  | 0 => 0
  | i + 1 => mxI (mxI (bF w i) (eF w (i + 1) i)) (mF w (i + 1) (w.Jobs.f i).Machine.toNat)
def bound (w : api_Works) : Int := mxI (bF w w.Jobs.n) (Int.tdiv (tF w w.Jobs.n + w.Crews - 1) w.Crews)
def sumI (f : Nat → Int) : Nat → Int
  | 0 => 0
  | x + 1 => sumI f x + f x
theorem sumI_add (f g : Nat → Int) : ∀ d, sumI (fun x => f x + g x) d = sumI f d + sumI g d := by
  intro d
  induction d with
  | zero => rfl
  | succ d ih => simp only [sumI, ih]; omega
theorem sumI_le {f : Nat → Int} {c : Int} : ∀ d, (∀ x, x < d → f x ≤ c) → sumI f d ≤ d * c := by
  intro d
  induction d with
  | zero => intro _; simp [sumI]
  | succ d ih =>
    intro h
    have h1 := ih (fun x hx => h x (by omega))
    have h2 := h d (by omega)
    have e : ((d + 1 : Nat) : Int) * c = (d : Int) * c + c := by
      rw [Int.natCast_add, Int.add_mul]; simp
    rw [e]
    simp only [sumI]
    omega
theorem sumI_congr {f g : Nat → Int} : ∀ d, (∀ x, x < d → f x = g x) → sumI f d = sumI g d := by
  intro d
  induction d with
  | zero => intro _; rfl
  | succ d ih => intro h; simp only [sumI, ih (fun x hx => h x (by omega)), h d (by omega)]
def one01 (b : Bool) : Int := bif b then 1 else 0
theorem span_sum {p l : Int} (h0 : 0 ≤ p) (hl : 0 ≤ l) : ∀ d : Nat, sumI (fun x => one01 (decide (p ≤ (x : Int)) && decide ((x : Int) < p + l))) d = max 0 (min (d : Int) (p + l) - p) := by
  intro d
  induction d with
  | zero => simp only [sumI]; omega
  | succ d ih =>
    simp only [sumI, ih]
    by_cases h1 : p ≤ (d : Int)
    · by_cases h2 : (d : Int) < p + l
      · rw [decide_eq_true h1, decide_eq_true h2]; simp only [one01, Bool.and_self, cond_true]; omega
      · rw [decide_eq_true h1, decide_eq_false h2]; simp only [one01, Bool.and_false, cond_false]; omega
    · rw [decide_eq_false h1]; simp only [one01, Bool.false_and, cond_false]; omega
def outI (w : api_Works) (p : Arr Int) (x : Int) (i : Nat) : Bool := decide (p.f i ≤ x) && decide (x < p.f i + (w.Jobs.f i).Nights)
def cM (w : api_Works) (p : Arr Int) (m : Nat) (x : Int) : Nat → Int
  | 0 => 0
  | i + 1 => cM w p m x i + one01 (outI w p x i && decide (m = (w.Jobs.f i).Machine.toNat))
theorem cM_bit {w : api_Works} {p : Arr Int} {m : Nat} {x : Int} : ∀ i, (nt w p x i).2.2 = false → cM w p m x i = one01 ((nt w p x i).1.testBit m) := by
  intro i
  induction i with
  | zero => intro _; simp [cM, nt, one01]
  | succ i ih =>
    intro h
    simp only [nt] at h ⊢
    simp only [cM]
    unfold outI
    cases c : (decide (p.f i ≤ x) && decide (x < p.f i + (w.Jobs.f i).Nights))
    · rw [c, cond_false] at h
      rw [cond_false, ih h, Bool.false_and]
      simp [one01]
    · rw [c, cond_true] at h
      simp only [Bool.or_eq_false_iff] at h
      rw [cond_true, ih h.1, Bool.true_and]
      simp only [Nat.testBit_or, Nat.testBit_two_pow]
      by_cases e : m = (w.Jobs.f i).Machine.toNat
      · subst e
        rw [h.2]
        simp [one01]
      · have e2 : ¬ (w.Jobs.f i).Machine.toNat = m := fun k => e k.symm
        rw [decide_eq_false e, decide_eq_false e2, Bool.or_false]
        simp [one01]
theorem cnt_sum {w : api_Works} {p : Arr Int} {x : Int} : ∀ i, (((nt w p x i).2.1 : Nat) : Int) = sumI (fun j => one01 (outI w p x j)) i := by
  intro i
  induction i with
  | zero => rfl
  | succ i ih =>
    simp only [nt, sumI]
    unfold outI at ih ⊢
    cases c : (decide (p.f i ≤ x) && decide (x < p.f i + (w.Jobs.f i).Nights))
    · rw [cond_false, ih]; simp [one01]
    · rw [cond_true]
      simp only [Int.natCast_add, ih, one01, cond_true]
      rfl
theorem nt_mono' {w : api_Works} {p : Arr Int} {x : Int} : ∀ d i, (nt w p x (i + d)).2.2 = false → (nt w p x i).2.2 = false := by
  intro d
  induction d with
  | zero => intro i h; exact h
  | succ d ih =>
    intro i h
    apply ih i
    rw [show i + (d + 1) = (i + d) + 1 by omega] at h
    simp only [nt] at h
    cases c : (decide (p.f (i + d) ≤ x) && decide (x < p.f (i + d) + (w.Jobs.f (i + d)).Nights))
    · rw [c, cond_false] at h; exact h
    · rw [c, cond_true] at h
      simp only [Bool.or_eq_false_iff] at h
      exact h.1
section
variable {w : api_Works} (v : VW w) {p : Arr Int} (g : Good w p) {D : Nat} (hD : ∀ j, j < w.Jobs.n → p.f j + (w.Jobs.f j).Nights ≤ (D : Int))
include v g hD
theorem span_job {i : Nat} (hi : i < w.Jobs.n) : sumI (fun x => one01 (outI w p (x : Int) i)) D = (w.Jobs.f i).Nights := by
  have h1 := g.fits v i hi
  have h2 := (v.jobs i hi).n
  have h3 := hD i hi
  unfold job at h2
  have := span_sum (p := p.f i) (l := (w.Jobs.f i).Nights) (by omega) (by omega) D
  unfold outI
  rw [this]
  omega
theorem mach_sum (m : Nat) : ∀ i, i ≤ w.Jobs.n → sumI (fun x => cM w p m (x : Int) i) D = mF w i m := by
  intro i
  induction i with
  | zero =>
    intro _
    show sumI (fun _ => (0 : Int)) D = 0
    have : ∀ d, sumI (fun _ => (0 : Int)) d = 0 := by intro d; induction d with
      | zero => rfl
      | succ d ih => simp only [sumI, ih]; rfl
    exact this D
  | succ i ih =>
    intro hi
    have h1 := ih (by omega)
    simp only [cM, mF]
    rw [sumI_add, h1]
    by_cases e : m = (w.Jobs.f i).Machine.toNat
    · rw [if_pos e]
      have := span_job v g hD (i := i) (by omega)
      rw [← this]
      congr 1
      exact sumI_congr D (fun x _ => by rw [decide_eq_true e, Bool.and_true])
    · rw [if_neg e]
      have : sumI (fun x => one01 (outI w p (x : Int) i && decide (m = (w.Jobs.f i).Machine.toNat))) D = sumI (fun _ => (0 : Int)) D := sumI_congr D (fun x _ => by rw [decide_eq_false e, Bool.and_false]; rfl)
      rw [this]
      have h0 : ∀ d, sumI (fun _ => (0 : Int)) d = 0 := by intro d; induction d with
        | zero => rfl
        | succ d ih => simp only [sumI, ih]; rfl
      rw [h0]; omega
theorem tot_sum : ∀ i, i ≤ w.Jobs.n → sumI (fun x => (((nt w p (x : Int) i).2.1 : Nat) : Int)) D = tF w i := by
  intro i hi
  have : sumI (fun x => (((nt w p (x : Int) i).2.1 : Nat) : Int)) D = sumI (fun x => sumI (fun j => one01 (outI w p (x : Int) j)) i) D := sumI_congr D (fun x _ => cnt_sum i)
  rw [this]
  clear this
  induction i with
  | zero =>
    have : ∀ d, sumI (fun _ => (0 : Int)) d = 0 := by intro d; induction d with
      | zero => rfl
      | succ d ih => simp only [sumI, ih]; rfl
    exact this D
  | succ i ih =>
    have h1 := ih (by omega)
    show sumI (fun x => sumI (fun j => one01 (outI w p (x : Int) j)) i + one01 (outI w p (x : Int) i)) D = tF w i + (w.Jobs.f i).Nights
    rw [sumI_add, h1, span_job v g hD (by omega)]
omit hD in
theorem eF_le : ∀ i, i ≤ w.Jobs.n → ∀ j, j < i → eF w i j ≤ p.f j + (w.Jobs.f j).Nights := by
  intro i
  induction i with
  | zero => intro _ j hj; omega
  | succ i ih =>
    intro hi j hj
    simp only [eF]
    by_cases e : j = i
    · subst e
      rw [if_pos rfl]
      have hf := g.fits v j (by omega)
      have : ∀ k, k ≤ (w.Jobs.f j).After.n → mxF (eF w j) (w.Jobs.f j).After k ≤ p.f j := by
        intro k
        induction k with
        | zero => intro _; exact hf.1
        | succ k ihk =>
          intro hk
          have h1 := ihk (by omega)
          have hA := v.nf j (by omega) k (by unfold job; omega)
          unfold job at hA
          have h2 := ih (by omega) ((w.Jobs.f j).After.f k).toNat (by omega)
          have h3 : ¬ p.f ((w.Jobs.f j).After.f k).toNat + (w.Jobs.f ((w.Jobs.f j).After.f k).toNat).Nights > p.f j := fun c => by
            have h4 := g.b2 j (by omega)
            have : bad2 w p j = true := anyN_iff.2 ⟨k, by omega, by omega, by unfold late; exact decide_eq_true c⟩
            rw [h4] at this; cases this
          simp only [mxF, mxI_eq]
          omega
      have := this _ (Nat.le_refl _)
      omega
    · rw [if_neg e]
      exact ih (by omega) j (by omega)
theorem bound_le (hDU : (D : Int) ≤ w.Until) : bound w ≤ (D : Int) := by
  have vc := v.c
  have hx : ∀ x : Nat, x < D → x < w.Until.toNat := fun x hx => by omega
  have hm : ∀ m i, i ≤ w.Jobs.n → mF w i m ≤ (D : Int) := fun m i hi => by
    rw [← mach_sum v g hD m i hi]
    have : ∀ x, x < D → cM w p m (x : Int) i ≤ 1 := fun x h => by
      have h3 := g.b3 x (hx x h)
      unfold bad3 ntA at h3
      have hno : (nt w p (x : Int) i).2.2 = false := nt_mono' (w.Jobs.n - i) i (by rw [show i + (w.Jobs.n - i) = w.Jobs.n by omega]; exact h3)
      rw [cM_bit i hno]
      cases (nt w p (x : Int) i).1.testBit m <;> simp [one01]
    have := sumI_le D this
    omega
  have ht : tF w w.Jobs.n ≤ (D : Int) * w.Crews := by
    rw [← tot_sum v g hD _ (Nat.le_refl _)]
    refine sumI_le D (fun x h => ?_)
    have h4 := g.b4 x (hx x h)
    unfold bad4 ntA at h4
    simp only [decide_eq_false_iff_not] at h4
    omega
  have ht0 : ∀ i, i ≤ w.Jobs.n → 0 ≤ tF w i := by
    intro i
    induction i with
    | zero => intro _; exact Int.le_refl _
    | succ i ih =>
      intro hi
      have := ih (by omega)
      have h2 := (v.jobs i (by omega)).n
      unfold job at h2
      simp only [tF]
      omega
  have hb : ∀ i, i ≤ w.Jobs.n → bF w i ≤ (D : Int) := by
    intro i
    induction i with
    | zero => intro _; simp only [bF]; omega
    | succ i ih =>
      intro hi
      have h1 := ih (by omega)
      have h2 := eF_le v g (i + 1) hi i (by omega)
      have h3 := hD i (by omega)
      have h4 := hm (w.Jobs.f i).Machine.toNat (i + 1) hi
      simp only [bF, mxI_eq]
      omega
  unfold bound
  rw [mxI_eq]
  have h1 := hb _ (Nat.le_refl _)
  have h2 : Int.tdiv (tF w w.Jobs.n + w.Crews - 1) w.Crews ≤ (D : Int) := by
    have := ht0 _ (Nat.le_refl _)
    rw [Int.tdiv_eq_ediv_of_nonneg (by omega)]
    have : tF w w.Jobs.n + w.Crews - 1 < ((D : Int) + 1) * w.Crews := by rw [Int.add_mul, Int.one_mul]; omega
    have := Int.ediv_lt_of_lt_mul (by omega) this
    omega
  omega
end
end
end Go.Proofs.YtckkodiefpdmhaaDoor
