import Derived.Test.YtckkodiefpdmhaaDoorQ2
set_option linter.unusedSectionVars false
set_option linter.unusedVariables false
set_option linter.unusedSimpArgs false
set_option maxHeartbeats 0
set_option maxRecDepth 100000
namespace Go.Proofs.YtckkodiefpdmhaaDoor
open Go.Sx
open Classical
noncomputable section
variable {R : Type}
theorem farw_l5 (w : api_Works) (hj : w.Jobs.n ≤ 10) (N : Nat) {K : Bool → Option R} {T : Option R} (hK : ∀ b, (b = false → ∀ i, i < w.Jobs.n → (w.Jobs.f i).After.n ≤ 10) → K b = T) :
    ∀ (q i n : Nat) (c : Int), i + q = w.Jobs.n → q < n → (∀ x, x < i → (w.Jobs.f x).After.n ≤ 10) → newellaw09_FarWorks_l5 N n c (i : Int) w (fun r => K r) (fun r513 => bif decide (r513 > (20000 : Int)) then K (decide (r513 ≤ (200000 : Int))) else K false) = T := by
  intro q
  induction q with
  | zero =>
    intro i n c h1 h2 h3
    obtain ⟨n, rfl⟩ : ∃ m, n = m + 1 := ⟨n - 1, by omega⟩
    unfold newellaw09_FarWorks_l5 newellaw09_FarWorks_b5
    rw [ltF (show w.Jobs.n ≤ i by omega), cond_false]
    have hall : ∀ i, i < w.Jobs.n → (w.Jobs.f i).After.n ≤ 10 := fun x hx => h3 x (by omega)
    show (bif decide (c > (20000 : Int)) then K (decide (c ≤ (200000 : Int))) else K false) = T
    cases decide (c > (20000 : Int))
    · exact hK _ (fun _ => hall)
    · exact hK _ (fun _ => hall)
  | succ q ih =>
    intro i n c h1 h2 h3
    obtain ⟨n, rfl⟩ : ∃ m, n = m + 1 := ⟨n - 1, by omega⟩
    unfold newellaw09_FarWorks_l5 newellaw09_FarWorks_b5
    rw [ltT (show i < w.Jobs.n by omega), show decide ((0 : Int) ≤ (i : Int)) = true by simp, w64_eq (show -9223372036854775808 ≤ (i : Int) + 1 by omega) (by omega), show (i : Int) + 1 = ((i + 1 : Nat) : Int) by omega]
    simp only [cond_true, Bool.and_self, Int.toNat_natCast]
    by_cases h : (w.Jobs.f i).After.n ≤ 10
    rotate_left
    · rw [decide_eq_true (show (((w.Jobs.f i).After.n : Nat) : Int) > 10 by omega), cond_true]
      exact hK true (fun h => by cases h)
    rw [decide_eq_false (show ¬ (((w.Jobs.f i).After.n : Nat) : Int) > 10 by omega), cond_false]
    have hr : ∀ c : Int, newellaw09_FarWorks_l5 N n c ((i + 1 : Nat) : Int) w (fun r => K r) (fun r513 => bif decide (r513 > (20000 : Int)) then K (decide (r513 ≤ (200000 : Int))) else K false) = T := fun c => ih (i + 1) n c (by omega) (by omega) (fun x hx => by
      by_cases e : x = i
      · rw [e]; exact h
      · exact h3 x (by omega))
    rw [hr, hr]
    simp only [Bool.cond_self]
theorem viaFarW {w : api_Works} {N : Nat} (hN : 20 ≤ N) {K : Bool → Option R} {T : Option R} (h : ∀ b, (b = false → NF w) → K b = T) : newellaw09_FarWorks N w K = T := by
  rw [newellaw09_FarWorks_def]
  unfold newellaw09_FarWorks_m
  by_cases h1 : w.Jobs.n ≤ 10
  rotate_left
  · rw [decide_eq_true (show ((w.Jobs.n : Nat) : Int) > 10 by omega), cond_true]
    exact h true (fun h => by cases h)
  rw [decide_eq_false (show ¬ ((w.Jobs.n : Nat) : Int) > 10 by omega), cond_false]
  by_cases h2 : w.Never.n ≤ 30
  rotate_left
  · rw [decide_eq_true (show ((w.Never.n : Nat) : Int) > 30 by omega), cond_true]
    exact h true (fun h => by cases h)
  rw [decide_eq_false (show ¬ ((w.Never.n : Nat) : Int) > 30 by omega), cond_false]
  exact farw_l5 w h1 N (K := K) (fun b hb => h b (fun e => ⟨h1, h2, hb e⟩)) w.Jobs.n 0 N 1 (by omega) (by omega) (fun x hx => by omega)
theorem neB {a b : Nat} (h : ¬ a = b) : ((a : Int) != (b : Int)) = true := bne_iff_ne.2 (by omega)
theorem eqB' {a b : Nat} (h : a = b) : ((a : Int) != (b : Int)) = false := by rw [h]; exact bne_self_eq_false _
theorem ck_eq {w : api_Works} (nf : NF w) (p : Arr Int) (N : Nat) (hN : 100 ≤ N) (k : Int → Option R) : shaft_checkPlan N w p k = k (if VW w then (if p.n = w.Jobs.n then 0 else 1) else 92) := by
  rw [shaft_checkPlan_def]
  unfold shaft_checkPlan_m
  rw [sWorks_eq nf N hN]
  unfold errW
  by_cases v : VW w
  rotate_left
  · rw [if_neg v, if_neg v]; rfl
  rw [if_pos v, if_pos v, show ((0 : Int) != 0) = false from rfl, cond_false]
  by_cases h : p.n = w.Jobs.n
  · rw [h, bne_self_eq_false, if_pos rfl]; rfl
  · rw [if_neg h, neB h]; rfl
def outB (p : Arr Int) (i : Nat) : Bool := !decide (0 ≤ p.f i ∧ p.f i ≤ 24)
theorem out1_eq (N : Nat) (x : Int) (k : Bool → Option R) : shaft_Out_1 N x k = k (!decide (0 ≤ x ∧ x ≤ 24)) := by
  rw [shaft_Out_1_def]
  unfold shaft_Out_1_m
  by_cases h : x < 0
  · rw [decide_eq_true h, cond_true, decide_eq_false (fun g => by omega)]; rfl
  · rw [decide_eq_false h, cond_false]
    congr 1
    by_cases g : x > 24
    · rw [decide_eq_true g, decide_eq_false (fun g => by omega)]; rfl
    · rw [decide_eq_false g, decide_eq_true (by omega)]; rfl
theorem idx_l2 (p : Arr Int) (hp : p.n ≤ 1000) (N : Nat) (K : Bool → Option R) : ∀ (q i n : Nat), i + q = p.n → q < n → slices_IndexFunc___int_int__v3_l2 N n p ((p.n : Nat) : Int) (i : Int) (fun r => K (decide (r ≥ (0 : Int)))) (fun _ => K (decide ((-1 : Int) ≥ 0))) = K (anyN (outB p) q i) := by
  intro q
  induction q with
  | zero =>
    intro i n h1 h2
    obtain ⟨n, rfl⟩ : ∃ m, n = m + 1 := ⟨n - 1, by omega⟩
    unfold slices_IndexFunc___int_int__v3_l2 slices_IndexFunc___int_int__v3_b2
    rw [ltF (show p.n ≤ i by omega), cond_false]
    rfl
  | succ q ih =>
    intro i n h1 h2
    obtain ⟨n, rfl⟩ : ∃ m, n = m + 1 := ⟨n - 1, by omega⟩
    unfold slices_IndexFunc___int_int__v3_l2 slices_IndexFunc___int_int__v3_b2
    rw [ltT (show i < p.n by omega), show decide ((0 : Int) ≤ (i : Int)) = true by simp, w64_eq (show -9223372036854775808 ≤ (i : Int) + 1 by omega) (by omega), show (i : Int) + 1 = ((i + 1 : Nat) : Int) by omega]
    simp only [cond_true, Bool.and_self, Int.toNat_natCast, out1_eq]
    rw [ih (i + 1) n (by omega) (by omega)]
    show (bif outB p i then _ else _) = K (outB p i || anyN (outB p) q (i + 1))
    cases outB p i
    · rfl
    · rw [cond_true, decide_eq_true (show (i : Int) ≥ 0 by omega)]; rfl
theorem cont_eq (p : Arr Int) (hp : p.n ≤ 1000) (N : Nat) (hN : p.n < N) (K : Bool → Option R) : slices_ContainsFunc___int_int__v3 N p K = K (anyN (outB p) p.n 0) := by
  rw [slices_ContainsFunc___int_int__v3_def]
  unfold slices_ContainsFunc___int_int__v3_m
  rw [slices_IndexFunc___int_int__v3_def]
  unfold slices_IndexFunc___int_int__v3_m
  exact idx_l2 p hp N K p.n 0 N (by omega) hN
theorem out_l6 (w : api_Works) (x : Int) (p : Arr Int) (hp : p.n ≤ 1000) (N : Nat) (kr : Int → Int → Option R) (k0 : Unit → Option R) : ∀ (q i n : Nat), i + q = p.n → q < n → newelref09_Out_l6 N n p x (i : Int) w kr k0 = bif anyN (outB p) q i then kr 0 1 else k0 () := by
  intro q
  induction q with
  | zero =>
    intro i n h1 h2
    obtain ⟨n, rfl⟩ : ∃ m, n = m + 1 := ⟨n - 1, by omega⟩
    unfold newelref09_Out_l6 newelref09_Out_b6
    rw [ltF (show p.n ≤ i by omega), cond_false]
    rfl
  | succ q ih =>
    intro i n h1 h2
    obtain ⟨n, rfl⟩ : ∃ m, n = m + 1 := ⟨n - 1, by omega⟩
    unfold newelref09_Out_l6 newelref09_Out_b6
    rw [ltT (show i < p.n by omega), show decide ((0 : Int) ≤ (i : Int)) = true by simp, w64_eq (show -9223372036854775808 ≤ (i : Int) + 1 by omega) (by omega), show (i : Int) + 1 = ((i + 1 : Nat) : Int) by omega]
    simp only [cond_true, Bool.and_self, Int.toNat_natCast, within_eq]
    rw [ih (i + 1) n (by omega) (by omega)]
    show (bif outB p i then _ else _) = bif (outB p i || anyN (outB p) q (i + 1)) then kr 0 1 else k0 ()
    cases outB p i <;> rfl
theorem plan_all {w : api_Works} (nf : NF w) (p : Arr Int) (hp : p.n ≤ 10) (x : Int) (hx : i64 x) (N : Nat) (hN : 100 ≤ N) {K : Int → Int → Int → Int → Int → Int → Int → Int → Int → Int → Option R} {T : Option R} (h : ∀ a b c d e, K a b c a b c d e d e = T) :
    shaft_CheckPlan N w p (fun a1 a2 a3 => newelref09_CheckPlan N w p (fun b1 b2 b3 => shaft_Out N w p x (fun c1 c2 => newelref09_Out N w p x (fun d1 d2 => K a1 a2 a3 b1 b2 b3 c1 c2 d1 d2)))) = T := by
  simp only [shaft_CheckPlan_def, newelref09_CheckPlan_def, shaft_Out_def, newelref09_Out_def]
  unfold shaft_CheckPlan_m newelref09_CheckPlan_m shaft_Out_m newelref09_Out_m
  simp only [ck_eq nf p N hN, rWorks_eq nf N hN]
  unfold errW
  by_cases v : VW w
  rotate_left
  · simp only [if_neg v, show ((92 : Int) != 0) = true from rfl, cond_true]
    exact h _ _ _ _ _
  simp only [if_pos v, show ((0 : Int) != 0) = false from rfl, cond_false]
  by_cases hn : p.n = w.Jobs.n
  rotate_left
  · simp only [if_neg hn, show ((1 : Int) != 0) = true from rfl, cond_true, neB hn]
    exact h _ _ _ _ _
  have u := v.u
  simp only [if_pos hn, show ((0 : Int) != 0) = false from rfl, cond_false, eqB' hn, judge_eq v hn N hN, reason_eq v hn N hN, within_eq, w64_eq (show -9223372036854775808 ≤ w.Until - 1 by omega) (by omega), cont_eq p (by omega) N (by omega)]
  have h6 : ∀ (kr : Int → Int → Option R) (k0 : Unit → Option R), newelref09_Out_l6 N N p x 0 w kr k0 = bif anyN (outB p) p.n 0 then kr 0 1 else k0 () := fun kr k0 => out_l6 w x p (by omega) N kr k0 p.n 0 N (by omega) (by omega)
  simp only [h6]
  have tail : ∀ a b c : Int, (bif decide (x < (0 : Int)) then (bif !decide (0 ≤ x ∧ x ≤ w.Until - 1) then K a b c a b c 0 1 0 1 else bif anyN (outB p) p.n 0 then K a b c a b c 0 1 0 1 else newelref09_out N w p x (fun r _ _ => K a b c a b c 0 1 r 0)) else
      bif decide (x ≥ w.Until) then (bif !decide (0 ≤ x ∧ x ≤ w.Until - 1) then K a b c a b c 0 1 0 1 else bif anyN (outB p) p.n 0 then K a b c a b c 0 1 0 1 else newelref09_out N w p x (fun r _ _ => K a b c a b c 0 1 r 0)) else
      bif anyN (outB p) p.n 0 then (bif !decide (0 ≤ x ∧ x ≤ w.Until - 1) then K a b c a b c 0 1 0 1 else bif anyN (outB p) p.n 0 then K a b c a b c 0 1 0 1 else newelref09_out N w p x (fun r _ _ => K a b c a b c 0 1 r 0)) else
      shaft_night N w p x (fun s _ _ => (bif !decide (0 ≤ x ∧ x ≤ w.Until - 1) then K a b c a b c s 0 0 1 else bif anyN (outB p) p.n 0 then K a b c a b c s 0 0 1 else newelref09_out N w p x (fun r _ _ => K a b c a b c s 0 r 0)))) = T := by
    intro a b c
    by_cases h1 : x < 0
    · rw [decide_eq_true h1, cond_true, decide_eq_false (show ¬ (0 ≤ x ∧ x ≤ w.Until - 1) by omega)]; exact h _ _ _ _ _
    rw [decide_eq_false h1, cond_false]
    by_cases h2 : x ≥ w.Until
    · rw [decide_eq_true h2, cond_true, decide_eq_false (show ¬ (0 ≤ x ∧ x ≤ w.Until - 1) by omega)]; exact h _ _ _ _ _
    rw [decide_eq_false h2, cond_false, decide_eq_true (show (0 ≤ x ∧ x ≤ w.Until - 1) by omega)]
    simp only [Bool.not_true, cond_false]
    cases ha : anyN (outB p) p.n 0
    rotate_left
    · exact h _ _ _ _ _
    simp only [cond_false]
    have hb : ∀ i, i < w.Jobs.n → 0 ≤ p.f i ∧ p.f i ≤ 24 := fun i hi => by
      by_cases g : 0 ≤ p.f i ∧ p.f i ≤ 24
      · exact g
      · have : anyN (outB p) p.n 0 = true := anyN_iff.2 ⟨i, by omega, by omega, by unfold outB; rw [decide_eq_false g]; rfl⟩
        rw [ha] at this; cases this
    rw [night_eq v hn hb N (by omega) x ⟨by omega, by omega⟩, out_eq v hn hb N (by omega) x ⟨by omega, by omega⟩]
    exact h _ _ _ _ _
  by_cases hj : (jdg w p).1 = 0
  · simp only [hj, show ((0 : Int) != 0) = false from rfl, cond_false]
    exact tail _ _ _
  · simp only [bne0 hj, cond_true]
    exact tail _ _ _
end
end Go.Proofs.YtckkodiefpdmhaaDoor
