import Derived.Test.YtckkodiefpdmhaaDoorG4
import Derived.Test.YtckkodiefpdmhaaDoorS1
set_option linter.unusedSectionVars false
set_option linter.unusedVariables false
set_option linter.unusedSimpArgs false
set_option maxHeartbeats 0
set_option maxRecDepth 100000
namespace Go.Proofs.YtckkodiefpdmhaaDoor
open Go.Sx
open Classical
noncomputable section
variable {R : Type}
theorem readC (m : Nat) (c : Nat → Nat → SV) (x : Int) : toI (setCs m (0 : Nat) c [SV.int IntKind.i64 x] m (0 : Nat)) = x := by simp [setCs, setC, toI]
theorem mxF_bd {e : Nat → Int} {a : Arr Int} {B : Int} (hB : 0 ≤ B) (h : ∀ j, 0 ≤ e j ∧ e j ≤ B) : ∀ k, 0 ≤ mxF e a k ∧ mxF e a k ≤ B := by
  intro k
  induction k with
  | zero => exact ⟨Int.le_refl _, hB⟩
  | succ k ih =>
    have := h (a.f k).toNat
    simp only [mxF, mxI_eq]
    omega
section
variable {w : api_Works} (v : VW w)
include v
theorem nbd : ∀ i, i ≤ w.Jobs.n → (∀ j, 0 ≤ eF w i j ∧ eF w i j ≤ 24 * (i : Int)) ∧ (∀ j, 0 ≤ mF w i j ∧ mF w i j ≤ 24 * (i : Int)) ∧ (0 ≤ tF w i ∧ tF w i ≤ 24 * (i : Int)) ∧ (0 ≤ bF w i ∧ bF w i ≤ 24 * (i : Int)) := by
  intro i
  induction i with
  | zero => intro _; exact ⟨fun j => by simp only [eF]; omega, fun j => by simp only [mF]; omega, by simp only [tF]; omega, by simp only [bF]; omega⟩
  | succ i ih =>
    intro hi
    obtain ⟨h1, h2, h3, h4⟩ := ih (by omega)
    have hN := (v.jobs i (by omega)).n
    unfold job at hN
    have hx := mxF_bd (a := (w.Jobs.f i).After) (by omega) h1 (w.Jobs.f i).After.n
    have hE : ∀ j, 0 ≤ eF w (i + 1) j ∧ eF w (i + 1) j ≤ 24 * ((i + 1 : Nat) : Int) := fun j => by
      have := h1 j
      simp only [eF]
      split <;> omega
    have hM : ∀ j, 0 ≤ mF w (i + 1) j ∧ mF w (i + 1) j ≤ 24 * ((i + 1 : Nat) : Int) := fun j => by
      have := h2 j
      simp only [mF]
      split <;> omega
    refine ⟨hE, hM, by simp only [tF]; omega, ?_⟩
    have := hE i
    have := hM (w.Jobs.f i).Machine.toNat
    simp only [bF, mxI_eq]
    omega
theorem eF_ge : ∀ i j, i ≤ j → eF w i j = 0 := by
  intro i
  induction i with
  | zero => intro j _; rfl
  | succ i ih =>
    intro j hj
    simp only [eF]
    rw [if_neg (by omega)]
    exact ih j (by omega)
theorem rB_in (N : Nat) {i : Nat} (hi : i < w.Jobs.n) (bst tot : Int) (nl1 nl2 : Bool) (M : Arr Int) (e0 : Nat → Int) (k2 : Arr Int → Option R) : ∀ (q k n : Nat) (E : Arr Int), k + q = (w.Jobs.f i).After.n → q < n → E.n = w.Jobs.n → (∀ j, E.f j = if j = i then mxF e0 (w.Jobs.f i).After k else e0 j) →
    ∃ E' : Arr Int, E'.n = w.Jobs.n ∧ (∀ j, E'.f j = if j = i then mxF e0 (w.Jobs.f i).After (w.Jobs.f i).After.n else e0 j) ∧ newelref09_Bound_l11 N n bst tot (i : Int) (k : Int) w nl1 M nl2 E (w.Jobs.f i) k2 = k2 E' := by
  have ha := after_le v hi
  intro q
  induction q with
  | zero =>
    intro k n E h1 h2 h3 h4
    obtain ⟨n, rfl⟩ : ∃ m, n = m + 1 := ⟨n - 1, by omega⟩
    unfold newelref09_Bound_l11 newelref09_Bound_b11
    have : k = (w.Jobs.f i).After.n := by omega
    subst this
    exact ⟨E, h3, h4, by rw [ltF (Nat.le_refl _), cond_false]⟩
  | succ q ih =>
    intro k n E h1 h2 h3 h4
    obtain ⟨n, rfl⟩ : ∃ m, n = m + 1 := ⟨n - 1, by omega⟩
    have hA := v.nf i hi k (by unfold job; omega)
    unfold job at hA
    obtain ⟨a, hae⟩ : ∃ a : Nat, (w.Jobs.f i).After.f k = (a : Int) := ⟨((w.Jobs.f i).After.f k).toNat, by omega⟩
    have ha2 : a < i := by omega
    obtain ⟨E', g1, g2, g3⟩ := ih (k + 1) n (lst intC E.n (setCs i (0 : Nat) (Cod.cell intC (Arr.f E)) [SV.int IntKind.i64 (mxI (E.f i) (E.f a))])) (by omega) (by omega) h3 (fun j => by
      rw [set_f]
      by_cases e : j = i
      · rw [if_pos e, if_pos e]
        simp only [mxF, hae, Int.toNat_natCast]
        rw [h4 i, if_pos rfl, h4 a, if_neg (by omega)]
      · rw [if_neg e, if_neg e, h4 j, if_neg e])
    unfold newelref09_Bound_l11 newelref09_Bound_b11
    refine ⟨E', g1, g2, ?_⟩
    simp only [h3, ltT hi, ltT (show k < (w.Jobs.f i).After.n by omega), nat_nonneg, Bool.and_self, cond_true, Int.toNat_natCast, hae, ltT (show a < w.Jobs.n by omega), w64_succ (show k < 1000000000000 by omega)]
    rw [h3] at g3
    exact g3
theorem rB_out (N : Nat) (hN : 20 ≤ N) (nl1 nl2 : Bool) (k0 : Int → Int → Option R) : ∀ (q i n : Nat) (E M : Arr Int), i + q = w.Jobs.n → q < n → E.n = w.Jobs.n → M.n = w.Machines.toNat → (∀ j, E.f j = eF w i j) → (∀ j, M.f j = mF w i j) →
    newelref09_Bound_l7 N n (bF w i) (tF w i) (i : Int) w nl1 M nl2 E k0 = k0 (bF w w.Jobs.n) (tF w w.Jobs.n) := by
  have hj := v.j
  have hm := v.m
  intro q
  induction q with
  | zero =>
    intro i n E M h1 h2 h3 h4 h5 h6
    obtain ⟨n, rfl⟩ : ∃ m, n = m + 1 := ⟨n - 1, by omega⟩
    unfold newelref09_Bound_l7 newelref09_Bound_b7
    have : i = w.Jobs.n := by omega
    subst this
    rw [ltF (Nat.le_refl _), cond_false]
  | succ q ih =>
    intro i n E M h1 h2 h3 h4 h5 h6
    obtain ⟨n, rfl⟩ : ∃ m, n = m + 1 := ⟨n - 1, by omega⟩
    have hi : i < w.Jobs.n := by omega
    have ha := after_le v hi
    have hN2 := (v.jobs i hi).n
    have hmi := (v.jobs i hi).m
    unfold job at hN2 hmi
    obtain ⟨mc, hmc⟩ : ∃ a : Nat, (w.Jobs.f i).Machine = (a : Int) := ⟨(w.Jobs.f i).Machine.toNat, by omega⟩
    obtain ⟨b1, b2, b3, b4⟩ := nbd v i (by omega)
    have hx := mxF_bd (a := (w.Jobs.f i).After) (by omega) b1 (w.Jobs.f i).After.n
    unfold newelref09_Bound_l7 newelref09_Bound_b7
    rw [ltT hi, cond_true, show (decide ((0 : Int) ≤ (i : Int))) = true by simp, Bool.true_and, cond_true]
    simp only [Int.toNat_natCast]
    obtain ⟨E', g1, g2, g3⟩ := rB_in (R := R) v N hi (bF w i) (tF w i) nl1 nl2 M (eF w i) _ (w.Jobs.f i).After.n 0 N E (by omega) (by omega) h3 (fun j => by
      by_cases e : j = i
      · rw [if_pos e, h5 j, e, eF_ge v i i (Nat.le_refl _)]; rfl
      · rw [if_neg e, h5 j])
    refine Eq.trans g3 ?_
    have hEi : E'.f i = mxF (eF w i) (w.Jobs.f i).After (w.Jobs.f i).After.n := by rw [g2 i, if_pos rfl]
    have hMi : M.f mc = mF w i mc := h6 mc
    have := b2 mc
    simp only [g1, h4, ltT hi, nat_nonneg, Bool.and_self, cond_true, Int.toNat_natCast, hmc, decide_eq_true (show (mc : Int) < ((w.Machines.toNat : Nat) : Int) by omega), readC, hEi, hMi, w64_eq (show -9223372036854775808 ≤ mxF (eF w i) (w.Jobs.f i).After (w.Jobs.f i).After.n + (w.Jobs.f i).Nights by omega) (by omega),
      w64_eq (show -9223372036854775808 ≤ mF w i mc + (w.Jobs.f i).Nights by omega) (by omega), w64_eq (show -9223372036854775808 ≤ tF w i + (w.Jobs.f i).Nights by omega) (by omega), w64_succ (show i < 1000000000000 by omega)]
    have hE2 : eF w (i + 1) i = mxF (eF w i) (w.Jobs.f i).After (w.Jobs.f i).After.n + (w.Jobs.f i).Nights := by simp [eF]
    have hM2 : mF w (i + 1) mc = mF w i mc + (w.Jobs.f i).Nights := by simp [mF, hmc]
    have hb2 : bF w (i + 1) = mxI (mxI (bF w i) (mxF (eF w i) (w.Jobs.f i).After (w.Jobs.f i).After.n + (w.Jobs.f i).Nights)) (mF w i mc + (w.Jobs.f i).Nights) := by
      simp only [bF, hmc, Int.toNat_natCast]
      rw [hE2, hM2]
    rw [← hb2]
    refine ih (i + 1) n _ _ (by omega) (by omega) rfl rfl (fun j => ?_) (fun j => ?_)
    · rw [set_f]
      by_cases e : j = i
      · rw [if_pos e, e, hE2]
      · rw [if_neg e, g2 j, if_neg e]; simp [eF, e]
    · rw [set_f]
      by_cases e : j = mc
      · rw [if_pos e, e, hM2]
      · rw [if_neg e, h6 j]; simp [mF, hmc, e]
theorem sB_in (N : Nat) {i : Nat} (hi : i < w.Jobs.n) (tot bst c1 c2 : Int) (J : Arr api_Job) (nl1 nl2 : Bool) (M : Arr Int) (e0 : Nat → Int) (k2 : Arr Int → Option R) : ∀ (q k n : Nat) (E : Arr Int), k + q = (w.Jobs.f i).After.n → q < n → E.n = w.Jobs.n → (∀ j, E.f j = if j = i then mxF e0 (w.Jobs.f i).After k else e0 j) →
    ∃ E' : Arr Int, E'.n = w.Jobs.n ∧ (∀ j, E'.f j = if j = i then mxF e0 (w.Jobs.f i).After (w.Jobs.f i).After.n else e0 j) ∧ shaft_Bound_l11 N n tot bst (i : Int) J c1 c2 (w.Jobs.f i).After (((w.Jobs.f i).After.n : Nat) : Int) (k : Int) w nl1 E nl2 M (w.Jobs.f i) k2 = k2 E' := by
  have ha := after_le v hi
  intro q
  induction q with
  | zero =>
    intro k n E h1 h2 h3 h4
    obtain ⟨n, rfl⟩ : ∃ m, n = m + 1 := ⟨n - 1, by omega⟩
    unfold shaft_Bound_l11 shaft_Bound_b11
    have : k = (w.Jobs.f i).After.n := by omega
    subst this
    exact ⟨E, h3, h4, by rw [ltF (Nat.le_refl _), cond_false]⟩
  | succ q ih =>
    intro k n E h1 h2 h3 h4
    obtain ⟨n, rfl⟩ : ∃ m, n = m + 1 := ⟨n - 1, by omega⟩
    have hA := v.nf i hi k (by unfold job; omega)
    unfold job at hA
    obtain ⟨a, hae⟩ : ∃ a : Nat, (w.Jobs.f i).After.f k = (a : Int) := ⟨((w.Jobs.f i).After.f k).toNat, by omega⟩
    have ha2 : a < i := by omega
    obtain ⟨E', g1, g2, g3⟩ := ih (k + 1) n (lst intC E.n (setCs i (0 : Nat) (Cod.cell intC (Arr.f E)) [SV.int IntKind.i64 (mxI (E.f i) (E.f a))])) (by omega) (by omega) h3 (fun j => by
      rw [set_f]
      by_cases e : j = i
      · rw [if_pos e, if_pos e]
        simp only [mxF, hae, Int.toNat_natCast]
        rw [h4 i, if_pos rfl, h4 a, if_neg (by omega)]
      · rw [if_neg e, if_neg e, h4 j, if_neg e])
    unfold shaft_Bound_l11 shaft_Bound_b11
    refine ⟨E', g1, g2, ?_⟩
    simp only [h3, ltT hi, ltT (show k < (w.Jobs.f i).After.n by omega), nat_nonneg, Bool.and_self, cond_true, Int.toNat_natCast, hae, ltT (show a < w.Jobs.n by omega), w64_succ (show k < 1000000000000 by omega)]
    rw [h3] at g3
    exact g3
theorem sB_out (N : Nat) (hN : 20 ≤ N) (nl1 nl2 : Bool) (k0 : Int → Int → Option R) : ∀ (q i n : Nat) (E M : Arr Int), i + q = w.Jobs.n → q < n → E.n = w.Jobs.n → M.n = w.Machines.toNat → (∀ j, E.f j = eF w i j) → (∀ j, M.f j = mF w i j) →
    shaft_Bound_l8 N n (tF w i) (bF w i) w.Jobs ((w.Jobs.n : Nat) : Int) (i : Int) w nl1 E nl2 M k0 = k0 (tF w w.Jobs.n) (bF w w.Jobs.n) := by
  have hj := v.j
  have hm := v.m
  intro q
  induction q with
  | zero =>
    intro i n E M h1 h2 h3 h4 h5 h6
    obtain ⟨n, rfl⟩ : ∃ m, n = m + 1 := ⟨n - 1, by omega⟩
    unfold shaft_Bound_l8 shaft_Bound_b8
    have : i = w.Jobs.n := by omega
    subst this
    rw [ltF (Nat.le_refl _), cond_false]
  | succ q ih =>
    intro i n E M h1 h2 h3 h4 h5 h6
    obtain ⟨n, rfl⟩ : ∃ m, n = m + 1 := ⟨n - 1, by omega⟩
    have hi : i < w.Jobs.n := by omega
    have ha := after_le v hi
    have hN2 := (v.jobs i hi).n
    have hmi := (v.jobs i hi).m
    unfold job at hN2 hmi
    obtain ⟨mc, hmc⟩ : ∃ a : Nat, (w.Jobs.f i).Machine = (a : Int) := ⟨(w.Jobs.f i).Machine.toNat, by omega⟩
    obtain ⟨b1, b2, b3, b4⟩ := nbd v i (by omega)
    have hx := mxF_bd (a := (w.Jobs.f i).After) (by omega) b1 (w.Jobs.f i).After.n
    unfold shaft_Bound_l8 shaft_Bound_b8
    rw [ltT hi, cond_true, show (decide ((0 : Int) ≤ (i : Int))) = true by simp, Bool.true_and, cond_true]
    simp only [Int.toNat_natCast]
    obtain ⟨E', g1, g2, g3⟩ := sB_in (R := R) v N hi (tF w i) (bF w i) ((w.Jobs.n : Nat) : Int) (i : Int) w.Jobs nl1 nl2 M (eF w i) _ (w.Jobs.f i).After.n 0 N E (by omega) (by omega) h3 (fun j => by
      by_cases e : j = i
      · rw [if_pos e, h5 j, e, eF_ge v i i (Nat.le_refl _)]; rfl
      · rw [if_neg e, h5 j])
    refine Eq.trans g3 ?_
    have hEi : E'.f i = mxF (eF w i) (w.Jobs.f i).After (w.Jobs.f i).After.n := by rw [g2 i, if_pos rfl]
    have hMi : M.f mc = mF w i mc := h6 mc
    have := b2 mc
    simp only [g1, h4, ltT hi, nat_nonneg, Bool.and_self, cond_true, Int.toNat_natCast, hmc, decide_eq_true (show (mc : Int) < ((w.Machines.toNat : Nat) : Int) by omega), readC, hEi, hMi, w64_eq (show -9223372036854775808 ≤ mxF (eF w i) (w.Jobs.f i).After (w.Jobs.f i).After.n + (w.Jobs.f i).Nights by omega) (by omega),
      w64_eq (show -9223372036854775808 ≤ mF w i mc + (w.Jobs.f i).Nights by omega) (by omega), w64_eq (show -9223372036854775808 ≤ tF w i + (w.Jobs.f i).Nights by omega) (by omega), w64_succ (show i < 1000000000000 by omega)]
    have hE2 : eF w (i + 1) i = mxF (eF w i) (w.Jobs.f i).After (w.Jobs.f i).After.n + (w.Jobs.f i).Nights := by simp [eF]
    have hM2 : mF w (i + 1) mc = mF w i mc + (w.Jobs.f i).Nights := by simp [mF, hmc]
    have hb2 : bF w (i + 1) = mxI (mxI (bF w i) (mxF (eF w i) (w.Jobs.f i).After (w.Jobs.f i).After.n + (w.Jobs.f i).Nights)) (mF w i mc + (w.Jobs.f i).Nights) := by
      simp only [bF, hmc, Int.toNat_natCast]
      rw [hE2, hM2]
    rw [← hb2]
    refine ih (i + 1) n _ _ (by omega) (by omega) rfl rfl (fun j => ?_) (fun j => ?_)
    · rw [set_f]
      by_cases e : j = i
      · rw [if_pos e, e, hE2]
      · rw [if_neg e, g2 j, if_neg e]; simp [eF, e]
    · rw [set_f]
      by_cases e : j = mc
      · rw [if_pos e, e, hM2]
      · rw [if_neg e, h6 j]; simp [mF, hmc, e]
theorem fin_bd : w64 (Int.tdiv (w64 (w64 (tF w w.Jobs.n + w.Crews) - (1 : Int))) w.Crews) = Int.tdiv (tF w w.Jobs.n + w.Crews - 1) w.Crews := by
  have hj := v.j
  have hc := v.c
  obtain ⟨_, _, b3, _⟩ := nbd v w.Jobs.n (Nat.le_refl _)
  rw [w64_eq (show -9223372036854775808 ≤ tF w w.Jobs.n + w.Crews by omega) (by omega), w64_eq (show -9223372036854775808 ≤ tF w w.Jobs.n + w.Crews - 1 by omega) (by omega)]
  have h1 : 0 ≤ Int.tdiv (tF w w.Jobs.n + w.Crews - 1) w.Crews := Int.tdiv_nonneg (by omega) (by omega)
  have h2 : Int.tdiv (tF w w.Jobs.n + w.Crews - 1) w.Crews ≤ tF w w.Jobs.n + w.Crews - 1 := by
    rw [Int.tdiv_eq_ediv_of_nonneg (by omega)]
    exact Int.ediv_le_self _ (by omega)
  exact w64_eq (by omega) (by omega)
end
theorem zero_f (c n : Nat) (j : Nat) : (lst intC c (zeroC [SV.int IntKind.i64 (0 : Int)])).f j = 0 := by
  show intC.dec (fun k => zeroC [SV.int IntKind.i64 (0 : Int)] j k) = 0
  simp [zeroC, intC, lget, toI]
def bndV (w : api_Works) : Int := if VW w then bound w else 0
theorem rBound_eq {w : api_Works} (nf : NF w) (N : Nat) (hN : 100 ≤ N) (k : Int → Int → Option R) : newelref09_Bound N w k = k (bndV w) (errW w) := by
  rw [newelref09_Bound_def]
  unfold newelref09_Bound_m
  rw [rWorks_eq nf N hN]
  unfold bndV errW
  by_cases v : VW w
  rotate_left
  · rw [if_neg v, if_neg v]; rfl
  have hm := v.m
  have hj := v.j
  have hc := v.c
  rw [if_pos v, if_pos v, show ((0 : Int) != 0) = false from rfl, cond_false, show (decide ((0 : Int) ≤ w.Machines) && decide (w.Machines ≤ w.Machines) && decide (w.Machines ≤ (1073741824 : Int))) = true by simp; omega, cond_true, show (decide (((w.Jobs.n : Nat) : Int) ≤ ((w.Jobs.n : Nat) : Int)) && decide (((w.Jobs.n : Nat) : Int) ≤ (1073741824 : Int))) = true by simp; omega, cond_true]
  refine (rB_out (R := R) v N (by omega) false false _ w.Jobs.n 0 N _ _ (by omega) (by omega) (by show Int.toNat ((w.Jobs.n : Nat) : Int) = _; omega) rfl (fun j => zero_f _ 0 j) (fun j => zero_f _ 0 j)).trans ?_
  rw [show (w.Crews == (0 : Int)) = false by simp; omega, cond_false, fin_bd v]
  rfl
theorem sBound_eq {w : api_Works} (nf : NF w) (N : Nat) (hN : 100 ≤ N) (k : Int → Int → Option R) : shaft_Bound N w k = k (bndV w) (errW w) := by
  rw [shaft_Bound_def]
  unfold shaft_Bound_m
  rw [sWorks_eq nf N hN]
  unfold bndV errW
  by_cases v : VW w
  rotate_left
  · rw [if_neg v, if_neg v]; rfl
  have hm := v.m
  have hj := v.j
  have hc := v.c
  rw [if_pos v, if_pos v, show ((0 : Int) != 0) = false from rfl, cond_false, show (decide (((w.Jobs.n : Nat) : Int) ≤ ((w.Jobs.n : Nat) : Int)) && decide (((w.Jobs.n : Nat) : Int) ≤ (1073741824 : Int))) = true by simp; omega, cond_true, show (decide ((0 : Int) ≤ w.Machines) && decide (w.Machines ≤ w.Machines) && decide (w.Machines ≤ (1073741824 : Int))) = true by simp; omega, cond_true]
  refine (sB_out (R := R) v N (by omega) false false _ w.Jobs.n 0 N _ _ (by omega) (by omega) (by show Int.toNat ((w.Jobs.n : Nat) : Int) = _; omega) rfl (fun j => zero_f _ 0 j) (fun j => zero_f _ 0 j)).trans ?_
  rw [show (w.Crews == (0 : Int)) = false by simp; omega, cond_false, fin_bd v]
  rfl
end
end Go.Proofs.YtckkodiefpdmhaaDoor
