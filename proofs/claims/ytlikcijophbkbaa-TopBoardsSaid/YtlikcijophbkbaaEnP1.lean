import Derived.Test.YtlikcijophbkbaaG2
import Derived.Test.YtlikcijophbkbaaSxMath
set_option linter.unusedVariables false
set_option linter.unusedSimpArgs false
namespace Go.Proofs.Ytlikcijophbkbaa
namespace En
open Go.Sx
theorem all_step {P : Nat → Prop} {i m : Nat} (h : P i) : (∀ j, i ≤ j → j < m → P j) ↔ (∀ j, i + 1 ≤ j → j < m → P j) := by
  constructor
  · intro g j h1 h2; exact g j (by omega) h2
  · intro g j h1 h2
    by_cases e : j = i
    · subst e; exact h
    · exact g j (by omega) h2
theorem ex_step {P : Nat → Prop} {i m : Nat} (h : ¬ P i) : (∃ j, i ≤ j ∧ j < m ∧ P j) ↔ (∃ j, i + 1 ≤ j ∧ j < m ∧ P j) := by
  constructor
  · rintro ⟨j, h3, h4, h5⟩
    refine ⟨j, ?_, h4, h5⟩
    rcases Nat.lt_or_ge i j with g | g
    · exact g
    · have : j = i := by omega
      subst this; exact absurd h5 h
  · rintro ⟨j, h3, h4, h5⟩; exact ⟨j, by omega, h4, h5⟩
theorem lt_false {a b : Nat} (h : b ≤ a) : decide ((a : Int) < (b : Int)) = false := by simp; omega
theorem lt_true {a b : Nat} (h : a < b) : decide ((a : Int) < (b : Int)) = true := by simp; omega
section
variable {R : Type}
theorem within_eq (N : Nat) (n lo hi : Int) (k : Bool → Option R) : newelref11_within N n lo hi k = k (decide (lo ≤ n ∧ n ≤ hi)) := by
  rw [newelref11_within_def]
  unfold newelref11_within_m
  by_cases h : lo ≤ n <;> simp [h]
theorem from0_eq (N : Nat) (n hi : Int) (k : Bool → Option R) : energy_from0 N n hi k = k (decide (0 ≤ n ∧ n ≤ hi)) := by
  rw [energy_from0_def]
  unfold energy_from0_m
  by_cases h : 0 ≤ n <;> simp [h]
def pP (b : api_Band) : Nat → Int
  | 0 => 0
  | i + 1 => b.Paces.f i
def paP (b : api_Band) (j : Nat) : Prop := pP b j + 1 ≤ b.Paces.f j ∧ b.Paces.f j ≤ 100
structure VB (b : api_Band) : Prop where
  p1 : 0 ≤ b.Pull
  p2 : b.Pull ≤ 100
  d1 : 0 ≤ b.Drag
  d2 : b.Drag ≤ 1000000
  b1 : 0 ≤ b.Body
  b2 : b.Body ≤ 100
  r1 : 1 ≤ b.Ride
  r2 : b.Ride ≤ 1000
  m1 : 0 ≤ b.Most
  m2 : b.Most ≤ 100000000
  e1 : 1 ≤ b.Den
  e2 : b.Den ≤ 100
  n1 : 0 ≤ b.Num
  n2 : b.Num ≤ b.Den
  l1 : 1 ≤ b.Paces.n
  l2 : b.Paces.n ≤ 3
  pa : ∀ j, j < b.Paces.n → paP b j
open Classical in
noncomputable def checkV (b : api_Band) : Int := if VB b then 0 else 110
theorem checkV_pos {b : api_Band} (h : VB b) : checkV b = 0 := by unfold checkV; rw [if_pos h]
theorem checkV_ne {b : api_Band} (h : ¬ VB b) : checkV b = 110 := by unfold checkV; rw [if_neg h]
theorem VB.pace {b : api_Band} (h : VB b) : ∀ j, j < b.Paces.n → 1 ≤ b.Paces.f j ∧ b.Paces.f j ≤ 100 := by
  intro j
  induction j with
  | zero => intro hj; have := h.pa 0 hj; unfold paP at this; have e : pP b 0 = 0 := rfl; omega
  | succ j ih => intro hj; have h1 := ih (by omega); have := h.pa (j + 1) hj; unfold paP at this; have e : pP b (j + 1) = b.Paces.f j := rfl; omega
open Classical in
theorem Check_l7_eq (N : Nat) (b : api_Band) (hn : b.Paces.n ≤ 1000000) (kr : Int → Option R) (k0 : Unit → Option R) : ∀ (r i n : Nat), i + r = b.Paces.n → r < n →
    energy_Check_l7 N n (pP b i) b.Paces (b.Paces.n : Int) (i : Int) kr k0 = if (∀ j, i ≤ j → j < b.Paces.n → paP b j) then k0 () else kr 110 := by
  intro r
  induction r with
  | zero =>
    intro i n h1 h2
    obtain ⟨n, rfl⟩ : ∃ m, n = m + 1 := ⟨n - 1, by omega⟩
    unfold energy_Check_l7 energy_Check_b7
    rw [if_pos (show ∀ j, i ≤ j → j < b.Paces.n → paP b j from fun j h3 h4 => by omega)]
    simp only [lt_false (show b.Paces.n ≤ i by omega), cond_false]
  | succ r ih =>
    intro i n h1 h2
    obtain ⟨n, rfl⟩ : ∃ m, n = m + 1 := ⟨n - 1, by omega⟩
    unfold energy_Check_l7 energy_Check_b7
    simp only [lt_true (show i < b.Paces.n by omega), nat_nonneg, Bool.and_self, cond_true, Int.toNat_natCast, w64_succ (show i < 1000000000000 by omega)]
    by_cases hp : paP b i
    · have hp' := hp
      unfold paP at hp'
      have e1 : decide (b.Paces.f i ≤ pP b i) = false := by simp; omega
      have e2 : decide (b.Paces.f i > 100) = false := by simp; omega
      simp only [e1, e2, cond_false, all_step (P := paP b) hp]
      exact ih (i + 1) n (by omega) (by omega)
    · rw [if_neg (fun g => hp (g i (Nat.le_refl _) (by omega)))]
      unfold paP at hp
      by_cases c : b.Paces.f i ≤ pP b i
      · simp only [c, decide_true, cond_true]
      · have e2 : decide (b.Paces.f i > 100) = true := by simp; omega
        simp only [c, decide_false, cond_false, e2, cond_true]
open Classical in
theorem refCheck_l7_eq (N : Nat) (b : api_Band) (hn : b.Paces.n ≤ 1000000) (kr : Int → Option R) (k0 : Unit → Option R) : ∀ (r i n : Nat), i + r = b.Paces.n → r < n → 0 ≤ pP b i → pP b i ≤ 100 →
    newelref11_Check_l7 N n (pP b i) (i : Int) b kr k0 = if (∀ j, i ≤ j → j < b.Paces.n → paP b j) then k0 () else kr 110 := by
  intro r
  induction r with
  | zero =>
    intro i n h1 h2 h3 h4
    obtain ⟨n, rfl⟩ : ∃ m, n = m + 1 := ⟨n - 1, by omega⟩
    unfold newelref11_Check_l7 newelref11_Check_b7
    rw [if_pos (show ∀ j, i ≤ j → j < b.Paces.n → paP b j from fun j h3 h4 => by omega)]
    simp only [lt_false (show b.Paces.n ≤ i by omega), cond_false]
  | succ r ih =>
    intro i n h1 h2 h3 h4
    obtain ⟨n, rfl⟩ : ∃ m, n = m + 1 := ⟨n - 1, by omega⟩
    unfold newelref11_Check_l7 newelref11_Check_b7
    simp only [lt_true (show i < b.Paces.n by omega), nat_nonneg, Bool.and_self, cond_true, Int.toNat_natCast, w64_succ (show i < 1000000000000 by omega), within_eq]
    rw [w64_eq (n := pP b i + 1) (by omega) (by omega)]
    by_cases hp : paP b i
    · have hp' := hp
      unfold paP at hp'
      simp only [hp', and_self, decide_true, Bool.not_true, cond_false, all_step (P := paP b) hp]
      exact ih (i + 1) n (by omega) (by omega) (by show 0 ≤ b.Paces.f i; omega) (by show b.Paces.f i ≤ 100; omega)
    · rw [if_neg (fun g => hp (g i (Nat.le_refl _) (by omega)))]
      unfold paP at hp
      simp only [hp, decide_false, Bool.not_false, cond_true]
theorem Check_eq {N : Nat} (hN : 20 ≤ N) (b : api_Band) (k : Int → Option R) : energy_Check N b k = k (checkV b) := by
  rw [energy_Check_def]
  unfold energy_Check_m
  simp only [from0_eq]
  have neg : ∀ {x : Int}, ¬ VB b → x = 110 → k x = k (checkV b) := fun h hx => by rw [hx, checkV_ne h]
  by_cases h1 : 0 ≤ b.Pull ∧ b.Pull ≤ 100
  case neg => simp only [h1, decide_false, Bool.not_false, cond_true]; exact neg (fun h => h1 ⟨h.p1, h.p2⟩) rfl
  simp only [h1, decide_true, and_self, Bool.not_true, cond_false]
  by_cases h2 : 0 ≤ b.Drag ∧ b.Drag ≤ 1000000
  case neg => simp only [h2, decide_false, Bool.not_false, cond_true]; exact neg (fun h => h2 ⟨h.d1, h.d2⟩) rfl
  simp only [h2, decide_true, and_self, Bool.not_true, cond_false]
  by_cases h3 : 0 ≤ b.Body ∧ b.Body ≤ 100
  case neg => simp only [h3, decide_false, Bool.not_false, cond_true]; exact neg (fun h => h3 ⟨h.b1, h.b2⟩) rfl
  simp only [h3, decide_true, and_self, Bool.not_true, cond_false]
  by_cases h4 : b.Ride < 1
  · simp only [h4, decide_true, cond_true]; exact neg (fun h => by have := h.r1; omega) rfl
  simp only [h4, decide_false, cond_false]
  by_cases h5 : b.Ride > 1000
  · simp only [h5, decide_true, cond_true]; exact neg (fun h => by have := h.r2; omega) rfl
  simp only [h5, decide_false, cond_false]
  by_cases h6 : 0 ≤ b.Most ∧ b.Most ≤ 100000000
  case neg => simp only [h6, decide_false, Bool.not_false, cond_true]; exact neg (fun h => h6 ⟨h.m1, h.m2⟩) rfl
  simp only [h6, decide_true, and_self, Bool.not_true, cond_false]
  by_cases h7 : b.Den < 1
  · simp only [h7, decide_true, cond_true]; exact neg (fun h => by have := h.e1; omega) rfl
  simp only [h7, decide_false, cond_false]
  by_cases h8 : b.Den > 100
  · simp only [h8, decide_true, cond_true]; exact neg (fun h => by have := h.e2; omega) rfl
  simp only [h8, decide_false, cond_false]
  by_cases h9 : 0 ≤ b.Num ∧ b.Num ≤ b.Den
  case neg => simp only [h9, decide_false, Bool.not_false, cond_true]; exact neg (fun h => h9 ⟨h.n1, h.n2⟩) rfl
  simp only [h9, decide_true, and_self, Bool.not_true, cond_false]
  by_cases h10 : (b.Paces.n : Int) < 1
  · simp only [h10, decide_true, cond_true]; exact neg (fun h => by have := h.l1; omega) rfl
  simp only [h10, decide_false, cond_false]
  by_cases h11 : (b.Paces.n : Int) > 3
  · simp only [h11, decide_true, cond_true]; exact neg (fun h => by have := h.l2; omega) rfl
  simp only [h11, decide_false, cond_false]
  refine Eq.trans (Check_l7_eq N b (by omega) _ _ b.Paces.n 0 N (by omega) (by omega)) ?_
  by_cases h12 : ∀ j, 0 ≤ j → j < b.Paces.n → paP b j
  · rw [if_pos h12, checkV_pos ⟨h1.1, h1.2, h2.1, h2.2, h3.1, h3.2, by omega, by omega, h6.1, h6.2, by omega, by omega, h9.1, h9.2, by omega, by omega, fun j hj => h12 j (by omega) hj⟩]
  · rw [if_neg h12]
    exact neg (fun h => h12 (fun j _ hj => h.pa j hj)) rfl
theorem refCheck_eq {N : Nat} (hN : 20 ≤ N) (b : api_Band) (k : Int → Option R) : newelref11_Check N b k = k (checkV b) := by
  rw [newelref11_Check_def]
  unfold newelref11_Check_m
  simp only [within_eq]
  have neg : ∀ {x : Int}, ¬ VB b → x = 110 → k x = k (checkV b) := fun h hx => by rw [hx, checkV_ne h]
  by_cases h1 : 0 ≤ b.Pull ∧ b.Pull ≤ 100
  case neg => simp only [h1, decide_false, Bool.not_false, cond_true]; exact neg (fun h => h1 ⟨h.p1, h.p2⟩) rfl
  simp only [h1, decide_true, and_self, Bool.not_true, cond_false]
  by_cases h2 : 0 ≤ b.Drag ∧ b.Drag ≤ 1000000
  case neg => simp only [h2, decide_false, Bool.not_false, cond_true]; exact neg (fun h => h2 ⟨h.d1, h.d2⟩) rfl
  simp only [h2, decide_true, and_self, Bool.not_true, cond_false]
  by_cases h3 : 0 ≤ b.Body ∧ b.Body ≤ 100
  case neg => simp only [h3, decide_false, Bool.not_false, cond_true]; exact neg (fun h => h3 ⟨h.b1, h.b2⟩) rfl
  simp only [h3, decide_true, and_self, Bool.not_true, cond_false]
  by_cases h4 : 1 ≤ b.Ride ∧ b.Ride ≤ 1000
  case neg => simp only [h4, decide_false, Bool.not_false, cond_true]; exact neg (fun h => h4 ⟨h.r1, h.r2⟩) rfl
  simp only [h4, decide_true, and_self, Bool.not_true, cond_false]
  by_cases h6 : 0 ≤ b.Most ∧ b.Most ≤ 100000000
  case neg => simp only [h6, decide_false, Bool.not_false, cond_true]; exact neg (fun h => h6 ⟨h.m1, h.m2⟩) rfl
  simp only [h6, decide_true, and_self, Bool.not_true, cond_false]
  by_cases h10 : 1 ≤ (b.Paces.n : Int) ∧ (b.Paces.n : Int) ≤ 3
  case neg => simp only [h10, decide_false, Bool.not_false, cond_true]; exact neg (fun h => h10 ⟨by have := h.l1; omega, by have := h.l2; omega⟩) rfl
  simp only [h10, decide_true, and_self, Bool.not_true, cond_false]
  by_cases h7 : 1 ≤ b.Den ∧ b.Den ≤ 100
  case neg => simp only [h7, decide_false, Bool.not_false, cond_true]; exact neg (fun h => h7 ⟨h.e1, h.e2⟩) rfl
  simp only [h7, decide_true, and_self, Bool.not_true, cond_false]
  by_cases h9 : 0 ≤ b.Num ∧ b.Num ≤ b.Den
  case neg => simp only [h9, decide_false, Bool.not_false, cond_true]; exact neg (fun h => h9 ⟨h.n1, h.n2⟩) rfl
  simp only [h9, decide_true, and_self, Bool.not_true, cond_false]
  refine Eq.trans (refCheck_l7_eq N b (by omega) _ _ b.Paces.n 0 N (by omega) (by omega) (Int.le_refl 0) (by show (0 : Int) ≤ 100; omega)) ?_
  by_cases h12 : ∀ j, 0 ≤ j → j < b.Paces.n → paP b j
  · rw [if_pos h12, checkV_pos ⟨h1.1, h1.2, h2.1, h2.2, h3.1, h3.2, h4.1, h4.2, h6.1, h6.2, h7.1, h7.2, h9.1, h9.2, by omega, by omega, fun j hj => h12 j (by omega) hj⟩]
  · rw [if_neg h12]
    exact neg (fun h => h12 (fun j _ hj => h.pa j hj)) rfl
def isIn (a : Arr Int) (x : Int) : Prop := ∃ j, j < a.n ∧ a.f j = x
open Classical in
theorem index_l2_eq (N : Nat) {a : Arr Int} (hn : a.n ≤ 1000000) (x : Int) (kr : Int → Option R) (k0 : Unit → Option R) (key : Bool → Option R) (hkr : ∀ i : Nat, kr (i : Int) = key true) (hk0 : k0 () = key false) : ∀ (r i n : Nat), i + r = a.n → r < n →
    slices_Index___int_int__l2 N n a x (a.n : Int) (i : Int) kr k0 = key (decide (∃ j, i ≤ j ∧ j < a.n ∧ a.f j = x)) := by
  intro r
  induction r with
  | zero =>
    intro i n h1 h2
    obtain ⟨n, rfl⟩ : ∃ m, n = m + 1 := ⟨n - 1, by omega⟩
    unfold slices_Index___int_int__l2 slices_Index___int_int__b2
    have e2 : decide (∃ j, i ≤ j ∧ j < a.n ∧ a.f j = x) = false := decide_eq_false (fun ⟨j, h3, h4, _⟩ => by omega)
    simp only [lt_false (show a.n ≤ i by omega), cond_false, hk0, e2]
  | succ r ih =>
    intro i n h1 h2
    obtain ⟨n, rfl⟩ : ∃ m, n = m + 1 := ⟨n - 1, by omega⟩
    unfold slices_Index___int_int__l2 slices_Index___int_int__b2
    simp only [lt_true (show i < a.n by omega), nat_nonneg, Bool.and_self, cond_true, Int.toNat_natCast, w64_succ (show i < 1000000000000 by omega)]
    by_cases hd : a.f i = x
    · have e2 : decide (∃ j, i ≤ j ∧ j < a.n ∧ a.f j = x) = true := decide_eq_true ⟨i, Nat.le_refl _, by omega, hd⟩
      have e3 : (x == a.f i) = true := by simpa using hd.symm
      simp only [e3, cond_true, hkr, e2]
    · have e3 : (x == a.f i) = false := by simpa using fun h => hd h.symm
      rw [decide_eq_decide.2 (ex_step (P := fun j => a.f j = x) hd)]
      simp only [e3, cond_false]
      exact ih (i + 1) n (by omega) (by omega)
theorem isIn_iff {a : Arr Int} {x : Int} : (∃ j, 0 ≤ j ∧ j < a.n ∧ a.f j = x) ↔ isIn a x := ⟨fun ⟨j, _, h1, h2⟩ => ⟨j, h1, h2⟩, fun ⟨j, h1, h2⟩ => ⟨j, Nat.zero_le _, h1, h2⟩⟩
open Classical in
theorem Contains_eq {N : Nat} {a : Arr Int} (hn : a.n ≤ 1000000) (hN : a.n < N) (x : Int) (k : Bool → Option R) : slices_Contains___int_int_ N a x k = k (decide (isIn a x)) := by
  rw [slices_Contains___int_int__def]
  unfold slices_Contains___int_int__m
  rw [slices_Index___int_int__def]
  unfold slices_Index___int_int__m
  refine Eq.trans (index_l2_eq N hn x _ _ k (fun i => ?_) ?_ a.n 0 N (by omega) hN) ?_
  · have : decide ((i : Int) ≥ 0) = true := by simp
    simp only [this]
  · rfl
  · rw [decide_eq_decide.2 isIn_iff]
open Classical in
theorem Pace_l2_eq (N : Nat) {b : api_Band} (hn : b.Paces.n ≤ 1000000) (x : Int) (key : Bool → Option R) : ∀ (r i n : Nat), i + r = b.Paces.n → r < n →
    newelref11_Pace_l2 N n x (i : Int) b key (fun _ => key false) = key (decide (∃ j, i ≤ j ∧ j < b.Paces.n ∧ b.Paces.f j = x)) := by
  intro r
  induction r with
  | zero =>
    intro i n h1 h2
    obtain ⟨n, rfl⟩ : ∃ m, n = m + 1 := ⟨n - 1, by omega⟩
    unfold newelref11_Pace_l2 newelref11_Pace_b2
    have e2 : decide (∃ j, i ≤ j ∧ j < b.Paces.n ∧ b.Paces.f j = x) = false := decide_eq_false (fun ⟨j, h3, h4, _⟩ => by omega)
    simp only [lt_false (show b.Paces.n ≤ i by omega), cond_false, e2]
  | succ r ih =>
    intro i n h1 h2
    obtain ⟨n, rfl⟩ : ∃ m, n = m + 1 := ⟨n - 1, by omega⟩
    unfold newelref11_Pace_l2 newelref11_Pace_b2
    simp only [lt_true (show i < b.Paces.n by omega), nat_nonneg, Bool.and_self, cond_true, Int.toNat_natCast, w64_succ (show i < 1000000000000 by omega)]
    by_cases hd : b.Paces.f i = x
    · have e2 : decide (∃ j, i ≤ j ∧ j < b.Paces.n ∧ b.Paces.f j = x) = true := decide_eq_true ⟨i, Nat.le_refl _, by omega, hd⟩
      have e3 : (b.Paces.f i == x) = true := by simpa using hd
      simp only [e3, cond_true, e2]
    · have e3 : (b.Paces.f i == x) = false := by simpa using hd
      rw [decide_eq_decide.2 (ex_step (P := fun j => b.Paces.f j = x) hd)]
      simp only [e3, cond_false]
      exact ih (i + 1) n (by omega) (by omega)
open Classical in
theorem Pace_eq {N : Nat} {b : api_Band} (hn : b.Paces.n ≤ 1000000) (hN : b.Paces.n < N) (x : Int) (k : Bool → Option R) : newelref11_Pace N b x k = k (decide (isIn b.Paces x)) := by
  rw [newelref11_Pace_def]
  unfold newelref11_Pace_m
  refine Eq.trans (Pace_l2_eq N hn x k b.Paces.n 0 N (by omega) hN) ?_
  rw [decide_eq_decide.2 isIn_iff]
end
end En
end Go.Proofs.Ytlikcijophbkbaa
