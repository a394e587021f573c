/-
  Several texts in one.
-/
import Derived.Test.YtpillmoddoccfabCtQ2
import Derived.Test.YtpillmoddoccfabSxMath
set_option linter.unusedVariables false
set_option linter.unusedSimpArgs false
namespace Go.Proofs.Ytpillmoddoccfab
namespace Li
open Go.Sx
section
variable {R : Type}
theorem within_eq (N : Nat) (n lo hi : Int) (k : Bool → Option R) : newelref05_within N n lo hi k = k (decide (lo ≤ n ∧ n ≤ hi)) := by
  rw [newelref05_within_def]
  unfold newelref05_within_m
  by_cases h : lo ≤ n <;> simp [h]
theorem between_eq (N : Nat) (n lo hi : Int) (k : Bool → Option R) : lift_between N n lo hi k = k (decide (lo ≤ n ∧ n ≤ hi)) := by
  rw [lift_between_def]
  unfold lift_between_m
  by_cases h : lo ≤ n <;> simp [h]
def upF (l : api_Lift) (i : Nat) : Prop := ∀ j, i ≤ j → j + 1 < l.Floors.n → l.Floors.f j < l.Floors.f (j + 1)
structure VL (l : api_Lift) : Prop where
  c1 : 1 ≤ l.Car
  c2 : l.Car ≤ 100000
  k1 : 1 ≤ l.Counter
  k2 : l.Counter ≤ 100000
  r1 : 0 ≤ l.Rated
  r2 : l.Rated ≤ 100000
  o1 : 0 ≤ l.Rope
  o2 : l.Rope ≤ 100
  n1 : 2 ≤ l.Floors.n
  n2 : l.Floors.n ≤ 16
  f0 : l.Floors.f 0 = 0
  ft : l.Floors.f (l.Floors.n - 1) ≤ 1000
  up : upF l 0
  d1 : 1 ≤ l.Den
  d2 : l.Den ≤ l.Num
  m2 : l.Num ≤ 100
  s1 : 1 ≤ l.Speed
  s2 : l.Speed ≤ 100
  a1 : 1 ≤ l.Accel
  a2 : l.Accel ≤ 100
  v1 : 0 ≤ l.Over
  v2 : l.Over ≤ 1000
  t1 : 1 ≤ l.Stiff
  t2 : l.Stiff ≤ 10000000
  e1 : 0 ≤ l.Level
  e2 : l.Level ≤ 1000
open Classical in
noncomputable def checkV (l : api_Lift) : Int := if VL l then 0 else 50
theorem up_lt {l : api_Lift} (h : upF l 0) : ∀ (d i : Nat), i + d < l.Floors.n → l.Floors.f i + d ≤ l.Floors.f (i + d) := by
  intro d
  induction d with
  | zero => intro i hi; simp
  | succ d ih =>
    intro i hi
    have h1 := ih i (by omega)
    have h2 := h (i + d) (by omega) (by omega)
    rw [show i + (d + 1) = i + d + 1 by omega]
    omega
theorem VL.floor {l : api_Lift} (h : VL l) {i : Nat} (hi : i < l.Floors.n) : 0 ≤ l.Floors.f i ∧ l.Floors.f i ≤ l.Floors.f (l.Floors.n - 1) := by
  have h1 := up_lt h.up i 0 (by omega)
  have h2 := up_lt h.up (l.Floors.n - 1 - i) i (by omega)
  have h0 := h.f0
  rw [show i + (l.Floors.n - 1 - i) = l.Floors.n - 1 by omega] at h2
  rw [Nat.zero_add] at h1
  omega
open Classical in
theorem Check_l6_eq (N : Nat) (l : api_Lift) (hn : l.Floors.n < 1000000) (h1 : 1 ≤ l.Floors.n) (b : Arr Int) (hb : b.Is (l.Floors.n - 1) (fun i => l.Floors.f (i + 1))) (kr : Int → Option R) (k0 : Unit → Option R) : ∀ (n i : Nat), i ≤ l.Floors.n - 1 → l.Floors.n - 1 < n + i →
    lift_Check_l6 N n b ((l.Floors.n - 1 : Nat) : Int) (i : Int) l kr k0 = if upF l i then k0 () else kr 50 := by
  intro n
  induction n with
  | zero => intro i h2 h3; omega
  | succ n ih =>
    intro i h2 h3
    unfold lift_Check_l6 lift_Check_b6
    by_cases hi : i < l.Floors.n - 1
    · have e1 : decide ((i : Int) < ((l.Floors.n - 1 : Nat) : Int)) = true := by simp; omega
      have e2 : decide ((i : Int) < (b.n : Int)) = true := by rw [hb.len]; exact e1
      have e3 : decide ((i : Int) < (l.Floors.n : Int)) = true := by simp; omega
      simp only [e1, e2, e3, nat_nonneg, Bool.and_self, cond_true, Int.toNat_natCast, hb.get i hi, w64_succ (show i < 1000000000000 by omega)]
      by_cases hc : l.Floors.f (i + 1) ≤ l.Floors.f i
      · simp only [hc, decide_true, cond_true]
        rw [if_neg]
        intro h
        have := h i (Nat.le_refl _) (by omega)
        omega
      · simp only [hc, decide_false, cond_false]
        rw [ih (i + 1) (by omega) (by omega)]
        have : upF l i ↔ upF l (i + 1) := by
          constructor
          · intro h j h3 h4; exact h j (by omega) h4
          · intro h j h3 h4
            by_cases e : j = i
            · subst e; omega
            · exact h j (by omega) h4
        simp only [this]
    · have e1 : decide ((i : Int) < ((l.Floors.n - 1 : Nat) : Int)) = false := by simp; omega
      simp only [e1, cond_false]
      rw [if_pos]
      intro j h4 h5
      omega
open Classical in
theorem refCheck_l6_eq (N : Nat) (l : api_Lift) (hn : l.Floors.n < 1000000) (kr : Int → Option R) (k0 : Unit → Option R) : ∀ (n i : Nat), i + 1 ≤ l.Floors.n → l.Floors.n < n + (i + 1) →
    newelref05_Check_l6 N n ((i + 1 : Nat) : Int) l kr k0 = if (∀ j, i ≤ j → j + 1 < l.Floors.n → l.Floors.f j < l.Floors.f (j + 1) ∧ l.Floors.f (j + 1) ≤ 1000) then k0 () else kr 50 := by
  intro n
  induction n with
  | zero => intro i h2 h3; omega
  | succ n ih =>
    intro i h2 h3
    unfold newelref05_Check_l6 newelref05_Check_b6
    by_cases hi : i + 1 < l.Floors.n
    · have e1 : decide (((i + 1 : Nat) : Int) < (l.Floors.n : Int)) = true := by simp; omega
      have e2 : w64 (((i + 1 : Nat) : Int) - 1) = (i : Int) := by rw [w64_eq (by omega) (by omega)]; omega
      have e3 : decide ((i : Int) < (l.Floors.n : Int)) = true := by simp; omega
      simp only [e1, e2, e3, nat_nonneg, Bool.and_self, cond_true, Int.toNat_natCast, w64_succ (show i + 1 < 1000000000000 by omega)]
      by_cases hc : l.Floors.f (i + 1) ≤ l.Floors.f i
      · simp only [hc, decide_true, cond_true]
        rw [if_neg]
        intro h
        have := h i (Nat.le_refl _) (by omega)
        omega
      · simp only [hc, decide_false, cond_false]
        by_cases hd : l.Floors.f (i + 1) > 1000
        · simp only [hd, decide_true, cond_true]
          rw [if_neg]
          intro h
          have := h i (Nat.le_refl _) (by omega)
          omega
        · simp only [hd, decide_false, cond_false]
          rw [ih (i + 1) (by omega) (by omega)]
          have : (∀ j, i ≤ j → j + 1 < l.Floors.n → l.Floors.f j < l.Floors.f (j + 1) ∧ l.Floors.f (j + 1) ≤ 1000) ↔ (∀ j, i + 1 ≤ j → j + 1 < l.Floors.n → l.Floors.f j < l.Floors.f (j + 1) ∧ l.Floors.f (j + 1) ≤ 1000) := by
            constructor
            · intro h j h3 h4; exact h j (by omega) h4
            · intro h j h3 h4
              by_cases e : j = i
              · subst e; omega
              · exact h j (by omega) h4
          simp only [this]
    · have e1 : decide (((i + 1 : Nat) : Int) < (l.Floors.n : Int)) = false := by simp; omega
      simp only [e1, cond_false]
      rw [if_pos]
      intro j h4 h5
      omega
theorem last_idx {l : api_Lift} (h1 : 1 ≤ l.Floors.n) (h2 : l.Floors.n < 1000000) : w64 ((l.Floors.n : Int) - 1) = ((l.Floors.n - 1 : Nat) : Int) := by
  rw [w64_eq (by omega) (by omega)]; omega
theorem Check_eq {N : Nat} (hN : 20 ≤ N) (l : api_Lift) (k : Int → Option R) : lift_Check N l k = k (checkV l) := by
  rw [lift_Check_def]
  unfold lift_Check_m
  simp only [between_eq]
  have neg : ∀ {x : Int}, ¬ VL l → x = 50 → k x = k (checkV l) := fun h hx => by rw [hx]; unfold checkV; rw [if_neg h]
  by_cases h1 : 1 ≤ l.Car ∧ l.Car ≤ 100000
  case neg => simp only [h1, decide_false, Bool.not_false, cond_true]; exact neg (fun h => h1 ⟨h.c1, h.c2⟩) rfl
  simp only [h1, decide_true, and_self, Bool.not_true, cond_false]
  by_cases h2 : 1 ≤ l.Counter ∧ l.Counter ≤ 100000
  case neg => simp only [h2, decide_false, Bool.not_false, cond_true]; exact neg (fun h => h2 ⟨h.k1, h.k2⟩) rfl
  simp only [h2, decide_true, and_self, Bool.not_true, cond_false]
  by_cases h3 : 0 ≤ l.Rated ∧ l.Rated ≤ 100000
  case neg => simp only [h3, decide_false, Bool.not_false, cond_true]; exact neg (fun h => h3 ⟨h.r1, h.r2⟩) rfl
  simp only [h3, decide_true, and_self, Bool.not_true, cond_false]
  by_cases h4 : 0 ≤ l.Rope ∧ l.Rope ≤ 100
  case neg => simp only [h4, decide_false, Bool.not_false, cond_true]; exact neg (fun h => h4 ⟨h.o1, h.o2⟩) rfl
  simp only [h4, decide_true, and_self, Bool.not_true, cond_false]
  by_cases h5 : 2 ≤ (l.Floors.n : Int) ∧ (l.Floors.n : Int) ≤ 16
  case neg => simp only [h5, decide_false, Bool.not_false, cond_true]; exact neg (fun h => h5 ⟨by have := h.n1; omega, by have := h.n2; omega⟩) rfl
  simp only [h5, decide_true, and_self, Bool.not_true, cond_false]
  have e0 : decide ((0 : Int) < (l.Floors.n : Int)) = true := by simp; omega
  simp only [e0, cond_true]
  by_cases h6 : l.Floors.f 0 = 0
  case neg => 
    have : (l.Floors.f (Int.toNat 0) != 0) = true := by simpa using h6
    simp only [this, cond_true]; exact neg (fun h => h6 h.f0) rfl
  have e6 : (l.Floors.f (Int.toNat 0) != 0) = false := by simpa using h6
  have e7 : decide (((l.Floors.n - 1 : Nat) : Int) < (l.Floors.n : Int)) = true := by simp; omega
  simp only [e6, cond_false, last_idx (l := l) (by omega) (by omega), nat_nonneg, e7, Bool.and_self, cond_true, Int.toNat_natCast]
  by_cases h7 : l.Floors.f (l.Floors.n - 1) > 1000
  · simp only [h7, decide_true, cond_true]; exact neg (fun h => by have := h.ft; omega) rfl
  have e8 : decide ((1 : Int) ≤ (l.Floors.n : Int)) = true := by simp; omega
  simp only [h7, decide_false, cond_false, e8, Int.le_refl, decide_true, Bool.and_self, cond_true]
  have := Check_l6_eq (R := R) N l (by omega) (by omega) (lst intC (l.Floors.n - Int.toNat 1) fun (i j : Nat) => Cod.cell intC l.Floors.f (Int.toNat 1 + i) j) ⟨rfl, fun i hi => by show l.Floors.f (1 + i) = _; rw [Nat.add_comm]⟩
  rw [show ((l.Floors.n - Int.toNat 1 : Nat) : Int) = ((l.Floors.n - 1 : Nat) : Int) from rfl, show (0 : Int) = ((0 : Nat) : Int) from rfl, this _ _ N 0 (by omega) (by omega)]
  by_cases h8 : upF l 0
  case neg => rw [if_neg h8]; exact neg (fun h => h8 h.up) rfl
  rw [if_pos h8]
  show (bif decide (l.Den < 1) then k 50 else _) = _
  by_cases h9 : l.Den < 1
  · simp only [h9, decide_true, cond_true]; exact neg (fun h => by have := h.d1; omega) rfl
  simp only [h9, decide_false, cond_false]
  by_cases h10 : l.Num < l.Den
  · simp only [h10, decide_true, cond_true]; exact neg (fun h => by have := h.d2; omega) rfl
  simp only [h10, decide_false, cond_false]
  by_cases h11 : l.Num > 100
  · simp only [h11, decide_true, cond_true]; exact neg (fun h => by have := h.m2; omega) rfl
  simp only [h11, decide_false, cond_false]
  by_cases h12 : 1 ≤ l.Speed ∧ l.Speed ≤ 100
  case neg => simp only [h12, decide_false, Bool.not_false, cond_true]; exact neg (fun h => h12 ⟨h.s1, h.s2⟩) rfl
  simp only [h12, decide_true, and_self, Bool.not_true, cond_false]
  by_cases h13 : 1 ≤ l.Accel ∧ l.Accel ≤ 100
  case neg => simp only [h13, decide_false, Bool.not_false, cond_true]; exact neg (fun h => h13 ⟨h.a1, h.a2⟩) rfl
  simp only [h13, decide_true, and_self, Bool.not_true, cond_false]
  by_cases h14 : 0 ≤ l.Over ∧ l.Over ≤ 1000
  case neg => simp only [Int.natCast_zero, h14, decide_false, Bool.not_false, cond_true]; exact neg (fun h => h14 ⟨h.v1, h.v2⟩) rfl
  simp only [Int.natCast_zero, h14, decide_true, and_self, Bool.not_true, cond_false]
  by_cases h15 : 1 ≤ l.Stiff ∧ l.Stiff ≤ 10000000
  case neg => simp only [h15, decide_false, Bool.not_false, cond_true]; exact neg (fun h => h15 ⟨h.t1, h.t2⟩) rfl
  simp only [h15, decide_true, and_self, Bool.not_true, cond_false]
  by_cases h16 : 0 ≤ l.Level ∧ l.Level ≤ 1000
  case neg => simp only [h16, decide_false, Bool.not_false, cond_true]; exact neg (fun h => h16 ⟨h.e1, h.e2⟩) rfl
  simp only [h16, decide_true, and_self, Bool.not_true, cond_false]
  unfold checkV
  rw [if_pos ⟨h1.1, h1.2, h2.1, h2.2, h3.1, h3.2, h4.1, h4.2, by omega, by omega, h6, by omega, h8, by omega, by omega, by omega, h12.1, h12.2, h13.1, h13.2, h14.1, h14.2, h15.1, h15.2, h16.1, h16.2⟩]
theorem refCheck_eq {N : Nat} (hN : 20 ≤ N) (l : api_Lift) (k : Int → Option R) : newelref05_Check N l k = k (checkV l) := by
  rw [newelref05_Check_def]
  unfold newelref05_Check_m
  simp only [within_eq]
  have neg : ∀ {x : Int}, ¬ VL l → x = 50 → k x = k (checkV l) := fun h hx => by rw [hx]; unfold checkV; rw [if_neg h]
  by_cases h1 : 1 ≤ l.Car ∧ l.Car ≤ 100000
  case neg => simp only [h1, decide_false, Bool.not_false, cond_true]; exact neg (fun h => h1 ⟨h.c1, h.c2⟩) rfl
  simp only [h1, decide_true, and_self, Bool.not_true, cond_false]
  by_cases h2 : 1 ≤ l.Counter ∧ l.Counter ≤ 100000
  case neg => simp only [h2, decide_false, Bool.not_false, cond_true]; exact neg (fun h => h2 ⟨h.k1, h.k2⟩) rfl
  simp only [h2, decide_true, and_self, Bool.not_true, cond_false]
  by_cases h3 : 0 ≤ l.Rated ∧ l.Rated ≤ 100000
  case neg => simp only [h3, decide_false, Bool.not_false, cond_true]; exact neg (fun h => h3 ⟨h.r1, h.r2⟩) rfl
  simp only [h3, decide_true, and_self, Bool.not_true, cond_false]
  by_cases h4 : 0 ≤ l.Rope ∧ l.Rope ≤ 100
  case neg => simp only [h4, decide_false, Bool.not_false, cond_true]; exact neg (fun h => h4 ⟨h.o1, h.o2⟩) rfl
  simp only [h4, decide_true, and_self, Bool.not_true, cond_false]
  by_cases h5 : 2 ≤ (l.Floors.n : Int) ∧ (l.Floors.n : Int) ≤ 16
  case neg => simp only [h5, decide_false, Bool.not_false, cond_true]; exact neg (fun h => h5 ⟨by have := h.n1; omega, by have := h.n2; omega⟩) rfl
  simp only [h5, decide_true, and_self, Bool.not_true, cond_false]
  have e0 : decide ((0 : Int) < (l.Floors.n : Int)) = true := by simp; omega
  simp only [e0, cond_true]
  by_cases h6 : l.Floors.f 0 = 0
  case neg => 
    have : (l.Floors.f (Int.toNat 0) != 0) = true := by simpa using h6
    simp only [this, cond_true]; exact neg (fun h => h6 h.f0) rfl
  have e6 : (l.Floors.f (Int.toNat 0) != 0) = false := by simpa using h6
  simp only [e6, cond_false]
  rw [show (1 : Int) = ((0 + 1 : Nat) : Int) from rfl, refCheck_l6_eq N l (by omega) _ _ N 0 (by omega) (by omega)]
  by_cases h8 : ∀ j, 0 ≤ j → j + 1 < l.Floors.n → l.Floors.f j < l.Floors.f (j + 1) ∧ l.Floors.f (j + 1) ≤ 1000
  case neg =>
    rw [if_neg h8]
    exact neg (fun h => h8 (fun j _ hj => ⟨h.up j (by omega) hj, by have := h.floor hj; have := h.ft; omega⟩)) rfl
  rw [if_pos h8]
  have h8u : upF l 0 := fun j h1 h2 => (h8 j h1 h2).1
  have h8t : l.Floors.f (l.Floors.n - 1) ≤ 1000 := by
    have := (h8 (l.Floors.n - 2) (by omega) (by omega)).2
    rw [show l.Floors.n - 2 + 1 = l.Floors.n - 1 by omega] at this
    exact this
  simp only [show ((0 + 1 : Nat) : Int) = 1 from rfl]
  by_cases h9 : 1 ≤ l.Den ∧ l.Den ≤ l.Num
  case neg => simp only [h9, decide_false, Bool.not_false, cond_true]; exact neg (fun h => h9 ⟨h.d1, h.d2⟩) rfl
  simp only [h9, decide_true, and_self, Bool.not_true, cond_false]
  by_cases h11 : l.Num > 100
  · simp only [h11, decide_true, cond_true]; exact neg (fun h => by have := h.m2; omega) rfl
  simp only [h11, decide_false, cond_false]
  by_cases h12 : 1 ≤ l.Speed ∧ l.Speed ≤ 100
  case neg => simp only [h12, decide_false, Bool.not_false, cond_true]; exact neg (fun h => h12 ⟨h.s1, h.s2⟩) rfl
  simp only [h12, decide_true, and_self, Bool.not_true, cond_false]
  by_cases h13 : 1 ≤ l.Accel ∧ l.Accel ≤ 100
  case neg => simp only [h13, decide_false, Bool.not_false, cond_true]; exact neg (fun h => h13 ⟨h.a1, h.a2⟩) rfl
  simp only [h13, decide_true, and_self, Bool.not_true, cond_false]
  by_cases h14 : 0 ≤ l.Over ∧ l.Over ≤ 1000
  case neg => simp only [h14, decide_false, Bool.not_false, cond_true]; exact neg (fun h => h14 ⟨h.v1, h.v2⟩) rfl
  simp only [h14, decide_true, and_self, Bool.not_true, cond_false]
  by_cases h15 : 1 ≤ l.Stiff ∧ l.Stiff ≤ 10000000
  case neg => simp only [h15, decide_false, Bool.not_false, cond_true]; exact neg (fun h => h15 ⟨h.t1, h.t2⟩) rfl
  simp only [h15, decide_true, and_self, Bool.not_true, cond_false]
  by_cases h16 : 0 ≤ l.Level ∧ l.Level ≤ 1000
  case neg => simp only [h16, decide_false, Bool.not_false, cond_true]; exact neg (fun h => h16 ⟨h.e1, h.e2⟩) rfl
  simp only [h16, decide_true, and_self, Bool.not_true, cond_false]
  unfold checkV
  rw [if_pos ⟨h1.1, h1.2, h2.1, h2.2, h3.1, h3.2, h4.1, h4.2, by omega, by omega, h6, h8t, h8u, by omega, by omega, by omega, h12.1, h12.2, h13.1, h13.2, h14.1, h14.2, h15.1, h15.2, h16.1, h16.2⟩]
theorem checkV_ne {l : api_Lift} (h : ¬ VL l) : checkV l = 50 := by unfold checkV; rw [if_neg h]
theorem checkV_pos {l : api_Lift} (h : VL l) : checkV l = 0 := by unfold checkV; rw [if_pos h]
def topS (l : api_Lift) : Int := l.Floors.f (l.Floors.n - 1)
theorem VL.top {l : api_Lift} (h : VL l) : 1 ≤ topS l ∧ topS l ≤ 1000 := by
  have h1 := up_lt h.up (l.Floors.n - 1) 0 (by have := h.n1; omega)
  have := h.f0
  have := h.ft
  have := h.n1
  rw [Nat.zero_add] at h1
  unfold topS
  omega
def sideA (l : api_Lift) (h load : Int) : Int := l.Car + load + l.Rope * (topS l - h)
def sideB (l : api_Lift) (h : Int) : Int := l.Counter + l.Rope * h
structure SL (l : api_Lift) : Prop where
  n1 : 1 ≤ l.Floors.n
  n2 : l.Floors.n < 1000000
  c1 : 0 ≤ l.Car
  c2 : l.Car ≤ 100000
  k1 : 0 ≤ l.Counter
  k2 : l.Counter ≤ 100000
  o1 : 0 ≤ l.Rope
  o2 : l.Rope ≤ 100
  t1 : 0 ≤ topS l
  t2 : topS l ≤ 1000
theorem VL.sl {l : api_Lift} (h : VL l) : SL l := ⟨by have := h.n1; omega, by have := h.n2; omega, by have := h.c1; omega, h.c2, by have := h.k1; omega, h.k2, h.o1, h.o2, by have := h.top; omega, h.top.2⟩
def slipP (l : api_Lift) (x y a : Int) : Prop := max (sideA l x y) (sideB l x) * (1000 + a) * l.Den > min (sideA l x y) (sideB l x) * (1000 - a) * l.Num
instance (l : api_Lift) (x y a : Int) : Decidable (slipP l x y a) := by unfold slipP; infer_instance
end
end Li
end Go.Proofs.Ytpillmoddoccfab
set_option linter.unusedVariables false
set_option linter.unusedSimpArgs false
namespace Go.Proofs.Ytpillmoddoccfab
namespace Li
open Go.Sx
def sumTo (g : Nat → Int) : Nat → Int
  | 0 => 0
  | n + 1 => sumTo g n + g (n + 1)
theorem sumTo_congr {g g' : Nat → Int} : ∀ {n : Nat}, (∀ k, 1 ≤ k → k ≤ n → g k = g' k) → sumTo g n = sumTo g' n
  | 0, _ => rfl
  | n + 1, h => by simp only [sumTo]; rw [sumTo_congr (fun k h1 h2 => h k h1 (by omega)), h (n + 1) (by omega) (by omega)]
theorem sumTo_le {g g' : Nat → Int} : ∀ {n : Nat}, (∀ k, 1 ≤ k → k ≤ n → g k ≤ g' k) → sumTo g n ≤ sumTo g' n
  | 0, _ => Int.le_refl _
  | n + 1, h => by
    simp only [sumTo]
    have := sumTo_le (n := n) (fun k h1 h2 => h k h1 (by omega))
    have := h (n + 1) (by omega) (by omega)
    omega
theorem sumTo_first (g : Nat → Int) : ∀ n : Nat, sumTo g (n + 1) = g 1 + sumTo (fun k => g (k + 1)) n
  | 0 => by simp [sumTo]
  | n + 1 => by
    rw [sumTo, sumTo_first g n, sumTo]
    omega
theorem sumTo_bounds {g : Nat → Int} {B : Int} : ∀ {n : Nat}, (∀ k, 1 ≤ k → k ≤ n → 0 ≤ g k ∧ g k ≤ B) → 0 ≤ sumTo g n ∧ sumTo g n ≤ n * B
  | 0, _ => by simp [sumTo]
  | n + 1, h => by
    have h1 := sumTo_bounds (n := n) (fun k h1 h2 => h k h1 (by omega))
    have h2 := h (n + 1) (by omega) (by omega)
    simp only [sumTo]
    have : ((n + 1 : Nat) : Int) * B = n * B + B := by rw [Int.natCast_add, Int.add_mul]; simp
    omega
theorem sumTo_nonneg {g : Nat → Int} : ∀ {n : Nat}, (∀ k, 1 ≤ k → k ≤ n → 0 ≤ g k) → 0 ≤ sumTo g n
  | 0, _ => by simp [sumTo]
  | n + 1, h => by
    have h1 := sumTo_nonneg (n := n) (fun k h1 h2 => h k h1 (by omega))
    have h2 := h (n + 1) (by omega) (by omega)
    simp only [sumTo]
    omega
def mT (S A v : Int) (t k : Nat) : Int := min (min S (v + k * A)) (((t : Int) - k + 1) * A)
def mostS (S A v : Int) (t : Nat) : Int := sumTo (mT S A v t) t
def lT (A v : Int) (k : Nat) : Int := max 0 (v - k * A)
def leastS (A v : Int) (t : Nat) : Int := sumTo (lT A v) t
def topV (S A v : Int) (t : Nat) : Int := min (min S (v + A)) (((t : Int) + 1) * A)
theorem mul_mono {a b A : Int} (h : a ≤ b) (hA : 0 ≤ A) : a * A ≤ b * A := Int.mul_le_mul_of_nonneg_right h hA
theorem mT_bounds {S A v : Int} (hS : 0 ≤ S) (hA : 0 ≤ A) (hv : 0 ≤ v) {t k : Nat} (hk : k ≤ t) : 0 ≤ mT S A v t k ∧ mT S A v t k ≤ S := by
  unfold mT
  have h1 : 0 ≤ (k : Int) * A := Int.mul_nonneg (by omega) hA
  have h2 : 0 ≤ ((t : Int) - k + 1) * A := Int.mul_nonneg (by omega) hA
  omega
theorem most_succ {S A v : Int} (hS : 0 ≤ S) (hA : 0 ≤ A) (t : Nat) : mostS S A v (t + 1) = topV S A v t + mostS S A (topV S A v t) t := by
  unfold mostS
  rw [sumTo_first]
  have e1 : mT S A v (t + 1) 1 = topV S A v t := by
    unfold mT topV
    rw [show ((t + 1 : Nat) : Int) - ((1 : Nat) : Int) + 1 = (t : Int) + 1 by omega]
    simp
  rw [e1]
  congr 1
  apply sumTo_congr
  intro k h1 h2
  unfold mT topV
  have a1 : (((k + 1 : Nat) : Int)) * A = k * A + A := by rw [Int.natCast_add, Int.add_mul]; simp
  have a2 : ((t + 1 : Nat) : Int) - ((k + 1 : Nat) : Int) + 1 = (t : Int) - k + 1 := by omega
  have a3 : ((t : Int) - k + 1) * A ≤ ((t : Int) + 1) * A := mul_mono (by omega) hA
  have a4 : 0 ≤ (k : Int) * A := Int.mul_nonneg (by omega) hA
  rw [a1, a2]
  omega
theorem least_succ {A v : Int} (hA : 0 ≤ A) (t : Nat) : leastS A v (t + 1) = max 0 (v - A) + leastS A (max 0 (v - A)) t := by
  unfold leastS
  rw [sumTo_first]
  have e1 : lT A v 1 = max 0 (v - A) := by unfold lT; simp
  rw [e1]
  congr 1
  apply sumTo_congr
  intro k h1 h2
  unfold lT
  have a1 : (((k + 1 : Nat) : Int)) * A = k * A + A := by rw [Int.natCast_add, Int.add_mul]; simp
  have a4 : 0 ≤ (k : Int) * A := Int.mul_nonneg (by omega) hA
  rw [a1]
  omega
theorem least_mono {A v w : Int} (h : v ≤ w) (t : Nat) : leastS A v t ≤ leastS A w t :=
  sumTo_le fun k _ _ => by unfold lT; omega
theorem least_nonneg (A v : Int) (t : Nat) : 0 ≤ leastS A v t := sumTo_nonneg fun k _ _ => by unfold lT; omega
theorem least_zero {A v : Int} (hA : 0 ≤ A) (hv : v ≤ 0) (t : Nat) : leastS A v t = 0 := by
  have : leastS A v t = sumTo (fun _ => 0) t := by
    apply sumTo_congr
    intro k _ _
    unfold lT
    have a4 : 0 ≤ (k : Int) * A := Int.mul_nonneg (by omega) hA
    omega
  rw [this]
  clear this
  induction t with
  | zero => rfl
  | succ t ih => simp [sumTo, ih]
theorem least_bounds {A v B : Int} (hA : 0 ≤ A) (hv : v ≤ B) (hB : 0 ≤ B) (t : Nat) : 0 ≤ leastS A v t ∧ leastS A v t ≤ t * B :=
  sumTo_bounds fun k _ _ => by
    unfold lT
    have a4 : 0 ≤ (k : Int) * A := Int.mul_nonneg (by omega) hA
    omega
theorem least_most {S A v : Int} (hA : 1 ≤ A) (hv : 0 ≤ v) (t : Nat) (h1 : v + 1 ≤ S) (h2 : v + 1 ≤ ((t : Int) + 1) * A) : leastS A (v + 1) t ≤ mostS S A v t :=
  sumTo_le fun k k1 k2 => by
    unfold lT mT
    have a0 : (k : Int) * 1 ≤ (k : Int) * A := Int.mul_le_mul_of_nonneg_left hA (by omega)
    have a2 : 0 ≤ ((t : Int) - k + 1) * A := Int.mul_nonneg (by omega) (by omega)
    have a3 : ((t : Int) - k + 1) * A = ((t : Int) + 1) * A - k * A := by
      rw [show (t : Int) - k + 1 = ((t : Int) + 1) - k by omega, Int.sub_mul]
    omega
def pick (A way : Int) (t : Nat) : Nat → Int
  | 0 => 0
  | n + 1 => if ((n + 1 : Nat) : Int) + leastS A ((n + 1 : Nat) : Int) t > way then pick A way t n else ((n + 1 : Nat) : Int)
theorem pick_spec {A way : Int} (hA : 0 ≤ A) (hw : 0 ≤ way) (t : Nat) : ∀ m : Nat, 0 ≤ pick A way t m ∧ pick A way t m ≤ m ∧ pick A way t m + leastS A (pick A way t m) t ≤ way ∧ (pick A way t m < m → pick A way t m + 1 + leastS A (pick A way t m + 1) t > way) := by
  intro m
  induction m with
  | zero => simp only [pick]; rw [least_zero hA (Int.le_refl _)]; simp [hw]
  | succ m ih =>
    simp only [pick]
    split
    · rename_i h
      obtain ⟨h1, h2, h3, h4⟩ := ih
      refine ⟨h1, by omega, h3, fun h5 => ?_⟩
      by_cases h6 : pick A way t m < m
      · exact h4 h6
      · have : pick A way t m + 1 = ((m + 1 : Nat) : Int) := by omega
        rw [this]; omega
    · rename_i h
      refine ⟨by omega, by omega, by omega, fun h5 => by omega⟩
structure Can (S A v : Int) (t : Nat) (way : Int) : Prop where
  S1 : 1 ≤ S
  S2 : S ≤ 100
  A1 : 1 ≤ A
  A2 : A ≤ 100
  v1 : 0 ≤ v
  v2 : v ≤ S
  va : v ≤ ((t : Int) + 1) * A
  lo : leastS A v t ≤ way
  hi : way ≤ mostS S A v t
def pickV (S A v : Int) (t : Nat) (way : Int) : Int := pick A way t (topV S A v t).toNat
theorem topV_nonneg {S A v : Int} (hS : 1 ≤ S) (hA : 1 ≤ A) (hv : 0 ≤ v) (t : Nat) : 1 ≤ topV S A v t := by
  unfold topV
  have : 1 * A ≤ ((t : Int) + 1) * A := mul_mono (by omega) (by omega)
  omega
structure Next (S A v : Int) (t : Nat) (way w : Int) : Prop where
  w1 : 0 ≤ w
  w2 : w ≤ topV S A v t
  lo : v - A ≤ w
  ok : w + leastS A w t ≤ way
  top : w < topV S A v t → w + 1 + leastS A (w + 1) t > way
  can : Can S A w t (way - w)
theorem Can.next {S A v way : Int} {t : Nat} (h : Can S A v (t + 1) way) : Next S A v t way (pickV S A v t way) := by
  obtain ⟨S1, S2, A1, A2, v1, v2, va, lo, hi⟩ := h
  have hw : 0 ≤ way := by have := least_nonneg A v (t + 1); omega
  have ht := topV_nonneg S1 A1 v1 t
  have hp := pick_spec (A := A) (way := way) (by omega) hw t (topV S A v t).toNat
  have hc : (((topV S A v t).toNat : Nat) : Int) = topV S A v t := by omega
  rw [hc] at hp
  change 0 ≤ pickV S A v t way ∧ pickV S A v t way ≤ topV S A v t ∧ pickV S A v t way + leastS A (pickV S A v t way) t ≤ way ∧ (pickV S A v t way < topV S A v t → pickV S A v t way + 1 + leastS A (pickV S A v t way + 1) t > way) at hp
  generalize pickV S A v t way = w at hp ⊢
  obtain ⟨p1, p2, p3, p4⟩ := hp
  have hT : topV S A v t ≤ S ∧ topV S A v t ≤ v + A ∧ topV S A v t ≤ ((t : Int) + 1) * A := by unfold topV; omega
  have hlo : v - A ≤ w := by
    by_cases hlt : w < v - A
    · have h1 := p4 (by
        have : v - A ≤ topV S A v t := by
          unfold topV
          have : ((t + 1 : Nat) : Int) + 1 = ((t : Int) + 1) + 1 := by omega
          rw [this, Int.add_mul] at va
          omega
        omega)
      have h2 := least_succ (A := A) (v := v) (by omega) t
      have h3 := least_mono (A := A) (show w + 1 ≤ max 0 (v - A) by omega) t
      omega
    · omega
  refine ⟨p1, p2, hlo, p3, p4, ⟨S1, S2, A1, A2, p1, by omega, by omega, by omega, ?_⟩⟩
  rw [most_succ (by omega) (by omega)] at hi
  by_cases hlt : w < topV S A v t
  · have h1 := p4 hlt
    have h2 := least_most (S := S) (A := A) (v := w) A1 p1 t (by omega) (by omega)
    omega
  · have : w = topV S A v t := by omega
    rw [this]
    omega
def tripS (S A way : Int) (n : Nat) : Nat → Int × Int
  | 0 => (way, 0)
  | i + 1 => ((tripS S A way n i).1 - pickV S A (tripS S A way n i).2 (n - 1 - i) (tripS S A way n i).1, pickV S A (tripS S A way n i).2 (n - 1 - i) (tripS S A way n i).1)
def tripE (S A way : Int) (n : Nat) (i : Nat) : Int := (tripS S A way n (i + 1)).2
theorem can0 {S A way : Int} (S1 : 1 ≤ S) (S2 : S ≤ 100) (A1 : 1 ≤ A) (A2 : A ≤ 100) (hw : 0 ≤ way) {n : Nat} (h : way ≤ mostS S A 0 n) : Can S A 0 n way :=
  ⟨S1, S2, A1, A2, by omega, by omega, Int.mul_nonneg (by omega) (by omega), by rw [least_zero (by omega) (by omega)]; exact hw, h⟩
theorem trip_can {S A way : Int} {n : Nat} (h : Can S A 0 n way) : ∀ i, i ≤ n → Can S A (tripS S A way n i).2 (n - i) (tripS S A way n i).1 := by
  intro i
  induction i with
  | zero => intro _; exact h
  | succ i ih =>
    intro hi
    have h1 := ih (by omega)
    rw [show n - i = (n - 1 - i) + 1 by omega] at h1
    rw [show n - (i + 1) = n - 1 - i by omega]
    exact h1.next.can
theorem trip_next {S A way : Int} {n : Nat} (h : Can S A 0 n way) {i : Nat} (hi : i < n) : Next S A (tripS S A way n i).2 (n - 1 - i) (tripS S A way n i).1 (tripE S A way n i) := by
  have h1 := trip_can h i (by omega)
  rw [show n - i = (n - 1 - i) + 1 by omega] at h1
  exact h1.next
def firstT (S A way : Int) : Nat → Nat → Nat
  | 0, t => t
  | r + 1, t => if mostS S A 0 t < way then firstT S A way r (t + 1) else t
def ticksS (S A way : Int) : Nat := firstT S A way way.toNat 0
theorem most_ge {S A : Int} (hS : 1 ≤ S) (hA : 1 ≤ A) (t : Nat) : (t : Int) ≤ mostS S A 0 t := by
  have h : ∀ n : Nat, (n : Int) = sumTo (fun _ => 1) n := by
    intro n
    induction n with
    | zero => rfl
    | succ n ih => simp only [sumTo]; omega
  rw [h t]
  apply sumTo_le
  intro k h1 h2
  unfold mT
  have a1 : (k : Int) * 1 ≤ (k : Int) * A := Int.mul_le_mul_of_nonneg_left hA (by omega)
  have a2 : ((t : Int) - k + 1) * 1 ≤ ((t : Int) - k + 1) * A := Int.mul_le_mul_of_nonneg_left hA (by omega)
  omega
theorem firstT_spec {S A way : Int} (hS : 1 ≤ S) (hA : 1 ≤ A) : ∀ (r t : Nat), way ≤ (t + r : Nat) → (t : Int) ≤ firstT S A way r t ∧ firstT S A way r t ≤ t + r ∧ way ≤ mostS S A 0 (firstT S A way r t) ∧ ∀ j, t ≤ j → j < firstT S A way r t → mostS S A 0 j < way := by
  intro r
  induction r with
  | zero =>
    intro t h
    simp only [firstT]
    have := most_ge hS hA t
    exact ⟨by omega, by omega, by omega, fun j h1 h2 => by omega⟩
  | succ r ih =>
    intro t h
    simp only [firstT]
    split
    · rename_i hc
      obtain ⟨h1, h2, h3, h4⟩ := ih (t + 1) (by omega)
      refine ⟨by omega, by omega, h3, fun j h5 h6 => ?_⟩
      by_cases e : j = t
      · subst e; exact hc
      · exact h4 j (by omega) h6
    · rename_i hc
      exact ⟨by omega, by omega, by omega, fun j h1 h2 => by omega⟩
theorem ticks_spec {S A way : Int} (hS : 1 ≤ S) (hA : 1 ≤ A) (hw : 0 ≤ way) : (ticksS S A way : Int) ≤ way ∧ way ≤ mostS S A 0 (ticksS S A way) ∧ ∀ j, j < ticksS S A way → mostS S A 0 j < way := by
  obtain ⟨h1, h2, h3, h4⟩ := firstT_spec (S := S) (A := A) (way := way) hS hA way.toNat 0 (by omega)
  unfold ticksS
  exact ⟨by omega, h3, fun j hj => h4 j (by omega) hj⟩
end Li
end Go.Proofs.Ytpillmoddoccfab
set_option linter.unusedVariables false
set_option linter.unusedSimpArgs false
namespace Go.Proofs.Ytpillmoddoccfab
namespace Li
open Go.Sx
section
variable {R : Type}
theorem ifmin (a b c : Int) : (if c < (if b < a then b else a) then c else if b < a then b else a) = min (min a b) c := by
  split <;> split at * <;> omega
theorem kA {k : Nat} {A : Int} (hk : k ≤ 2000) (h1 : 0 ≤ A) (h2 : A ≤ 100) : 0 ≤ (k : Int) * A ∧ (k : Int) * A ≤ 200000 := by
  have := mul_range (a := (k : Int)) (b := A) (A := 2000) (B := 100) (by omega) (by omega) h1 h2
  omega
theorem term_w {S A v : Int} {t k : Nat} (hA : 0 ≤ A) (hA2 : A ≤ 100) (hv : 0 ≤ v) (hv2 : v ≤ 100) (hk : k ≤ t) (ht : t ≤ 1000) :
    (if w64 (w64 (w64 ((t : Int) - k) + 1) * A) < if w64 (v + w64 (k * A)) < S then w64 (v + w64 (k * A)) else S then w64 (w64 (w64 ((t : Int) - k) + 1) * A) else if w64 (v + w64 (k * A)) < S then w64 (v + w64 (k * A)) else S) = mT S A v t k := by
  have h1 := kA (k := k) (by omega) hA hA2
  have h2 := mul_range (a := (t : Int) - k + 1) (b := A) (A := 1001) (B := 100) (by omega) (by omega) hA hA2
  rw [w64_eq (n := (t : Int) - k) (by omega) (by omega), w64_eq (n := (t : Int) - k + 1) (by omega) (by omega), w64_eq (n := ((t : Int) - k + 1) * A) (by omega) (by omega), w64_eq (n := (k : Int) * A) (by omega) (by omega), w64_eq (n := v + k * A) (by omega) (by omega), ifmin]
  rfl
theorem lterm_w {A v : Int} {k : Nat} (hA : 0 ≤ A) (hA2 : A ≤ 100) (hv : 0 ≤ v) (hv2 : v ≤ 100) (hk : k ≤ 1000) :
    (if w64 (v - w64 (k * A)) > 0 then w64 (v - w64 (k * A)) else 0) = lT A v k := by
  have h1 := kA (k := k) (by omega) hA hA2
  rw [w64_eq (n := (k : Int) * A) (by omega) (by omega), w64_eq (n := v - k * A) (by omega) (by omega), max0_if]
  rfl
structure SA (S A : Int) : Prop where
  S1 : 1 ≤ S
  S2 : S ≤ 100
  A1 : 1 ≤ A
  A2 : A ≤ 100
theorem VL.sa {l : api_Lift} (h : VL l) : SA l.Speed l.Accel := ⟨h.s1, h.s2, h.a1, h.a2⟩
theorem sum_m {S A v : Int} (h : SA S A) (hv : 0 ≤ v) {t k : Nat} (hk : k ≤ t) (ht : t ≤ 1000) : 0 ≤ sumTo (mT S A v t) k ∧ sumTo (mT S A v t) k ≤ 100000 := by
  have h1 := h.S1
  have h2 := h.A1
  have := sumTo_bounds (g := mT S A v t) (B := S) (n := k) (fun j _ hj => mT_bounds (by omega) (by omega) hv (by omega))
  have h3 := mul_range (a := (k : Int)) (b := S) (A := 1000) (B := 100) (by omega) (by omega) (by omega) h.S2
  omega
theorem sum_l {A v : Int} (hA : 0 ≤ A) (hv : v ≤ 100) {k : Nat} (hk : k ≤ 1000) : 0 ≤ leastS A v k ∧ leastS A v k ≤ 100000 := by
  have := least_bounds (A := A) (v := v) (B := 100) hA hv (by omega) k
  omega
theorem most_l3_eq (N : Nat) {l : api_Lift} (h : SA l.Speed l.Accel) {v : Int} (hv : 0 ≤ v) (hv2 : v ≤ 100) {t : Nat} (ht : t ≤ 1000) (k0 : Int → Option R) : ∀ (r k n : Nat), k + r = t → r < n →
    lift_most_l3 N n v (t : Int) (sumTo (mT l.Speed l.Accel v t) k) ((k + 1 : Nat) : Int) l k0 = k0 (mostS l.Speed l.Accel v t) := by
  obtain ⟨S1, S2, A1, A2⟩ := id h
  intro r
  induction r with
  | zero =>
    intro k n h1 h2
    obtain ⟨n, rfl⟩ : ∃ m, n = m + 1 := ⟨n - 1, by omega⟩
    unfold lift_most_l3 lift_most_b3
    try unfold mnI
    try unfold mxI
    have e1 : decide (((k + 1 : Nat) : Int) ≤ (t : Int)) = false := by simp; omega
    simp only [e1, cond_false]
    have : k = t := by omega
    rw [this]; rfl
  | succ r ih =>
    intro k n h1 h2
    obtain ⟨n, rfl⟩ : ∃ m, n = m + 1 := ⟨n - 1, by omega⟩
    unfold lift_most_l3 lift_most_b3
    try unfold mnI
    try unfold mxI
    have e1 : decide (((k + 1 : Nat) : Int) ≤ (t : Int)) = true := by simp; omega
    have hs := sum_m h hv (t := t) (k := k + 1) (by omega) ht
    have e2 : sumTo (mT l.Speed l.Accel v t) (k + 1) = sumTo (mT l.Speed l.Accel v t) k + mT l.Speed l.Accel v t (k + 1) := rfl
    rw [e2] at hs
    simp only [e1, cond_true, term_w (S := l.Speed) (A := l.Accel) (v := v) (t := t) (k := k + 1) (by omega) A2 hv hv2 (by omega) ht, w64_succ (show k + 1 < 1000000000000 by omega)]
    rw [w64_eq (by omega) (by omega), ← e2]
    exact ih (k + 1) n (by omega) (by omega)
theorem most_eq {N : Nat} (hN : 1001 ≤ N) {l : api_Lift} (h : SA l.Speed l.Accel) {v : Int} (hv : 0 ≤ v) (hv2 : v ≤ 100) {t : Nat} (ht : t ≤ 1000) (k : Int → Option R) : lift_most N l v (t : Int) k = k (mostS l.Speed l.Accel v t) := by
  rw [lift_most_def]
  unfold lift_most_m
  exact most_l3_eq N h hv hv2 ht (fun r => k r) t 0 N (by omega) (by omega)
theorem least_l3_eq (N : Nat) {l : api_Lift} (h : SA l.Speed l.Accel) {v : Int} (hv : 0 ≤ v) (hv2 : v ≤ 100) {t : Nat} (ht : t ≤ 1000) (k0 : Int → Option R) : ∀ (r k n : Nat), k + r = t → r < n →
    lift_least_l3 N n v (t : Int) (leastS l.Accel v k) ((k + 1 : Nat) : Int) l k0 = k0 (leastS l.Accel v t) := by
  obtain ⟨S1, S2, A1, A2⟩ := id h
  intro r
  induction r with
  | zero =>
    intro k n h1 h2
    obtain ⟨n, rfl⟩ : ∃ m, n = m + 1 := ⟨n - 1, by omega⟩
    unfold lift_least_l3 lift_least_b3
    try unfold mnI
    try unfold mxI
    have e1 : decide (((k + 1 : Nat) : Int) ≤ (t : Int)) = false := by simp; omega
    simp only [e1, cond_false]
    have : k = t := by omega
    rw [this]
  | succ r ih =>
    intro k n h1 h2
    obtain ⟨n, rfl⟩ : ∃ m, n = m + 1 := ⟨n - 1, by omega⟩
    unfold lift_least_l3 lift_least_b3
    try unfold mnI
    try unfold mxI
    have e1 : decide (((k + 1 : Nat) : Int) ≤ (t : Int)) = true := by simp; omega
    have hs := sum_l (A := l.Accel) (v := v) (by omega) hv2 (k := k + 1) (by omega)
    have e2 : leastS l.Accel v (k + 1) = leastS l.Accel v k + lT l.Accel v (k + 1) := rfl
    rw [e2] at hs
    simp only [e1, cond_true, lterm_w (A := l.Accel) (v := v) (k := k + 1) (by omega) A2 hv hv2 (by omega), w64_succ (show k + 1 < 1000000000000 by omega)]
    rw [w64_eq (by omega) (by omega), ← e2]
    exact ih (k + 1) n (by omega) (by omega)
theorem least_eq {N : Nat} (hN : 1001 ≤ N) {l : api_Lift} (h : SA l.Speed l.Accel) {v : Int} (hv : 0 ≤ v) (hv2 : v ≤ 100) {t : Nat} (ht : t ≤ 1000) (k : Int → Option R) : lift_least N l v (t : Int) k = k (leastS l.Accel v t) := by
  rw [lift_least_def]
  unfold lift_least_m
  exact least_l3_eq N h hv hv2 ht (fun r => k r) t 0 N (by omega) (by omega)
theorem trip_l2_eq {N : Nat} (hN : 1001 ≤ N) {l : api_Lift} (h : SA l.Speed l.Accel) {way : Int} (k0 : Int → Option R) : ∀ (r t n : Nat), way ≤ (t + r : Nat) → t + r ≤ 1000 → r < n →
    lift_trip_l2 N n way (t : Int) l k0 = k0 (firstT l.Speed l.Accel way r t : Nat) := by
  intro r
  induction r with
  | zero =>
    intro t n h1 h2 h3
    obtain ⟨n, rfl⟩ : ∃ m, n = m + 1 := ⟨n - 1, by omega⟩
    unfold lift_trip_l2 lift_trip_b2
    rw [most_eq hN h (by omega) (by omega) (by omega)]
    have := most_ge h.S1 h.A1 t
    have e : decide (mostS l.Speed l.Accel 0 t < way) = false := by simp; omega
    simp only [e, cond_false, firstT]
  | succ r ih =>
    intro t n h1 h2 h3
    obtain ⟨n, rfl⟩ : ∃ m, n = m + 1 := ⟨n - 1, by omega⟩
    unfold lift_trip_l2 lift_trip_b2
    rw [most_eq hN h (by omega) (by omega) (by omega)]
    simp only [firstT]
    by_cases hc : mostS l.Speed l.Accel 0 t < way
    · simp only [hc, decide_true, cond_true, if_true, w64_succ (show t < 1000000000000 by omega)]
      exact ih (t + 1) n (by omega) (by omega) (by omega)
    · simp only [hc, decide_false, cond_false, if_false]
end
end Li
end Go.Proofs.Ytpillmoddoccfab
set_option linter.unusedVariables false
set_option linter.unusedSimpArgs false
namespace Go.Proofs.Ytpillmoddoccfab
namespace Li
open Go.Sx
theorem trip_l10_eq {N : Nat} (hN : 1001 ≤ N) {l : api_Lift} (h : SA l.Speed l.Accel) {way : Int} (hw : 0 ≤ way) {t : Nat} (ht : t ≤ 1000) (b : Bool) (a : Arr Int) {R : Type} (k : Int → Option R) : ∀ (m n : Nat), m ≤ 100 → m < n →
    lift_trip_l10 N n way (t : Int) (m : Int) l b a k = k (pick l.Accel way t m) := by
  intro m
  have hA := h.A1
  induction m with
  | zero =>
    intro n h1 h2
    obtain ⟨n, rfl⟩ : ∃ m, n = m + 1 := ⟨n - 1, by omega⟩
    unfold lift_trip_l10 lift_trip_b10
    rw [least_eq hN h (by omega) (by omega) ht, least_zero (by omega) (by omega)]
    have e : decide (w64 (((0 : Nat) : Int) + 0) > way) = false := by rw [w64_eq (by omega) (by omega)]; simp; omega
    simp only [e, cond_false, pick]
    rfl
  | succ m ih =>
    intro n h1 h2
    obtain ⟨n, rfl⟩ : ∃ m, n = m + 1 := ⟨n - 1, by omega⟩
    unfold lift_trip_l10 lift_trip_b10
    have hs := sum_l (A := l.Accel) (v := ((m + 1 : Nat) : Int)) (by omega) (by omega) ht
    rw [least_eq hN h (by omega) (by omega) ht, w64_eq (n := ((m + 1 : Nat) : Int) + _) (by omega) (by omega)]
    simp only [pick]
    by_cases hc : ((m + 1 : Nat) : Int) + leastS l.Accel ((m + 1 : Nat) : Int) t > way
    · have e : w64 (((m + 1 : Nat) : Int) - 1) = (m : Int) := by rw [w64_eq (by omega) (by omega)]; omega
      simp only [hc, decide_true, cond_true, if_true, e]
      exact ih n (by omega) (by omega)
    · simp only [hc, decide_false, cond_false, if_false]
theorem topV_w {S A v : Int} {t : Nat} (h : SA S A) (hv : 0 ≤ v) (hv2 : v ≤ 100) (ht : t ≤ 1000) :
    (if w64 (w64 ((t : Int) + 1) * A) < if w64 (v + A) < S then w64 (v + A) else S then w64 (w64 ((t : Int) + 1) * A) else if w64 (v + A) < S then w64 (v + A) else S) = ((topV S A v t).toNat : Int) := by
  obtain ⟨S1, S2, A1, A2⟩ := id h
  have hk := mul_range (a := (t : Int) + 1) (b := A) (A := 1001) (B := 100) (by omega) (by omega) (by omega) A2
  have := topV_nonneg S1 A1 hv t
  rw [w64_eq (n := (t : Int) + 1) (by omega) (by omega), w64_eq (n := ((t : Int) + 1) * A) (by omega) (by omega), w64_eq (n := v + A) (by omega) (by omega), ifmin]
  unfold topV at *
  omega
theorem trip_l7_eq {N : Nat} (hN : 1001 ≤ N) {l : api_Lift} (h : SA l.Speed l.Accel) {way : Int} {m : Nat} (hm : m ≤ 1000) (hc : Can l.Speed l.Accel 0 m way) : ∀ (r i n : Nat) (b : Bool) (a : Arr Int), i + r = m → r < n → a.Is i (tripE l.Speed l.Accel way m) →
    ∃ (b' : Bool) (a' : Arr Int), a'.Is m (tripE l.Speed l.Accel way m) ∧ ∀ {R : Type} (k : Bool → Arr Int → Option R),
    lift_trip_l7 N n (tripS l.Speed l.Accel way m i).1 (tripS l.Speed l.Accel way m i).2 ((m : Int) - 1 - i) l b a k = k b' a' := by
  intro r
  induction r with
  | zero =>
    intro i n b a h1 h2 ha
    obtain ⟨n, rfl⟩ : ∃ m, n = m + 1 := ⟨n - 1, by omega⟩
    have : i = m := by omega
    subst this
    refine ⟨b, a, ha, fun k => ?_⟩
    unfold lift_trip_l7 lift_trip_b7
    try unfold mnI
    try unfold mxI
    have e : decide ((i : Int) - 1 - i ≥ 0) = false := by simp; omega
    simp only [e, cond_false]
  | succ r ih =>
    intro i n b a h1 h2 ha
    obtain ⟨n, rfl⟩ : ∃ m, n = m + 1 := ⟨n - 1, by omega⟩
    have hn := trip_next hc (show i < m by omega)
    have hcan := trip_can hc i (by omega)
    have ha' := ha.push_int (z := [SV.int IntKind.i64 0]) (v := tripE l.Speed l.Accel way m i) rfl
    obtain ⟨b', a', h3, h4⟩ := ih (i + 1) n false _ (by omega) (by omega) ha'
    refine ⟨b', a', h3, fun k => ?_⟩
    unfold lift_trip_l7 lift_trip_b7
    try unfold mnI
    try unfold mxI
    have e0 : ((m : Int) - 1 - i) = ((m - 1 - i : Nat) : Int) := by omega
    have e : decide (((m - 1 - i : Nat) : Int) ≥ 0) = true := by simp
    have hv1 := hcan.v1
    have hv2 := hcan.v2
    have hS := h.S2
    have hwy : 0 ≤ (tripS l.Speed l.Accel way m i).1 := by have := least_nonneg l.Accel (tripS l.Speed l.Accel way m i).2 (m - i); have := hcan.lo; omega
    have htop : (topV l.Speed l.Accel (tripS l.Speed l.Accel way m i).2 (m - 1 - i)).toNat ≤ 100 := by unfold topV; omega
    rw [e0]
    simp only [e, cond_true, topV_w (t := m - 1 - i) h hv1 (show (tripS l.Speed l.Accel way m i).2 ≤ 100 by omega) (by omega)]
    rw [trip_l10_eq hN h hwy (by omega) b a _ _ N htop (by omega)]
    have hr : room (a.n + 1) = true := room_of (by rw [ha.len]; omega)
    simp only [hr, cond_true]
    have hx1 := hn.w1
    have hx2 := hn.w2
    have hx3 := hn.ok
    have hx4 := least_nonneg l.Accel (tripE l.Speed l.Accel way m i) (m - 1 - i)
    have hway : (tripS l.Speed l.Accel way m i).1 ≤ 100000 := by
      have := hcan.hi
      have := sum_m h hv1 (t := m - i) (k := m - i) (by omega) (by omega)
      unfold mostS at *
      omega
    have e5 : w64 ((tripS l.Speed l.Accel way m i).1 - tripE l.Speed l.Accel way m i) = (tripS l.Speed l.Accel way m (i + 1)).1 := by
      rw [w64_eq (by omega) (by omega)]; rfl
    have e6 : w64 (((m - 1 - i : Nat) : Int) - 1) = (m : Int) - 1 - ((i + 1 : Nat) : Int) := by
      rw [w64_eq (by omega) (by omega)]; omega
    show lift_trip_l7 N n (w64 ((tripS l.Speed l.Accel way m i).1 - tripE l.Speed l.Accel way m i)) (tripE l.Speed l.Accel way m i) (w64 (((m - 1 - i : Nat) : Int) - 1)) l false _ k = _
    rw [e5, e6]
    exact h4 k
theorem trip_eq {N : Nat} (hN : 1001 ≤ N) {l : api_Lift} (h : SA l.Speed l.Accel) {way : Int} (hw : 0 ≤ way) (hw2 : way ≤ 1000) :
    ∃ (b : Bool) (a : Arr Int), a.Is (ticksS l.Speed l.Accel way) (tripE l.Speed l.Accel way (ticksS l.Speed l.Accel way)) ∧ ∀ {R : Type} (k : Bool → Arr Int → Option R), lift_trip N l way k = k b a := by
  obtain ⟨t1, t2, t3⟩ := ticks_spec h.S1 h.A1 hw
  obtain ⟨b, a, h1, h2⟩ := trip_l7_eq hN h (m := ticksS l.Speed l.Accel way) (by omega) (can0 h.S1 h.S2 h.A1 h.A2 hw t2) (ticksS l.Speed l.Accel way) 0 N true (lst intC 0 (zeroC [SV.int IntKind.i64 0])) (by omega) (by omega) Arr.Is.zero
  refine ⟨b, a, h1, fun k => ?_⟩
  rw [lift_trip_def]
  unfold lift_trip_m
  have e := trip_l2_eq hN h (way := way) (R := _) (fun r563 => lift_trip_l7 N N way 0 (w64 (r563 - 1)) l true (lst intC 0 (zeroC [SV.int IntKind.i64 0])) (fun r587 r588 => k r587 r588)) way.toNat 0 N (by omega) (by omega) (by omega)
  refine Eq.trans e ?_
  have e2 : w64 (((ticksS l.Speed l.Accel way : Nat) : Int) - 1) = ((ticksS l.Speed l.Accel way : Nat) : Int) - 1 - ((0 : Nat) : Int) := by rw [w64_eq (by omega) (by omega)]; omega
  show lift_trip_l7 N N way 0 (w64 (((ticksS l.Speed l.Accel way : Nat) : Int) - 1)) l true _ _ = _
  rw [e2]
  exact h2 k
def floorsP (l : api_Lift) (a b : Int) : Prop := (0 ≤ a ∧ a ≤ (l.Floors.n : Int) - 1) ∧ (0 ≤ b ∧ b ≤ (l.Floors.n : Int) - 1)
instance (l : api_Lift) (a b : Int) : Decidable (floorsP l a b) := by unfold floorsP; infer_instance
def wayS (l : api_Lift) (a b : Int) : Int := max (l.Floors.f a.toNat - l.Floors.f b.toNat) (l.Floors.f b.toNat - l.Floors.f a.toNat)
theorem way_bounds {l : api_Lift} (h : VL l) {a b : Int} (hp : floorsP l a b) : 0 ≤ wayS l a b ∧ wayS l a b ≤ 1000 := by
  obtain ⟨⟨a1, a2⟩, b1, b2⟩ := hp
  have h1 := h.floor (i := a.toNat) (by omega)
  have h2 := h.floor (i := b.toNat) (by omega)
  have := h.ft
  unfold wayS
  omega
section
variable {R : Type}
theorem distance_eq {N : Nat} {l : api_Lift} (h : VL l) (a b : Int) (k : Int → Bool → Option R) : lift_distance N l a b k = if floorsP l a b then k (wayS l a b) true else k 0 false := by
  rw [lift_distance_def]
  unfold lift_distance_m
  try unfold mnI
  try unfold mxI
  have n1 := h.n1
  have n2 := h.n2
  rw [w64_eq (n := (l.Floors.n : Int) - 1) (by omega) (by omega)]
  simp only [between_eq]
  unfold floorsP
  by_cases ha : 0 ≤ a ∧ a ≤ (l.Floors.n : Int) - 1
  · by_cases hb : 0 ≤ b ∧ b ≤ (l.Floors.n : Int) - 1
    · have f1 := h.floor (i := a.toNat) (by omega)
      have f2 := h.floor (i := b.toNat) (by omega)
      have f3 := h.ft
      have c1 : (decide (0 ≤ a) && decide (a < (l.Floors.n : Int))) = true := by simp; omega
      have c2 : (decide (0 ≤ b) && decide (b < (l.Floors.n : Int))) = true := by simp; omega
      simp only [ha, hb, and_self, decide_true, Bool.not_true, cond_false, if_true]
      rw [cond_pos (by simp; omega), cond_pos (by simp; omega), w64_eq (n := l.Floors.f a.toNat - _) (by omega) (by omega), w64_eq (by omega) (by omega)]
      congr 1
      unfold wayS
      omega
    · simp only [ha, hb, and_self, decide_true, Bool.not_true, cond_false, decide_false, Bool.not_false, cond_true, and_false, if_false]
  · simp only [ha, decide_false, Bool.not_false, cond_true, false_and, if_false]
theorem Floors_eq {N : Nat} {l : api_Lift} (h : VL l) (a b : Int) (k : Bool → Option R) : newelref05_Floors N l a b k = k (decide (floorsP l a b)) := by
  rw [newelref05_Floors_def]
  unfold newelref05_Floors_m
  have n1 := h.n1
  have n2 := h.n2
  rw [w64_eq (n := (l.Floors.n : Int) - 1) (by omega) (by omega)]
  simp only [within_eq]
  unfold floorsP
  by_cases ha : 0 ≤ a ∧ a ≤ (l.Floors.n : Int) - 1 <;> simp [ha]
end
open Classical in
noncomputable def tripErr (l : api_Lift) (a b : Int) : Int := if VL l then if floorsP l a b then 0 else 1 else 50
noncomputable def tripN (l : api_Lift) (a b : Int) : Nat := if tripErr l a b = 0 then ticksS l.Speed l.Accel (wayS l a b) else 0
def tripF (l : api_Lift) (a b : Int) : Nat → Int := tripE l.Speed l.Accel (wayS l a b) (ticksS l.Speed l.Accel (wayS l a b))
theorem tripErr_zero {l : api_Lift} {a b : Int} : tripErr l a b = 0 ↔ VL l ∧ floorsP l a b := by
  unfold tripErr
  by_cases h : VL l <;> by_cases h2 : floorsP l a b <;> simp [h, h2]
theorem Trip_eq {N : Nat} (hN : 1001 ≤ N) (l : api_Lift) (a b : Int) :
    ∃ (f : Bool) (c : Arr Int), c.Is (tripN l a b) (tripF l a b) ∧ ∀ {R : Type} (k : Int → Bool → Arr Int → Option R), lift_Trip N l a b k = k (tripErr l a b) f c := by
  by_cases h : VL l
  · by_cases hp : floorsP l a b
    · have he : tripErr l a b = 0 := tripErr_zero.2 ⟨h, hp⟩
      have hw := way_bounds h hp
      obtain ⟨f, c, h1, h2⟩ := trip_eq hN h.sa hw.1 hw.2
      refine ⟨f, c, by unfold tripN; rw [if_pos he]; exact h1, fun k => ?_⟩
      rw [lift_Trip_def]
      unfold lift_Trip_m
      rw [Check_eq (by omega), checkV_pos h, he]
      simp only [bne_self_eq_false, cond_false, distance_eq h, hp, if_true, Bool.not_true, h2]
    · have he : tripErr l a b = 1 := by unfold tripErr; rw [if_pos h, if_neg hp]
      refine ⟨true, lst intC 0 (zeroC [SV.int IntKind.i64 0]), by unfold tripN; rw [if_neg (by rw [he]; omega)]; exact Arr.Is.zero, fun k => ?_⟩
      rw [lift_Trip_def]
      unfold lift_Trip_m
      rw [Check_eq (by omega), checkV_pos h, he]
      simp only [bne_self_eq_false, cond_false, distance_eq h, hp, if_false, Bool.not_false, cond_true]
  · have he : tripErr l a b = 50 := by unfold tripErr; rw [if_neg h]
    refine ⟨true, lst intC 0 (zeroC [SV.int IntKind.i64 0]), by unfold tripN; rw [if_neg (by rw [he]; omega)]; exact Arr.Is.zero, fun k => ?_⟩
    rw [lift_Trip_def]
    unfold lift_Trip_m
    rw [Check_eq (by omega), checkV_ne h, he]
    rfl
section
variable {R : Type}
end
section
variable {R : Type}
structure VD (d : api_Door) : Prop where
  w1 : 1 ≤ d.Wide
  w2 : d.Wide ≤ 50
  t1 : 0 ≤ d.Wait
  t2 : d.Wait ≤ 200
open Classical in
noncomputable def doorV (d : api_Door) : Int := if VD d then 0 else 51
theorem doorV_pos {d : api_Door} (h : VD d) : doorV d = 0 := by unfold doorV; rw [if_pos h]
theorem doorV_ne {d : api_Door} (h : ¬ VD d) : doorV d = 51 := by unfold doorV; rw [if_neg h]
theorem checkDoor_eq (N : Nat) (d : api_Door) (k : Int → Option R) : lift_checkDoor N d k = k (doorV d) := by
  rw [lift_checkDoor_def]
  unfold lift_checkDoor_m
  simp only [between_eq]
  by_cases h1 : 1 ≤ d.Wide ∧ d.Wide ≤ 50
  · by_cases h2 : 0 ≤ d.Wait ∧ d.Wait ≤ 200
    · simp only [h1, h2, and_self, decide_true, Bool.not_true, cond_false, doorV_pos ⟨h1.1, h1.2, h2.1, h2.2⟩]
    · rw [doorV_ne (fun h => h2 ⟨h.t1, h.t2⟩)]
      simp only [h1, h2, and_self, decide_true, Bool.not_true, cond_false, decide_false, Bool.not_false, cond_true]
  · rw [doorV_ne (fun h => h1 ⟨h.w1, h.w2⟩)]
    simp only [h1, decide_false, Bool.not_false, cond_true]
theorem refCheckDoor_eq (N : Nat) (d : api_Door) (k : Int → Option R) : newelref05_CheckDoor N d k = k (doorV d) := by
  rw [newelref05_CheckDoor_def]
  unfold newelref05_CheckDoor_m
  simp only [within_eq]
  by_cases h1 : 1 ≤ d.Wide ∧ d.Wide ≤ 50
  · by_cases h2 : 0 ≤ d.Wait ∧ d.Wait ≤ 200
    · simp only [h1, h2, and_self, decide_true, Bool.not_true, cond_false, doorV_pos ⟨h1.1, h1.2, h2.1, h2.2⟩]
    · rw [doorV_ne (fun h => h2 ⟨h.t1, h.t2⟩)]
      simp only [h1, h2, and_self, decide_true, Bool.not_true, cond_false, decide_false, Bool.not_false, cond_true]
  · rw [doorV_ne (fun h => h1 ⟨h.w1, h.w2⟩)]
    simp only [h1, decide_false, Bool.not_false, cond_true]
def dwellS (d : api_Door) (n : Int) : Int := 2 * d.Wide + d.Wait + n * (2 * d.Wide + d.Wait - 2)
theorem dwell_bounds {d : api_Door} (h : VD d) {n : Int} (h1 : 0 ≤ n) (h2 : n ≤ 20) : 0 ≤ n * (2 * d.Wide + d.Wait - 2) ∧ n * (2 * d.Wide + d.Wait - 2) ≤ 20 * 300 :=
  mul_range h1 h2 (by have := h.w1; have := h.t1; omega) (by have := h.w2; have := h.t2; omega)
theorem dwell_eq (N : Nat) {d : api_Door} (h : VD d) {n : Int} (h1 : 0 ≤ n) (h2 : n ≤ 20) (k : Int → Option R) : lift_dwell N d n k = k (dwellS d n) := by
  rw [lift_dwell_def]
  unfold lift_dwell_m
  obtain ⟨a, b, c, e⟩ := id h
  have := dwell_bounds h h1 h2
  rw [w64_eq (n := 2 * d.Wide) (by omega) (by omega), w64_eq (n := 2 * d.Wide + d.Wait) (by omega) (by omega), w64_eq (n := 2 * d.Wide + d.Wait - 2) (by omega) (by omega), w64_eq (n := n * _) (by omega) (by omega), w64_eq (by omega) (by omega)]
  rfl
open Classical in
noncomputable def turnV (l : api_Lift) (d : api_Door) (a b n : Int) : Int × Int :=
  if VL l then if VD d then if floorsP l a b ∧ (0 ≤ n ∧ n ≤ 20) then (ticksS l.Speed l.Accel (wayS l a b) + dwellS d n, 0) else (0, 1) else (0, 51) else (0, 50)
theorem Turn_eq {N : Nat} (hN : 1001 ≤ N) (l : api_Lift) (d : api_Door) (a b n : Int) (k : Int → Int → Option R) : lift_Turn N l d a b n k = k (turnV l d a b n).1 (turnV l d a b n).2 := by
  rw [lift_Turn_def]
  unfold lift_Turn_m
  rw [Check_eq (by omega)]
  unfold turnV
  by_cases h : VL l
  · by_cases hd : VD d
    · simp only [checkV_pos h, bne_self_eq_false, cond_false, checkDoor_eq, doorV_pos hd, h, hd, if_true, distance_eq h]
      by_cases hp : floorsP l a b
      · simp only [hp, if_true, Bool.not_true, cond_false, between_eq, true_and]
        by_cases hn : 0 ≤ n ∧ n ≤ 20
        · have hw := way_bounds h hp
          obtain ⟨f, c, h1, h2⟩ := trip_eq hN h.sa hw.1 hw.2
          obtain ⟨t1, _⟩ := ticks_spec h.sa.S1 h.sa.A1 hw.1
          have hb := dwell_bounds hd hn.1 hn.2
          obtain ⟨x1, x2, x3, x4⟩ := id hd
          simp only [hn, and_self, decide_true, Bool.not_true, cond_false, if_true, h2, dwell_eq N hd hn.1 hn.2, h1.len]
          unfold dwellS
          rw [w64_eq (by omega) (by omega)]
        · simp only [hn, decide_false, Bool.not_false, cond_true, if_false]
      · simp only [hp, if_false, Bool.not_false, cond_true, false_and]
    · simp only [checkV_pos h, bne_self_eq_false, cond_false, checkDoor_eq, doorV_ne hd, h, hd, if_true, if_false]
      rfl
  · simp only [checkV_ne h, h, if_false]
    rfl
end
end Li
end Go.Proofs.Ytpillmoddoccfab
