import Derived.Test.YtlikcijophbkbaaG2
import Derived.Test.YtlikcijophbkbaaSxMath
set_option linter.unusedVariables false
set_option linter.unusedSimpArgs false
namespace Go.Proofs.Ytlikcijophbkbaa
namespace Li
open Go.Sx
section
variable {R : Type}
theorem within_eq (N : Nat) (n lo hi : Int) (k : Bool → Option R) : newelref05_within N n lo hi k = k (decide (lo ≤ n ∧ n ≤ hi)) := by
  rw [newelref05_within_def]
  unfold newelref05_within_m
  by_cases h : lo ≤ n <;> simp [h]
theorem between_eq (N : Nat) (n lo hi : Int) (k : Bool → Option R) : lift_between N n lo hi k = k (decide (lo ≤ n ∧ n ≤ hi)) := by
  rw [lift_between_def]
  unfold lift_between_m
  by_cases h : lo ≤ n <;> simp [h]
def upF (l : api_Lift) (i : Nat) : Prop := ∀ j, i ≤ j → j + 1 < l.Floors.n → l.Floors.f j < l.Floors.f (j + 1)
structure VL (l : api_Lift) : Prop where
  c1 : 1 ≤ l.Car
  c2 : l.Car ≤ 100000
  k1 : 1 ≤ l.Counter
  k2 : l.Counter ≤ 100000
  r1 : 0 ≤ l.Rated
  r2 : l.Rated ≤ 100000
  o1 : 0 ≤ l.Rope
  o2 : l.Rope ≤ 100
  n1 : 2 ≤ l.Floors.n
  n2 : l.Floors.n ≤ 16
  f0 : l.Floors.f 0 = 0
  ft : l.Floors.f (l.Floors.n - 1) ≤ 1000
  up : upF l 0
  d1 : 1 ≤ l.Den
  d2 : l.Den ≤ l.Num
  m2 : l.Num ≤ 100
  s1 : 1 ≤ l.Speed
  s2 : l.Speed ≤ 100
  a1 : 1 ≤ l.Accel
  a2 : l.Accel ≤ 100
  v1 : 0 ≤ l.Over
  v2 : l.Over ≤ 1000
  t1 : 1 ≤ l.Stiff
  t2 : l.Stiff ≤ 10000000
  e1 : 0 ≤ l.Level
  e2 : l.Level ≤ 1000
open Classical in
noncomputable def checkV (l : api_Lift) : Int := if VL l then 0 else 50
theorem up_lt {l : api_Lift} (h : upF l 0) : ∀ (d i : Nat), i + d < l.Floors.n → l.Floors.f i + d ≤ l.Floors.f (i + d) := by
  intro d
  induction d with
  | zero => intro i hi; simp
  | succ d ih =>
    intro i hi
    have h1 := ih i (by omega)
    have h2 := h (i + d) (by omega) (by omega)
    rw [show i + (d + 1) = i + d + 1 by omega]
    omega
theorem VL.floor {l : api_Lift} (h : VL l) {i : Nat} (hi : i < l.Floors.n) : 0 ≤ l.Floors.f i ∧ l.Floors.f i ≤ l.Floors.f (l.Floors.n - 1) := by
  have h1 := up_lt h.up i 0 (by omega)
  have h2 := up_lt h.up (l.Floors.n - 1 - i) i (by omega)
  have h0 := h.f0
  rw [show i + (l.Floors.n - 1 - i) = l.Floors.n - 1 by omega] at h2
  rw [Nat.zero_add] at h1
  omega
open Classical in
theorem Check_l6_eq (N : Nat) (l : api_Lift) (hn : l.Floors.n < 1000000) (h1 : 1 ≤ l.Floors.n) (b : Arr Int) (hb : b.Is (l.Floors.n - 1) (fun i => l.Floors.f (i + 1))) (kr : Int → Option R) (k0 : Unit → Option R) : ∀ (n i : Nat), i ≤ l.Floors.n - 1 → l.Floors.n - 1 < n + i →
    lift_Check_l6 N n b ((l.Floors.n - 1 : Nat) : Int) (i : Int) l kr k0 = if upF l i then k0 () else kr 50 := by
  intro n
  induction n with
  | zero => intro i h2 h3; omega
  | succ n ih =>
    intro i h2 h3
    unfold lift_Check_l6 lift_Check_b6
    by_cases hi : i < l.Floors.n - 1
    · have e1 : decide ((i : Int) < ((l.Floors.n - 1 : Nat) : Int)) = true := by simp; omega
      have e2 : decide ((i : Int) < (b.n : Int)) = true := by rw [hb.len]; exact e1
      have e3 : decide ((i : Int) < (l.Floors.n : Int)) = true := by simp; omega
      simp only [e1, e2, e3, nat_nonneg, Bool.and_self, cond_true, Int.toNat_natCast, hb.get i hi, w64_succ (show i < 1000000000000 by omega)]
      by_cases hc : l.Floors.f (i + 1) ≤ l.Floors.f i
      · simp only [hc, decide_true, cond_true]
        rw [if_neg]
        intro h
        have := h i (Nat.le_refl _) (by omega)
        omega
      · simp only [hc, decide_false, cond_false]
        rw [ih (i + 1) (by omega) (by omega)]
        have : upF l i ↔ upF l (i + 1) := by
          constructor
          · intro h j h3 h4; exact h j (by omega) h4
          · intro h j h3 h4
            by_cases e : j = i
            · subst e; omega
            · exact h j (by omega) h4
        simp only [this]
    · have e1 : decide ((i : Int) < ((l.Floors.n - 1 : Nat) : Int)) = false := by simp; omega
      simp only [e1, cond_false]
      rw [if_pos]
      intro j h4 h5
      omega
open Classical in
theorem refCheck_l6_eq (N : Nat) (l : api_Lift) (hn : l.Floors.n < 1000000) (kr : Int → Option R) (k0 : Unit → Option R) : ∀ (n i : Nat), i + 1 ≤ l.Floors.n → l.Floors.n < n + (i + 1) →
    newelref05_Check_l6 N n ((i + 1 : Nat) : Int) l kr k0 = if (∀ j, i ≤ j → j + 1 < l.Floors.n → l.Floors.f j < l.Floors.f (j + 1) ∧ l.Floors.f (j + 1) ≤ 1000) then k0 () else kr 50 := by
  intro n
  induction n with
  | zero => intro i h2 h3; omega
  | succ n ih =>
    intro i h2 h3
    unfold newelref05_Check_l6 newelref05_Check_b6
    by_cases hi : i + 1 < l.Floors.n
    · have e1 : decide (((i + 1 : Nat) : Int) < (l.Floors.n : Int)) = true := by simp; omega
      have e2 : w64 (((i + 1 : Nat) : Int) - 1) = (i : Int) := by rw [w64_eq (by omega) (by omega)]; omega
      have e3 : decide ((i : Int) < (l.Floors.n : Int)) = true := by simp; omega
      simp only [e1, e2, e3, nat_nonneg, Bool.and_self, cond_true, Int.toNat_natCast, w64_succ (show i + 1 < 1000000000000 by omega)]
      by_cases hc : l.Floors.f (i + 1) ≤ l.Floors.f i
      · simp only [hc, decide_true, cond_true]
        rw [if_neg]
        intro h
        have := h i (Nat.le_refl _) (by omega)
        omega
      · simp only [hc, decide_false, cond_false]
        by_cases hd : l.Floors.f (i + 1) > 1000
        · simp only [hd, decide_true, cond_true]
          rw [if_neg]
          intro h
          have := h i (Nat.le_refl _) (by omega)
          omega
        · simp only [hd, decide_false, cond_false]
          rw [ih (i + 1) (by omega) (by omega)]
          have : (∀ j, i ≤ j → j + 1 < l.Floors.n → l.Floors.f j < l.Floors.f (j + 1) ∧ l.Floors.f (j + 1) ≤ 1000) ↔ (∀ j, i + 1 ≤ j → j + 1 < l.Floors.n → l.Floors.f j < l.Floors.f (j + 1) ∧ l.Floors.f (j + 1) ≤ 1000) := by
            constructor
            · intro h j h3 h4; exact h j (by omega) h4
            · intro h j h3 h4
              by_cases e : j = i
              · subst e; omega
              · exact h j (by omega) h4
          simp only [this]
    · have e1 : decide (((i + 1 : Nat) : Int) < (l.Floors.n : Int)) = false := by simp; omega
      simp only [e1, cond_false]
      rw [if_pos]
      intro j h4 h5
      omega
theorem last_idx {l : api_Lift} (h1 : 1 ≤ l.Floors.n) (h2 : l.Floors.n < 1000000) : w64 ((l.Floors.n : Int) - 1) = ((l.Floors.n - 1 : Nat) : Int) := by
  rw [w64_eq (by omega) (by omega)]; omega
theorem Check_eq {N : Nat} (hN : 20 ≤ N) (l : api_Lift) (k : Int → Option R) : lift_Check N l k = k (checkV l) := by
  rw [lift_Check_def]
  unfold lift_Check_m
  simp only [between_eq]
  have neg : ∀ {x : Int}, ¬ VL l → x = 50 → k x = k (checkV l) := fun h hx => by rw [hx]; unfold checkV; rw [if_neg h]
  by_cases h1 : 1 ≤ l.Car ∧ l.Car ≤ 100000
  case neg => simp only [h1, decide_false, Bool.not_false, cond_true]; exact neg (fun h => h1 ⟨h.c1, h.c2⟩) rfl
  simp only [h1, decide_true, and_self, Bool.not_true, cond_false]
  by_cases h2 : 1 ≤ l.Counter ∧ l.Counter ≤ 100000
  case neg => simp only [h2, decide_false, Bool.not_false, cond_true]; exact neg (fun h => h2 ⟨h.k1, h.k2⟩) rfl
  simp only [h2, decide_true, and_self, Bool.not_true, cond_false]
  by_cases h3 : 0 ≤ l.Rated ∧ l.Rated ≤ 100000
  case neg => simp only [h3, decide_false, Bool.not_false, cond_true]; exact neg (fun h => h3 ⟨h.r1, h.r2⟩) rfl
  simp only [h3, decide_true, and_self, Bool.not_true, cond_false]
  by_cases h4 : 0 ≤ l.Rope ∧ l.Rope ≤ 100
  case neg => simp only [h4, decide_false, Bool.not_false, cond_true]; exact neg (fun h => h4 ⟨h.o1, h.o2⟩) rfl
  simp only [h4, decide_true, and_self, Bool.not_true, cond_false]
  by_cases h5 : 2 ≤ (l.Floors.n : Int) ∧ (l.Floors.n : Int) ≤ 16
  case neg => simp only [h5, decide_false, Bool.not_false, cond_true]; exact neg (fun h => h5 ⟨by have := h.n1; omega, by have := h.n2; omega⟩) rfl
  simp only [h5, decide_true, and_self, Bool.not_true, cond_false]
  have e0 : decide ((0 : Int) < (l.Floors.n : Int)) = true := by simp; omega
  simp only [e0, cond_true]
  by_cases h6 : l.Floors.f 0 = 0
  case neg => 
    have : (l.Floors.f (Int.toNat 0) != 0) = true := by simpa using h6
    simp only [this, cond_true]; exact neg (fun h => h6 h.f0) rfl
  have e6 : (l.Floors.f (Int.toNat 0) != 0) = false := by simpa using h6
  have e7 : decide (((l.Floors.n - 1 : Nat) : Int) < (l.Floors.n : Int)) = true := by simp; omega
  simp only [e6, cond_false, last_idx (l := l) (by omega) (by omega), nat_nonneg, e7, Bool.and_self, cond_true, Int.toNat_natCast]
  by_cases h7 : l.Floors.f (l.Floors.n - 1) > 1000
  · simp only [h7, decide_true, cond_true]; exact neg (fun h => by have := h.ft; omega) rfl
  have e8 : decide ((1 : Int) ≤ (l.Floors.n : Int)) = true := by simp; omega
  simp only [h7, decide_false, cond_false, e8, Int.le_refl, decide_true, Bool.and_self, cond_true]
  have := Check_l6_eq (R := R) N l (by omega) (by omega) (lst intC (l.Floors.n - Int.toNat 1) fun (i j : Nat) => Cod.cell intC l.Floors.f (Int.toNat 1 + i) j) ⟨rfl, fun i hi => by show l.Floors.f (1 + i) = _; rw [Nat.add_comm]⟩
  rw [show ((l.Floors.n - Int.toNat 1 : Nat) : Int) = ((l.Floors.n - 1 : Nat) : Int) from rfl, show (0 : Int) = ((0 : Nat) : Int) from rfl, this _ _ N 0 (by omega) (by omega)]
  by_cases h8 : upF l 0
  case neg => rw [if_neg h8]; exact neg (fun h => h8 h.up) rfl
  rw [if_pos h8]
  show (bif decide (l.Den < 1) then k 50 else _) = _
  by_cases h9 : l.Den < 1
  · simp only [h9, decide_true, cond_true]; exact neg (fun h => by have := h.d1; omega) rfl
  simp only [h9, decide_false, cond_false]
  by_cases h10 : l.Num < l.Den
  · simp only [h10, decide_true, cond_true]; exact neg (fun h => by have := h.d2; omega) rfl
  simp only [h10, decide_false, cond_false]
  by_cases h11 : l.Num > 100
  · simp only [h11, decide_true, cond_true]; exact neg (fun h => by have := h.m2; omega) rfl
  simp only [h11, decide_false, cond_false]
  by_cases h12 : 1 ≤ l.Speed ∧ l.Speed ≤ 100
  case neg => simp only [h12, decide_false, Bool.not_false, cond_true]; exact neg (fun h => h12 ⟨h.s1, h.s2⟩) rfl
  simp only [h12, decide_true, and_self, Bool.not_true, cond_false]
  by_cases h13 : 1 ≤ l.Accel ∧ l.Accel ≤ 100
  case neg => simp only [h13, decide_false, Bool.not_false, cond_true]; exact neg (fun h => h13 ⟨h.a1, h.a2⟩) rfl
  simp only [h13, decide_true, and_self, Bool.not_true, cond_false]
  by_cases h14 : 0 ≤ l.Over ∧ l.Over ≤ 1000
  case neg => simp only [Int.natCast_zero, h14, decide_false, Bool.not_false, cond_true]; exact neg (fun h => h14 ⟨h.v1, h.v2⟩) rfl
  simp only [Int.natCast_zero, h14, decide_true, and_self, Bool.not_true, cond_false]
  by_cases h15 : 1 ≤ l.Stiff ∧ l.Stiff ≤ 10000000
  case neg => simp only [h15, decide_false, Bool.not_false, cond_true]; exact neg (fun h => h15 ⟨h.t1, h.t2⟩) rfl
  simp only [h15, decide_true, and_self, Bool.not_true, cond_false]
  by_cases h16 : 0 ≤ l.Level ∧ l.Level ≤ 1000
  case neg => simp only [h16, decide_false, Bool.not_false, cond_true]; exact neg (fun h => h16 ⟨h.e1, h.e2⟩) rfl
  simp only [h16, decide_true, and_self, Bool.not_true, cond_false]
  unfold checkV
  rw [if_pos ⟨h1.1, h1.2, h2.1, h2.2, h3.1, h3.2, h4.1, h4.2, by omega, by omega, h6, by omega, h8, by omega, by omega, by omega, h12.1, h12.2, h13.1, h13.2, h14.1, h14.2, h15.1, h15.2, h16.1, h16.2⟩]
theorem refCheck_eq {N : Nat} (hN : 20 ≤ N) (l : api_Lift) (k : Int → Option R) : newelref05_Check N l k = k (checkV l) := by
  rw [newelref05_Check_def]
  unfold newelref05_Check_m
  simp only [within_eq]
  have neg : ∀ {x : Int}, ¬ VL l → x = 50 → k x = k (checkV l) := fun h hx => by rw [hx]; unfold checkV; rw [if_neg h]
  by_cases h1 : 1 ≤ l.Car ∧ l.Car ≤ 100000
  case neg => simp only [h1, decide_false, Bool.not_false, cond_true]; exact neg (fun h => h1 ⟨h.c1, h.c2⟩) rfl
  simp only [h1, decide_true, and_self, Bool.not_true, cond_false]
  by_cases h2 : 1 ≤ l.Counter ∧ l.Counter ≤ 100000
  case neg => simp only [h2, decide_false, Bool.not_false, cond_true]; exact neg (fun h => h2 ⟨h.k1, h.k2⟩) rfl
  simp only [h2, decide_true, and_self, Bool.not_true, cond_false]
  by_cases h3 : 0 ≤ l.Rated ∧ l.Rated ≤ 100000
  case neg => simp only [h3, decide_false, Bool.not_false, cond_true]; exact neg (fun h => h3 ⟨h.r1, h.r2⟩) rfl
  simp only [h3, decide_true, and_self, Bool.not_true, cond_false]
  by_cases h4 : 0 ≤ l.Rope ∧ l.Rope ≤ 100
  case neg => simp only [h4, decide_false, Bool.not_false, cond_true]; exact neg (fun h => h4 ⟨h.o1, h.o2⟩) rfl
  simp only [h4, decide_true, and_self, Bool.not_true, cond_false]
  by_cases h5 : 2 ≤ (l.Floors.n : Int) ∧ (l.Floors.n : Int) ≤ 16
  case neg => simp only [h5, decide_false, Bool.not_false, cond_true]; exact neg (fun h => h5 ⟨by have := h.n1; omega, by have := h.n2; omega⟩) rfl
  simp only [h5, decide_true, and_self, Bool.not_true, cond_false]
  have e0 : decide ((0 : Int) < (l.Floors.n : Int)) = true := by simp; omega
  simp only [e0, cond_true]
  by_cases h6 : l.Floors.f 0 = 0
  case neg => 
    have : (l.Floors.f (Int.toNat 0) != 0) = true := by simpa using h6
    simp only [this, cond_true]; exact neg (fun h => h6 h.f0) rfl
  have e6 : (l.Floors.f (Int.toNat 0) != 0) = false := by simpa using h6
  simp only [e6, cond_false]
  rw [show (1 : Int) = ((0 + 1 : Nat) : Int) from rfl, refCheck_l6_eq N l (by omega) _ _ N 0 (by omega) (by omega)]
  by_cases h8 : ∀ j, 0 ≤ j → j + 1 < l.Floors.n → l.Floors.f j < l.Floors.f (j + 1) ∧ l.Floors.f (j + 1) ≤ 1000
  case neg =>
    rw [if_neg h8]
    exact neg (fun h => h8 (fun j _ hj => ⟨h.up j (by omega) hj, by have := h.floor hj; have := h.ft; omega⟩)) rfl
  rw [if_pos h8]
  have h8u : upF l 0 := fun j h1 h2 => (h8 j h1 h2).1
  have h8t : l.Floors.f (l.Floors.n - 1) ≤ 1000 := by
    have := (h8 (l.Floors.n - 2) (by omega) (by omega)).2
    rw [show l.Floors.n - 2 + 1 = l.Floors.n - 1 by omega] at this
    exact this
  simp only [show ((0 + 1 : Nat) : Int) = 1 from rfl]
  by_cases h9 : 1 ≤ l.Den ∧ l.Den ≤ l.Num
  case neg => simp only [h9, decide_false, Bool.not_false, cond_true]; exact neg (fun h => h9 ⟨h.d1, h.d2⟩) rfl
  simp only [h9, decide_true, and_self, Bool.not_true, cond_false]
  by_cases h11 : l.Num > 100
  · simp only [h11, decide_true, cond_true]; exact neg (fun h => by have := h.m2; omega) rfl
  simp only [h11, decide_false, cond_false]
  by_cases h12 : 1 ≤ l.Speed ∧ l.Speed ≤ 100
  case neg => simp only [h12, decide_false, Bool.not_false, cond_true]; exact neg (fun h => h12 ⟨h.s1, h.s2⟩) rfl
  simp only [h12, decide_true, and_self, Bool.not_true, cond_false]
  by_cases h13 : 1 ≤ l.Accel ∧ l.Accel ≤ 100
  case neg => simp only [h13, decide_false, Bool.not_false, cond_true]; exact neg (fun h => h13 ⟨h.a1, h.a2⟩) rfl
  simp only [h13, decide_true, and_self, Bool.not_true, cond_false]
  by_cases h14 : 0 ≤ l.Over ∧ l.Over ≤ 1000
  case neg => simp only [h14, decide_false, Bool.not_false, cond_true]; exact neg (fun h => h14 ⟨h.v1, h.v2⟩) rfl
  simp only [h14, decide_true, and_self, Bool.not_true, cond_false]
  by_cases h15 : 1 ≤ l.Stiff ∧ l.Stiff ≤ 10000000
  case neg => simp only [h15, decide_false, Bool.not_false, cond_true]; exact neg (fun h => h15 ⟨h.t1, h.t2⟩) rfl
  simp only [h15, decide_true, and_self, Bool.not_true, cond_false]
  by_cases h16 : 0 ≤ l.Level ∧ l.Level ≤ 1000
  case neg => simp only [h16, decide_false, Bool.not_false, cond_true]; exact neg (fun h => h16 ⟨h.e1, h.e2⟩) rfl
  simp only [h16, decide_true, and_self, Bool.not_true, cond_false]
  unfold checkV
  rw [if_pos ⟨h1.1, h1.2, h2.1, h2.2, h3.1, h3.2, h4.1, h4.2, by omega, by omega, h6, h8t, h8u, by omega, by omega, by omega, h12.1, h12.2, h13.1, h13.2, h14.1, h14.2, h15.1, h15.2, h16.1, h16.2⟩]
theorem checkV_ne {l : api_Lift} (h : ¬ VL l) : checkV l = 50 := by unfold checkV; rw [if_neg h]
theorem checkV_pos {l : api_Lift} (h : VL l) : checkV l = 0 := by unfold checkV; rw [if_pos h]
def topS (l : api_Lift) : Int := l.Floors.f (l.Floors.n - 1)
theorem top_eq {N : Nat} {l : api_Lift} (h1 : 1 ≤ l.Floors.n) (h2 : l.Floors.n < 1000000) (k : Int → Option R) : lift_top N l k = k (topS l) := by
  rw [lift_top_def]
  unfold lift_top_m
  have e7 : decide (((l.Floors.n - 1 : Nat) : Int) < (l.Floors.n : Int)) = true := by simp; omega
  simp only [last_idx h1 h2, nat_nonneg, e7, Bool.and_self, cond_true, Int.toNat_natCast, topS]
theorem VL.top {l : api_Lift} (h : VL l) : 1 ≤ topS l ∧ topS l ≤ 1000 := by
  have h1 := up_lt h.up (l.Floors.n - 1) 0 (by have := h.n1; omega)
  have := h.f0
  have := h.ft
  have := h.n1
  rw [Nat.zero_add] at h1
  unfold topS
  omega
def sideA (l : api_Lift) (h load : Int) : Int := l.Car + load + l.Rope * (topS l - h)
def sideB (l : api_Lift) (h : Int) : Int := l.Counter + l.Rope * h
structure SL (l : api_Lift) : Prop where
  n1 : 1 ≤ l.Floors.n
  n2 : l.Floors.n < 1000000
  c1 : 0 ≤ l.Car
  c2 : l.Car ≤ 100000
  k1 : 0 ≤ l.Counter
  k2 : l.Counter ≤ 100000
  o1 : 0 ≤ l.Rope
  o2 : l.Rope ≤ 100
  t1 : 0 ≤ topS l
  t2 : topS l ≤ 1000
theorem VL.sl {l : api_Lift} (h : VL l) : SL l := ⟨by have := h.n1; omega, by have := h.n2; omega, by have := h.c1; omega, h.c2, by have := h.k1; omega, h.k2, h.o1, h.o2, by have := h.top; omega, h.top.2⟩
theorem side_bounds {l : api_Lift} (h : SL l) {x y : Int} (hx : 0 ≤ x) (hx2 : x ≤ topS l) (hy : 0 ≤ y) (hy2 : y ≤ 100000) :
    0 ≤ sideA l x y ∧ sideA l x y ≤ 300000 ∧ 0 ≤ sideB l x ∧ sideB l x ≤ 200000 ∧ 0 ≤ l.Rope * (topS l - x) ∧ l.Rope * (topS l - x) ≤ 100000 ∧ 0 ≤ l.Rope * x ∧ l.Rope * x ≤ 100000 := by
  have := h.t2
  have h1 := mul_range h.o1 h.o2 (show 0 ≤ topS l - x by omega) (show topS l - x ≤ 1000 by omega)
  have h2 := mul_range h.o1 h.o2 hx (show x ≤ 1000 by omega)
  have := h.c1
  have := h.c2
  have := h.k1
  have := h.k2
  unfold sideA sideB
  omega
theorem sides_eq {N : Nat} {l : api_Lift} (h : SL l) {x y : Int} (hx : 0 ≤ x) (hx2 : x ≤ topS l) (hy : 0 ≤ y) (hy2 : y ≤ 100000) (k : Int → Int → Option R) : lift_sides N l x y k = k (sideA l x y) (sideB l x) := by
  rw [lift_sides_def]
  unfold lift_sides_m
  rw [top_eq h.n1 h.n2]
  have hb := side_bounds h hx hx2 hy hy2
  have := h.t2
  have := h.c1
  have := h.c2
  have := h.k1
  have := h.k2
  rw [w64_eq (n := topS l - x) (by omega) (by omega), w64_eq (n := l.Rope * (topS l - x)) (by omega) (by omega), w64_eq (n := l.Rope * x) (by omega) (by omega), w64_eq (n := l.Car + y) (by omega) (by omega), w64_eq (by omega) (by omega), w64_eq (by omega) (by omega)]
  rfl
def slipP (l : api_Lift) (x y a : Int) : Prop := max (sideA l x y) (sideB l x) * (1000 + a) * l.Den > min (sideA l x y) (sideB l x) * (1000 - a) * l.Num
instance (l : api_Lift) (x y a : Int) : Decidable (slipP l x y a) := by unfold slipP; infer_instance
theorem slips_w {a b acc den num : Int} (ha : 0 ≤ a) (ha2 : a ≤ 300000) (hb : 0 ≤ b) (hb2 : b ≤ 300000) (hc : 0 ≤ acc) (hc2 : acc ≤ 1000) (hd : 0 ≤ den) (hd2 : den ≤ 100) (hn : 0 ≤ num) (hn2 : num ≤ 100) :
    decide (w64 (w64 (mxI a b * w64 ((1000 : Int) + acc)) * den) > w64 (w64 (mnI a b * w64 ((1000 : Int) - acc)) * num)) = decide (max a b * (1000 + acc) * den > min a b * (1000 - acc) * num) := by
  have e1 := mxI_eq a b
  have e2 := mnI_eq a b
  rw [e1, e2, w64_eq (n := 1000 + acc) (by omega) (by omega), w64_eq (n := 1000 - acc) (by omega) (by omega)]
  have h1 := mul_range (a := max a b) (b := 1000 + acc) (A := 300000) (B := 2000) (by omega) (by omega) (by omega) (by omega)
  have h2 := mul_range (a := min a b) (b := 1000 - acc) (A := 300000) (B := 2000) (by omega) (by omega) (by omega) (by omega)
  have h3 := mul_range h1.1 h1.2 hd hd2
  have h4 := mul_range h2.1 h2.2 hn hn2
  rw [w64_eq (n := max a b * (1000 + acc)) (by omega) (by omega), w64_eq (n := min a b * (1000 - acc)) (by omega) (by omega), w64_eq (by omega) (by omega), w64_eq (by omega) (by omega)]
theorem slips_eq {N : Nat} {l : api_Lift} (h : VL l) {x y a : Int} (hx : 0 ≤ x) (hx2 : x ≤ topS l) (hy : 0 ≤ y) (hy2 : y ≤ 100000) (ha : 0 ≤ a) (ha2 : a ≤ 1000) (k : Bool → Option R) : lift_slips N l x y a k = k (decide (slipP l x y a)) := by
  rw [lift_slips_def]
  unfold lift_slips_m
  have hb := side_bounds h.sl hx hx2 hy hy2
  have := h.d1
  have := h.d2
  have := h.m2
  rw [sides_eq h.sl hx hx2 hy hy2, slips_w (by omega) (by omega) (by omega) (by omega) ha ha2 (by omega) (by omega) (by omega) (by omega)]
  rfl
end
end Li
end Go.Proofs.Ytlikcijophbkbaa
