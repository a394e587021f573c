import Derived.Test.YtlikcijophbkbaaDsP1
import Derived.Test.YtlikcijophbkbaaSxMath
set_option linter.unusedVariables false
set_option linter.unusedSimpArgs false
namespace Go.Proofs.Ytlikcijophbkbaa
namespace Ds
open Go.Sx
section
variable {R : Type}
open Classical in
theorem refCheck_l4_eq (N : Nat) (e : api_Escalator) (ha : e.Brakes.n < 1000000) (kr : Int → Option R) (k0 : Unit → Option R) : ∀ (n i : Nat), i ≤ e.Brakes.n → e.Brakes.n < n + i → 
    newelref01_Check_l4 N n (i : Int) e kr k0 = if okBrakes e.Brakes i then k0 () else kr 10 := by
  intro n
  induction n with
  | zero => intro i h1 h2; omega
  | succ n ih =>
    intro i h1 h2
    unfold newelref01_Check_l4 newelref01_Check_b4
    by_cases hi : i < e.Brakes.n
    · have e1 : decide ((i : Int) < (e.Brakes.n : Int)) = true := by simpa using hi
      simp only [e1, nat_nonneg, Bool.and_self, cond_true, within_eq, Int.toNat_natCast]
      by_cases hb : okBrake (e.Brakes.f i)
      · obtain ⟨hb1, hb2⟩ := hb
        simp only [hb1, hb2, and_self, decide_true, Bool.not_true, cond_false, w64_succ (show i < 1000000000000 by omega)]
        rw [ih (i + 1) (by omega) (by omega)]
        have : okBrakes e.Brakes i ↔ okBrakes e.Brakes (i + 1) := by
          constructor
          · intro h j h3 h4; exact h j (by omega) h4
          · intro h j h3 h4
            by_cases e : j = i
            · subst e; exact ⟨hb1, hb2⟩
            · exact h j (by omega) h4
        simp only [this]
      · rw [if_neg (fun h => hb (h i (Nat.le_refl _) hi))]
        by_cases hb1 : 0 ≤ (e.Brakes.f i).Force ∧ (e.Brakes.f i).Force ≤ 10000000
        · have hb2 : ¬ (0 ≤ (e.Brakes.f i).Delay ∧ (e.Brakes.f i).Delay ≤ 20) := fun h => hb ⟨hb1, h⟩
          simp only [hb1, hb2, and_self, decide_true, decide_false, Bool.not_true, Bool.not_false, cond_false, cond_true]
        · simp only [hb1, decide_false, Bool.not_false, cond_true]
    · have e1 : decide ((i : Int) < (e.Brakes.n : Int)) = false := by simpa using hi
      simp only [e1, cond_false]
      rw [if_pos]
      intro j h3 h4
      omega
theorem refCheck_eq {N : Nat} (hN : 10 ≤ N) (e : api_Escalator) (k : Int → Option R) : newelref01_Check N e k = k (checkV e) := by
  rw [newelref01_Check_def]
  unfold newelref01_Check_m
  simp only [within_eq]
  have neg : ∀ {x : Int}, ¬ VE e → x = 10 → k x = k (checkV e) := fun h hx => by rw [hx]; unfold checkV; rw [if_neg h]
  by_cases h1 : 1 ≤ e.Empty ∧ e.Empty ≤ 100000
  case neg => simp only [h1, decide_false, Bool.not_false, cond_true]; exact neg (fun h => h1 ⟨h.e1, h.e2⟩) rfl
  simp only [h1, decide_true, and_self, Bool.not_true, cond_false]
  by_cases h3 : 0 ≤ e.Pull ∧ e.Pull ≤ 100
  case neg => simp only [h3, decide_false, Bool.not_false, cond_true]; exact neg (fun h => h3 ⟨h.p1, h.p2⟩) rfl
  simp only [h3, decide_true, and_self, Bool.not_true, cond_false]
  by_cases h4 : 0 ≤ e.Drag ∧ e.Drag ≤ 10000000
  case neg => simp only [h4, decide_false, Bool.not_false, cond_true]; exact neg (fun h => h4 ⟨h.d1, h.d2⟩) rfl
  simp only [h4, decide_true, and_self, Bool.not_true, cond_false]
  by_cases h5 : 0 ≤ e.Motor ∧ e.Motor ≤ 10000000
  case neg => simp only [h5, decide_false, Bool.not_false, cond_true]; exact neg (fun h => h5 ⟨h.m1, h.m2⟩) rfl
  simp only [h5, decide_true, and_self, Bool.not_true, cond_false]
  by_cases h6 : (e.Brakes.n : Int) > 3
  · simp only [h6, decide_true, cond_true]; exact neg (fun h => by have := h.n; omega) rfl
  simp only [h6, decide_false, cond_false]
  have := refCheck_l4_eq N e (by omega) (fun r => k r) (fun _ => k 0) N 0 (by omega) (by omega)
  simp only [Int.natCast_zero] at this
  rw [this]
  by_cases h7 : okBrakes e.Brakes 0
  · rw [if_pos h7]; unfold checkV; rw [if_pos ⟨h1.1, h1.2, h3.1, h3.2, h4.1, h4.2, h5.1, h5.2, by omega, h7⟩]
  · rw [if_neg h7]; exact neg (fun h => h7 h.br) rfl
structure VS (e : api_Escalator) (s : api_Stop) : Prop where
  s1 : 0 ≤ s.Speed
  s2 : s.Speed ≤ 1000
  l1 : 0 ≤ s.Loads.Low
  l2 : s.Loads.Low ≤ s.Loads.High
  l3 : s.Loads.High ≤ 100000
  f1 : 0 ≤ s.Fail
  f2 : s.Fail < 2 ^ e.Brakes.n
open Classical in
noncomputable def stopV (e : api_Escalator) (s : api_Stop) : Int := if VE e then (if VS e s then 0 else 11) else 10
theorem pow_small {n : Nat} (h : n ≤ 3) : (1 : Int) ≤ 2 ^ n ∧ (2 : Int) ^ n ≤ 8 := by
  match n, h with
  | 0, _ => decide
  | 1, _ => decide
  | 2, _ => decide
  | 3, _ => decide
  | n + 4, h => omega
theorem min64 {n : Nat} (h : n ≤ 3) : min (Int.toNat (n : Int)) (IntKind.bits IntKind.i64) = n := by
  show min (Int.toNat (n : Int)) 64 = n
  simp only [Int.toNat_natCast]; omega
theorem checkStop_eq {N : Nat} (hN : 10 ≤ N) (e : api_Escalator) (s : api_Stop) (k : Int → Option R) : drive_checkStop N e s k = k (stopV e s) := by
  rw [drive_checkStop_def]
  unfold drive_checkStop_m
  rw [Check_eq hN]
  by_cases hV : VE e
  case neg =>
    have h1 : checkV e = 10 := by unfold checkV; rw [if_neg hV]
    have h2 : stopV e s = 10 := by unfold stopV; rw [if_neg hV]
    rw [h1, h2]; rfl
  have h1 : checkV e = 0 := by unfold checkV; rw [if_pos hV]
  rw [h1]
  simp only [to_eq, in_eq, bne_self_eq_false, cond_false]
  have neg : ∀ {x : Int}, ¬ VS e s → x = 11 → k x = k (stopV e s) := fun h hx => by rw [hx]; unfold stopV; rw [if_pos hV, if_neg h]
  have hn := hV.n
  have hp := pow_small hn
  by_cases h2 : 0 ≤ s.Speed ∧ s.Speed ≤ 1000
  case neg => simp only [h2, decide_false, Bool.not_false, cond_true]; exact neg (fun h => h2 ⟨h.s1, h.s2⟩) rfl
  simp only [h2, decide_true, and_self, Bool.not_true, cond_false]
  by_cases h3 : s.Loads.Low < 0
  · simp only [h3, decide_true, cond_true]; exact neg (fun h => by have := h.l1; omega) rfl
  simp only [h3, decide_false, cond_false]
  by_cases h4 : s.Loads.Low > s.Loads.High
  · simp only [h4, decide_true, cond_true]; exact neg (fun h => by have := h.l2; omega) rfl
  simp only [h4, decide_false, cond_false]
  by_cases h5 : s.Loads.High > 100000
  · simp only [h5, decide_true, cond_true]; exact neg (fun h => by have := h.l3; omega) rfl
  simp only [h5, decide_false, cond_false]
  by_cases h6 : s.Fail < 0
  · simp only [h6, decide_true, cond_true]; exact neg (fun h => by have := h.f1; omega) rfl
  simp only [h6, decide_false, cond_false, min64 hn, Int.one_mul]
  rw [w64_eq (by omega) (by omega)]
  by_cases h7 : s.Fail ≥ 2 ^ e.Brakes.n
  · simp only [h7, decide_true, cond_true]; exact neg (fun h => by have := h.f2; omega) rfl
  simp only [h7, decide_false, cond_false]
  unfold stopV
  rw [if_pos hV, if_pos ⟨h2.1, h2.2, by omega, by omega, by omega, by omega, by omega⟩]
theorem refCheckStop_eq {N : Nat} (hN : 10 ≤ N) (e : api_Escalator) (s : api_Stop) (k : Int → Option R) : newelref01_CheckStop N e s k = k (stopV e s) := by
  rw [newelref01_CheckStop_def]
  unfold newelref01_CheckStop_m
  rw [refCheck_eq hN]
  by_cases hV : VE e
  case neg =>
    have h1 : checkV e = 10 := by unfold checkV; rw [if_neg hV]
    have h2 : stopV e s = 10 := by unfold stopV; rw [if_neg hV]
    rw [h1, h2]; rfl
  have h1 : checkV e = 0 := by unfold checkV; rw [if_pos hV]
  rw [h1]
  have hn := hV.n
  have hp := pow_small hn
  simp only [within_eq, bne_self_eq_false, cond_false, u64_nat (show e.Brakes.n < 1000000000 by omega), min64 hn, Int.one_mul]
  rw [w64_eq (n := 2 ^ e.Brakes.n) (by omega) (by omega), w64_eq (by omega) (by omega)]
  have neg : ∀ {x : Int}, ¬ VS e s → x = 11 → k x = k (stopV e s) := fun h hx => by rw [hx]; unfold stopV; rw [if_pos hV, if_neg h]
  by_cases h2 : 0 ≤ s.Speed ∧ s.Speed ≤ 1000
  case neg => simp only [h2, decide_false, Bool.not_false, cond_true]; exact neg (fun h => h2 ⟨h.s1, h.s2⟩) rfl
  simp only [h2, decide_true, and_self, Bool.not_true, cond_false]
  by_cases h3 : s.Loads.Low < 0
  · simp only [h3, decide_true, cond_true]; exact neg (fun h => by have := h.l1; omega) rfl
  simp only [h3, decide_false, cond_false]
  by_cases h4 : s.Loads.High < s.Loads.Low
  · simp only [h4, decide_true, cond_true]; exact neg (fun h => by have := h.l2; omega) rfl
  simp only [h4, decide_false, cond_false]
  by_cases h5 : s.Loads.High > 100000
  · simp only [h5, decide_true, cond_true]; exact neg (fun h => by have := h.l3; omega) rfl
  simp only [h5, decide_false, cond_false]
  by_cases h6 : 0 ≤ s.Fail ∧ s.Fail ≤ 2 ^ e.Brakes.n - 1
  case neg => simp only [h6, decide_false, Bool.not_false, cond_true]; exact neg (fun h => h6 ⟨h.f1, by have := h.f2; omega⟩) rfl
  simp only [h6, decide_true, and_self, Bool.not_true, cond_false]
  unfold stopV
  rw [if_pos hV, if_pos ⟨h2.1, h2.2, by omega, by omega, by omega, by omega, by omega⟩]
def gripS (a : Arr api_Brake) (fail t : Int) : Nat → Int
  | 0 => 0
  | i + 1 => gripS a fail t i + (if (fail.toNat.testBit i) = false ∧ (a.f i).Delay ≤ t then (a.f i).Force else 0)
theorem gripS_bounds {a : Arr api_Brake} (h : okBrakes a 0) (fail t : Int) : ∀ i, i ≤ a.n → 0 ≤ gripS a fail t i ∧ gripS a fail t i ≤ i * 10000000 := by
  intro i
  induction i with
  | zero => intro _; simp [gripS]
  | succ i ih =>
    intro hi
    have h1 := ih (by omega)
    obtain ⟨⟨h2, h3⟩, _⟩ := h i (by omega) (by omega)
    simp only [gripS]
    split <;> omega
def gripE (e : api_Escalator) (fail t : Int) : Int := gripS e.Brakes fail t e.Brakes.n
theorem gripE_bounds {e : api_Escalator} (h : VE e) (fail t : Int) : 0 ≤ gripE e fail t ∧ gripE e fail t ≤ 30000000 := by
  have := gripS_bounds h.br fail t e.Brakes.n (Nat.le_refl _)
  have hn := h.n
  unfold gripE
  omega
theorem bit_eq0 {a : Int} (h0 : 0 ≤ a) (h1 : a < 9223372036854775808) {i : Nat} (hi : i < 64) :
    (w64 (↑(BitVec.toNat (BitVec.ofInt (IntKind.bits IntKind.i64) (Int.fdiv a ((2 : Int) ^ min i (IntKind.bits IntKind.i64))) &&& BitVec.ofInt (IntKind.bits IntKind.i64) (1 : Int))) : Int) == (0 : Int)) = !(a.toNat.testBit i) := bit64_eq0 h0 h1 hi
theorem grip_l2_eq (N : Nat) (m : drive_motion) (a : Arr api_Brake) (h : okBrakes a 0) (ha : a.n ≤ 3) (hf : 0 ≤ m.f_s.Fail) (hf2 : m.f_s.Fail < 1000000) (k0 : Int → Option R) : ∀ (n i : Nat), i ≤ a.n → a.n < n + i → 
    drive_motion_grip_l2 N n m (gripS a m.f_s.Fail m.f_time i) a (a.n : Int) (i : Int) k0 = k0 (gripS a m.f_s.Fail m.f_time a.n) := by
  intro n
  induction n with
  | zero => intro i h1 h2; omega
  | succ n ih =>
    intro i h1 h2
    unfold drive_motion_grip_l2 drive_motion_grip_b2
    by_cases hi : i < a.n
    · have e1 : decide ((i : Int) < (a.n : Int)) = true := by simpa using hi
      have e2 : decide ((i : Int) < 0) = false := by simp
      simp only [e1, e2, nat_nonneg, Bool.and_self, cond_true, cond_false, Int.toNat_natCast, bit_eq0 hf (show m.f_s.Fail < 9223372036854775808 by omega) (show i < 64 by omega), w64_succ (show i < 1000000000000 by omega)]
      have hb := gripS_bounds h m.f_s.Fail m.f_time i (by omega)
      have ho := (h i (by omega) hi).1
      have hih := ih (i + 1) (by omega) (by omega)
      simp only [gripS] at hih
      cases ht : m.f_s.Fail.toNat.testBit i
      · by_cases hd : (a.f i).Delay ≤ m.f_time
        · simp only [ht, hd, and_self, if_true] at hih
          simp only [hd, Bool.not_false, cond_true, decide_true]
          rw [w64_eq (by omega) (by omega)]
          exact hih
        · simp only [ht, hd, and_false, if_false, Int.add_zero] at hih
          simp only [hd, Bool.not_false, cond_true, decide_false, cond_false]
          exact hih
      · simp only [ht, Bool.true_eq_false, false_and, if_false, Int.add_zero] at hih
        simp only [Bool.not_true, cond_false]
        exact hih
    · have e1 : decide ((i : Int) < (a.n : Int)) = false := by simpa using hi
      have : i = a.n := by omega
      subst this
      simp only [e1, cond_false]
theorem grip_eq {N : Nat} (hN : 10 ≤ N) (m : drive_motion) (h : VE m.f_e) (hf : 0 ≤ m.f_s.Fail) (hf2 : m.f_s.Fail < 1000000) (k : Int → Option R) : drive_motion_grip N m k = k (gripE m.f_e m.f_s.Fail m.f_time) := by
  rw [drive_motion_grip_def]
  unfold drive_motion_grip_m
  have hn := h.n
  exact grip_l2_eq N m m.f_e.Brakes h.br hn hf hf2 (fun r => k r) N 0 (by omega) (by omega)
def edgeV (e : api_Escalator) (s : api_Stop) (most : Bool) (v t : Int) : Int :=
  if most then max (tickS e v s.Loads.Low (gripE e s.Fail t)) (tickS e v s.Loads.High (gripE e s.Fail t))
  else min (tickS e v s.Loads.Low (gripE e s.Fail t)) (tickS e v s.Loads.High (gripE e s.Fail t))
def edgeL (e : api_Escalator) (s : api_Stop) (most : Bool) (v t : Int) : Int :=
  if most then (if tickS e v s.Loads.High (gripE e s.Fail t) > tickS e v s.Loads.Low (gripE e s.Fail t) then s.Loads.High else s.Loads.Low)
  else (if tickS e v s.Loads.High (gripE e s.Fail t) < tickS e v s.Loads.Low (gripE e s.Fail t) then s.Loads.High else s.Loads.Low)
structure LS0 (e : api_Escalator) (s : api_Stop) : Prop where
  ve : VE e
  l1 : 0 ≤ s.Loads.Low
  l2 : s.Loads.Low ≤ s.Loads.High
  l3 : s.Loads.High ≤ 100000
  f1 : 0 ≤ s.Fail
  f2 : s.Fail < 8
theorem VS.ls {e : api_Escalator} {s : api_Stop} (h : VE e) (h' : VS e s) : LS0 e s :=
  ⟨h, h'.l1, h'.l2, h'.l3, h'.f1, by have := (pow_small h.n).2; have := h'.f2; omega⟩
theorem LS0.tick {e : api_Escalator} {s : api_Stop} (h : LS0 e s) {v t load : Int} (hv : -10000000000 ≤ v) (hv2 : v ≤ 10000000000) (h1 : s.Loads.Low ≤ load) (h2 : load ≤ s.Loads.High) : TickOk e v load (gripE e s.Fail t) := by
  have := gripE_bounds h.ve s.Fail t
  have a1 := h.l1
  have a3 := h.l3
  exact ⟨h.ve.e1, h.ve.e2, h.ve.p1, h.ve.p2, h.ve.d1, h.ve.d2, by omega, by omega, by omega, by omega, hv, hv2⟩
theorem with_eq {N : Nat} (hN : 10 ≤ N) {m : drive_motion} (h : LS0 m.f_e m.f_s) {load : Int} (hl : m.f_s.Loads.Low ≤ load) (hl2 : load ≤ m.f_s.Loads.High) (hv : -10000000000 ≤ m.f_speed) (hv2 : m.f_speed ≤ 10000000000) (ht : 0 ≤ m.f_time) (ht2 : m.f_time ≤ 1000) (k : Int → drive_motion → Option R) :
    drive_motion_with N load m k = k (tickS m.f_e m.f_speed load (gripE m.f_e m.f_s.Fail m.f_time)) ⟨m.f_e, m.f_s, tickS m.f_e m.f_speed load (gripE m.f_e m.f_s.Fail m.f_time), m.f_time + 1⟩ := by
  rw [drive_motion_with_def]
  unfold drive_motion_with_m
  have hf := h.f2
  rw [grip_eq hN m h.ve h.f1 (by omega), tick_eq N (h.tick hv hv2 hl hl2), w64_eq (by omega) (by omega)]
theorem extreme_eq {N : Nat} (hN : 10 ≤ N) (most : Bool) {m : drive_motion} (h : LS0 m.f_e m.f_s) (hv : -10000000000 ≤ m.f_speed) (hv2 : m.f_speed ≤ 10000000000) (ht : 0 ≤ m.f_time) (ht2 : m.f_time ≤ 1000) (k : Int → drive_motion → Option R) :
    drive_motion_extreme N most m k = k (edgeL m.f_e m.f_s most m.f_speed m.f_time) ⟨m.f_e, m.f_s, edgeV m.f_e m.f_s most m.f_speed m.f_time, m.f_time + 1⟩ := by
  rw [drive_motion_extreme_def]
  unfold drive_motion_extreme_m
  have hl := h.l2
  rw [with_eq hN h (Int.le_refl _) hl hv hv2 ht ht2, with_eq hN h hl (Int.le_refl _) hv hv2 ht ht2]
  unfold edgeL edgeV
  generalize tickS m.f_e m.f_speed m.f_s.Loads.Low (gripE m.f_e m.f_s.Fail m.f_time) = a
  generalize tickS m.f_e m.f_speed m.f_s.Loads.High (gripE m.f_e m.f_s.Fail m.f_time) = b
  cases most
  · simp only [cond_false, Bool.not_false, cond_true, Bool.false_eq_true, if_false]
    by_cases hb : b < a
    · have : min a b = b := by omega
      simp only [hb, decide_true, cond_true, if_true, this]
    · have : min a b = a := by omega
      simp only [hb, decide_false, cond_false, if_false, this]
  · simp only [cond_true, Bool.not_true, cond_false, if_true]
    by_cases hb : b > a
    · have : max a b = b := by omega
      simp only [hb, decide_true, cond_true, if_true, this]
    · have : max a b = a := by omega
      simp only [hb, decide_false, cond_false, if_false, this]
end
end Ds
end Go.Proofs.Ytlikcijophbkbaa
