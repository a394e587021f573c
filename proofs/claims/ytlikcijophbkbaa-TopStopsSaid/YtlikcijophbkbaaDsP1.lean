import Derived.Test.YtlikcijophbkbaaG2
import Derived.Test.YtlikcijophbkbaaSxMath
set_option linter.unusedVariables false
set_option linter.unusedSimpArgs false
namespace Go.Proofs.Ytlikcijophbkbaa
namespace Ds
open Go.Sx
section
variable {R : Type}
theorem within_eq (N : Nat) (n lo hi : Int) (k : Bool → Option R) : newelref01_within N n lo hi k = k (decide (lo ≤ n ∧ n ≤ hi)) := by
  rw [newelref01_within_def]
  unfold newelref01_within_m
  by_cases h : lo ≤ n <;> simp [h]
theorem in_eq (N : Nat) (n : Int) (s : api_Span) (k : Bool → Option R) : drive_in N n s k = k (decide (s.Low ≤ n ∧ n ≤ s.High)) := by
  rw [drive_in_def]
  unfold drive_in_m
  by_cases h : s.Low ≤ n <;> simp [h]
theorem to_eq (N : Nat) (n : Int) (k : api_Span → Option R) : drive_to N n k = k ⟨0, n⟩ := by rw [drive_to_def]; rfl
def okBrake (b : api_Brake) : Prop := (0 ≤ b.Force ∧ b.Force ≤ 10000000) ∧ (0 ≤ b.Delay ∧ b.Delay ≤ 20)
instance (b : api_Brake) : Decidable (okBrake b) := by unfold okBrake; infer_instance
theorem Check_1_eq (N : Nat) (b : api_Brake) (k : Bool → Option R) : drive_Check_1 N b k = k (decide (okBrake b)) := by
  rw [drive_Check_1_def]
  unfold drive_Check_1_m
  unfold okBrake
  simp only [to_eq, in_eq]
  by_cases h : 0 ≤ b.Force ∧ b.Force ≤ 10000000 <;> simp [h]
def okBrakes (a : Arr api_Brake) (i : Nat) : Prop := ∀ j, i ≤ j → j < a.n → okBrake (a.f j)
open Classical in
theorem Check_l5_eq (N : Nat) (a : Arr api_Brake) (ha : a.n < 1000000) (kr : Int → Option R) (k0 : Unit → Option R) : ∀ (n i : Nat), i ≤ a.n → a.n < n + i → 
    drive_Check_l5 N n a (a.n : Int) (i : Int) kr k0 = if okBrakes a i then k0 () else kr 10 := by
  intro n
  induction n with
  | zero => intro i h1 h2; omega
  | succ n ih =>
    intro i h1 h2
    unfold drive_Check_l5 drive_Check_b5
    by_cases hi : i < a.n
    · have e1 : decide ((i : Int) < (a.n : Int)) = true := by simpa using hi
      simp only [e1, nat_nonneg, Bool.and_self, cond_true, Check_1_eq, Int.toNat_natCast]
      by_cases hb : okBrake (a.f i)
      · have e3 : w64 ((i : Int) + 1) = ((i + 1 : Nat) : Int) := by rw [w64_eq (by omega) (by omega)]; simp
        simp only [hb, decide_true, Bool.not_true, cond_false, e3]
        rw [ih (i + 1) (by omega) (by omega)]
        have : okBrakes a i ↔ okBrakes a (i + 1) := by
          constructor
          · intro h j h3 h4; exact h j (by omega) h4
          · intro h j h3 h4
            by_cases e : j = i
            · subst e; exact hb
            · exact h j (by omega) h4
        simp only [this]
      · simp only [hb, decide_false, Bool.not_false, cond_true]
        rw [if_neg]
        intro h
        exact hb (h i (Nat.le_refl _) hi)
    · have e1 : decide ((i : Int) < (a.n : Int)) = false := by simpa using hi
      simp only [e1, cond_false]
      rw [if_pos]
      intro j h3 h4
      omega
structure VE (e : api_Escalator) : Prop where
  e1 : 1 ≤ e.Empty
  e2 : e.Empty ≤ 100000
  p1 : 0 ≤ e.Pull
  p2 : e.Pull ≤ 100
  d1 : 0 ≤ e.Drag
  d2 : e.Drag ≤ 10000000
  m1 : 0 ≤ e.Motor
  m2 : e.Motor ≤ 10000000
  n : e.Brakes.n ≤ 3
  br : okBrakes e.Brakes 0
open Classical in
noncomputable def checkV (e : api_Escalator) : Int := if VE e then 0 else 10
theorem Check_eq {N : Nat} (hN : 10 ≤ N) (e : api_Escalator) (k : Int → Option R) : drive_Check N e k = k (checkV e) := by
  rw [drive_Check_def]
  unfold drive_Check_m
  simp only [to_eq, in_eq]
  have neg : ∀ {x : Int}, ¬ VE e → x = 10 → k x = k (checkV e) := fun h hx => by rw [hx]; unfold checkV; rw [if_neg h]
  by_cases h1 : e.Empty < 1
  · simp only [h1, decide_true, cond_true]; exact neg (fun h => by have := h.e1; omega) rfl
  simp only [h1, decide_false, cond_false]
  by_cases h2 : e.Empty > 100000
  · simp only [h2, decide_true, cond_true]; exact neg (fun h => by have := h.e2; omega) rfl
  simp only [h2, decide_false, cond_false]
  by_cases h3 : 0 ≤ e.Pull ∧ e.Pull ≤ 100
  case neg => simp only [h3, decide_false, Bool.not_false, cond_true]; exact neg (fun h => h3 ⟨h.p1, h.p2⟩) rfl
  simp only [h3, decide_true, and_self, Bool.not_true, cond_false]
  by_cases h4 : 0 ≤ e.Drag ∧ e.Drag ≤ 10000000
  case neg => simp only [h4, decide_false, Bool.not_false, cond_true]; exact neg (fun h => h4 ⟨h.d1, h.d2⟩) rfl
  simp only [h4, decide_true, and_self, Bool.not_true, cond_false]
  by_cases h5 : 0 ≤ e.Motor ∧ e.Motor ≤ 10000000
  case neg => simp only [h5, decide_false, Bool.not_false, cond_true]; exact neg (fun h => h5 ⟨h.m1, h.m2⟩) rfl
  simp only [h5, decide_true, and_self, Bool.not_true, cond_false]
  by_cases h6 : (e.Brakes.n : Int) > 3
  · simp only [h6, decide_true, cond_true]; exact neg (fun h => by have := h.n; omega) rfl
  simp only [h6, decide_false, cond_false]
  have := Check_l5_eq N e.Brakes (by omega) (fun r => k r) (fun _ => k 0) N 0 (by omega) (by omega)
  simp only [Int.natCast_zero] at this
  rw [this]
  by_cases h7 : okBrakes e.Brakes 0
  · rw [if_pos h7]; unfold checkV; rw [if_pos ⟨by omega, by omega, h3.1, h3.2, h4.1, h4.2, h5.1, h5.2, by omega, h7⟩]
  · rw [if_neg h7]; exact neg (fun h => h7 h.br) rfl
theorem floor_eq (N : Nat) {a b : Int} (hb : 0 < b) (h1 : -1000000000000 ≤ a) (h2 : a ≤ 1000000000000) (k : Int → Option R) : drive_floor N a b k = k (a / b) := by
  rw [drive_floor_def]
  unfold drive_floor_m
  have e : (b == 0) = false := by simp; omega
  have hq := tdiv_bounds (a := a) hb (B := 1000000000000) (by omega) (by omega) (by omega)
  simp only [e, cond_false]
  rw [w64_eq (n := a.tdiv b) (by omega) (by omega), w64_eq (by omega) (by omega), ← tdiv_floor hb]
  by_cases hr : a.tmod b < 0 <;> simp [hr]
def gOf (e : api_Escalator) (load : Int) : Int := if e.Up then -(e.Pull * load) else e.Pull * load
def tickS (e : api_Escalator) (v load force : Int) : Int :=
  if v < 0 ∨ (v = 0 ∧ gOf e load < 0) then -(max 0 (-v + (-(gOf e load) - (e.Drag + force)) / (e.Empty + load)))
  else max 0 (v + (gOf e load - (e.Drag + force)) / (e.Empty + load))
theorem ahead_eq (N : Nat) {v g f m : Int} (hm : 0 < m) (hv : -100000000000 ≤ v) (hv2 : v ≤ 100000000000) (hg : -100000000 ≤ g) (hg2 : g ≤ 100000000) (hf : 0 ≤ f) (hf2 : f ≤ 100000000) (k : Int → Option R) :
    drive_ahead N v g f m k = k (max 0 (v + (g - f) / m)) := by
  rw [drive_ahead_def]
  unfold drive_ahead_m
  have hq := ediv_bounds (a := g - f) hm (B := 200000000) (by omega) (by omega) (by omega)
  rw [w64_eq (n := g - f) (by omega) (by omega), floor_eq N hm (by omega) (by omega), w64_eq (by omega) (by omega), mxI_eq]
structure TickOk (e : api_Escalator) (v load force : Int) : Prop where
  e1 : 1 ≤ e.Empty
  e2 : e.Empty ≤ 100000
  p1 : 0 ≤ e.Pull
  p2 : e.Pull ≤ 100
  d1 : 0 ≤ e.Drag
  d2 : e.Drag ≤ 10000000
  l1 : 0 ≤ load
  l2 : load ≤ 100000
  f1 : 0 ≤ force
  f2 : force ≤ 30000000
  v1 : -10000000000 ≤ v
  v2 : v ≤ 10000000000
theorem gOf_bounds {e : api_Escalator} {load : Int} (p1 : 0 ≤ e.Pull) (p2 : e.Pull ≤ 100) (l1 : 0 ≤ load) (l2 : load ≤ 100000) : -10000000 ≤ gOf e load ∧ gOf e load ≤ 10000000 := by
  have := mul_range p1 p2 l1 l2
  unfold gOf
  split <;> omega
theorem tick_eq (N : Nat) {e : api_Escalator} {v load force : Int} (h : TickOk e v load force) (k : Int → Option R) : drive_tick N e v load force k = k (tickS e v load force) := by
  obtain ⟨e1, e2, p1, p2, d1, d2, l1, l2, f1, f2, v1, v2⟩ := h
  have hp := mul_range p1 p2 l1 l2
  rw [drive_tick_def]
  unfold drive_tick_m
  unfold tickS gOf
  have w1 : w64 (e.Pull * load) = e.Pull * load := w64_eq (by omega) (by omega)
  have w2 : w64 (0 - e.Pull * load) = -(e.Pull * load) := by rw [w64_eq (by omega) (by omega)]; omega
  have w3 : w64 (0 - -(e.Pull * load)) = e.Pull * load := by rw [w64_eq (by omega) (by omega)]; omega
  have w4 : w64 (e.Drag + force) = e.Drag + force := w64_eq (by omega) (by omega)
  have w5 : w64 (e.Empty + load) = e.Empty + load := w64_eq (by omega) (by omega)
  have w6 : w64 (0 - v) = -v := by rw [w64_eq (by omega) (by omega)]; omega
  simp only [w1, w2, w3, w4, w5, w6]
  have neg : ∀ g : Int, -100000000 ≤ g → g ≤ 100000000 → v ≤ 0 → drive_ahead N (-v) g (e.Drag + force) (e.Empty + load) (fun r => k (w64 (0 - r))) = k (-(max 0 (-v + (g - (e.Drag + force)) / (e.Empty + load)))) := by
    intro g h1 h2 h3
    rw [ahead_eq N (by omega) (by omega) (by omega) h1 h2 (by omega) (by omega)]
    have hq := ediv_bounds (a := g - (e.Drag + force)) (m := e.Empty + load) (by omega) (B := 200000000) (by omega) (by omega) (by omega)
    rw [w64_eq (by omega) (by omega)]
    congr 1; omega
  have pos : ∀ g : Int, -100000000 ≤ g → g ≤ 100000000 → drive_ahead N v g (e.Drag + force) (e.Empty + load) (fun r => k r) = k (max 0 (v + (g - (e.Drag + force)) / (e.Empty + load))) := by
    intro g h1 h2
    exact ahead_eq N (by omega) (by omega) (by omega) h1 h2 (by omega) (by omega) _
  cases hu : e.Up
  · simp only [cond_false, Bool.false_eq_true, if_false]
    by_cases hv : v < 0
    · simp only [hv, decide_true, cond_true, true_or, if_true]
      exact neg _ (by omega) (by omega) (by omega)
    · have : ¬ (e.Pull * load < 0) := by omega
      simp only [hv, this, decide_false, cond_false, false_or, and_false, if_false]
      by_cases h0 : v = 0
      · simp only [h0, BEq.rfl, cond_true]
        have := pos (e.Pull * load) (by omega) (by omega)
        rw [h0] at this
        exact this
      · have h0' : (v == 0) = false := by simpa using h0
        simp only [h0', cond_false]
        exact pos _ (by omega) (by omega)
  · simp only [cond_true, if_true]
    by_cases hv : v < 0
    · simp only [hv, decide_true, cond_true, true_or, if_true]
      rw [neg _ (by omega) (by omega) (by omega)]
      simp
    · simp only [hv, decide_false, cond_false, false_or]
      by_cases h0 : v = 0
      · have h0' : (v == 0) = true := by simpa using h0
        simp only [h0', cond_true]
        by_cases hl : -(e.Pull * load) < 0
        · simp only [hl, decide_true, cond_true, h0, and_self, if_true]
          have := neg (e.Pull * load) (by omega) (by omega) (by omega)
          rw [h0] at this
          rw [this]
          simp
        · simp only [hl, decide_false, cond_false, and_false, if_false]
          exact pos _ (by omega) (by omega)
      · have h0' : (v == 0) = false := by simpa using h0
        simp only [h0', cond_false, h0, false_and, if_false]
        exact pos _ (by omega) (by omega)
end
end Ds
end Go.Proofs.Ytlikcijophbkbaa
