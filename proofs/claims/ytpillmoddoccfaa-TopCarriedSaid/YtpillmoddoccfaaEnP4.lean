/-
  Energy: the cheapest plan: all plans, one after the other.
-/
import Derived.Test.YtpillmoddoccfaaEnP3
import Derived.Test.YtpillmoddoccfaaSxMath
set_option linter.unusedVariables false
set_option linter.unusedSimpArgs false
namespace Go.Proofs.Ytpillmoddoccfaa
namespace En
open Go.Sx

/-! ### Numbers of plans -/
/-- The digit of a plan's number that is the place of the pace of a period. -/
def dig (P m x j : Nat) : Nat := x / P ^ (m - 1 - j) % P
def planF (b : api_Band) (m x : Nat) (j : Nat) : Int := b.Paces.f (dig b.Paces.n m x j)
def srvJ (b : api_Band) (t : api_Times) (j : Nat) (v : Int) : Prop := loadS b (t.Periods.f j).Flow.High v ≤ b.Most
instance (b : api_Band) (t : api_Times) (j : Nat) (v : Int) : Decidable (srvJ b t j v) := by unfold srvJ; infer_instance
def srvX (b : api_Band) (t : api_Times) (x : Nat) : Prop := ∀ j, j < t.Periods.n → srvJ b t j (planF b t.Periods.n x j)
def costF (b : api_Band) (t : api_Times) (pl : Nat → Int) : Int := billS t (fun j => powerS b (endF b t true j) (pl j))
def costX (b : api_Band) (t : api_Times) (x : Nat) : Int := costF b t (planF b t.Periods.n x)

open Classical in
noncomputable def stepX (b : api_Band) (t : api_Times) (s : Option Nat) (x : Nat) : Option Nat :=
  if srvX b t x then (match s with | none => some x | some y => if costX b t x < costX b t y then some x else some y) else s
noncomputable def runX (b : api_Band) (t : api_Times) : Nat → Nat → Option Nat → Option Nat
  | 0, _, s => s
  | c + 1, x, s => runX b t c (x + 1) (stepX b t s x)

theorem runX_add (b : api_Band) (t : api_Times) : ∀ (a c x : Nat) (s : Option Nat), runX b t (a + c) x s = runX b t c (x + a) (runX b t a x s) := by
  intro a
  induction a with
  | zero => intro c x s; simp [runX]
  | succ a ih =>
    intro c x s
    rw [show a + 1 + c = (a + c) + 1 by omega]
    simp only [runX]
    rw [ih, show x + 1 + a = x + (a + 1) by omega]

theorem runX_skip {b : api_Band} {t : api_Times} : ∀ (c x : Nat) (s : Option Nat), (∀ z, x ≤ z → z < x + c → ¬ srvX b t z) → runX b t c x s = s := by
  intro c
  induction c with
  | zero => intro x s _; rfl
  | succ c ih =>
    intro x s h
    simp only [runX]
    have : stepX b t s x = s := by unfold stepX; rw [if_neg (h x (Nat.le_refl _) (by omega))]
    rw [this]
    exact ih (x + 1) s (fun z h1 h2 => h z (by omega) (by omega))

theorem dig_of {P m i z x : Nat} (hi : i < m) (h1 : z * P ^ (m - 1 - i) ≤ x) (h2 : x < (z + 1) * P ^ (m - 1 - i)) : dig P m x i = z % P := by
  unfold dig
  have hq : 0 < P ^ (m - 1 - i) := by
    rcases Nat.eq_zero_or_pos (P ^ (m - 1 - i)) with h | h
    · rw [h] at h2; omega
    · exact h
  have : x / P ^ (m - 1 - i) = z := by
    rw [Nat.div_eq_of_lt_le h1 h2]
  rw [this]

/-! ### What is best so far -/
def relB (b : api_Band) (t : api_Times) (s : Option Nat) (worst : Int) (nl : Bool) (best : Arr Int) : Prop :=
  match s with
  | none => nl = true ∧ worst = 0
  | some y => nl = false ∧ worst = costX b t y ∧ best.Is t.Periods.n (planF b t.Periods.n y)

/-- The first paces are chosen. -/
structure Chosen (b : api_Band) (t : api_Times) (i y : Nat) (plan high : Arr Int) : Prop where
  pn : plan.n = t.Periods.n
  hn : high.n = t.Periods.n
  dg : ∀ x, y * b.Paces.n ^ (t.Periods.n - i) ≤ x → x < (y + 1) * b.Paces.n ^ (t.Periods.n - i) → ∀ j, j < i → plan.f j = planF b t.Periods.n x j
  pw : ∀ j, j < i → high.f j = powerS b (endF b t true j) (plan.f j)
  sv : ∀ j, j < i → srvJ b t j (plan.f j)

theorem copy_is {a : Arr Int} {m : Nat} {g : Nat → Int} (h : a.Is m g) : (lst intC (0 + a.n) (catC 0 (litC [SV.int IntKind.i64 0] []) (Cod.cell intC a.f))).Is m g := by
  refine ⟨?_, fun i hi => ?_⟩
  · show 0 + a.n = m
    rw [h.len]; omega
  · show toI (catC 0 (litC [SV.int IntKind.i64 0] []) (Cod.cell intC a.f) i 0) = g i
    unfold catC
    have : Nat.blt i 0 = false := by
      cases hb : Nat.blt i 0
      · rfl
      · rw [Nat.blt_eq] at hb; omega
    rw [this]
    simp only [cond_false, Nat.sub_zero]
    exact h.get i hi

theorem planF_pace {b : api_Band} (h : VB b) (m x j : Nat) : 1 ≤ planF b m x j ∧ planF b m x j ≤ 100 :=
  h.pace _ (Nat.mod_lt _ (by have := h.l1; omega))

section
variable {R : Type}

theorem Clone_eq {N : Nat} {a : Arr Int} (hn : a.n ≤ 1000000) (k : Bool → Arr Int → Option R) : slices_Clone___int_int_ N false a k = k false (lst intC (0 + a.n) (catC 0 (litC [SV.int IntKind.i64 0] []) (Cod.cell intC a.f))) := by
  rw [slices_Clone___int_int__def]
  unfold slices_Clone___int_int__m
  have hr : room (0 + a.n) = true := room_of (by omega)
  simp only [cond_false, hr, cond_true, Bool.cond_self]
end

/-- The powers of plans. -/
theorem cost_pow {b : api_Band} (h : VB b) {t : api_Times} (ht : VT t) {pl : Nat → Int} (hp : ∀ j, j < t.Periods.n → 1 ≤ pl j ∧ pl j ≤ 100) : powP (fun j => powerS b (endF b t true j) (pl j)) t.Periods.n := fun j hj => by
  have h1 := endF_range (b := b) ht true hj
  exact power_bounds h ⟨h1.1, h1.2, (hp j hj).1, (hp j hj).2⟩

theorem from_eq {N : Nat} (hN : 20 ≤ N) {b : api_Band} (h : VB b) {t : api_Times} (ht : VT t) : ∀ (r i d y : Nat) (plan high : Arr Int) (nl : Bool) (best : Arr Int) (worst : Int) (s : Option Nat), i + r = t.Periods.n → r < d → Chosen b t i y plan high → relB b t s worst nl best →
    ∃ (worst' : Int) (plan' high' : Arr Int) (nl' : Bool) (best' : Arr Int), (plan'.n = t.Periods.n ∧ high'.n = t.Periods.n ∧ ∀ j, j < i → plan'.f j = plan.f j ∧ high'.f j = high.f j) ∧ relB b t (runX b t (b.Paces.n ^ r) (y * b.Paces.n ^ r) s) worst' nl' best' ∧
      ∀ {R : Type} (k : Int → Arr Int → Arr Int → Bool → Arr Int → Option R), energy_search_from_r N d (i : Int) b.Up b.Pull b.Drag b.Body b.Ride b.Most b.Paces b.Num b.Den t.Periods t.Peak worst false plan false high nl best k = k worst' plan' high' nl' best' := by
  have hn2 := ht.n2
  have hl1 := h.l1
  have hl2 := h.l2
  have hT : api_Times.mk t.Periods t.Peak = t := rfl
  have hB : api_Band.mk b.Up b.Pull b.Drag b.Body b.Ride b.Most b.Paces b.Num b.Den = b := rfl
  intro r
  induction r with
  | zero =>
    intro i d y plan high nl best worst s h1 h2 hc hs
    obtain ⟨d, rfl⟩ : ∃ m, d = m + 1 := ⟨d - 1, by omega⟩
    have hi : i = t.Periods.n := by omega
    subst hi
    have hpl : plan.Is t.Periods.n (planF b t.Periods.n y) := ⟨hc.pn, fun j hj => hc.dg y (by rw [Nat.sub_self]; simp) (by rw [Nat.sub_self]; simp) j hj⟩
    have hcost : billS t high.f = costX b t y := billS_congr fun j hj => by rw [hc.pw j hj, hpl.get j hj]
    have hpow : powP high.f t.Periods.n := fun j hj => by
      rw [hc.pw j hj, hpl.get j hj]
      exact cost_pow h ht (fun j _ => planF_pace h _ _ j) j hj
    have hsv : srvX b t y := fun j hj => by rw [← hpl.get j hj]; exact hc.sv j hj
    have hrun : runX b t (b.Paces.n ^ 0) (y * b.Paces.n ^ 0) s = stepX b t s y := by
      rw [Nat.pow_zero, Nat.mul_one]; rfl
    have e0 : ((t.Periods.n : Int) == (t.Periods.n : Int)) = true := by simp
    rw [hrun]
    unfold stepX
    rw [if_pos hsv]
    cases s with
    | none =>
      obtain ⟨rfl, rfl⟩ := hs
      refine ⟨costX b t y, plan, high, false, _, ⟨hc.pn, hc.hn, fun j _ => ⟨rfl, rfl⟩⟩, ⟨rfl, rfl, copy_is hpl⟩, fun {R} k => ?_⟩
      show energy_search_from_t N (energy_search_from_r N d) (t.Periods.n : Int) b.Up b.Pull b.Drag b.Body b.Ride b.Most b.Paces b.Num b.Den t.Periods t.Peak 0 false plan false high true best k = _
      unfold energy_search_from_t
      simp only [e0, cond_true, hT]
      rw [bill_eq hN ht hc.hn hpow, Clone_eq (by rw [hc.pn]; omega), hcost]
    | some z =>
      obtain ⟨rfl, hw, hbest⟩ := hs
      by_cases hlt : costX b t y < costX b t z
      · refine ⟨costX b t y, plan, high, false, _, ⟨hc.pn, hc.hn, fun j _ => ⟨rfl, rfl⟩⟩, by simp only [hlt, if_true]; exact ⟨rfl, rfl, copy_is hpl⟩, fun {R} k => ?_⟩
        show energy_search_from_t N (energy_search_from_r N d) (t.Periods.n : Int) b.Up b.Pull b.Drag b.Body b.Ride b.Most b.Paces b.Num b.Den t.Periods t.Peak worst false plan false high false best k = _
        unfold energy_search_from_t
        simp only [e0, cond_true, hT]
        rw [bill_eq hN ht hc.hn hpow, hcost]
        have : decide (costX b t y < worst) = true := by rw [hw]; simpa using hlt
        simp only [cond_false, this, cond_true]
        rw [Clone_eq (by rw [hc.pn]; omega)]
      · refine ⟨worst, plan, high, false, best, ⟨hc.pn, hc.hn, fun j _ => ⟨rfl, rfl⟩⟩, by simp only [hlt, if_false]; exact ⟨rfl, hw, hbest⟩, fun {R} k => ?_⟩
        show energy_search_from_t N (energy_search_from_r N d) (t.Periods.n : Int) b.Up b.Pull b.Drag b.Body b.Ride b.Most b.Paces b.Num b.Den t.Periods t.Peak worst false plan false high false best k = _
        unfold energy_search_from_t
        simp only [e0, cond_true, hT]
        rw [bill_eq hN ht hc.hn hpow, hcost]
        have : decide (costX b t y < worst) = false := by rw [hw]; simpa using hlt
        simp only [cond_false, this]
  | succ r ih =>
    intro i d y plan high nl best worst s h1 h2 hc hs
    obtain ⟨d, rfl⟩ : ∃ m, d = m + 1 := ⟨d - 1, by omega⟩
    have hi : i < t.Periods.n := by omega
    have hper := ht.per i hi
    have hQ : 0 < b.Paces.n ^ r := Nat.pow_pos (by omega)
    have e0 : ((i : Int) == (t.Periods.n : Int)) = false := by simp; omega
    have em : t.Periods.n - i = r + 1 := by omega
    have em1 : t.Periods.n - 1 - i = r := by omega
    have em2 : t.Periods.n - (i + 1) = r := by omega
    -- the paces, one by one
    have loop : ∀ (q j n : Nat) (plan1 high1 : Arr Int) (nl1 : Bool) (best1 : Arr Int) (worst1 : Int), j + q = b.Paces.n → q < n → plan1.n = t.Periods.n → high1.n = t.Periods.n → (∀ u, u < i → plan1.f u = plan.f u ∧ high1.f u = high.f u) →
        relB b t (runX b t (j * b.Paces.n ^ r) (y * b.Paces.n ^ (r + 1)) s) worst1 nl1 best1 →
        ∃ (worst' : Int) (plan' high' : Arr Int) (nl' : Bool) (best' : Arr Int), (plan'.n = t.Periods.n ∧ high'.n = t.Periods.n ∧ ∀ u, u < i → plan'.f u = plan.f u ∧ high'.f u = high.f u) ∧ relB b t (runX b t (b.Paces.n * b.Paces.n ^ r) (y * b.Paces.n ^ (r + 1)) s) worst' nl' best' ∧
          ∀ {R : Type} (k : Int → Arr Int → Arr Int → Bool → Arr Int → Option R), energy_search_from_l6 N (energy_search_from_r N d) n (i : Int) b.Paces (b.Paces.n : Int) (j : Int) b.Up b.Pull b.Drag b.Body b.Ride b.Most b.Paces b.Num b.Den t.Periods t.Peak worst1 false plan1 false high1 (t.Periods.f i) nl1 best1 k = k worst' plan' high' nl' best' := by
      intro q
      induction q with
      | zero =>
        intro j n plan1 high1 nl1 best1 worst1 g1 g2 g3 g4 g5 g6
        obtain ⟨n, rfl⟩ : ∃ m, n = m + 1 := ⟨n - 1, by omega⟩
        have : j = b.Paces.n := by omega
        subst this
        refine ⟨worst1, plan1, high1, nl1, best1, ⟨g3, g4, g5⟩, g6, fun {R} k => ?_⟩
        unfold energy_search_from_l6 energy_search_from_b6
        simp only [lt_false (Nat.le_refl b.Paces.n), cond_false]
      | succ q ihq =>
        intro j n plan1 high1 nl1 best1 worst1 g1 g2 g3 g4 g5 g6
        obtain ⟨n, rfl⟩ : ∃ m, n = m + 1 := ⟨n - 1, by omega⟩
        have hpc := h.pace j (by omega)
        have hf3 := hper.f3
        have hf1 := hper.f1
        have hf2 := hper.f2
        have hfp : Fp (t.Periods.f i).Flow.High (b.Paces.f j) := ⟨by omega, hf3, hpc.1, hpc.2⟩
        have hz : y * b.Paces.n ^ (r + 1) + j * b.Paces.n ^ r = (y * b.Paces.n + j) * b.Paces.n ^ r := by
          rw [Nat.pow_succ, Nat.add_mul, Nat.mul_assoc, Nat.mul_comm (b.Paces.n ^ r)]
        have hnext : runX b t ((j + 1) * b.Paces.n ^ r) (y * b.Paces.n ^ (r + 1)) s = runX b t (b.Paces.n ^ r) ((y * b.Paces.n + j) * b.Paces.n ^ r) (runX b t (j * b.Paces.n ^ r) (y * b.Paces.n ^ (r + 1)) s) := by
          rw [Nat.add_mul, Nat.one_mul, runX_add, hz]
        have hdg : ∀ x, (y * b.Paces.n + j) * b.Paces.n ^ r ≤ x → x < (y * b.Paces.n + j + 1) * b.Paces.n ^ r → planF b t.Periods.n x i = b.Paces.f j := fun x x1 x2 => by
          unfold planF
          rw [dig_of (P := b.Paces.n) (z := y * b.Paces.n + j) hi (by rw [em1]; exact x1) (by rw [em1]; exact x2), Nat.add_comm, Nat.add_mul_mod_self_right, Nat.mod_eq_of_lt (by omega)]
        by_cases hsv : loadS b (t.Periods.f i).Flow.High (b.Paces.f j) ≤ b.Most
        · have hc1 : Chosen b t (i + 1) (y * b.Paces.n + j) (setI plan1 i (b.Paces.f j)) (setI high1 i (powerS b (endF b t true i) (b.Paces.f j))) := by
            refine ⟨g3, g4, fun x x1 x2 u hu => ?_, fun u hu => ?_, fun u hu => ?_⟩
            · rw [em2] at x1 x2
              rw [setI_f]
              by_cases e : u = i
              · subst e; rw [if_pos rfl, hdg x x1 x2]
              · rw [if_neg e, (g5 u (by omega)).1]
                refine hc.dg x ?_ ?_ u (by omega)
                · rw [em, Nat.pow_succ, Nat.mul_comm (b.Paces.n ^ r), ← Nat.mul_assoc]
                  exact Nat.le_trans (Nat.mul_le_mul_right _ (Nat.le_add_right _ j)) x1
                · rw [em, Nat.pow_succ, Nat.mul_comm (b.Paces.n ^ r), ← Nat.mul_assoc]
                  refine Nat.lt_of_lt_of_le x2 (Nat.mul_le_mul_right _ ?_)
                  rw [Nat.add_mul, Nat.one_mul]
                  omega
            · rw [setI_f, setI_f]
              by_cases e : u = i
              · subst e; rw [if_pos rfl, if_pos rfl]
              · rw [if_neg e, if_neg e, (g5 u (by omega)).1, (g5 u (by omega)).2]; exact hc.pw u (by omega)
            · rw [setI_f]
              by_cases e : u = i
              · subst e; rw [if_pos rfl]; exact hsv
              · rw [if_neg e, (g5 u (by omega)).1]; exact hc.sv u (by omega)
          obtain ⟨w2, p2, h2', nl2, b2, ⟨q1, q2, q3⟩, q4, q5⟩ := ih (i + 1) d (y * b.Paces.n + j) _ _ nl1 best1 worst1 _ (by omega) (by omega) hc1 g6
          rw [← hnext] at q4
          obtain ⟨w3, p3, h3', nl3, b3, z1, z2, z3⟩ := ihq (j + 1) n p2 h2' nl2 b2 w2 (by omega) (by omega) q1 q2 (fun u hu => by
            obtain ⟨a1, a2⟩ := q3 u (by omega)
            rw [a1, a2, setI_f, setI_f, if_neg (by omega), if_neg (by omega)]
            exact g5 u hu) q4
          refine ⟨w3, p3, h3', nl3, b3, z1, z2, fun {R} k => ?_⟩
          unfold energy_search_from_l6 energy_search_from_b6
          simp only [lt_true (show j < b.Paces.n by omega), lt_true (show i < plan1.n by omega), lt_true (show i < high1.n by omega), nat_nonneg, Bool.and_self, cond_true, Int.toNat_natCast, w64_succ (show i < 1000000000000 by omega), w64_succ (show j < 1000000000000 by omega), hB, serves_eq N h hfp, decide_eq_true hsv, ends_eq N h hper hpc]
          exact (q5 _).trans (z3 k)
        · have hskip : runX b t (b.Paces.n ^ r) ((y * b.Paces.n + j) * b.Paces.n ^ r) (runX b t (j * b.Paces.n ^ r) (y * b.Paces.n ^ (r + 1)) s) = runX b t (j * b.Paces.n ^ r) (y * b.Paces.n ^ (r + 1)) s :=
            runX_skip _ _ _ fun z z1 z2 hz' => hsv (by
              have := hz' i hi
              rw [hdg z z1 (by rw [Nat.add_mul _ 1, Nat.one_mul]; exact z2)] at this
              exact this)
          rw [hskip] at hnext
          rw [← hnext] at g6
          obtain ⟨w3, p3, h3', nl3, b3, z1, z2, z3⟩ := ihq (j + 1) n plan1 high1 nl1 best1 worst1 (by omega) (by omega) g3 g4 g5 g6
          refine ⟨w3, p3, h3', nl3, b3, z1, z2, fun {R} k => ?_⟩
          unfold energy_search_from_l6 energy_search_from_b6
          simp only [lt_true (show j < b.Paces.n by omega), nat_nonneg, Bool.and_self, cond_true, cond_false, Int.toNat_natCast, w64_succ (show j < 1000000000000 by omega), hB, serves_eq N h hfp, decide_eq_false hsv]
          exact z3 k
    obtain ⟨w3, p3, h3', nl3, b3, z1, z2, z3⟩ := loop b.Paces.n 0 N plan high nl best worst (by omega) (by omega) hc.pn hc.hn (fun u _ => ⟨rfl, rfl⟩) (by rw [Nat.zero_mul]; exact hs)
    refine ⟨w3, p3, h3', nl3, b3, z1, by rw [Nat.pow_succ, Nat.mul_comm (b.Paces.n ^ r)] at z2 ⊢; exact z2, fun {R} k => ?_⟩
    show energy_search_from_t N (energy_search_from_r N d) (i : Int) b.Up b.Pull b.Drag b.Body b.Ride b.Most b.Paces b.Num b.Den t.Periods t.Peak worst false plan false high nl best k = _
    unfold energy_search_from_t
    simp only [e0, cond_false, lt_true hi, nat_nonneg, Bool.and_self, cond_true, Int.toNat_natCast]
    exact z3 k

/-- The number of the cheapest plan. -/
noncomputable def cheapX (b : api_Band) (t : api_Times) : Option Nat := runX b t (b.Paces.n ^ t.Periods.n) 0 none
noncomputable def chE (b : api_Band) (t : api_Times) : Int := if timesV b t = 0 then (match cheapX b t with | none => 3 | some _ => 0) else timesV b t
noncomputable def chV (b : api_Band) (t : api_Times) : Int := if timesV b t = 0 then (match cheapX b t with | none => 0 | some y => costX b t y) else 0
noncomputable def chN (b : api_Band) (t : api_Times) : Nat := if timesV b t = 0 then (match cheapX b t with | none => 0 | some y => t.Periods.n) else 0
noncomputable def chF (b : api_Band) (t : api_Times) : Nat → Int := match cheapX b t with | none => fun _ => 0 | some y => planF b t.Periods.n y

theorem chosen0 {b : api_Band} {t : api_Times} : Chosen b t 0 0 (zerI t.Periods.n) (zerI t.Periods.n) :=
  ⟨rfl, rfl, fun _ _ _ j hj => by omega, fun j hj => by omega, fun j hj => by omega⟩

theorem Cheapest_eq {N : Nat} (hN : 20 ≤ N) (b : api_Band) (t : api_Times) :
    ∃ (f : Bool) (a : Arr Int), a.Is (chN b t) (chF b t) ∧ ∀ {R : Type} (k : Int → Int → Bool → Arr Int → Option R), energy_Cheapest N b t k = k (chV b t) (chE b t) f a := by
  by_cases h : timesV b t = 0
  rotate_left
  · refine ⟨true, emI, by unfold chN; rw [if_neg h]; exact Arr.Is.zero, fun {R} k => ?_⟩
    rw [energy_Cheapest_def]
    unfold energy_Cheapest_m
    rw [checkTimes_eq hN]
    unfold chV chE
    rw [if_neg h, if_neg h]
    have : (timesV b t != 0) = true := by simpa using h
    simp only [this, cond_true]
    rfl
  obtain ⟨hb, ht⟩ := timesV_zero.1 h
  have hn2 := ht.n2
  obtain ⟨w, p, hh, nl, a, h1, h2, h3⟩ := from_eq hN hb ht t.Periods.n 0 N 0 (zerI t.Periods.n) (zerI t.Periods.n) true emI 0 none (by omega) (by omega) chosen0 ⟨rfl, rfl⟩
  rw [Nat.zero_mul] at h2
  change relB b t (cheapX b t) w nl a at h2
  have c2 : decide ((t.Periods.n : Int) ≤ (1073741824 : Int)) = true := by simp; omega
  cases hx : cheapX b t with
  | none =>
    rw [hx] at h2
    obtain ⟨rfl, rfl⟩ := h2
    refine ⟨true, emI, by unfold chN; rw [if_pos h, hx]; exact Arr.Is.zero, fun {R} k => ?_⟩
    rw [energy_Cheapest_def]
    unfold energy_Cheapest_m
    rw [checkTimes_eq hN]
    unfold chV chE
    rw [if_pos h, if_pos h, h, hx]
    simp only [bne_self_eq_false, cond_false, Int.le_refl, decide_true, c2, Bool.and_self, cond_true]
    rw [energy_search_from_def]
    refine Eq.trans (h3 _) ?_
    rfl
  | some y =>
    rw [hx] at h2
    obtain ⟨rfl, rfl, h4⟩ := h2
    refine ⟨false, a, by unfold chN chF; rw [if_pos h, hx]; exact h4, fun {R} k => ?_⟩
    rw [energy_Cheapest_def]
    unfold energy_Cheapest_m
    rw [checkTimes_eq hN]
    unfold chV chE
    rw [if_pos h, if_pos h, h, hx]
    simp only [bne_self_eq_false, cond_false, Int.le_refl, decide_true, c2, Bool.and_self, cond_true]
    rw [energy_search_from_def]
    refine Eq.trans (h3 _) ?_
    rfl

/-! ### The document's way -/
section
variable {R : Type}

end
end En
end Go.Proofs.Ytpillmoddoccfaa
