/-
  Energy: the cheapest plan: all plans, one after the other.
-/
import Derived.Test.YtfaefhegfcidpaaP3
set_option linter.unusedVariables false
set_option linter.unusedSimpArgs false
namespace Go.Proofs.Ytfaefhegfcidpaa
open Go.Sx

/-! ### Numbers of plans -/
/-- The digit of a plan's number that is the place of the pace of a period. -/
def dig (P m x j : Nat) : Nat := x / P ^ (m - 1 - j) % P
def planF (b : api_Band) (m x : Nat) (j : Nat) : Int := b.Paces.f (dig b.Paces.n m x j)
def srvJ (b : api_Band) (t : api_Times) (j : Nat) (v : Int) : Prop := loadS b (t.Periods.f j).Flow.High v ≤ b.Most
instance (b : api_Band) (t : api_Times) (j : Nat) (v : Int) : Decidable (srvJ b t j v) := by unfold srvJ; infer_instance
def srvX (b : api_Band) (t : api_Times) (x : Nat) : Prop := ∀ j, j < t.Periods.n → srvJ b t j (planF b t.Periods.n x j)
def costF (b : api_Band) (t : api_Times) (pl : Nat → Int) : Int := billS t (fun j => powerS b (endF b t true j) (pl j))
def costX (b : api_Band) (t : api_Times) (x : Nat) : Int := costF b t (planF b t.Periods.n x)

open Classical in
noncomputable def stepX (b : api_Band) (t : api_Times) (s : Option Nat) (x : Nat) : Option Nat :=
  if srvX b t x then (match s with | none => some x | some y => if costX b t x < costX b t y then some x else some y) else s
noncomputable def runX (b : api_Band) (t : api_Times) : Nat → Nat → Option Nat → Option Nat
  | 0, _, s => s
  | c + 1, x, s => runX b t c (x + 1) (stepX b t s x)

theorem runX_add (b : api_Band) (t : api_Times) : ∀ (a c x : Nat) (s : Option Nat), runX b t (a + c) x s = runX b t c (x + a) (runX b t a x s) := by
  intro a
  induction a with
  | zero => intro c x s; simp [runX]
  | succ a ih =>
    intro c x s
    rw [show a + 1 + c = (a + c) + 1 by omega]
    simp only [runX]
    rw [ih, show x + 1 + a = x + (a + 1) by omega]

theorem runX_skip {b : api_Band} {t : api_Times} : ∀ (c x : Nat) (s : Option Nat), (∀ z, x ≤ z → z < x + c → ¬ srvX b t z) → runX b t c x s = s := by
  intro c
  induction c with
  | zero => intro x s _; rfl
  | succ c ih =>
    intro x s h
    simp only [runX]
    have : stepX b t s x = s := by unfold stepX; rw [if_neg (h x (Nat.le_refl _) (by omega))]
    rw [this]
    exact ih (x + 1) s (fun z h1 h2 => h z (by omega) (by omega))

theorem dig_of {P m i z x : Nat} (hi : i < m) (h1 : z * P ^ (m - 1 - i) ≤ x) (h2 : x < (z + 1) * P ^ (m - 1 - i)) : dig P m x i = z % P := by
  unfold dig
  have hq : 0 < P ^ (m - 1 - i) := by
    rcases Nat.eq_zero_or_pos (P ^ (m - 1 - i)) with h | h
    · rw [h] at h2; omega
    · exact h
  have : x / P ^ (m - 1 - i) = z := by
    rw [Nat.div_eq_of_lt_le h1 h2]
  rw [this]

/-! ### What is best so far -/
def relB (b : api_Band) (t : api_Times) (s : Option Nat) (worst : Int) (nl : Bool) (best : Arr Int) : Prop :=
  match s with
  | none => nl = true ∧ worst = 0
  | some y => nl = false ∧ worst = costX b t y ∧ best.Is t.Periods.n (planF b t.Periods.n y)

/-- The first paces are chosen. -/
structure Chosen (b : api_Band) (t : api_Times) (i y : Nat) (plan high : Arr Int) : Prop where
  pn : plan.n = t.Periods.n
  hn : high.n = t.Periods.n
  dg : ∀ x, y * b.Paces.n ^ (t.Periods.n - i) ≤ x → x < (y + 1) * b.Paces.n ^ (t.Periods.n - i) → ∀ j, j < i → plan.f j = planF b t.Periods.n x j
  pw : ∀ j, j < i → high.f j = powerS b (endF b t true j) (plan.f j)
  sv : ∀ j, j < i → srvJ b t j (plan.f j)

theorem copy_is {a : Arr Int} {m : Nat} {g : Nat → Int} (h : a.Is m g) : (lst intC (0 + a.n) (catC 0 (litC [SV.int IntKind.i64 0] []) (Cod.cell intC a.f))).Is m g := by
  refine ⟨?_, fun i hi => ?_⟩
  · show 0 + a.n = m
    rw [h.len]; omega
  · show toI (catC 0 (litC [SV.int IntKind.i64 0] []) (Cod.cell intC a.f) i 0) = g i
    unfold catC
    have : Nat.blt i 0 = false := by
      cases hb : Nat.blt i 0
      · rfl
      · rw [Nat.blt_eq] at hb; omega
    rw [this]
    simp only [cond_false, Nat.sub_zero]
    exact h.get i hi

theorem planF_pace {b : api_Band} (h : VB b) (m x j : Nat) : 1 ≤ planF b m x j ∧ planF b m x j ≤ 100 :=
  h.pace _ (Nat.mod_lt _ (by have := h.l1; omega))

section
variable {R : Type}

theorem Clone_eq {N : Nat} {a : Arr Int} (hn : a.n ≤ 1000000) (k : Bool → Arr Int → Option R) : slices_Clone___int_int_ N false a k = k false (lst intC (0 + a.n) (catC 0 (litC [SV.int IntKind.i64 0] []) (Cod.cell intC a.f))) := by
  rw [slices_Clone___int_int__def]
  unfold slices_Clone___int_int__m
  have hr : room (0 + a.n) = true := room_of (by omega)
  simp only [cond_false, hr, cond_true, Bool.cond_self]
end

/-- The powers of plans. -/
theorem cost_pow {b : api_Band} (h : VB b) {t : api_Times} (ht : VT t) {pl : Nat → Int} (hp : ∀ j, j < t.Periods.n → 1 ≤ pl j ∧ pl j ≤ 100) : powP (fun j => powerS b (endF b t true j) (pl j)) t.Periods.n := fun j hj => by
  have h1 := endF_range (b := b) ht true hj
  exact power_bounds h ⟨h1.1, h1.2, (hp j hj).1, (hp j hj).2⟩

theorem from_eq {N : Nat} (hN : 20 ≤ N) {b : api_Band} (h : VB b) {t : api_Times} (ht : VT t) : ∀ (r i d y : Nat) (plan high : Arr Int) (nl : Bool) (best : Arr Int) (worst : Int) (s : Option Nat), i + r = t.Periods.n → r < d → Chosen b t i y plan high → relB b t s worst nl best →
    ∃ (worst' : Int) (plan' high' : Arr Int) (nl' : Bool) (best' : Arr Int), (plan'.n = t.Periods.n ∧ high'.n = t.Periods.n ∧ ∀ j, j < i → plan'.f j = plan.f j ∧ high'.f j = high.f j) ∧ relB b t (runX b t (b.Paces.n ^ r) (y * b.Paces.n ^ r) s) worst' nl' best' ∧
      ∀ {R : Type} (k : Int → Arr Int → Arr Int → Bool → Arr Int → Option R), energy_search_from_r N d (i : Int) b.Up b.Pull b.Drag b.Body b.Ride b.Most b.Paces b.Num b.Den t.Periods t.Peak worst false plan false high nl best k = k worst' plan' high' nl' best' := by
  have hn2 := ht.n2
  have hl1 := h.l1
  have hl2 := h.l2
  have hT : api_Times.mk t.Periods t.Peak = t := rfl
  have hB : api_Band.mk b.Up b.Pull b.Drag b.Body b.Ride b.Most b.Paces b.Num b.Den = b := rfl
  intro r
  induction r with
  | zero =>
    intro i d y plan high nl best worst s h1 h2 hc hs
    obtain ⟨d, rfl⟩ : ∃ m, d = m + 1 := ⟨d - 1, by omega⟩
    have hi : i = t.Periods.n := by omega
    subst hi
    have hpl : plan.Is t.Periods.n (planF b t.Periods.n y) := ⟨hc.pn, fun j hj => hc.dg y (by rw [Nat.sub_self]; simp) (by rw [Nat.sub_self]; simp) j hj⟩
    have hcost : billS t high.f = costX b t y := billS_congr fun j hj => by rw [hc.pw j hj, hpl.get j hj]
    have hpow : powP high.f t.Periods.n := fun j hj => by
      rw [hc.pw j hj, hpl.get j hj]
      exact cost_pow h ht (fun j _ => planF_pace h _ _ j) j hj
    have hsv : srvX b t y := fun j hj => by rw [← hpl.get j hj]; exact hc.sv j hj
    have hrun : runX b t (b.Paces.n ^ 0) (y * b.Paces.n ^ 0) s = stepX b t s y := by
      rw [Nat.pow_zero, Nat.mul_one]; rfl
    have e0 : ((t.Periods.n : Int) == (t.Periods.n : Int)) = true := by simp
    rw [hrun]
    unfold stepX
    rw [if_pos hsv]
    cases s with
    | none =>
      obtain ⟨rfl, rfl⟩ := hs
      refine ⟨costX b t y, plan, high, false, _, ⟨hc.pn, hc.hn, fun j _ => ⟨rfl, rfl⟩⟩, ⟨rfl, rfl, copy_is hpl⟩, fun {R} k => ?_⟩
      show energy_search_from_t N (energy_search_from_r N d) (t.Periods.n : Int) b.Up b.Pull b.Drag b.Body b.Ride b.Most b.Paces b.Num b.Den t.Periods t.Peak 0 false plan false high true best k = _
      unfold energy_search_from_t
      simp only [e0, cond_true, hT]
      rw [bill_eq hN ht hc.hn hpow, Clone_eq (by rw [hc.pn]; omega), hcost]
    | some z =>
      obtain ⟨rfl, hw, hbest⟩ := hs
      by_cases hlt : costX b t y < costX b t z
      · refine ⟨costX b t y, plan, high, false, _, ⟨hc.pn, hc.hn, fun j _ => ⟨rfl, rfl⟩⟩, by simp only [hlt, if_true]; exact ⟨rfl, rfl, copy_is hpl⟩, fun {R} k => ?_⟩
        show energy_search_from_t N (energy_search_from_r N d) (t.Periods.n : Int) b.Up b.Pull b.Drag b.Body b.Ride b.Most b.Paces b.Num b.Den t.Periods t.Peak worst false plan false high false best k = _
        unfold energy_search_from_t
        simp only [e0, cond_true, hT]
        rw [bill_eq hN ht hc.hn hpow, hcost]
        have : decide (costX b t y < worst) = true := by rw [hw]; simpa using hlt
        simp only [cond_false, this, cond_true]
        rw [Clone_eq (by rw [hc.pn]; omega)]
      · refine ⟨worst, plan, high, false, best, ⟨hc.pn, hc.hn, fun j _ => ⟨rfl, rfl⟩⟩, by simp only [hlt, if_false]; exact ⟨rfl, hw, hbest⟩, fun {R} k => ?_⟩
        show energy_search_from_t N (energy_search_from_r N d) (t.Periods.n : Int) b.Up b.Pull b.Drag b.Body b.Ride b.Most b.Paces b.Num b.Den t.Periods t.Peak worst false plan false high false best k = _
        unfold energy_search_from_t
        simp only [e0, cond_true, hT]
        rw [bill_eq hN ht hc.hn hpow, hcost]
        have : decide (costX b t y < worst) = false := by rw [hw]; simpa using hlt
        simp only [cond_false, this]
  | succ r ih =>
    intro i d y plan high nl best worst s h1 h2 hc hs
    obtain ⟨d, rfl⟩ : ∃ m, d = m + 1 := ⟨d - 1, by omega⟩
    have hi : i < t.Periods.n := by omega
    have hper := ht.per i hi
    have hQ : 0 < b.Paces.n ^ r := Nat.pow_pos (by omega)
    have e0 : ((i : Int) == (t.Periods.n : Int)) = false := by simp; omega
    have em : t.Periods.n - i = r + 1 := by omega
    have em1 : t.Periods.n - 1 - i = r := by omega
    have em2 : t.Periods.n - (i + 1) = r := by omega
    -- the paces, one by one
    have loop : ∀ (q j n : Nat) (plan1 high1 : Arr Int) (nl1 : Bool) (best1 : Arr Int) (worst1 : Int), j + q = b.Paces.n → q < n → plan1.n = t.Periods.n → high1.n = t.Periods.n → (∀ u, u < i → plan1.f u = plan.f u ∧ high1.f u = high.f u) →
        relB b t (runX b t (j * b.Paces.n ^ r) (y * b.Paces.n ^ (r + 1)) s) worst1 nl1 best1 →
        ∃ (worst' : Int) (plan' high' : Arr Int) (nl' : Bool) (best' : Arr Int), (plan'.n = t.Periods.n ∧ high'.n = t.Periods.n ∧ ∀ u, u < i → plan'.f u = plan.f u ∧ high'.f u = high.f u) ∧ relB b t (runX b t (b.Paces.n * b.Paces.n ^ r) (y * b.Paces.n ^ (r + 1)) s) worst' nl' best' ∧
          ∀ {R : Type} (k : Int → Arr Int → Arr Int → Bool → Arr Int → Option R), energy_search_from_l6 N (energy_search_from_r N d) n (i : Int) b.Paces (b.Paces.n : Int) (j : Int) b.Up b.Pull b.Drag b.Body b.Ride b.Most b.Paces b.Num b.Den t.Periods t.Peak worst1 false plan1 false high1 (t.Periods.f i) nl1 best1 k = k worst' plan' high' nl' best' := by
      intro q
      induction q with
      | zero =>
        intro j n plan1 high1 nl1 best1 worst1 g1 g2 g3 g4 g5 g6
        obtain ⟨n, rfl⟩ : ∃ m, n = m + 1 := ⟨n - 1, by omega⟩
        have : j = b.Paces.n := by omega
        subst this
        refine ⟨worst1, plan1, high1, nl1, best1, ⟨g3, g4, g5⟩, g6, fun {R} k => ?_⟩
        unfold energy_search_from_l6 energy_search_from_b6
        simp only [lt_false (Nat.le_refl b.Paces.n), cond_false]
      | succ q ihq =>
        intro j n plan1 high1 nl1 best1 worst1 g1 g2 g3 g4 g5 g6
        obtain ⟨n, rfl⟩ : ∃ m, n = m + 1 := ⟨n - 1, by omega⟩
        have hpc := h.pace j (by omega)
        have hf3 := hper.f3
        have hf1 := hper.f1
        have hf2 := hper.f2
        have hfp : Fp (t.Periods.f i).Flow.High (b.Paces.f j) := ⟨by omega, hf3, hpc.1, hpc.2⟩
        have hz : y * b.Paces.n ^ (r + 1) + j * b.Paces.n ^ r = (y * b.Paces.n + j) * b.Paces.n ^ r := by
          rw [Nat.pow_succ, Nat.add_mul, Nat.mul_assoc, Nat.mul_comm (b.Paces.n ^ r)]
        have hnext : runX b t ((j + 1) * b.Paces.n ^ r) (y * b.Paces.n ^ (r + 1)) s = runX b t (b.Paces.n ^ r) ((y * b.Paces.n + j) * b.Paces.n ^ r) (runX b t (j * b.Paces.n ^ r) (y * b.Paces.n ^ (r + 1)) s) := by
          rw [Nat.add_mul, Nat.one_mul, runX_add, hz]
        have hdg : ∀ x, (y * b.Paces.n + j) * b.Paces.n ^ r ≤ x → x < (y * b.Paces.n + j + 1) * b.Paces.n ^ r → planF b t.Periods.n x i = b.Paces.f j := fun x x1 x2 => by
          unfold planF
          rw [dig_of (P := b.Paces.n) (z := y * b.Paces.n + j) hi (by rw [em1]; exact x1) (by rw [em1]; exact x2), Nat.add_comm, Nat.add_mul_mod_self_right, Nat.mod_eq_of_lt (by omega)]
        by_cases hsv : loadS b (t.Periods.f i).Flow.High (b.Paces.f j) ≤ b.Most
        · have hc1 : Chosen b t (i + 1) (y * b.Paces.n + j) (setI plan1 i (b.Paces.f j)) (setI high1 i (powerS b (endF b t true i) (b.Paces.f j))) := by
            refine ⟨g3, g4, fun x x1 x2 u hu => ?_, fun u hu => ?_, fun u hu => ?_⟩
            · rw [em2] at x1 x2
              rw [setI_f]
              by_cases e : u = i
              · subst e; rw [if_pos rfl, hdg x x1 x2]
              · rw [if_neg e, (g5 u (by omega)).1]
                refine hc.dg x ?_ ?_ u (by omega)
                · rw [em, Nat.pow_succ, Nat.mul_comm (b.Paces.n ^ r), ← Nat.mul_assoc]
                  exact Nat.le_trans (Nat.mul_le_mul_right _ (Nat.le_add_right _ j)) x1
                · rw [em, Nat.pow_succ, Nat.mul_comm (b.Paces.n ^ r), ← Nat.mul_assoc]
                  refine Nat.lt_of_lt_of_le x2 (Nat.mul_le_mul_right _ ?_)
                  rw [Nat.add_mul, Nat.one_mul]
                  omega
            · rw [setI_f, setI_f]
              by_cases e : u = i
              · subst e; rw [if_pos rfl, if_pos rfl]
              · rw [if_neg e, if_neg e, (g5 u (by omega)).1, (g5 u (by omega)).2]; exact hc.pw u (by omega)
            · rw [setI_f]
              by_cases e : u = i
              · subst e; rw [if_pos rfl]; exact hsv
              · rw [if_neg e, (g5 u (by omega)).1]; exact hc.sv u (by omega)
          obtain ⟨w2, p2, h2', nl2, b2, ⟨q1, q2, q3⟩, q4, q5⟩ := ih (i + 1) d (y * b.Paces.n + j) _ _ nl1 best1 worst1 _ (by omega) (by omega) hc1 g6
          rw [← hnext] at q4
          obtain ⟨w3, p3, h3', nl3, b3, z1, z2, z3⟩ := ihq (j + 1) n p2 h2' nl2 b2 w2 (by omega) (by omega) q1 q2 (fun u hu => by
            obtain ⟨a1, a2⟩ := q3 u (by omega)
            rw [a1, a2, setI_f, setI_f, if_neg (by omega), if_neg (by omega)]
            exact g5 u hu) q4
          refine ⟨w3, p3, h3', nl3, b3, z1, z2, fun {R} k => ?_⟩
          unfold energy_search_from_l6 energy_search_from_b6
          simp only [lt_true (show j < b.Paces.n by omega), lt_true (show i < plan1.n by omega), lt_true (show i < high1.n by omega), nat_nonneg, Bool.and_self, cond_true, Int.toNat_natCast, w64_succ (show i < 1000000000000 by omega), w64_succ (show j < 1000000000000 by omega), hB, serves_eq N h hfp, decide_eq_true hsv, ends_eq N h hper hpc]
          exact (q5 _).trans (z3 k)
        · have hskip : runX b t (b.Paces.n ^ r) ((y * b.Paces.n + j) * b.Paces.n ^ r) (runX b t (j * b.Paces.n ^ r) (y * b.Paces.n ^ (r + 1)) s) = runX b t (j * b.Paces.n ^ r) (y * b.Paces.n ^ (r + 1)) s :=
            runX_skip _ _ _ fun z z1 z2 hz' => hsv (by
              have := hz' i hi
              rw [hdg z z1 (by rw [Nat.add_mul _ 1, Nat.one_mul]; exact z2)] at this
              exact this)
          rw [hskip] at hnext
          rw [← hnext] at g6
          obtain ⟨w3, p3, h3', nl3, b3, z1, z2, z3⟩ := ihq (j + 1) n plan1 high1 nl1 best1 worst1 (by omega) (by omega) g3 g4 g5 g6
          refine ⟨w3, p3, h3', nl3, b3, z1, z2, fun {R} k => ?_⟩
          unfold energy_search_from_l6 energy_search_from_b6
          simp only [lt_true (show j < b.Paces.n by omega), nat_nonneg, Bool.and_self, cond_true, cond_false, Int.toNat_natCast, w64_succ (show j < 1000000000000 by omega), hB, serves_eq N h hfp, decide_eq_false hsv]
          exact z3 k
    obtain ⟨w3, p3, h3', nl3, b3, z1, z2, z3⟩ := loop b.Paces.n 0 N plan high nl best worst (by omega) (by omega) hc.pn hc.hn (fun u _ => ⟨rfl, rfl⟩) (by rw [Nat.zero_mul]; exact hs)
    refine ⟨w3, p3, h3', nl3, b3, z1, by rw [Nat.pow_succ, Nat.mul_comm (b.Paces.n ^ r)] at z2 ⊢; exact z2, fun {R} k => ?_⟩
    show energy_search_from_t N (energy_search_from_r N d) (i : Int) b.Up b.Pull b.Drag b.Body b.Ride b.Most b.Paces b.Num b.Den t.Periods t.Peak worst false plan false high nl best k = _
    unfold energy_search_from_t
    simp only [e0, cond_false, lt_true hi, nat_nonneg, Bool.and_self, cond_true, Int.toNat_natCast]
    exact z3 k

/-- The number of the cheapest plan. -/
noncomputable def cheapX (b : api_Band) (t : api_Times) : Option Nat := runX b t (b.Paces.n ^ t.Periods.n) 0 none
noncomputable def chE (b : api_Band) (t : api_Times) : Int := if timesV b t = 0 then (match cheapX b t with | none => 3 | some _ => 0) else timesV b t
noncomputable def chV (b : api_Band) (t : api_Times) : Int := if timesV b t = 0 then (match cheapX b t with | none => 0 | some y => costX b t y) else 0
noncomputable def chN (b : api_Band) (t : api_Times) : Nat := if timesV b t = 0 then (match cheapX b t with | none => 0 | some y => t.Periods.n) else 0
noncomputable def chF (b : api_Band) (t : api_Times) : Nat → Int := match cheapX b t with | none => fun _ => 0 | some y => planF b t.Periods.n y

theorem chosen0 {b : api_Band} {t : api_Times} : Chosen b t 0 0 (zerI t.Periods.n) (zerI t.Periods.n) :=
  ⟨rfl, rfl, fun _ _ _ j hj => by omega, fun j hj => by omega, fun j hj => by omega⟩

theorem Cheapest_eq {N : Nat} (hN : 20 ≤ N) (b : api_Band) (t : api_Times) :
    ∃ (f : Bool) (a : Arr Int), a.Is (chN b t) (chF b t) ∧ ∀ {R : Type} (k : Int → Int → Bool → Arr Int → Option R), energy_Cheapest N b t k = k (chV b t) (chE b t) f a := by
  by_cases h : timesV b t = 0
  rotate_left
  · refine ⟨true, emI, by unfold chN; rw [if_neg h]; exact Arr.Is.zero, fun {R} k => ?_⟩
    rw [energy_Cheapest_def]
    unfold energy_Cheapest_m
    rw [checkTimes_eq hN]
    unfold chV chE
    rw [if_neg h, if_neg h]
    have : (timesV b t != 0) = true := by simpa using h
    simp only [this, cond_true]
    rfl
  obtain ⟨hb, ht⟩ := timesV_zero.1 h
  have hn2 := ht.n2
  obtain ⟨w, p, hh, nl, a, h1, h2, h3⟩ := from_eq hN hb ht t.Periods.n 0 N 0 (zerI t.Periods.n) (zerI t.Periods.n) true emI 0 none (by omega) (by omega) chosen0 ⟨rfl, rfl⟩
  rw [Nat.zero_mul] at h2
  change relB b t (cheapX b t) w nl a at h2
  have c2 : decide ((t.Periods.n : Int) ≤ (1073741824 : Int)) = true := by simp; omega
  cases hx : cheapX b t with
  | none =>
    rw [hx] at h2
    obtain ⟨rfl, rfl⟩ := h2
    refine ⟨true, emI, by unfold chN; rw [if_pos h, hx]; exact Arr.Is.zero, fun {R} k => ?_⟩
    rw [energy_Cheapest_def]
    unfold energy_Cheapest_m
    rw [checkTimes_eq hN]
    unfold chV chE
    rw [if_pos h, if_pos h, h, hx]
    simp only [bne_self_eq_false, cond_false, Int.le_refl, decide_true, c2, Bool.and_self, cond_true]
    rw [energy_search_from_def]
    refine Eq.trans (h3 _) ?_
    rfl
  | some y =>
    rw [hx] at h2
    obtain ⟨rfl, rfl, h4⟩ := h2
    refine ⟨false, a, by unfold chN chF; rw [if_pos h, hx]; exact h4, fun {R} k => ?_⟩
    rw [energy_Cheapest_def]
    unfold energy_Cheapest_m
    rw [checkTimes_eq hN]
    unfold chV chE
    rw [if_pos h, if_pos h, h, hx]
    simp only [bne_self_eq_false, cond_false, Int.le_refl, decide_true, c2, Bool.and_self, cond_true]
    rw [energy_search_from_def]
    refine Eq.trans (h3 _) ?_
    rfl

/-! ### The document's way -/
section
variable {R : Type}

theorem ref_l6_eq (N : Nat) {b : api_Band} (h : VB b) {t : api_Times} (ht : VT t) (w : Int) (nl : Bool) (best : Arr Int) (k0 : Int → Option R) : ∀ (r i n : Nat), i + r = t.Periods.n → r < n →
    newelref11_Cheapest_l6 N n w ((b.Paces.n ^ i : Nat) : Int) (i : Int) b t nl best k0 = k0 ((b.Paces.n ^ t.Periods.n : Nat) : Int) := by
  have hn2 := ht.n2
  have hl2 := h.l2
  intro r
  induction r with
  | zero =>
    intro i n h1 h2
    obtain ⟨n, rfl⟩ : ∃ m, n = m + 1 := ⟨n - 1, by omega⟩
    unfold newelref11_Cheapest_l6 newelref11_Cheapest_b6
    simp only [lt_false (show t.Periods.n ≤ i by omega), cond_false]
    rw [show i = t.Periods.n by omega]
  | succ r ih =>
    intro i n h1 h2
    obtain ⟨n, rfl⟩ : ∃ m, n = m + 1 := ⟨n - 1, by omega⟩
    unfold newelref11_Cheapest_l6 newelref11_Cheapest_b6
    have h3 : b.Paces.n ^ (i + 1) ≤ 3 ^ 8 := Nat.le_trans (Nat.pow_le_pow_left hl2 _) (Nat.pow_le_pow_right (by omega) (by omega))
    have h4 : ((b.Paces.n ^ i : Nat) : Int) * (b.Paces.n : Int) = ((b.Paces.n ^ (i + 1) : Nat) : Int) := by
      rw [Nat.pow_succ, Int.natCast_mul]
    simp only [lt_true (show i < t.Periods.n by omega), cond_true, w64_succ (show i < 1000000000000 by omega)]
    rw [h4, w64_eq (by omega) (by omega)]
    exact ih (i + 1) n (by omega) (by omega)

theorem ref_l16_eq (N : Nat) {b : api_Band} (h : VB b) {t : api_Times} (ht : VT t) (x : Nat) (w all : Int) (nl c1 c2 : Bool) (best high : Arr Int) (hx : x < 1000000) : ∀ (r n : Nat) (list : Arr Int), r ≤ t.Periods.n → r < n → list.n = t.Periods.n → (∀ j, r ≤ j → j < t.Periods.n → list.f j = planF b t.Periods.n x j) →
    ∃ list' : Arr Int, list'.Is t.Periods.n (planF b t.Periods.n x) ∧ ∀ {R : Type} (k : Arr Int → Option R), newelref11_Cheapest_l16 N n w all (x : Int) ((x / b.Paces.n ^ (t.Periods.n - r) : Nat) : Int) ((r : Int) - 1) b t nl best c1 list c2 high k = k list' := by
  have hn2 := ht.n2
  have hl1 := h.l1
  have hl2 := h.l2
  intro r
  induction r with
  | zero =>
    intro n list h1 h2 h3 h4
    obtain ⟨n, rfl⟩ : ∃ m, n = m + 1 := ⟨n - 1, by omega⟩
    refine ⟨list, ⟨h3, fun j hj => h4 j (by omega) hj⟩, fun {R} k => ?_⟩
    unfold newelref11_Cheapest_l16 newelref11_Cheapest_b16
    have : decide (((0 : Nat) : Int) - 1 ≥ 0) = false := rfl
    simp only [this, cond_false]
  | succ r ih =>
    intro n list h1 h2 h3 h4
    obtain ⟨n, rfl⟩ : ∃ m, n = m + 1 := ⟨n - 1, by omega⟩
    have e1 : t.Periods.n - (r + 1) = t.Periods.n - 1 - r := by omega
    have hd : (x / b.Paces.n ^ (t.Periods.n - (r + 1))) % b.Paces.n = dig b.Paces.n t.Periods.n x r := by unfold dig; rw [e1]
    have hdiv : x / b.Paces.n ^ (t.Periods.n - (r + 1)) / b.Paces.n = x / b.Paces.n ^ (t.Periods.n - r) := by
      rw [Nat.div_div_eq_div_mul, ← Nat.pow_succ]
      congr 2
      omega
    obtain ⟨list', h5, h6⟩ := ih n (setI list r (planF b t.Periods.n x r)) (by omega) (by omega) h3 (fun j j1 j2 => by
      rw [setI_f]
      by_cases e : j = r
      · subst e; rw [if_pos rfl]
      · rw [if_neg e]; exact h4 j (by omega) j2)
    refine ⟨list', h5, fun {R} k => ?_⟩
    unfold newelref11_Cheapest_l16 newelref11_Cheapest_b16
    have e2 : ((r + 1 : Nat) : Int) - 1 = (r : Int) := by omega
    have e3 : decide ((r : Int) ≥ 0) = true := by simp
    have e4 : ((b.Paces.n : Int) == 0) = false := by simp; omega
    have hmod : Int.tmod ((x / b.Paces.n ^ (t.Periods.n - (r + 1)) : Nat) : Int) (b.Paces.n : Int) = ((dig b.Paces.n t.Periods.n x r : Nat) : Int) := by
      rw [← hd]; rfl
    have htd : w64 (Int.tdiv ((x / b.Paces.n ^ (t.Periods.n - (r + 1)) : Nat) : Int) (b.Paces.n : Int)) = ((x / b.Paces.n ^ (t.Periods.n - r) : Nat) : Int) := by
      have : Int.tdiv ((x / b.Paces.n ^ (t.Periods.n - (r + 1)) : Nat) : Int) (b.Paces.n : Int) = ((x / b.Paces.n ^ (t.Periods.n - r) : Nat) : Int) := by
        rw [← hdiv]; rfl
      rw [this]
      have hle : x / b.Paces.n ^ (t.Periods.n - r) ≤ x := Nat.div_le_self _ _
      clear this hdiv hmod hd
      generalize x / b.Paces.n ^ (t.Periods.n - r) = q at hle ⊢
      rw [w64_eq (by omega) (by omega)]
    have hlt : dig b.Paces.n t.Periods.n x r < b.Paces.n := Nat.mod_lt _ (by omega)
    have hw : w64 ((r : Int) - 1) = (r : Int) - 1 := w64_eq (by omega) (by omega)
    rw [e2]
    simp only [e3, cond_true, e4, cond_false, hmod, htd, hw, lt_true hlt, lt_true (show r < list.n by omega), nat_nonneg, Bool.and_self, Int.toNat_natCast]
    exact h6 k

open Classical in
theorem Serves_l2_eq (N : Nat) {b : api_Band} (h : VB b) {t : api_Times} (ht : VT t) {p : Arr Int} (hn : p.n = t.Periods.n) (hp : ∀ j, j < p.n → 1 ≤ p.f j ∧ p.f j ≤ 100) (kr : Bool → Option R) (k0 : Unit → Option R) : ∀ (r i n : Nat), i + r = p.n → r < n →
    newelref11_Serves_l2 N n p (i : Int) b t kr k0 = if (∀ j, i ≤ j → j < p.n → srvJ b t j (p.f j)) then k0 () else kr false := by
  have hn2 := ht.n2
  intro r
  induction r with
  | zero =>
    intro i n h1 h2
    obtain ⟨n, rfl⟩ : ∃ m, n = m + 1 := ⟨n - 1, by omega⟩
    unfold newelref11_Serves_l2 newelref11_Serves_b2
    rw [if_pos (show ∀ j, i ≤ j → j < p.n → srvJ b t j (p.f j) from fun j h3 h4 => by omega)]
    simp only [lt_false (show p.n ≤ i by omega), cond_false]
  | succ r ih =>
    intro i n h1 h2
    obtain ⟨n, rfl⟩ : ∃ m, n = m + 1 := ⟨n - 1, by omega⟩
    unfold newelref11_Serves_l2 newelref11_Serves_b2
    have hq := ht.per i (by omega)
    have f1 := hq.f1
    have f2 := hq.f2
    have f3 := hq.f3
    have hpi := hp i (by omega)
    simp only [lt_true (show i < p.n by omega), lt_true (show i < t.Periods.n by omega), nat_nonneg, Bool.and_self, cond_true, Int.toNat_natCast, w64_succ (show i < 1000000000000 by omega), refload_eq N h (show Fp (t.Periods.f i).Flow.High (p.f i) from ⟨by omega, f3, hpi.1, hpi.2⟩)]
    by_cases hs : srvJ b t i (p.f i)
    · have hs' := hs
      unfold srvJ at hs'
      have e : decide (loadS b (t.Periods.f i).Flow.High (p.f i) > b.Most) = false := by simp; omega
      simp only [e, cond_false, all_step (P := fun j => srvJ b t j (p.f j)) hs]
      exact ih (i + 1) n (by omega) (by omega)
    · rw [if_neg (fun g => hs (g i (Nat.le_refl _) (by omega)))]
      unfold srvJ at hs
      have e : decide (loadS b (t.Periods.f i).Flow.High (p.f i) > b.Most) = true := by simp; omega
      simp only [e, cond_true]

open Classical in
theorem Serves_eq {N : Nat} (hN : 20 ≤ N) {b : api_Band} (h : VB b) {t : api_Times} (ht : VT t) {p : Arr Int} (hn : p.n = t.Periods.n) (hp : ∀ j, j < p.n → 1 ≤ p.f j ∧ p.f j ≤ 100) (k : Bool → Option R) : newelref11_Serves N b t p k = k (decide (∀ j, j < p.n → srvJ b t j (p.f j))) := by
  rw [newelref11_Serves_def]
  unfold newelref11_Serves_m
  have hn2 := ht.n2
  refine Eq.trans (Serves_l2_eq N h ht hn hp _ _ p.n 0 N (by omega) (by omega)) ?_
  by_cases hs : ∀ j, j < p.n → srvJ b t j (p.f j)
  · rw [decide_eq_true hs, if_pos (fun j _ hj => hs j hj)]
  · rw [decide_eq_false hs, if_neg (fun g => hs (fun j hj => g j (by omega) hj))]

theorem ref_l12_eq {N : Nat} (hN : 20 ≤ N) {b : api_Band} (h : VB b) {t : api_Times} (ht : VT t) {M : Nat} (hM : M ≤ 100000) {high : Arr Int} (hh : high.Is t.Periods.n (endF b t true)) (c2 : Bool) : ∀ (r x n : Nat) (w : Int) (nl c1 : Bool) (best list : Arr Int) (s : Option Nat), x + r = M → r < n → list.n = t.Periods.n → relB b t s w nl best →
    ∃ (w' : Int) (nl' : Bool) (best' : Arr Int), relB b t (runX b t r x s) w' nl' best' ∧ ∀ {R : Type} (k : Int → Bool → Arr Int → Option R), newelref11_Cheapest_l12 N n w (M : Int) (x : Int) b t nl best c1 list c2 high k = k w' nl' best' := by
  have hn2 := ht.n2
  intro r
  induction r with
  | zero =>
    intro x n w nl c1 best list s h1 h2 h3 h4
    obtain ⟨n, rfl⟩ : ∃ m, n = m + 1 := ⟨n - 1, by omega⟩
    refine ⟨w, nl, best, h4, fun {R} k => ?_⟩
    unfold newelref11_Cheapest_l12 newelref11_Cheapest_b12
    simp only [lt_false (show M ≤ x by omega), cond_false]
  | succ r ih =>
    intro x n w nl c1 best list s h1 h2 h3 h4
    obtain ⟨n, rfl⟩ : ∃ m, n = m + 1 := ⟨n - 1, by omega⟩
    obtain ⟨l', i1, q1⟩ := ref_l16_eq N h ht x w (M : Int) nl c1 c2 best high (by omega) t.Periods.n N list (Nat.le_refl _) (by omega) h3 (fun j j1 j2 => by omega)
    rw [Nat.sub_self, Nat.pow_zero, Nat.div_one] at q1
    have hln := i1.len
    have hlp : ∀ j, j < l'.n → 1 ≤ l'.f j ∧ l'.f j ≤ 100 := fun j hj => by rw [i1.get j (by omega)]; exact planF_pace h _ _ j
    have hw1 : w64 ((list.n : Int) - 1) = (t.Periods.n : Int) - 1 := by rw [h3, w64_eq (by omega) (by omega)]
    have hsv : (∀ j, j < l'.n → srvJ b t j (l'.f j)) ↔ srvX b t x := by
      constructor
      · intro g j hj; rw [← i1.get j hj]; exact g j (by omega)
      · intro g j hj; rw [i1.get j (by omega)]; exact g j (by omega)
    have hff : ∀ j, j < t.Periods.n → Fp (high.f j) (l'.f j) := fun j hj => by
      rw [hh.get j hj]
      have := endF_range (b := b) ht true hj
      have := hlp j (by omega)
      exact ⟨by omega, by omega, by omega, by omega⟩
    have hcost : billS t (pwS b l' high) = costX b t x := billS_congr fun j hj => by unfold pwS; rw [hh.get j hj, i1.get j hj]
    have hroom : room (0 + l'.n) = true := room_of (by omega)
    have hcp := copy_is i1
    by_cases hs : srvX b t x
    · have hd := hsv.2 hs
      have hrun : runX b t (r + 1) x s = runX b t r (x + 1) (stepX b t s x) := rfl
      cases s with
      | none =>
        obtain ⟨rfl, rfl⟩ := h4
        have hst : stepX b t none x = some x := by unfold stepX; rw [if_pos hs]
        obtain ⟨w', nl', best', z1, z2⟩ := ih (x + 1) n (costX b t x) false c1 _ l' (some x) (by omega) (by omega) hln ⟨rfl, rfl, hcp⟩
        rw [hrun, hst]
        refine ⟨w', nl', best', z1, fun {R} k => ?_⟩
        unfold newelref11_Cheapest_l12 newelref11_Cheapest_b12
        simp only [lt_true (show x < M by omega), cond_true, hw1, q1, Serves_eq hN h ht hln hlp, decide_eq_true hd, Bool.not_true, cond_false, refbill_eq hN h ht hln hh.len hff, hcost, hroom, Bool.cond_self, w64_succ (show x < 1000000000000 by omega)]
        exact z2 k
      | some z =>
        obtain ⟨rfl, hw, hbest⟩ := h4
        by_cases hlt : costX b t x < costX b t z
        · have hst : stepX b t (some z) x = some x := by unfold stepX; rw [if_pos hs]; simp only [hlt, if_true]
          obtain ⟨w', nl', best', z1, z2⟩ := ih (x + 1) n (costX b t x) false c1 _ l' (some x) (by omega) (by omega) hln ⟨rfl, rfl, hcp⟩
          rw [hrun, hst]
          refine ⟨w', nl', best', z1, fun {R} k => ?_⟩
          unfold newelref11_Cheapest_l12 newelref11_Cheapest_b12
          have hlt' : decide (costX b t x < w) = true := by rw [hw]; simpa using hlt
          simp only [lt_true (show x < M by omega), cond_true, hw1, q1, Serves_eq hN h ht hln hlp, decide_eq_true hd, Bool.not_true, cond_false, refbill_eq hN h ht hln hh.len hff, hcost, hroom, Bool.cond_self, w64_succ (show x < 1000000000000 by omega), hlt']
          exact z2 k
        · have hst : stepX b t (some z) x = some z := by unfold stepX; rw [if_pos hs]; simp only [hlt, if_false]
          obtain ⟨w', nl', best', z1, z2⟩ := ih (x + 1) n w false c1 best l' (some z) (by omega) (by omega) hln ⟨rfl, hw, hbest⟩
          rw [hrun, hst]
          refine ⟨w', nl', best', z1, fun {R} k => ?_⟩
          unfold newelref11_Cheapest_l12 newelref11_Cheapest_b12
          have hlt' : decide (costX b t x < w) = false := by rw [hw]; simpa using hlt
          simp only [lt_true (show x < M by omega), cond_true, hw1, q1, Serves_eq hN h ht hln hlp, decide_eq_true hd, Bool.not_true, cond_false, refbill_eq hN h ht hln hh.len hff, hcost, w64_succ (show x < 1000000000000 by omega), hlt']
          exact z2 k
    · have hd : ¬ ∀ j, j < l'.n → srvJ b t j (l'.f j) := fun g => hs (hsv.1 g)
      have hrun : runX b t (r + 1) x s = runX b t r (x + 1) s := by
        show runX b t r (x + 1) (stepX b t s x) = _
        have : stepX b t s x = s := by unfold stepX; rw [if_neg hs]
        rw [this]
      obtain ⟨w', nl', best', z1, z2⟩ := ih (x + 1) n w nl c1 best l' s (by omega) (by omega) hln h4
      rw [hrun]
      refine ⟨w', nl', best', z1, fun {R} k => ?_⟩
      unfold newelref11_Cheapest_l12 newelref11_Cheapest_b12
      simp only [lt_true (show x < M by omega), cond_true, hw1, q1, Serves_eq hN h ht hln hlp, decide_eq_false hd, Bool.not_false, w64_succ (show x < 1000000000000 by omega)]
      exact z2 k

theorem refCheapest_eq {N : Nat} (hN : 10000 ≤ N) (b : api_Band) (t : api_Times) :
    ∃ (f : Bool) (a : Arr Int), a.Is (chN b t) (chF b t) ∧ ∀ {R : Type} (k : Int → Int → Bool → Arr Int → Option R), newelref11_Cheapest N b t k = k (chV b t) (chE b t) f a := by
  by_cases h : timesV b t = 0
  rotate_left
  · refine ⟨true, emI, by unfold chN; rw [if_neg h]; exact Arr.Is.zero, fun {R} k => ?_⟩
    rw [newelref11_Cheapest_def]
    unfold newelref11_Cheapest_m
    rw [refTimes_eq (by omega)]
    unfold chV chE
    rw [if_neg h, if_neg h]
    have : (timesV b t != 0) = true := by simpa using h
    simp only [this, cond_true]
    rfl
  obtain ⟨hb, ht⟩ := timesV_zero.1 h
  have hn2 := ht.n2
  have hl2 := hb.l2
  have hM : b.Paces.n ^ t.Periods.n ≤ 6561 := Nat.le_trans (Nat.pow_le_pow_left hl2 _) (Nat.pow_le_pow_right (n := 3) (by omega) hn2)
  obtain ⟨c2, hi, ih1, ih2⟩ := refends_eq (show 1001 ≤ N by omega) (b := b) (t := t) (by omega) true
  obtain ⟨w, nl, a, h2, h3⟩ := ref_l12_eq (show 20 ≤ N by omega) hb ht (M := b.Paces.n ^ t.Periods.n) (by omega) ih1 c2 (b.Paces.n ^ t.Periods.n) 0 N 0 true false emI (zerI t.Periods.n) none (by omega) (by omega) rfl ⟨rfl, rfl⟩
  change relB b t (cheapX b t) w nl a at h2
  have c3 : decide ((t.Periods.n : Int) ≤ (1073741824 : Int)) = true := by simp; omega
  have l6 : ∀ {R : Type} (k0 : Int → Option R), newelref11_Cheapest_l6 N N (0 : Int) (1 : Int) (0 : Int) b t true emI k0 = k0 ((b.Paces.n ^ t.Periods.n : Nat) : Int) := fun k0 =>
    ref_l6_eq N hb ht 0 true emI k0 t.Periods.n 0 N (by omega) (by omega)
  have body : ∀ {R : Type} (k : Int → Int → Bool → Arr Int → Option R), newelref11_Cheapest N b t k = bif nl then k 0 3 true emI else k w 0 nl a := fun {R} k => by
    rw [newelref11_Cheapest_def]
    unfold newelref11_Cheapest_m
    rw [refTimes_eq (by omega), h]
    simp only [bne_self_eq_false, cond_false]
    refine Eq.trans (l6 _) ?_
    simp only [Int.le_refl, decide_true, c3, Bool.and_self, cond_true, ih2]
    exact h3 _
  cases hx : cheapX b t with
  | none =>
    rw [hx] at h2
    obtain ⟨rfl, rfl⟩ := h2
    refine ⟨true, emI, by unfold chN; rw [if_pos h, hx]; exact Arr.Is.zero, fun {R} k => ?_⟩
    rw [body]
    unfold chV chE
    rw [if_pos h, if_pos h, hx]
    rfl
  | some y =>
    rw [hx] at h2
    obtain ⟨rfl, rfl, h4⟩ := h2
    refine ⟨false, a, by unfold chN chF; rw [if_pos h, hx]; exact h4, fun {R} k => ?_⟩
    rw [body]
    unfold chV chE
    rw [if_pos h, if_pos h, hx]
    rfl

end
end Go.Proofs.Ytfaefhegfcidpaa
