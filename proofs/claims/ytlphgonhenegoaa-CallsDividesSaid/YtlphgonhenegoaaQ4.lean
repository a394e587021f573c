/-
  Several texts in one.
-/
import Derived.Test.YtlphgonhenegoaaQ3
import Derived.Test.YtlphgonhenegoaaQ2
set_option linter.unusedVariables false
set_option linter.unusedSimpArgs false
set_option maxHeartbeats 0
set_option maxRecDepth 100000
namespace Go.Proofs.Ytlphgonhenegoaa
open Go.Sx
section
def lowD (x : Nat → Int) : Nat → Int
  | 0 => 0
  | i + 1 => x i + 1
def PrD (F : Nat) (x : Nat → Int) (m : Nat) : Prop := ∀ i, i < m → lowD x i ≤ x i ∧ x i < (F : Int)
def DOk (G F : Nat) (x : Nat → Int) : Prop := PrD F x G ∧ lowD x G = (F : Int)
instance (F : Nat) (x : Nat → Int) (m : Nat) : Decidable (PrD F x m) := by unfold PrD; infer_instance
instance (G F : Nat) (x : Nat → Int) : Decidable (DOk G F x) := by unfold DOk; infer_instance
theorem lowD_nonneg {F : Nat} {x : Nat → Int} {m : Nat} (h : PrD F x m) : ∀ i, i ≤ m → 0 ≤ lowD x i
  | 0, _ => Int.le_refl _
  | i + 1, hi => by
    have h1 := (h i (by omega)).1
    have h2 := lowD_nonneg h i (by omega)
    show 0 ≤ x i + 1
    omega
theorem lowD_congr {x y : Nat → Int} {m : Nat} (h : ∀ k, k < m → x k = y k) : ∀ i, i ≤ m → lowD x i = lowD y i
  | 0, _ => rfl
  | i + 1, hi => by show x i + 1 = y i + 1; rw [h i (by omega)]
theorem PrD.congr {F : Nat} {x y : Nat → Int} {m : Nat} (h : ∀ k, k < m → x k = y k) (hp : PrD F x m) : PrD F y m := fun i hi => by
  rw [← lowD_congr h i (by omega), ← h i hi]
  exact hp i hi
def carD (g : Arr api_Car) (x : Nat → Int) (i : Nat) : Cn := ⟨(lowD x i).toNat, (x i).toNat, (lowD x i).toNat, (g.f i).Move.toNat, (g.f i).Stop.toNat⟩
def mxF (c : Cn) : Nat → Nat → Nat → Nat
  | _, 0, a => a
  | f, n + 1, a => mxF c (f + 1) n (max a (worstN c f))
def mxD (g : Arr api_Car) (x : Nat → Int) : Nat → Nat → Nat → Nat
  | _, 0, a => a
  | i, q + 1, a => mxD g x (i + 1) q (mxF (carD g x i) (carD g x i).L ((carD g x i).H + 1 - (carD g x i).L) a)
def gD (g : Arr api_Car) (x : Nat → Int) : Nat := mxD g x 0 g.n 0
def valD (g : Arr api_Car) (F : Nat) (x : Nat → Int) : Int := if DOk g.n F x then (gD g x : Int) else -1
theorem valD_good {g : Arr api_Car} {F : Nat} {x : Nat → Int} (h : DOk g.n F x) : valD g F x = (gD g x : Int) := by unfold valD; rw [if_pos h]
theorem valD_bad {g : Arr api_Car} {F : Nat} {x : Nat → Int} (h : ¬ DOk g.n F x) : valD g F x < 0 := by unfold valD; rw [if_neg h]; decide
theorem carD_fact {g : Arr api_Car} (hg : carsP g) {F : Nat} (hF : F ≤ 6) {x : Nat → Int} {m : Nat} (hd : PrD F x m) {i : Nat} (hi : i < m) (hig : i < g.n) :
    ((carD g x i).L : Int) = lowD x i ∧ ((carD g x i).H : Int) = x i ∧ ((carD g x i).M : Int) = (g.f i).Move ∧ ((carD g x i).S : Int) = (g.f i).Stop ∧ (carD g x i).Ok := by
  obtain ⟨c, hc, e⟩ := (hg i hig).cn
  have h0 := lowD_nonneg hd i (by omega)
  obtain ⟨h1, h2⟩ := hd i hi
  have e1 : (g.f i).Move = (c.M : Int) := by rw [e]; rfl
  have e2 : (g.f i).Stop = (c.S : Int) := by rw [e]; rfl
  have a1 := hc.m1
  have a2 := hc.m3
  have a3 := hc.s1
  have a4 := hc.s4
  unfold carD
  rw [e1, e2]
  refine ⟨by simp only; omega, by simp only; omega, by simp only; omega, by simp only; omega, ⟨Nat.le_refl _, by simp only; omega, by simp only; omega, by simp only; omega, by simp only; omega, by simp only; omega, by simp only; omega⟩⟩
set_option synthInstance.maxHeartbeats 0 in
set_option synthInstance.maxSize 1000 in
theorem cworst_num : ∀ f : Nat, f < 6 → ∀ L : Nat, L < 6 → ∀ H : Nat, H < 6 → (L ≤ f ∧ f ≤ H) → ∀ M : Nat, M < 4 → ∀ S : Nat, S < 5 →
      (bif mxI (w64 ((H : Int) - (f : Int))) (w64 ((f : Int) - (L : Int))) == (0 : Int) then (0 : Int) else w64 (w64 (w64 ((2 : Int) * mxI (w64 ((H : Int) - (f : Int))) (w64 ((f : Int) - (L : Int)))) * (M : Int)) + w64 (w64 (w64 ((2 : Int) * mxI (w64 ((H : Int) - (f : Int))) (w64 ((f : Int) - (L : Int)))) - (1 : Int)) * (S : Int)))) = (worstN ⟨L, H, 0, M, S⟩ f : Int) := by decide +kernel
theorem cworst (N : Nat) {c : Cn} (hc : c.Ok) (s : Int) {f : Nat} (hf : c.L ≤ f ∧ f ≤ c.H) {R : Type} (k : Int → Option R) : calls_worst N ⟨c.L, c.H, s, c.M, c.S⟩ (f : Int) k = k ((worstN c f : Nat) : Int) := by
  have h5 := hc.h5
  have hm := hc.m3
  have hs := hc.s4
  have hh := cworst_num f (by omega) c.L (by omega) c.H (by omega) hf c.M (by omega) c.S (by omega)
  rw [calls_worst_def]
  unfold calls_worst_m
  rw [calls_far_def]
  unfold calls_far_m
  rw [show worstN c f = worstN ⟨c.L, c.H, 0, c.M, c.S⟩ f from rfl, ← hh]
  show (bif mxI (w64 ((c.H : Int) - (f : Int))) (w64 ((f : Int) - (c.L : Int))) == (0 : Int) then _ else _) = _
  cases (mxI (w64 ((c.H : Int) - (f : Int))) (w64 ((f : Int) - (c.L : Int))) == (0 : Int)) <;> rfl
theorem mxI_nat (a b : Nat) : mxI (a : Int) (b : Int) = ((max a b : Nat) : Int) := by rw [mxI_eq]; omega
theorem rd_l14 (N : Nat) {c : Cn} (hc : c.Ok) (s : Int) (g g2 : Arr api_Car) (len i most : Int) (b b2 : Bool) (a a2 : Arr Int) {R : Type} (k4 : Int → Option R) : ∀ (q f n acc : Nat), f + q = c.H + 1 → q < n → c.L ≤ f →
    ∀ (low : Int), calls_Divide_round_l14 N n (acc : Int) (f : Int) g len i g2 most b a ⟨c.L, c.H, s, c.M, c.S⟩ b2 a2 k4 = k4 ((mxF c f q acc : Nat) : Int) := by
  have h5 := hc.h5
  intro q
  induction q with
  | zero =>
    intro f n acc h1 h2 h3 low
    obtain ⟨n, rfl⟩ : ∃ m, n = m + 1 := ⟨n - 1, by omega⟩
    unfold calls_Divide_round_l14 calls_Divide_round_b14
    rw [decide_eq_false (show ¬ ((f : Int) ≤ (c.H : Int)) by omega), cond_false]
    rfl
  | succ q ih =>
    intro f n acc h1 h2 h3 low
    obtain ⟨n, rfl⟩ : ∃ m, n = m + 1 := ⟨n - 1, by omega⟩
    unfold calls_Divide_round_l14 calls_Divide_round_b14
    rw [decide_eq_true (show ((f : Int) ≤ (c.H : Int)) by omega), cond_true, cworst N hc s (show c.L ≤ f ∧ f ≤ c.H by omega), mxI_nat, w64_succ (show f < 1000000000000 by omega)]
    exact ih (f + 1) n _ (by omega) (by omega) (by omega) low
theorem rd_l10 {N : Nat} (hN : 10 < N) {g : Arr api_Car} (hg : carsP g) (hgn : g.n ≤ 100) {F : Nat} (hF : F ≤ 6) {x : Nat → Int} (hd : PrD F x g.n) {xa : Arr Int} (hx : xa.Is g.n x) (most : Int) (b b2 : Bool) (a2 : Arr Int) {R : Type} (k2 : Int → Option R) : ∀ (q i n acc : Nat), i + q = g.n → q < n →
    calls_Divide_round_l10 N n (acc : Int) (lowD x i) g (g.n : Int) (i : Int) g most b xa b2 a2 k2 = k2 ((mxD g x i q acc : Nat) : Int) := by
  intro q
  induction q with
  | zero =>
    intro i n acc h1 h2
    obtain ⟨n, rfl⟩ : ∃ m, n = m + 1 := ⟨n - 1, by omega⟩
    unfold calls_Divide_round_l10 calls_Divide_round_b10
    rw [ltF (show g.n ≤ i by omega), cond_false]
    rfl
  | succ q ih =>
    intro i n acc h1 h2
    obtain ⟨n, rfl⟩ : ∃ m, n = m + 1 := ⟨n - 1, by omega⟩
    have hi : i < g.n := by omega
    obtain ⟨c1, c2, c3, c4, c5⟩ := carD_fact hg hF hd hi hi
    have hxi : x i < (F : Int) := (hd i hi).2
    have hxl := (hd i hi).1
    have hl0 := lowD_nonneg hd i (by omega)
    have e0 : decide ((i : Int) < (g.n : Int)) = true := ltT hi
    have e1 : decide ((i : Int) < (xa.n : Int)) = true := by rw [hx.1]; exact e0
    have e2 : xa.f i = x i := hx.2 i hi
    have h5 := c5.h5
    have hw : w64 (x i + 1) = lowD x (i + 1) := w64_eq (by omega) (by omega)
    unfold calls_Divide_round_l10 calls_Divide_round_b10
    rw [e0, cond_true, nat_nonneg, Bool.and_self, cond_true, e1, Bool.and_self, cond_true, Int.toNat_natCast, e2, ← c1, ← c2, ← c3, ← c4]
    refine (rd_l14 N c5 (g.f i).Start g g (g.n : Int) (i : Int) most b b2 xa a2 _ ((carD g x i).H + 1 - (carD g x i).L) (carD g x i).L N acc (by have := c5.ls; have := c5.sh; omega) (by omega) (Nat.le_refl _) 0).trans ?_
    show calls_Divide_round_l10 N n _ (w64 (((carD g x i).H : Int) + 1)) g (g.n : Int) (w64 ((i : Int) + 1)) g most b xa b2 a2 k2 = _
    rw [c2, hw, w64_succ (show i < 1000000000000 by omega)]
    exact ih (i + 1) n _ (by omega) (by omega)
theorem rdiv_eq {N : Nat} (hN : 200 < N) {g : Arr api_Car} (hg : carsP g) (hgn : g.n ≤ 100) {F : Nat} (hF : F ≤ 6) {x : Nat → Int} (hd : PrD F x g.n) {xa : Arr Int} (hx : xa.Is g.n x) (most : Int) (b b2 : Bool) (a2 : Arr Int) {R : Type} (k : Bool → Int → Bool → Arr Int → Option R) :
    calls_Divide_round N g most b xa b2 a2 k = bif b2 then k true (gD g x : Int) b xa else bif decide ((gD g x : Int) < most) then k true (gD g x : Int) b xa else k true most b2 a2 := by
  rw [calls_Divide_round_def]
  unfold calls_Divide_round_m
  exact rd_l10 (by omega) hg hgn hF hd hx most b b2 a2 _ g.n 0 N 0 (by omega) (by omega)
def DS (s : BS) (most : Int) (b : Bool) (a : Arr Int) : Prop := (s.m < 0 ∧ b = true ∧ most = 0 ∧ a.n = 0) ∨ (0 ≤ s.m ∧ b = false ∧ most = s.m ∧ a.Is s.n s.x)
theorem round_step {N : Nat} (hN : 200 < N) {g : Arr api_Car} (hg : carsP g) (hgn : g.n ≤ 100) {F : Nat} (hF : F ≤ 6) {x : Nat → Int} (hd : DOk g.n F x) {xa : Arr Int} (hx : xa.Is g.n x) {s : BS} {most : Int} {b2 : Bool} {a2 : Arr Int} (hs : DS s most b2 a2) :
    ∃ most' b' a', DS (stepB (valD g F) g.n x s) most' b' a' ∧ ∀ {R : Type} (k : Bool → Int → Bool → Arr Int → Option R), calls_Divide_round N g most false xa b2 a2 k = k true most' b' a' := by
  have hv := valD_good hd
  unfold stepB
  rw [hv]
  rcases hs with ⟨h1, h2, h3, h4⟩ | ⟨h1, h2, h3, h4⟩
  · subst h2
    rw [if_pos ⟨by omega, .inl h1⟩]
    refine ⟨(gD g x : Int), false, xa, .inr ⟨by simp only; omega, rfl, rfl, hx⟩, fun {R} k => ?_⟩
    rw [rdiv_eq hN hg hgn hF hd.1 hx, cond_true]
  · subst h2
    by_cases hc : (gD g x : Int) < s.m
    · rw [if_pos ⟨by omega, .inr hc⟩]
      refine ⟨(gD g x : Int), false, xa, .inr ⟨by simp only; omega, rfl, rfl, hx⟩, fun {R} k => ?_⟩
      rw [rdiv_eq hN hg hgn hF hd.1 hx, cond_false, h3, decide_eq_true hc, cond_true]
    · rw [if_neg (fun h => by omega)]
      refine ⟨most, false, a2, .inr ⟨h1, rfl, h3, h4⟩, fun {R} k => ?_⟩
      rw [rdiv_eq hN hg hgn hF hd.1 hx, cond_false, h3, decide_eq_false hc, cond_false]
theorem clone_any (N : Nat) {a : Arr Int} (h : a.n ≤ 1000) {b : Bool} (hb : b = true → a.n = 0) : ∃ (b' : Bool) (a' : Arr Int), a'.Is a.n a.f ∧ ∀ {R : Type} (k : Bool → Arr Int → Option R), slices_Clone___int_int_ N b a k = k b' a' := by
  cases b with
  | false => exact ⟨false, a, ⟨rfl, fun _ _ => rfl⟩, fun {R} k => clone_eq N h k⟩
  | true =>
    refine ⟨true, lst intC (0 : Nat) (zeroC [SV.int IntKind.i64 (0 : Int)]), ⟨(hb rfl).symm, fun i hi => by rw [hb rfl] at hi; omega⟩, fun {R} k => ?_⟩
    rw [slices_Clone___int_int__def]
    unfold slices_Clone___int_int__m
    rw [cond_true]
theorem dgL {F i q P n : Nat} (h1 : P * F ^ q ≤ n) (h2 : n < (P + 1) * F ^ q) : ∀ k, k < i → dg F (i + q) n k = dg F i P k := fun k hk => by unfold dg; rw [dig_pre h1 h2 hk]
theorem blk_of {F i q P n : Nat} (h1 : P * F ^ (q + 1) ≤ n) (h2 : n < (P + 1) * F ^ (q + 1)) : ∃ c, c < F ∧ n / F ^ q = P * F + c ∧ (P * F + c) * F ^ q ≤ n ∧ n < (P * F + c + 1) * F ^ q := by
  have hp : 0 < F ^ q := by
    rcases Nat.eq_zero_or_pos (F ^ q) with h | h
    · rw [Nat.pow_succ, h] at h2; omega
    · exact h
  have a1 : P * F ≤ n / F ^ q := (Nat.le_div_iff_mul_le hp).2 (by rw [Nat.mul_assoc, Nat.mul_comm F, ← Nat.pow_succ]; exact h1)
  have a2 : n / F ^ q < (P + 1) * F := (Nat.div_lt_iff_lt_mul hp).2 (by rw [Nat.mul_assoc, Nat.mul_comm F, ← Nat.pow_succ]; exact h2)
  refine ⟨n / F ^ q - P * F, by rw [Nat.add_mul] at a2; omega, by omega, ?_, ?_⟩
  · rw [show P * F + (n / F ^ q - P * F) = n / F ^ q by omega]
    exact Nat.div_mul_le_self _ _
  · rw [show P * F + (n / F ^ q - P * F) = n / F ^ q by omega]
    exact Nat.lt_of_lt_of_le (Nat.lt_div_mul_add hp) (by rw [Nat.add_mul]; omega)
theorem PrD.grow {F : Nat} {x : Nat → Int} {m : Nat} (h : PrD F x m) {i : Nat} : ∀ j, i + j < m → x i + (j : Int) ≤ x (i + j)
  | 0, _ => by simp
  | j + 1, hj => by
    have h1 := h.grow (i := i) j (by omega)
    have h2 := (h (i + (j + 1)) hj).1
    have h3 : lowD x (i + (j + 1)) = x (i + j) + 1 := rfl
    rw [h3] at h2
    omega
theorem no_div {G F : Nat} {x : Nat → Int} {i q : Nat} (hi : i + (q + 1) = G) {c : Nat} (hx : x i = (c : Int)) (hc : (c : Int) < lowD x i ∨ F < c + (q + 1) ∨ (q = 0 ∧ c + 1 < F)) : ¬ DOk G F x := fun ⟨h1, h2⟩ => by
  rcases hc with hc | hc | ⟨rfl, hc⟩
  · have := (h1 i (by omega)).1
    omega
  · have := h1.grow (i := i) q (by omega)
    have h3 := (h1 (i + q) (by omega)).2
    omega
  · rw [← hi] at h2
    have : x i + 1 = (F : Int) := h2
    omega
theorem foldB_skip {g : Arr api_Car} {F : Nat} {i q P : Nat} (hi : i + (q + 1) = g.n) {a n : Nat} (h1 : P * F ^ (q + 1) ≤ a) (h2 : a + n ≤ (P + 1) * F ^ (q + 1)) (s : BS)
    (hno : ∀ c, (P * F + c) * F ^ q < a + n → a < (P * F + c + 1) * F ^ q → (c : Int) < lowD (dg F i P) i ∨ F < c + (q + 1) ∨ (q = 0 ∧ c + 1 < F)) : foldB (valD g F) F g.n a n s = s := by
  refine foldB_id _ _ _ fun n' n1 n2 => valD_bad ?_
  obtain ⟨c, c1, c2, c3, c4⟩ := blk_of (F := F) (i := i) (q := q) (P := P) (n := n') (by omega) (by omega)
  have hpre : ∀ k, k < i → dg F g.n n' k = dg F i P k := by
    have := dgL (F := F) (i := i) (q := q + 1) (P := P) (n := n') (by omega) (by omega)
    rw [hi] at this
    exact this
  have hdi : dg F g.n n' i = (c : Int) := by
    have := dgL (F := F) (i := i + 1) (q := q) (P := P * F + c) (n := n') c3 c4 i (by omega)
    rw [show i + 1 + q = g.n by omega] at this
    rw [this]
    unfold dg
    rw [(dig_snoc c1).2]
  refine no_div hi hdi ?_
  rw [lowD_congr hpre i (Nat.le_refl _)]
  exact hno c (by omega) (by omega)
theorem v2_t_eq {N : Nat} {R : Type} (rf : Bool → Arr Int → Int → Int → Arr api_Car → Int → Bool → Arr Int → (Bool → Int → Bool → Arr Int → Option R) → Option R) {x : Nat → Int} {i : Nat} (hi : i ≤ 100) {hs : Arr Int} (hh : hs.Is i x) {F : Nat} (hp : PrD F x i) (hF : F ≤ 6)
    (b : Bool) (C Fl : Int) (g : Arr api_Car) (most : Int) (nb : Bool) (best : Arr Int) (k : Bool → Int → Bool → Arr Int → Option R) :
    calls_divisions_1_1_v2_t N rf b hs C Fl g most nb best k = calls_divisions_1_1_v2_j0_m N rf (lowD x i - 1) b hs C Fl g most nb best k := by
  unfold calls_divisions_1_1_v2_t
  simp only [calls_divisions_1_1_v2_j0_def]
  rw [hh.1]
  cases i with
  | zero =>
    rw [decide_eq_false (show ¬ (((0 : Nat) : Int) > 0) by omega), cond_false]
    rfl
  | succ i =>
    have hw : w64 (((i + 1 : Nat) : Int) - 1) = (i : Int) := by rw [w64_eq (by omega) (by omega)]; omega
    rw [decide_eq_true (show (((i + 1 : Nat) : Int) > 0) by omega), cond_true, hw, nat_nonneg, ltT (show i < i + 1 by omega), Bool.and_self, cond_true, Int.toNat_natCast, hh.2 i (by omega)]
    rw [show lowD x (i + 1) - 1 = x i by show x i + 1 - 1 = x i; omega]
end
end Go.Proofs.Ytlphgonhenegoaa
set_option linter.unusedVariables false
set_option linter.unusedSimpArgs false
set_option maxHeartbeats 0
set_option maxRecDepth 100000
namespace Go.Proofs.Ytlphgonhenegoaa
open Go.Sx
section
theorem dv_push {a : Arr Int} {i : Nat} {F P c : Nat} (hc : c < F) (h : a.Is i (dg F i P)) {z : List SV} {v : Int} (hv : v = (c : Int)) :
    (lst intC (Arr.n a + (1 : Nat)) (catC (Arr.n a) (Cod.cell intC (Arr.f a)) (litC z [[SV.int IntKind.i64 v]]))).Is (i + 1) (dg F (i + 1) (P * F + c)) := by
  obtain ⟨d1, d2⟩ := dig_snoc (G := F) (i := i) (P := P) hc
  have h' : a.Is i (dg F (i + 1) (P * F + c)) := ⟨h.1, fun k hk => by rw [h.2 k hk]; unfold dg; rw [d1 k hk]⟩
  refine Arr.Is.push_int h' ?_
  rw [hv]
  unfold dg
  rw [d2]
theorem PrD.snoc {F i P c : Nat} (hc : c < F) (h : PrD F (dg F i P) i) (hl : lowD (dg F i P) i ≤ (c : Int)) : PrD F (dg F (i + 1) (P * F + c)) (i + 1) := by
  obtain ⟨d1, d2⟩ := dig_snoc (G := F) (i := i) (P := P) hc
  have e : ∀ k, k < i → dg F i P k = dg F (i + 1) (P * F + c) k := fun k hk => by unfold dg; rw [d1 k hk]
  have ed : dg F (i + 1) (P * F + c) i = (c : Int) := by unfold dg; rw [d2]
  intro k hk
  by_cases hki : k = i
  · subst hki
    rw [ed, ← lowD_congr e k (Nat.le_refl _)]
    exact ⟨hl, by omega⟩
  · exact (h.congr e) k (by omega)
theorem lowD_snoc {F i P c : Nat} (hc : c < F) : lowD (dg F (i + 1) (P * F + c)) (i + 1) = ((c + 1 : Nat) : Int) := by
  obtain ⟨d1, d2⟩ := dig_snoc (G := F) (i := i) (P := P) hc
  show dg F (i + 1) (P * F + c) i + 1 = _
  unfold dg
  rw [d2]
  omega
theorem dv_rec {N : Nat} (hN : 200 < N) {g : Arr api_Car} (hg : carsP g) (hgn : g.n ≤ 3) {F : Nat} (hF : F ≤ 6) : ∀ (q i d P : Nat) (b : Bool) (hs : Arr Int) (most : Int) (nb : Bool) (best : Arr Int) (s : BS), i + (q + 1) = g.n → q + 1 ≤ d → hs.Is i (dg F i P) → (b = true → i = 0) →
    PrD F (dg F i P) i → lowD (dg F i P) i + ((q + 1 : Nat) : Int) ≤ (F : Int) → DS s most nb best →
    ∃ most' nb' best', DS (foldB (valD g F) F g.n (P * F ^ (q + 1)) (F ^ (q + 1)) s) most' nb' best' ∧
      ∀ {R : Type} (k : Bool → Int → Bool → Arr Int → Option R), calls_divisions_1_1_v2_r N d b hs (g.n : Int) (F : Int) g most nb best k = k true most' nb' best' := by
  intro q
  induction q with
  | zero =>
    intro i d P b hs most nb best s h1 h2 h3 h4 h5 h6 h7
    obtain ⟨d, rfl⟩ : ∃ m, d = m + 1 := ⟨d - 1, by omega⟩
    have hl0 := lowD_nonneg h5 i (Nat.le_refl _)
    have hF1 : 1 ≤ F := by omega
    have hlast : F - 1 < F := by omega
    obtain ⟨b', a', ha, hcl⟩ := clone_any N (a := hs) (by rw [h3.1]; omega) (b := b) (fun e => by rw [h3.1]; exact h4 e)
    have ha' : a'.Is i (dg F i P) := ⟨by rw [ha.1, h3.1], fun k hk => by rw [ha.2 k (by rw [h3.1]; exact hk), h3.2 k hk]⟩
    have hw : w64 ((F : Int) - 1) = ((F - 1 : Nat) : Int) := by rw [w64_eq (by omega) (by omega)]; omega
    have hpush := dv_push (F := F) hlast ha' (z := [SV.int IntKind.i64 (0 : Int)]) hw
    have hpr := PrD.snoc hlast h5 (show lowD (dg F i P) i ≤ ((F - 1 : Nat) : Int) by omega)
    have hlow := lowD_snoc (F := F) (i := i) (P := P) hlast
    rw [show i + 1 = g.n by omega] at hpush hpr hlow
    have hok : DOk g.n F (dg F g.n (P * F + (F - 1))) := ⟨hpr, by rw [hlow]; omega⟩
    obtain ⟨most', nb', best', r1, r2⟩ := round_step hN hg (by omega) hF hok hpush h7
    refine ⟨most', nb', best', ?_, fun {R} k => ?_⟩
    · have e : foldB (valD g F) F g.n (P * F ^ (0 + 1)) (F ^ (0 + 1)) s = stepB (valD g F) g.n (dg F g.n (P * F + (F - 1))) s := by
        rw [Nat.zero_add, Nat.pow_one]
        have hs' : foldB (valD g F) F g.n (P * F) (F - 1) s = s := foldB_skip (i := i) (q := 0) (P := P) (by omega) (by rw [Nat.zero_add, Nat.pow_one]; omega) (by rw [Nat.zero_add, Nat.pow_one, Nat.succ_mul]; omega) s fun c c1 c2 => by
          rw [Nat.pow_zero] at c1 c2
          exact .inr (.inr ⟨rfl, by omega⟩)
        have hsp := foldB_add (valD g F) F g.n (F - 1) 1 (P * F) s
        rw [show F - 1 + 1 = F by omega, hs'] at hsp
        rw [hsp]
        rfl
      rw [e]
      exact r1
    · show calls_divisions_1_1_v2_t N (calls_divisions_1_1_v2_r N d) b hs (g.n : Int) (F : Int) g most nb best k = _
      rw [v2_t_eq _ (by omega) h3 h5 hF]
      unfold calls_divisions_1_1_v2_j0_m
      have hl : (w64 ((g.n : Int) - (hs.n : Int)) == (1 : Int)) = true := by rw [h3.1, w64_eq (by omega) (by omega), beq_iff_eq]; omega
      rw [hl, cond_true, hcl, room_of (by rw [ha'.1]; omega), cond_true]
      exact r2 _
  | succ q ih =>
    intro i d P b hs most nb best s h1 h2 h3 h4 h5 h6 h7
    obtain ⟨d, rfl⟩ : ∃ m, d = m + 1 := ⟨d - 1, by omega⟩
    have hl0 := lowD_nonneg h5 i (Nat.le_refl _)
    obtain ⟨lo, hlo⟩ : ∃ lo : Nat, lowD (dg F i P) i = (lo : Int) := ⟨(lowD (dg F i P) i).toNat, by omega⟩
    rw [hlo] at h6
    obtain ⟨b', a', ha, hcl⟩ := clone_any N (a := hs) (by rw [h3.1]; omega) (b := b) (fun e => by rw [h3.1]; exact h4 e)
    have ha' : a'.Is i (dg F i P) := ⟨by rw [ha.1, h3.1], fun k hk => by rw [ha.2 k (by rw [h3.1]; exact hk), h3.2 k hk]⟩
    have loop : ∀ (r c n : Nat) (most : Int) (nb : Bool) (best : Arr Int) (s : BS), c + r = F - (q + 1) → r < n → lo ≤ c → DS s most nb best →
        ∃ most' nb' best', DS (foldB (valD g F) F g.n ((P * F + c) * F ^ (q + 1)) (r * F ^ (q + 1)) s) most' nb' best' ∧
          ∀ {R : Type} (kr : Bool → Int → Bool → Arr Int → Option R) (k0 : Int → Bool → Arr Int → Option R), calls_divisions_1_1_v2_l8 N (calls_divisions_1_1_v2_r N d) n ((q + 2 : Nat) : Int) (c : Int) b hs (g.n : Int) (F : Int) g most nb best kr k0 = k0 most' nb' best' := by
      intro r
      induction r with
      | zero =>
        intro c n most nb best s a1 a2 a3 a4
        obtain ⟨n, rfl⟩ : ∃ m, n = m + 1 := ⟨n - 1, by omega⟩
        rw [Nat.zero_mul]
        refine ⟨most, nb, best, a4, fun {R} kr k0 => ?_⟩
        unfold calls_divisions_1_1_v2_l8 calls_divisions_1_1_v2_b8
        have hw : w64 (w64 ((F : Int) - ((q + 2 : Nat) : Int)) + 1) = (F : Int) - ((q + 1 : Nat) : Int) := by
          rw [w64_eq (n := (F : Int) - ((q + 2 : Nat) : Int)) (by omega) (by omega), w64_eq (by omega) (by omega)]; omega
        rw [hw, decide_eq_false (show ¬ ((c : Int) < (F : Int) - ((q + 1 : Nat) : Int)) by omega), cond_false]
      | succ r ihr =>
        intro c n most nb best s a1 a2 a3 a4
        obtain ⟨n, rfl⟩ : ∃ m, n = m + 1 := ⟨n - 1, by omega⟩
        have hc : c < F := by omega
        have hw : w64 (w64 ((F : Int) - ((q + 2 : Nat) : Int)) + 1) = (F : Int) - ((q + 1 : Nat) : Int) := by
          rw [w64_eq (n := (F : Int) - ((q + 2 : Nat) : Int)) (by omega) (by omega), w64_eq (by omega) (by omega)]; omega
        have hpush := dv_push (F := F) hc ha' (z := [SV.int IntKind.i64 (0 : Int)]) (v := (c : Int)) rfl
        have hpr := PrD.snoc hc h5 (show lowD (dg F i P) i ≤ (c : Int) by omega)
        have hlow := lowD_snoc (F := F) (i := i) (P := P) hc
        obtain ⟨m1, n1, b1, r1, r2⟩ := ih (i + 1) d (P * F + c) false _ most nb best s (by omega) (by omega) hpush (fun h => by cases h) hpr (by rw [hlow]; omega) a4
        obtain ⟨m2, n2, b2, t1, t2⟩ := ihr (c + 1) n m1 n1 b1 _ (by omega) (by omega) (by omega) r1
        have hsplit : foldB (valD g F) F g.n ((P * F + c) * F ^ (q + 1)) ((r + 1) * F ^ (q + 1)) s = foldB (valD g F) F g.n ((P * F + (c + 1)) * F ^ (q + 1)) (r * F ^ (q + 1)) (foldB (valD g F) F g.n ((P * F + c) * F ^ (q + 1)) (F ^ (q + 1)) s) := by
          rw [show (r + 1) * F ^ (q + 1) = F ^ (q + 1) + r * F ^ (q + 1) by rw [Nat.succ_mul, Nat.add_comm], foldB_add, show (P * F + (c + 1)) * F ^ (q + 1) = (P * F + c) * F ^ (q + 1) + F ^ (q + 1) by rw [← Nat.add_assoc, Nat.succ_mul]]
        rw [hsplit]
        refine ⟨m2, n2, b2, t1, fun {R} kr k0 => ?_⟩
        unfold calls_divisions_1_1_v2_l8 calls_divisions_1_1_v2_b8
        rw [hw, decide_eq_true (show ((c : Int) < (F : Int) - ((q + 1 : Nat) : Int)) by omega), cond_true, hcl, room_of (by rw [ha'.1]; omega), cond_true, r2, Bool.not_true, cond_false, w64_succ (show c < 1000000000000 by omega)]
        exact t2 kr k0
    obtain ⟨m', n', b2', t1, t2⟩ := loop (F - (q + 1) - lo) lo N most nb best s (by omega) (by omega) (Nat.le_refl _) h7
    refine ⟨m', n', b2', ?_, fun {R} k => ?_⟩
    · have e0 : P * F ^ (q + 1 + 1) = P * F * F ^ (q + 1) := by rw [Nat.pow_succ F (q + 1), Nat.mul_comm (F ^ (q + 1)), Nat.mul_assoc]
      have e1 : (P + 1) * F ^ (q + 1 + 1) = (P * F + F) * F ^ (q + 1) := by rw [Nat.pow_succ F (q + 1), Nat.mul_comm (F ^ (q + 1)), ← Nat.mul_assoc, Nat.add_mul, Nat.one_mul]
      have k1 : foldB (valD g F) F g.n (P * F ^ (q + 1 + 1)) (lo * F ^ (q + 1)) s = s := foldB_skip (i := i) (q := q + 1) (P := P) (by omega) (Nat.le_refl _) (by rw [e0, e1, ← Nat.add_mul]; exact Nat.mul_le_mul_right _ (by omega)) s fun c c1 c2 => by
        left
        rw [e0, ← Nat.add_mul] at c1
        have := Nat.lt_of_mul_lt_mul_right c1
        rw [hlo]
        omega
      have k2 : ∀ s, foldB (valD g F) F g.n ((P * F + (F - (q + 1))) * F ^ (q + 1)) ((q + 1) * F ^ (q + 1)) s = s := fun s => foldB_skip (i := i) (q := q + 1) (P := P) (by omega) (by rw [e0]; exact Nat.mul_le_mul_right _ (by omega)) (by rw [e1, ← Nat.add_mul]; exact Nat.mul_le_mul_right _ (by omega)) s fun c c1 c2 => by
        have := Nat.lt_of_mul_lt_mul_right c2
        exact .inr (.inl (by omega))
      have hsum : F ^ (q + 1 + 1) = lo * F ^ (q + 1) + ((F - (q + 1) - lo) * F ^ (q + 1) + (q + 1) * F ^ (q + 1)) := by
        rw [← Nat.add_mul, ← Nat.add_mul, Nat.pow_succ F (q + 1), Nat.mul_comm]
        congr 1
        omega
      have e2 : P * F ^ (q + 1 + 1) + lo * F ^ (q + 1) = (P * F + lo) * F ^ (q + 1) := by rw [e0, ← Nat.add_mul]
      have e3 : (P * F + lo) * F ^ (q + 1) + (F - (q + 1) - lo) * F ^ (q + 1) = (P * F + (F - (q + 1))) * F ^ (q + 1) := by rw [← Nat.add_mul]; congr 1; omega
      have hall : foldB (valD g F) F g.n (P * F ^ (q + 1 + 1)) (F ^ (q + 1 + 1)) s = foldB (valD g F) F g.n ((P * F + lo) * F ^ (q + 1)) ((F - (q + 1) - lo) * F ^ (q + 1)) s := by
        refine (congrArg (fun n => foldB (valD g F) F g.n (P * F ^ (q + 1 + 1)) n s) hsum).trans ?_
        show foldB (valD g F) F g.n (P * F ^ (q + 1 + 1)) (lo * F ^ (q + 1) + ((F - (q + 1) - lo) * F ^ (q + 1) + (q + 1) * F ^ (q + 1))) s = _
        rw [foldB_add, k1, e2, foldB_add, e3, k2]
      rw [hall]
      exact t1
    · show calls_divisions_1_1_v2_t N (calls_divisions_1_1_v2_r N d) b hs (g.n : Int) (F : Int) g most nb best k = _
      rw [v2_t_eq _ (by omega) h3 h5 hF]
      unfold calls_divisions_1_1_v2_j0_m
      have hleft : w64 ((g.n : Int) - (hs.n : Int)) = ((q + 2 : Nat) : Int) := by rw [h3.1, w64_eq (by omega) (by omega)]; omega
      have hne : (((q + 2 : Nat) : Int) == (1 : Int)) = false := by rw [beq_eq_false_iff_ne]; omega
      have hlw : w64 (lowD (dg F i P) i - 1 + 1) = (lo : Int) := by rw [show lowD (dg F i P) i - 1 + 1 = (lo : Int) by omega]; exact w64_eq (by omega) (by omega)
      rw [hleft, hne, cond_false, hlw]
      exact t2 _ _
theorem l8_same (N : Nat) {R : Type} : ∀ (n : Nat) (left high : Int) (b : Bool) (hs : Arr Int) (C Fl : Int) (g : Arr api_Car) (most : Int) (nb : Bool) (best : Arr Int) (kr : Bool → Int → Bool → Arr Int → Option R) (k0 : Int → Bool → Arr Int → Option R),
    calls_divisions_1_1_l8 N n left high C Fl g most b hs nb best kr k0 = calls_divisions_1_1_v2_l8 N (calls_divisions_1_1_v2 N) n left high b hs C Fl g most nb best kr k0 := by
  intro n
  induction n with
  | zero => intros; rfl
  | succ n ih =>
    intro left high b hs C Fl g most nb best kr k0
    unfold calls_divisions_1_1_l8 calls_divisions_1_1_v2_l8 calls_divisions_1_1_b8 calls_divisions_1_1_v2_b8
    simp only [ih]
theorem v2_is (N : Nat) {R : Type} : (calls_divisions_1_1_v2 N : Bool → Arr Int → Int → Int → Arr api_Car → Int → Bool → Arr Int → (Bool → Int → Bool → Arr Int → Option R) → Option R) = calls_divisions_1_1_v2_r N N := by
  funext a b c d e f g h k
  rw [calls_divisions_1_1_v2_def]
  rfl
theorem v1_is (N : Nat) (C Fl : Int) (g : Arr api_Car) (most : Int) (nb : Bool) (best : Arr Int) {R : Type} (k : Bool → Int → Bool → Arr Int → Option R) :
    calls_divisions_1_1 N C Fl g most nb best k = calls_divisions_1_1_v2_r N (N + 1) true (lst intC (0 : Nat) fun (x x_1 : Nat) ↦ SV.undef) C Fl g most nb best k := by
  rw [calls_divisions_1_1_def]
  unfold calls_divisions_1_1_m
  rw [calls_divisions_1_1_j0_def]
  unfold calls_divisions_1_1_j0_m
  show _ = calls_divisions_1_1_v2_t N (calls_divisions_1_1_v2_r N N) true (lst intC (0 : Nat) fun (x x_1 : Nat) ↦ SV.undef) C Fl g most nb best k
  unfold calls_divisions_1_1_v2_t
  rw [decide_eq_false (show ¬ ((((lst intC (0 : Nat) fun (x x_1 : Nat) ↦ SV.undef).n : Nat) : Int) > 0) from fun h => absurd h (by decide)), cond_false, calls_divisions_1_1_v2_j0_def]
  unfold calls_divisions_1_1_v2_j0_m
  simp only [l8_same, v2_is]
end
end Go.Proofs.Ytlphgonhenegoaa
set_option linter.unusedVariables false
set_option linter.unusedSimpArgs false
set_option maxHeartbeats 0
set_option maxRecDepth 100000
namespace Go.Proofs.Ytlphgonhenegoaa
open Go.Sx
section
def bestD (g : Arr api_Car) (F : Nat) : BS := foldB (valD g F) F g.n 0 (F ^ g.n) ⟨-1, 0, fun _ => 0⟩
theorem some_div : ∀ G : Nat, G < 4 → ∀ F : Nat, F < 7 → 1 ≤ G → G ≤ F → (G - 2) * F + (F - 1) < F ^ G ∧ DOk G F (dg F G ((G - 2) * F + (F - 1))) := by decide +kernel
theorem bestD_ok {g : Arr api_Car} {F : Nat} (h1 : 1 ≤ g.n) (h3 : g.n ≤ 3) (hF : g.n ≤ F) (h6 : F ≤ 6) : BOk (valD g F) F g.n 0 (F ^ g.n) (bestD g F) ∧ 0 ≤ (bestD g F).m := by
  have hb := BOk.fold (val := valD g F) (G := F) (L := g.n) (F ^ g.n) 0 0 ⟨-1, 0, fun _ => 0⟩ (Nat.le_refl _) ⟨fun n h1 h2 => by omega, .inl ⟨rfl, rfl⟩⟩
  rw [Nat.zero_add] at hb
  refine ⟨hb, ?_⟩
  obtain ⟨d1, d2⟩ := some_div g.n (by omega) F (by omega) h1 hF
  have := hb.le _ (Nat.zero_le _) d1 (by rw [valD_good d2]; omega)
  exact this.1
theorem bestD_is {g : Arr api_Car} {F : Nat} (h1 : 1 ≤ g.n) (h3 : g.n ≤ 3) (hF : g.n ≤ F) (h6 : F ≤ 6) : (bestD g F).n = g.n ∧ DOk g.n F (bestD g F).x ∧ (bestD g F).m = (gD g (bestD g F).x : Int) := by
  obtain ⟨hb, h0⟩ := bestD_ok h1 h3 hF h6
  rcases hb.ex with ⟨e, _⟩ | ⟨e1, e2, n, _, _, e3, e4⟩
  · omega
  · have hd : DOk g.n F (dg F g.n n) := by
      by_cases h : DOk g.n F (dg F g.n n)
      · exact h
      · have := valD_bad (g := g) h
        omega
    rw [e4]
    exact ⟨e1, hd, by rw [e3, valD_good hd]⟩
def l0 : Arr api_Press := lst api_PressC (0 : Nat) (zeroC [SV.int IntKind.i64 (0 : Int), SV.int IntKind.i64 (0 : Int)])
theorem errG_l0 {g : Arr api_Car} (h : errG g l0 = 0) : (1 ≤ g.n ∧ g.n ≤ 3) ∧ carsP g := ⟨(errG_zero h).1, (errG_zero h).2.1⟩
theorem divide_eq {N : Nat} (hN : 1000 < N) {g : Arr api_Car} (hgn : g.n ≤ 100) (he : errG g l0 = 0) {F : Nat} (hF : g.n ≤ F) (h6 : F ≤ 6) :
    ∃ best, best.Is (bestD g F).n (bestD g F).x ∧ ∀ {R : Type} (k : Int → Int → Bool → Arr Int → Option R), calls_Divide N g (F : Int) k = k (bestD g F).m 0 false best := by
  obtain ⟨⟨h1, h3⟩, hc⟩ := errG_l0 he
  obtain ⟨hb, h0⟩ := bestD_ok h1 h3 hF h6
  obtain ⟨q, hq⟩ : ∃ q, g.n = q + 1 := ⟨g.n - 1, by omega⟩
  obtain ⟨m', nb', best', r1, r2⟩ := dv_rec (by omega : 200 < N) hc h3 h6 q 0 (N + 1) 0 true (lst intC (0 : Nat) fun (x x_1 : Nat) ↦ SV.undef) 0 true (lst intC (0 : Nat) (zeroC [SV.int IntKind.i64 (0 : Int)])) ⟨-1, 0, fun _ => 0⟩ (by omega) (by omega) (zero_is _) (fun _ => rfl) (fun i hi => by omega) (by show (0 : Int) + _ ≤ _; omega) (.inl ⟨by decide, rfl, rfl, rfl⟩)
  rw [Nat.zero_mul, ← hq] at r1
  have r1 : DS (bestD g F) m' nb' best' := r1
  rcases r1 with ⟨e, _⟩ | ⟨_, e2, e3, e4⟩
  · omega
  subst e2 e3
  refine ⟨best', e4, fun {R} k => ?_⟩
  rw [calls_Divide_def]
  unfold calls_Divide_m
  rw [group_eq hN hgn (Nat.zero_le _)]
  show (bif (errG g l0 != (0 : Int)) then _ else _) = _
  rw [he, show ((0 : Int) != 0) = false from rfl, cond_false, in_eq, decide_eq_true (show ((g.n : Int) ≤ (F : Int) ∧ (F : Int) ≤ 6) by omega), Bool.not_true, cond_false, calls_divisions_def]
  unfold calls_divisions_m
  show calls_divisions_1 N g 0 (g.n : Int) (F : Int) true _ _ = _
  rw [calls_divisions_1_def]
  unfold calls_divisions_1_m
  rw [v1_is, r2]
theorem pw_l30 {N : Nat} (hN : 70000 < N) {c : Cn} (hc : c.Ok) (hs : Sm c) {ca : Arr api_Car} {i : Nat} (hi : i < ca.n) (hca : ca.f i = c.car) (g : Arr api_Car) (F all least a : Int) (b b2 b3 : Bool) (best arr : Arr Int) {R : Type} (k8 : Int → Option R) : ∀ (q f n acc : Nat), f + q = c.H + 1 → q < n → c.L ≤ f →
    r7Divide_l30 N n g F all least a (acc : Int) (i : Int) (f : Int) b best b2 arr b3 ca k8 = k8 ((mxF c f q acc : Nat) : Int) := by
  have h5 := hc.h5
  have e1 : decide ((i : Int) < (ca.n : Int)) = true := ltT hi
  intro q
  induction q with
  | zero =>
    intro f n acc h1 h2 h3
    obtain ⟨n, rfl⟩ : ∃ m, n = m + 1 := ⟨n - 1, by omega⟩
    unfold r7Divide_l30 r7Divide_b30
    rw [nat_nonneg, e1, Bool.and_self, cond_true, Int.toNat_natCast, hca, decide_eq_false (show ¬ ((f : Int) ≤ c.car.High) by show ¬ ((f : Int) ≤ (c.H : Int)); omega), cond_false]
    rfl
  | succ q ih =>
    intro f n acc h1 h2 h3
    obtain ⟨n, rfl⟩ : ∃ m, n = m + 1 := ⟨n - 1, by omega⟩
    unfold r7Divide_l30 r7Divide_b30
    rw [nat_nonneg, e1, Bool.and_self, cond_true, Int.toNat_natCast, hca, decide_eq_true (show ((f : Int) ≤ c.car.High) by show ((f : Int) ≤ (c.H : Int)); omega), cond_true, cond_true, refWorst_eq hN hc hs (show c.L ≤ f ∧ f ≤ c.H by omega), mxI_nat, w64_succ (show f < 1000000000000 by omega)]
    exact ih (f + 1) n _ (by omega) (by omega) (by omega)
theorem carD_sm {g : Arr api_Car} (hg : carsP g) {F : Nat} (hF : F ≤ 4) {x : Nat → Int} {m : Nat} (hd : PrD F x m) {i : Nat} (hi : i < m) (hig : i < g.n) (hq : (g.f i).Move + (g.f i).Stop ≤ 4) : Sm (carD g x i) := by
  obtain ⟨c1, c2, c3, c4, c5⟩ := carD_fact hg (by omega) hd hi hig
  have := (hd i hi).2
  exact ⟨by omega, by omega⟩
theorem pw_l27 {N : Nat} (hN : 70000 < N) {g : Arr api_Car} (hg : carsP g) (hgn : g.n ≤ 100) (hq : ∀ i, i < g.n → (g.f i).Move + (g.f i).Stop ≤ 4) {F : Nat} (hF : F ≤ 4) {x : Nat → Int} (hd : PrD F x g.n) {ca : Arr api_Car} (hca : ca.Is g.n fun i => (carD g x i).car) (Fl all least a : Int) (b b2 b3 : Bool) (best arr : Arr Int) {R : Type} (k6 : Int → Option R) : ∀ (q i n acc : Nat), i + q = g.n → q < n →
    r7Divide_l27 N n g Fl all least a (acc : Int) (i : Int) b best b2 arr b3 ca k6 = k6 ((mxD g x i q acc : Nat) : Int) := by
  intro q
  induction q with
  | zero =>
    intro i n acc h1 h2
    obtain ⟨n, rfl⟩ : ∃ m, n = m + 1 := ⟨n - 1, by omega⟩
    unfold r7Divide_l27 r7Divide_b27
    rw [hca.1, ltF (show g.n ≤ i by omega), cond_false]
    rfl
  | succ q ih =>
    intro i n acc h1 h2
    obtain ⟨n, rfl⟩ : ∃ m, n = m + 1 := ⟨n - 1, by omega⟩
    have hi : i < g.n := by omega
    obtain ⟨c1, c2, c3, c4, c5⟩ := carD_fact hg (by omega) hd hi hi
    have hsm := carD_sm hg hF hd hi hi (hq i hi)
    have hci := hca.2 i hi
    have h5 := c5.h5
    have hl := c5.ls
    have hsh := c5.sh
    unfold r7Divide_l27 r7Divide_b27
    rw [hca.1, ltT hi, cond_true, nat_nonneg, Bool.and_self, cond_true, Int.toNat_natCast]
    have : (ca.f i).Low = (((carD g x i).L : Nat) : Int) := by rw [hci]; rfl
    rw [this, pw_l30 hN c5 hsm (show i < ca.n by rw [hca.1]; exact hi) hci g Fl all least a b b2 b3 best arr _ ((carD g x i).H + 1 - (carD g x i).L) (carD g x i).L N acc (by omega) (by omega) (Nat.le_refl _), w64_succ (show i < 1000000000000 by omega)]
    exact ih (i + 1) n _ (by omega) (by omega)
theorem cars_l6 (N : Nat) {g : Arr api_Car} (hg : carsP g) (hgn : g.n ≤ 100) {F : Nat} (hF : F ≤ 6) {x : Nat → Int} {hs : Arr Int} (hx : hs.Is g.n x) : ∀ (q i n : Nat) (b : Bool) (arr : Arr api_Car), i + q = g.n → q < n → PrD F x i → arr.Is i (fun j => (carD g x j).car) →
    (PrD F x g.n → ∃ b' arr', arr'.Is g.n (fun j => (carD g x j).car) ∧ ∀ {R : Type} (kr : Bool → Bool → Arr api_Car → Option R) (k0 : Int → Bool → Arr api_Car → Option R), r7Cars_l6 N n g (F : Int) hs (lowD x i) (i : Int) b arr kr k0 = k0 (lowD x g.n) b' arr') ∧
    (¬ PrD F x g.n → ∃ b' arr', ∀ {R : Type} (kr : Bool → Bool → Arr api_Car → Option R) (k0 : Int → Bool → Arr api_Car → Option R), r7Cars_l6 N n g (F : Int) hs (lowD x i) (i : Int) b arr kr k0 = kr false b' arr') := by
  intro q
  induction q with
  | zero =>
    intro i n b arr h1 h2 h3 h4
    obtain ⟨n, rfl⟩ : ∃ m, n = m + 1 := ⟨n - 1, by omega⟩
    have hi : i = g.n := by omega
    subst hi
    refine ⟨fun _ => ⟨b, arr, h4, fun {R} kr k0 => ?_⟩, fun h => absurd h3 h⟩
    unfold r7Cars_l6 r7Cars_b6
    rw [ltF (Nat.le_refl _), cond_false]
  | succ q ih =>
    intro i n b arr h1 h2 h3 h4
    obtain ⟨n, rfl⟩ : ∃ m, n = m + 1 := ⟨n - 1, by omega⟩
    have hi : i < g.n := by omega
    have e0 : decide ((i : Int) < (g.n : Int)) = true := ltT hi
    have e1 : decide ((i : Int) < (hs.n : Int)) = true := by rw [hx.1]; exact e0
    have ex : hs.f i = x i := hx.2 i hi
    by_cases c1 : x i < lowD x i
    · refine ⟨fun h => absurd (h i hi).1 (by omega), fun _ => ⟨true, (lst api_CarC (0 : Nat) (zeroC [SV.int IntKind.i64 (0 : Int), SV.int IntKind.i64 (0 : Int), SV.int IntKind.i64 (0 : Int), SV.int IntKind.i64 (0 : Int), SV.int IntKind.i64 (0 : Int)])), fun {R} kr k0 => ?_⟩⟩
      · unfold r7Cars_l6 r7Cars_b6
        rw [e0, cond_true, nat_nonneg, e1, Bool.and_self, cond_true, Int.toNat_natCast, ex, decide_eq_true c1, cond_true]
    by_cases c2 : x i ≥ (F : Int)
    · refine ⟨fun h => absurd (h i hi).2 (by omega), fun _ => ⟨true, (lst api_CarC (0 : Nat) (zeroC [SV.int IntKind.i64 (0 : Int), SV.int IntKind.i64 (0 : Int), SV.int IntKind.i64 (0 : Int), SV.int IntKind.i64 (0 : Int), SV.int IntKind.i64 (0 : Int)])), fun {R} kr k0 => ?_⟩⟩
      · unfold r7Cars_l6 r7Cars_b6
        rw [e0, cond_true, nat_nonneg, e1, Bool.and_self, cond_true, Int.toNat_natCast, ex, decide_eq_false c1, cond_false, cond_true, decide_eq_true c2, cond_true]
    have h3' : PrD F x (i + 1) := fun k hk => by
      by_cases e : k = i
      · subst e; exact ⟨by omega, by omega⟩
      · exact h3 k (by omega)
    obtain ⟨d1, d2, d3, d4, d5⟩ := carD_fact hg hF h3' (Nat.lt_succ_self i) hi
    have hl0 := lowD_nonneg h3' i (by omega)
    have hpush : (lst api_CarC (Arr.n arr + (1 : Nat)) (catC (Arr.n arr) (Cod.cell api_CarC (Arr.f arr)) (litC [SV.int IntKind.i64 (0 : Int), SV.int IntKind.i64 (0 : Int), SV.int IntKind.i64 (0 : Int), SV.int IntKind.i64 (0 : Int), SV.int IntKind.i64 (0 : Int)] [[SV.int IntKind.i64 (lowD x i), SV.int IntKind.i64 (x i), SV.int IntKind.i64 (lowD x i), SV.int IntKind.i64 (api_Car.Move (Arr.f g i)), SV.int IntKind.i64 (api_Car.Stop (Arr.f g i))]]))).Is (i + 1) (fun j => (carD g x j).car) := by
      refine Arr.Is.push (C := api_CarC) (fun _ => rfl) h4 ?_
      show (⟨lowD x i, x i, lowD x i, (g.f i).Move, (g.f i).Stop⟩ : api_Car) = (carD g x i).car
      rw [← d1, ← d2, ← d3, ← d4]
      rfl
    obtain ⟨n1, n2⟩ := ih (i + 1) n false _ (by omega) (by omega) h3' hpush
    have hw : w64 (x i + 1) = lowD x (i + 1) := w64_eq (by omega) (by omega)
    have step : ∀ {R : Type} (kr : Bool → Bool → Arr api_Car → Option R) (k0 : Int → Bool → Arr api_Car → Option R), r7Cars_l6 N (n + 1) g (F : Int) hs (lowD x i) (i : Int) b arr kr k0 =
        r7Cars_l6 N n g (F : Int) hs (lowD x (i + 1)) ((i + 1 : Nat) : Int) false (lst api_CarC (Arr.n arr + (1 : Nat)) (catC (Arr.n arr) (Cod.cell api_CarC (Arr.f arr)) (litC [SV.int IntKind.i64 (0 : Int), SV.int IntKind.i64 (0 : Int), SV.int IntKind.i64 (0 : Int), SV.int IntKind.i64 (0 : Int), SV.int IntKind.i64 (0 : Int)] [[SV.int IntKind.i64 (lowD x i), SV.int IntKind.i64 (x i), SV.int IntKind.i64 (lowD x i), SV.int IntKind.i64 (api_Car.Move (Arr.f g i)), SV.int IntKind.i64 (api_Car.Stop (Arr.f g i))]]))) kr k0 := fun {R} kr k0 => by
      conv => lhs; unfold r7Cars_l6 r7Cars_b6
      rw [e0, cond_true, nat_nonneg, e1, Bool.and_self, cond_true, Int.toNat_natCast, ex, decide_eq_false c1, cond_false, cond_true, decide_eq_false c2, cond_false, cond_true, cond_true, room_of (by rw [h4.1]; omega), cond_true, cond_true, hw, w64_succ (show i < 1000000000000 by omega)]
    refine ⟨fun h => ?_, fun h => ?_⟩
    · obtain ⟨b', arr', t1, t2⟩ := n1 h
      exact ⟨b', arr', t1, fun {R} kr k0 => by rw [step]; exact t2 kr k0⟩
    · obtain ⟨b', arr', t2⟩ := n2 h
      exact ⟨b', arr', fun {R} kr k0 => by rw [step]; exact t2 kr k0⟩
theorem cars_good {N : Nat} (hN : 200 < N) {g : Arr api_Car} (hg : carsP g) (hgn : g.n ≤ 100) {F : Nat} (hF : F ≤ 6) {x : Nat → Int} {hs : Arr Int} (hx : hs.Is g.n x) (hd : DOk g.n F x) :
    ∃ b' arr', arr'.Is g.n (fun j => (carD g x j).car) ∧ ∀ {R : Type} (k : Bool → Bool → Arr api_Car → Option R), r7Cars N g (F : Int) hs k = k true b' arr' := by
  obtain ⟨b', arr', t1, t2⟩ := (cars_l6 N hg hgn hF hx g.n 0 N true (lst api_CarC (0 : Nat) (zeroC [SV.int IntKind.i64 (0 : Int), SV.int IntKind.i64 (0 : Int), SV.int IntKind.i64 (0 : Int), SV.int IntKind.i64 (0 : Int), SV.int IntKind.i64 (0 : Int)])) (by omega) (by omega) (fun i hi => by omega) ⟨rfl, fun i hi => by omega⟩).1 hd.1
  refine ⟨b', arr', t1, fun {R} k => ?_⟩
  rw [r7Cars_def]
  unfold r7Cars_m
  rw [hx.1, bne_self_eq_false, cond_false]
  refine (t2 (fun r1 r2 r3 => k r1 r2 r3) (fun r5 r6 r7 => k (r5 == (F : Int)) r6 r7)).trans ?_
  show k (lowD x g.n == (F : Int)) b' arr' = _
  rw [hd.2, BEq.rfl]
theorem cars_bad {N : Nat} (hN : 200 < N) {g : Arr api_Car} (hg : carsP g) (hgn : g.n ≤ 100) {F : Nat} (hF : F ≤ 6) {x : Nat → Int} {hs : Arr Int} (hx : hs.Is g.n x) (hd : ¬ DOk g.n F x) :
    ∃ b' arr', ∀ {R : Type} (k : Bool → Bool → Arr api_Car → Option R), r7Cars N g (F : Int) hs k = k false b' arr' := by
  have h := cars_l6 N hg hgn hF hx g.n 0 N true (lst api_CarC (0 : Nat) (zeroC [SV.int IntKind.i64 (0 : Int), SV.int IntKind.i64 (0 : Int), SV.int IntKind.i64 (0 : Int), SV.int IntKind.i64 (0 : Int), SV.int IntKind.i64 (0 : Int)])) (by omega) (by omega) (fun i hi => by omega) ⟨rfl, fun i hi => by omega⟩
  by_cases hp : PrD F x g.n
  · obtain ⟨b', arr', t1, t2⟩ := h.1 hp
    refine ⟨b', arr', fun {R} k => ?_⟩
    rw [r7Cars_def]
    unfold r7Cars_m
    rw [hx.1, bne_self_eq_false, cond_false]
    refine (t2 (fun r1 r2 r3 => k r1 r2 r3) (fun r5 r6 r7 => k (r5 == (F : Int)) r6 r7)).trans ?_
    show k (lowD x g.n == (F : Int)) b' arr' = _
    rw [show (lowD x g.n == (F : Int)) = false by rw [beq_eq_false_iff_ne]; exact fun e => hd ⟨hp, e⟩]
  · obtain ⟨b', arr', t2⟩ := h.2 hp
    refine ⟨b', arr', fun {R} k => ?_⟩
    rw [r7Cars_def]
    unfold r7Cars_m
    rw [hx.1, bne_self_eq_false, cond_false]
    exact t2 (fun r1 r2 r3 => k r1 r2 r3) (fun r5 r6 r7 => k (r5 == (F : Int)) r6 r7)
theorem pow_le {F G : Nat} (hF : F ≤ 6) (hG : G ≤ 3) : F ^ G ≤ 216 := Nat.le_trans (Nat.pow_le_pow_left hF _) (Nat.pow_le_pow_right (n := 6) (by decide) hG)
theorem pd_l8 (N : Nat) {g : Arr api_Car} (hgn : g.n ≤ 3) {F : Nat} (hF : F ≤ 6) {R : Type} (k0 : Int → Option R) : ∀ (q i n : Nat), i + q = g.n → q < n → r7Divide_l8 N n g (F : Int) ((F ^ i : Nat) : Int) (i : Int) k0 = k0 ((F ^ g.n : Nat) : Int) := by
  intro q
  induction q with
  | zero =>
    intro i n a1 a2
    obtain ⟨n, rfl⟩ : ∃ m, n = m + 1 := ⟨n - 1, by omega⟩
    have : i = g.n := by omega
    subst this
    unfold r7Divide_l8 r7Divide_b8
    rw [ltF (Nat.le_refl _), cond_false]
  | succ q ih =>
    intro i n a1 a2
    obtain ⟨n, rfl⟩ : ∃ m, n = m + 1 := ⟨n - 1, by omega⟩
    have e0 : decide ((i : Int) < (g.n : Int)) = true := ltT (by omega)
    have hb : F ^ (i + 1) ≤ 216 := pow_le hF (by omega)
    have hw : w64 (((F ^ i : Nat) : Int) * (F : Int)) = ((F ^ (i + 1) : Nat) : Int) := by
      rw [← Int.natCast_mul, ← Nat.pow_succ]
      exact w64_small (Nat.le_trans hb (by decide))
    unfold r7Divide_l8 r7Divide_b8
    rw [e0, cond_true, hw, w64_succ (show i < 1000000000000 by omega)]
    exact ih (i + 1) n (by omega) (by omega)
theorem pd_l19 (N : Nat) {g : Arr api_Car} (hgn : g.n ≤ 3) {F : Nat} (hF0 : 0 < F) (all least : Int) (a : Nat) (ha : a < 1000) (b b2 : Bool) (best : Arr Int) : ∀ (j n : Nat) (arr : Arr Int), j < n → arr.n = g.n → j ≤ g.n → (∀ k, j ≤ k → k < g.n → arr.f k = dg F g.n a k) →
    ∃ arr' : Arr Int, arr'.Is g.n (dg F g.n a) ∧ ∀ {R : Type} (k4 : Arr Int → Option R), r7Divide_l19 N n g (F : Int) all least (a : Int) ((a / F ^ (g.n - j) : Nat) : Int) ((j : Int) - 1) b best b2 arr k4 = k4 arr' := by
  intro j
  induction j with
  | zero =>
    intro n arr h1 h2 h3 h4
    obtain ⟨n, rfl⟩ : ∃ m, n = m + 1 := ⟨n - 1, by omega⟩
    refine ⟨arr, ⟨h2, fun k hk => h4 k (Nat.zero_le _) hk⟩, fun {R} k4 => ?_⟩
    unfold r7Divide_l19 r7Divide_b19
    rw [decide_eq_false (show ¬ (((0 : Nat) : Int) - 1 ≥ 0) by omega), cond_false]
  | succ j ih =>
    intro n arr h1 h2 h3 h4
    obtain ⟨n, rfl⟩ : ∃ m, n = m + 1 := ⟨n - 1, by omega⟩
    have ej : (((j + 1 : Nat) : Int) - 1) = (j : Int) := by omega
    have hq : a / F ^ (g.n - (j + 1)) ≤ a := Nat.div_le_self _ _
    have hz : ((F : Int) == 0) = false := by rw [beq_eq_false_iff_ne]; omega
    have e1 : decide ((j : Int) < (arr.n : Int)) = true := by rw [h2]; exact ltT (by omega)
    have hdiv : w64 (Int.tdiv ((a / F ^ (g.n - (j + 1)) : Nat) : Int) (F : Int)) = ((a / F ^ (g.n - j) : Nat) : Int) := by
      rw [← Int.ofNat_tdiv, Nat.div_div_eq_div_mul, ← Nat.pow_succ, show (g.n - (j + 1)).succ = g.n - j by omega]
      have : a / F ^ (g.n - j) ≤ a := Nat.div_le_self _ _
      exact w64_small (Nat.le_trans this (by omega))
    have hmod : Int.tmod ((a / F ^ (g.n - (j + 1)) : Nat) : Int) (F : Int) = dg F g.n a j := by
      rw [← Int.ofNat_tmod]
      unfold dg dig
      rw [show g.n - 1 - j = g.n - (j + 1) by omega]
    have hw : w64 ((j : Int) - 1) = (j : Int) - 1 := w64_eq (by omega) (by omega)
    obtain ⟨arr', g1, g2⟩ := ih n (lst intC (Arr.n arr) (setCs j (0 : Nat) (Cod.cell intC (Arr.f arr)) [SV.int IntKind.i64 (dg F g.n a j)])) (by omega) h2 (by omega) (fun k k1 k2 => by
      rw [set_f]
      by_cases e : k = j
      · subst e; rw [if_pos rfl]
      · rw [if_neg e]; exact h4 k (by omega) k2)
    refine ⟨arr', g1, fun {R} k4 => ?_⟩
    unfold r7Divide_l19 r7Divide_b19
    rw [ej, decide_eq_true (show (j : Int) ≥ 0 by omega), cond_true, hz, cond_false, e1, Bool.and_self, cond_true, cond_false, hdiv, hmod, hw, Int.toNat_natCast]
    exact g2 k4
theorem pd_l14 {N : Nat} (hN : 70000 < N) {g : Arr api_Car} (hgn : g.n ≤ 3) (hg : carsP g) (hq : ∀ i, i < g.n → (g.f i).Move + (g.f i).Stop ≤ 4) {F : Nat} (hF0 : 0 < F) (hF : F ≤ 4) : ∀ (q a n : Nat) (b : Bool) (best : Arr Int) (s : BS), a + q = F ^ g.n → q < n → best.Is s.n s.x →
    ∃ (b' : Bool) (best' : Arr Int), best'.Is (foldB (valD g F) F g.n a q s).n (foldB (valD g F) F g.n a q s).x ∧ ∀ {R : Type} (k2 : Int → Bool → Arr Int → Option R), r7Divide_l14 N n g (F : Int) ((F ^ g.n : Nat) : Int) s.m (a : Int) b best k2 = k2 (foldB (valD g F) F g.n a q s).m b' best' := by
  have hb : F ^ g.n ≤ 216 := pow_le (by omega) hgn
  intro q
  induction q with
  | zero =>
    intro a n b best s h1 h2 h3
    obtain ⟨n, rfl⟩ : ∃ m, n = m + 1 := ⟨n - 1, by omega⟩
    refine ⟨b, best, h3, fun {R} k2 => ?_⟩
    unfold r7Divide_l14 r7Divide_b14
    rw [ltF (show F ^ g.n ≤ a by omega), cond_false]
    rfl
  | succ q ih =>
    intro a n b best s h1 h2 h3
    obtain ⟨n, rfl⟩ : ∃ m, n = m + 1 := ⟨n - 1, by omega⟩
    have e0 : decide ((a : Int) < ((F ^ g.n : Nat) : Int)) = true := ltT (by omega)
    have e1 : (decide ((↑(Arr.n g) : Int) ≤ (↑(Arr.n g) : Int)) && decide ((↑(Arr.n g) : Int) ≤ (1073741824 : Int))) = true := by simp; omega
    obtain ⟨arr, r1, r2⟩ := pd_l19 N hgn hF0 ((F ^ g.n : Nat) : Int) s.m a (by omega) b false best g.n N (lst intC (Int.toNat (↑(Arr.n g) : Int)) (zeroC [SV.int IntKind.i64 (0 : Int)])) (by omega) (Int.toNat_natCast _) (Nat.le_refl _) (fun k k1 k2 => by omega)
    rw [Nat.sub_self, Nat.pow_zero, Nat.div_one] at r2
    have hw : w64 ((g.n : Int) - 1) = (g.n : Int) - 1 := w64_eq (by omega) (by omega)
    show ∃ (b' : Bool) (best' : Arr Int), best'.Is (foldB (valD g F) F g.n (a + 1) q (stepB (valD g F) g.n (dg F g.n a) s)).n (foldB (valD g F) F g.n (a + 1) q (stepB (valD g F) g.n (dg F g.n a) s)).x ∧ ∀ {R : Type} (k2 : Int → Bool → Arr Int → Option R), _ = k2 (foldB (valD g F) F g.n (a + 1) q (stepB (valD g F) g.n (dg F g.n a) s)).m b' best'
    by_cases hs : DOk g.n F (dg F g.n a)
    · obtain ⟨cb, ca, k1, k2⟩ := cars_good (by omega : 200 < N) hg (by omega) (by omega) r1 hs
      have front : ∀ {R : Type} (k2 : Int → Bool → Arr Int → Option R), r7Divide_l14 N (n + 1) g (F : Int) ((F ^ g.n : Nat) : Int) s.m (a : Int) b best k2 =
          bif decide (s.m < (0 : Int)) then r7Divide_l14 N n g (F : Int) ((F ^ g.n : Nat) : Int) (gD g (dg F g.n a) : Int) ((a + 1 : Nat) : Int) false arr k2
          else bif decide ((gD g (dg F g.n a) : Int) < s.m) then r7Divide_l14 N n g (F : Int) ((F ^ g.n : Nat) : Int) (gD g (dg F g.n a) : Int) ((a + 1 : Nat) : Int) false arr k2
          else r7Divide_l14 N n g (F : Int) ((F ^ g.n : Nat) : Int) s.m ((a + 1 : Nat) : Int) b best k2 := fun {R} k3 => by
        conv => lhs; unfold r7Divide_l14 r7Divide_b14
        rw [e0, cond_true, e1, cond_true, hw, r2, k2, Bool.not_true, cond_false, w64_succ (show a < 1000000000000 by omega)]
        exact pw_l27 hN hg (by omega) hq hF hs.1 k1 _ _ _ _ b false cb best arr _ g.n 0 N 0 (by omega) (by omega)
      have hv := valD_good hs
      by_cases hc : s.m < 0 ∨ (gD g (dg F g.n a) : Int) < s.m
      · have hst : stepB (valD g F) g.n (dg F g.n a) s = ⟨(gD g (dg F g.n a) : Int), g.n, dg F g.n a⟩ := by unfold stepB; rw [hv, if_pos ⟨by omega, hc⟩]
        obtain ⟨b', best', c1, c2⟩ := ih (a + 1) n false arr ⟨(gD g (dg F g.n a) : Int), g.n, dg F g.n a⟩ (by omega) (by omega) r1
        rw [hst]
        refine ⟨b', best', c1, fun {R} k2 => ?_⟩
        rw [front]
        by_cases e : s.m < 0
        · rw [decide_eq_true e, cond_true]; exact c2 k2
        · rw [decide_eq_false e, cond_false, decide_eq_true (show (gD g (dg F g.n a) : Int) < s.m by omega), cond_true]; exact c2 k2
      · have hst : stepB (valD g F) g.n (dg F g.n a) s = s := by unfold stepB; rw [hv, if_neg fun h => hc h.2]
        obtain ⟨b', best', c1, c2⟩ := ih (a + 1) n b best s (by omega) (by omega) h3
        rw [hst]
        refine ⟨b', best', c1, fun {R} k2 => ?_⟩
        rw [front, decide_eq_false (show ¬ s.m < 0 by omega), cond_false, decide_eq_false (show ¬ (gD g (dg F g.n a) : Int) < s.m by omega), cond_false]
        exact c2 k2
    · have hv := valD_bad (g := g) hs
      have hst : stepB (valD g F) g.n (dg F g.n a) s = s := by unfold stepB; rw [if_neg fun h => absurd h.1 (by omega)]
      obtain ⟨cb, ca, k2⟩ := cars_bad (by omega : 200 < N) hg (by omega) (by omega) r1 hs
      obtain ⟨b', best', c1, c2⟩ := ih (a + 1) n b best s (by omega) (by omega) h3
      rw [hst]
      refine ⟨b', best', c1, fun {R} k3 => ?_⟩
      conv => lhs; unfold r7Divide_l14 r7Divide_b14
      rw [e0, cond_true, e1, cond_true, hw, r2, k2, Bool.not_false, cond_true, w64_succ (show a < 1000000000000 by omega)]
      exact c2 k3
theorem refDivide_eq {N : Nat} (hN : 70000 < N) {g : Arr api_Car} (hgn : g.n ≤ 100) (he : errG g l0 = 0) (hq : ∀ i, i < g.n → (g.f i).Move + (g.f i).Stop ≤ 4) {F : Nat} (hF : g.n ≤ F) (h4 : F ≤ 4) :
    ∃ (b : Bool) (best : Arr Int), best.Is (bestD g F).n (bestD g F).x ∧ ∀ {R : Type} (k : Int → Int → Bool → Arr Int → Option R), r7Divide N g (F : Int) k = k (bestD g F).m 0 b best := by
  obtain ⟨⟨h1, h3⟩, hc⟩ := errG_l0 he
  have hb : F ^ g.n ≤ 216 := pow_le (by omega) h3
  obtain ⟨b', best', g1, g2⟩ := pd_l14 hN h3 hc hq (by omega) h4 (F ^ g.n) 0 N true (lst intC (0 : Nat) (zeroC [SV.int IntKind.i64 (0 : Int)])) ⟨-1, 0, fun _ => 0⟩ (by omega) (by omega) (zero_is _)
  refine ⟨b', best', g1, fun {R} k => ?_⟩
  rw [r7Divide_def]
  unfold r7Divide_m
  rw [refGroup_eq (by omega) hgn (Nat.zero_le _)]
  show (bif (errG g l0 != (0 : Int)) then _ else _) = _
  rw [he, show ((0 : Int) != 0) = false from rfl, cond_false, from_eq, decide_eq_true (show ((g.n : Int) ≤ (F : Int) ∧ (F : Int) ≤ 6) by omega), Bool.not_true, cond_false]
  have := pd_l8 N h3 (show F ≤ 6 by omega) (fun r1016 => r7Divide_l14 N N g (F : Int) r1016 (-1 : Int) (0 : Int) true (lst intC (0 : Nat) (zeroC [SV.int IntKind.i64 (0 : Int)])) (fun r1070 r1071 r1072 => k r1070 (0 : Int) r1071 r1072)) g.n 0 N (by omega) (by omega)
  rw [Nat.pow_zero] at this
  exact this.trans (g2 _)
theorem divide_same {N : Nat} (hN : 70000 < N) {g : Arr api_Car} (hgn : g.n ≤ 100) (hq : ∀ i, i < g.n → VC (g.f i) → (g.f i).Move + (g.f i).Stop ≤ 4) {fl : Int} (hfl : fl ≤ 4 ∨ 6 < fl) :
    ∃ (m e : Int) (b b' : Bool) (x x' : Arr Int), x.n = x'.n ∧ x.n ≤ 1000 ∧ (∀ i, i < x.n → x.f i = x'.f i) ∧ (∀ {R : Type} (k : Int → Int → Bool → Arr Int → Option R), calls_Divide N g fl k = k m e b x) ∧ (∀ {R : Type} (k : Int → Int → Bool → Arr Int → Option R), r7Divide N g fl k = k m e b' x') := by
  by_cases he : errG g l0 = 0
  rotate_left
  · have e0 : (errG g l0 != 0) = true := by simpa using he
    refine ⟨0, errG g l0, true, true, lst intC (0 : Nat) (zeroC [SV.int IntKind.i64 (0 : Int)]), lst intC (0 : Nat) (zeroC [SV.int IntKind.i64 (0 : Int)]), rfl, Nat.zero_le 1000, fun i hi => rfl, fun {R} k => ?_, fun {R} k => ?_⟩
    · rw [calls_Divide_def]
      unfold calls_Divide_m
      rw [group_eq (by omega) hgn (Nat.zero_le _)]
      show (bif (errG g l0 != (0 : Int)) then _ else _) = _
      rw [e0, cond_true]
      rfl
    · rw [r7Divide_def]
      unfold r7Divide_m
      rw [refGroup_eq (by omega) hgn (Nat.zero_le _)]
      show (bif (errG g l0 != (0 : Int)) then _ else _) = _
      rw [e0, cond_true]
      rfl
  by_cases hin : (g.n : Int) ≤ fl ∧ fl ≤ 6
  rotate_left
  · refine ⟨0, 1, true, true, lst intC (0 : Nat) (zeroC [SV.int IntKind.i64 (0 : Int)]), lst intC (0 : Nat) (zeroC [SV.int IntKind.i64 (0 : Int)]), rfl, Nat.zero_le 1000, fun i hi => rfl, fun {R} k => ?_, fun {R} k => ?_⟩
    · rw [calls_Divide_def]
      unfold calls_Divide_m
      rw [group_eq (by omega) hgn (Nat.zero_le _)]
      show (bif (errG g l0 != (0 : Int)) then _ else _) = _
      rw [he, show ((0 : Int) != 0) = false from rfl, cond_false, in_eq, decide_eq_false hin, Bool.not_false, cond_true]
    · rw [r7Divide_def]
      unfold r7Divide_m
      rw [refGroup_eq (by omega) hgn (Nat.zero_le _)]
      show (bif (errG g l0 != (0 : Int)) then _ else _) = _
      rw [he, show ((0 : Int) != 0) = false from rfl, cond_false, from_eq, decide_eq_false hin, Bool.not_false, cond_true]
  obtain ⟨F, rfl⟩ : ∃ F : Nat, fl = (F : Int) := ⟨fl.toNat, by omega⟩
  obtain ⟨⟨h1, h3⟩, hc⟩ := errG_l0 he
  obtain ⟨x, x1, x2⟩ := divide_eq (by omega : 1000 < N) hgn he (F := F) (by omega) (by omega)
  obtain ⟨b', x', y1, y2⟩ := refDivide_eq hN hgn he (fun i hi => hq i hi (hc i hi)) (F := F) (by omega) (by omega)
  have hn := (bestD_is h1 h3 (F := F) (by omega) (by omega)).1
  exact ⟨(bestD g F).m, 0, false, b', x, x', by rw [x1.1, y1.1], by rw [x1.1, hn]; omega, fun i hi => by rw [x1.1] at hi; rw [x1.2 i hi, y1.2 i hi], x2, y2⟩
end
end Go.Proofs.Ytlphgonhenegoaa
