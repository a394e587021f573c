/-
  Several texts in one.
-/
import Derived.Test.YtlphgonhenegoaaQ3
import Derived.Test.YtlphgonhenegoaaQ2
set_option linter.unusedVariables false
set_option linter.unusedSimpArgs false
set_option maxHeartbeats 0
set_option maxRecDepth 100000
namespace Go.Proofs.Ytlphgonhenegoaa
open Go.Sx
section
def lowD (x : Nat → Int) : Nat → Int
  | 0 => 0
  | i + 1 => x i + 1
def PrD (F : Nat) (x : Nat → Int) (m : Nat) : Prop := ∀ i, i < m → lowD x i ≤ x i ∧ x i < (F : Int)
def DOk (G F : Nat) (x : Nat → Int) : Prop := PrD F x G ∧ lowD x G = (F : Int)
instance (F : Nat) (x : Nat → Int) (m : Nat) : Decidable (PrD F x m) := by unfold PrD; infer_instance
instance (G F : Nat) (x : Nat → Int) : Decidable (DOk G F x) := by unfold DOk; infer_instance
theorem lowD_nonneg {F : Nat} {x : Nat → Int} {m : Nat} (h : PrD F x m) : ∀ i, i ≤ m → 0 ≤ lowD x i
  | 0, _ => Int.le_refl _
  | i + 1, hi => by
    have h1 := (h i (by omega)).1
    have h2 := lowD_nonneg h i (by omega)
    show 0 ≤ x i + 1
    omega
theorem lowD_congr {x y : Nat → Int} {m : Nat} (h : ∀ k, k < m → x k = y k) : ∀ i, i ≤ m → lowD x i = lowD y i
  | 0, _ => rfl
  | i + 1, hi => by show x i + 1 = y i + 1; rw [h i (by omega)]
theorem PrD.congr {F : Nat} {x y : Nat → Int} {m : Nat} (h : ∀ k, k < m → x k = y k) (hp : PrD F x m) : PrD F y m := fun i hi => by
  rw [← lowD_congr h i (by omega), ← h i hi]
  exact hp i hi
def carD (g : Arr api_Car) (x : Nat → Int) (i : Nat) : Cn := ⟨(lowD x i).toNat, (x i).toNat, (lowD x i).toNat, (g.f i).Move.toNat, (g.f i).Stop.toNat⟩
def mxF (c : Cn) : Nat → Nat → Nat → Nat
  | _, 0, a => a
  | f, n + 1, a => mxF c (f + 1) n (max a (worstN c f))
def mxD (g : Arr api_Car) (x : Nat → Int) : Nat → Nat → Nat → Nat
  | _, 0, a => a
  | i, q + 1, a => mxD g x (i + 1) q (mxF (carD g x i) (carD g x i).L ((carD g x i).H + 1 - (carD g x i).L) a)
def gD (g : Arr api_Car) (x : Nat → Int) : Nat := mxD g x 0 g.n 0
def valD (g : Arr api_Car) (F : Nat) (x : Nat → Int) : Int := if DOk g.n F x then (gD g x : Int) else -1
theorem valD_good {g : Arr api_Car} {F : Nat} {x : Nat → Int} (h : DOk g.n F x) : valD g F x = (gD g x : Int) := by unfold valD; rw [if_pos h]
theorem valD_bad {g : Arr api_Car} {F : Nat} {x : Nat → Int} (h : ¬ DOk g.n F x) : valD g F x < 0 := by unfold valD; rw [if_neg h]; decide
theorem carD_fact {g : Arr api_Car} (hg : carsP g) {F : Nat} (hF : F ≤ 6) {x : Nat → Int} {m : Nat} (hd : PrD F x m) {i : Nat} (hi : i < m) (hig : i < g.n) :
    ((carD g x i).L : Int) = lowD x i ∧ ((carD g x i).H : Int) = x i ∧ ((carD g x i).M : Int) = (g.f i).Move ∧ ((carD g x i).S : Int) = (g.f i).Stop ∧ (carD g x i).Ok := by
  obtain ⟨c, hc, e⟩ := (hg i hig).cn
  have h0 := lowD_nonneg hd i (by omega)
  obtain ⟨h1, h2⟩ := hd i hi
  have e1 : (g.f i).Move = (c.M : Int) := by rw [e]; rfl
  have e2 : (g.f i).Stop = (c.S : Int) := by rw [e]; rfl
  have a1 := hc.m1
  have a2 := hc.m3
  have a3 := hc.s1
  have a4 := hc.s4
  unfold carD
  rw [e1, e2]
  refine ⟨by simp only; omega, by simp only; omega, by simp only; omega, by simp only; omega, ⟨Nat.le_refl _, by simp only; omega, by simp only; omega, by simp only; omega, by simp only; omega, by simp only; omega, by simp only; omega⟩⟩
set_option synthInstance.maxHeartbeats 0 in
set_option synthInstance.maxSize 1000 in
theorem cworst_num : ∀ f : Nat, f < 6 → ∀ L : Nat, L < 6 → ∀ H : Nat, H < 6 → (L ≤ f ∧ f ≤ H) → ∀ M : Nat, M < 4 → ∀ S : Nat, S < 5 →
      (bif mxI (w64 ((H : Int) - (f : Int))) (w64 ((f : Int) - (L : Int))) == (0 : Int) then (0 : Int) else w64 (w64 (w64 ((2 : Int) * mxI (w64 ((H : Int) - (f : Int))) (w64 ((f : Int) - (L : Int)))) * (M : Int)) + w64 (w64 (w64 ((2 : Int) * mxI (w64 ((H : Int) - (f : Int))) (w64 ((f : Int) - (L : Int)))) - (1 : Int)) * (S : Int)))) = (worstN ⟨L, H, 0, M, S⟩ f : Int) := by decide +kernel
theorem cworst (N : Nat) {c : Cn} (hc : c.Ok) (s : Int) {f : Nat} (hf : c.L ≤ f ∧ f ≤ c.H) {R : Type} (k : Int → Option R) : calls_worst N ⟨c.L, c.H, s, c.M, c.S⟩ (f : Int) k = k ((worstN c f : Nat) : Int) := by
  have h5 := hc.h5
  have hm := hc.m3
  have hs := hc.s4
  have hh := cworst_num f (by omega) c.L (by omega) c.H (by omega) hf c.M (by omega) c.S (by omega)
  rw [calls_worst_def]
  unfold calls_worst_m
  rw [calls_far_def]
  unfold calls_far_m
  rw [show worstN c f = worstN ⟨c.L, c.H, 0, c.M, c.S⟩ f from rfl, ← hh]
  show (bif mxI (w64 ((c.H : Int) - (f : Int))) (w64 ((f : Int) - (c.L : Int))) == (0 : Int) then _ else _) = _
  cases (mxI (w64 ((c.H : Int) - (f : Int))) (w64 ((f : Int) - (c.L : Int))) == (0 : Int)) <;> rfl
theorem mxI_nat (a b : Nat) : mxI (a : Int) (b : Int) = ((max a b : Nat) : Int) := by rw [mxI_eq]; omega
theorem rd_l14 (N : Nat) {c : Cn} (hc : c.Ok) (s : Int) (g g2 : Arr api_Car) (len i most : Int) (b b2 : Bool) (a a2 : Arr Int) {R : Type} (k4 : Int → Option R) : ∀ (q f n acc : Nat), f + q = c.H + 1 → q < n → c.L ≤ f →
    ∀ (low : Int), calls_Divide_round_l14 N n (acc : Int) (f : Int) g len i g2 most b a ⟨c.L, c.H, s, c.M, c.S⟩ b2 a2 k4 = k4 ((mxF c f q acc : Nat) : Int) := by
  have h5 := hc.h5
  intro q
  induction q with
  | zero =>
    intro f n acc h1 h2 h3 low
    obtain ⟨n, rfl⟩ : ∃ m, n = m + 1 := ⟨n - 1, by omega⟩
    unfold calls_Divide_round_l14 calls_Divide_round_b14
    rw [decide_eq_false (show ¬ ((f : Int) ≤ (c.H : Int)) by omega), cond_false]
    rfl
  | succ q ih =>
    intro f n acc h1 h2 h3 low
    obtain ⟨n, rfl⟩ : ∃ m, n = m + 1 := ⟨n - 1, by omega⟩
    unfold calls_Divide_round_l14 calls_Divide_round_b14
    rw [decide_eq_true (show ((f : Int) ≤ (c.H : Int)) by omega), cond_true, cworst N hc s (show c.L ≤ f ∧ f ≤ c.H by omega), mxI_nat, w64_succ (show f < 1000000000000 by omega)]
    exact ih (f + 1) n _ (by omega) (by omega) (by omega) low
theorem rd_l10 {N : Nat} (hN : 10 < N) {g : Arr api_Car} (hg : carsP g) (hgn : g.n ≤ 100) {F : Nat} (hF : F ≤ 6) {x : Nat → Int} (hd : PrD F x g.n) {xa : Arr Int} (hx : xa.Is g.n x) (most : Int) (b b2 : Bool) (a2 : Arr Int) {R : Type} (k2 : Int → Option R) : ∀ (q i n acc : Nat), i + q = g.n → q < n →
    calls_Divide_round_l10 N n (acc : Int) (lowD x i) g (g.n : Int) (i : Int) g most b xa b2 a2 k2 = k2 ((mxD g x i q acc : Nat) : Int) := by
  intro q
  induction q with
  | zero =>
    intro i n acc h1 h2
    obtain ⟨n, rfl⟩ : ∃ m, n = m + 1 := ⟨n - 1, by omega⟩
    unfold calls_Divide_round_l10 calls_Divide_round_b10
    rw [ltF (show g.n ≤ i by omega), cond_false]
    rfl
  | succ q ih =>
    intro i n acc h1 h2
    obtain ⟨n, rfl⟩ : ∃ m, n = m + 1 := ⟨n - 1, by omega⟩
    have hi : i < g.n := by omega
    obtain ⟨c1, c2, c3, c4, c5⟩ := carD_fact hg hF hd hi hi
    have hxi : x i < (F : Int) := (hd i hi).2
    have hxl := (hd i hi).1
    have hl0 := lowD_nonneg hd i (by omega)
    have e0 : decide ((i : Int) < (g.n : Int)) = true := ltT hi
    have e1 : decide ((i : Int) < (xa.n : Int)) = true := by rw [hx.1]; exact e0
    have e2 : xa.f i = x i := hx.2 i hi
    have h5 := c5.h5
    have hw : w64 (x i + 1) = lowD x (i + 1) := w64_eq (by omega) (by omega)
    unfold calls_Divide_round_l10 calls_Divide_round_b10
    rw [e0, cond_true, nat_nonneg, Bool.and_self, cond_true, e1, Bool.and_self, cond_true, Int.toNat_natCast, e2, ← c1, ← c2, ← c3, ← c4]
    refine (rd_l14 N c5 (g.f i).Start g g (g.n : Int) (i : Int) most b b2 xa a2 _ ((carD g x i).H + 1 - (carD g x i).L) (carD g x i).L N acc (by have := c5.ls; have := c5.sh; omega) (by omega) (Nat.le_refl _) 0).trans ?_
    show calls_Divide_round_l10 N n _ (w64 (((carD g x i).H : Int) + 1)) g (g.n : Int) (w64 ((i : Int) + 1)) g most b xa b2 a2 k2 = _
    rw [c2, hw, w64_succ (show i < 1000000000000 by omega)]
    exact ih (i + 1) n _ (by omega) (by omega)
theorem rdiv_eq {N : Nat} (hN : 200 < N) {g : Arr api_Car} (hg : carsP g) (hgn : g.n ≤ 100) {F : Nat} (hF : F ≤ 6) {x : Nat → Int} (hd : PrD F x g.n) {xa : Arr Int} (hx : xa.Is g.n x) (most : Int) (b b2 : Bool) (a2 : Arr Int) {R : Type} (k : Bool → Int → Bool → Arr Int → Option R) :
    calls_Divide_round N g most b xa b2 a2 k = bif b2 then k true (gD g x : Int) b xa else bif decide ((gD g x : Int) < most) then k true (gD g x : Int) b xa else k true most b2 a2 := by
  rw [calls_Divide_round_def]
  unfold calls_Divide_round_m
  exact rd_l10 (by omega) hg hgn hF hd hx most b b2 a2 _ g.n 0 N 0 (by omega) (by omega)
def DS (s : BS) (most : Int) (b : Bool) (a : Arr Int) : Prop := (s.m < 0 ∧ b = true ∧ most = 0 ∧ a.n = 0) ∨ (0 ≤ s.m ∧ b = false ∧ most = s.m ∧ a.Is s.n s.x)
theorem round_step {N : Nat} (hN : 200 < N) {g : Arr api_Car} (hg : carsP g) (hgn : g.n ≤ 100) {F : Nat} (hF : F ≤ 6) {x : Nat → Int} (hd : DOk g.n F x) {xa : Arr Int} (hx : xa.Is g.n x) {s : BS} {most : Int} {b2 : Bool} {a2 : Arr Int} (hs : DS s most b2 a2) :
    ∃ most' b' a', DS (stepB (valD g F) g.n x s) most' b' a' ∧ ∀ {R : Type} (k : Bool → Int → Bool → Arr Int → Option R), calls_Divide_round N g most false xa b2 a2 k = k true most' b' a' := by
  have hv := valD_good hd
  unfold stepB
  rw [hv]
  rcases hs with ⟨h1, h2, h3, h4⟩ | ⟨h1, h2, h3, h4⟩
  · subst h2
    rw [if_pos ⟨by omega, .inl h1⟩]
    refine ⟨(gD g x : Int), false, xa, .inr ⟨by simp only; omega, rfl, rfl, hx⟩, fun {R} k => ?_⟩
    rw [rdiv_eq hN hg hgn hF hd.1 hx, cond_true]
  · subst h2
    by_cases hc : (gD g x : Int) < s.m
    · rw [if_pos ⟨by omega, .inr hc⟩]
      refine ⟨(gD g x : Int), false, xa, .inr ⟨by simp only; omega, rfl, rfl, hx⟩, fun {R} k => ?_⟩
      rw [rdiv_eq hN hg hgn hF hd.1 hx, cond_false, h3, decide_eq_true hc, cond_true]
    · rw [if_neg (fun h => by omega)]
      refine ⟨most, false, a2, .inr ⟨h1, rfl, h3, h4⟩, fun {R} k => ?_⟩
      rw [rdiv_eq hN hg hgn hF hd.1 hx, cond_false, h3, decide_eq_false hc, cond_false]
theorem clone_any (N : Nat) {a : Arr Int} (h : a.n ≤ 1000) {b : Bool} (hb : b = true → a.n = 0) : ∃ (b' : Bool) (a' : Arr Int), a'.Is a.n a.f ∧ ∀ {R : Type} (k : Bool → Arr Int → Option R), slices_Clone___int_int_ N b a k = k b' a' := by
  cases b with
  | false => exact ⟨false, a, ⟨rfl, fun _ _ => rfl⟩, fun {R} k => clone_eq N h k⟩
  | true =>
    refine ⟨true, lst intC (0 : Nat) (zeroC [SV.int IntKind.i64 (0 : Int)]), ⟨(hb rfl).symm, fun i hi => by rw [hb rfl] at hi; omega⟩, fun {R} k => ?_⟩
    rw [slices_Clone___int_int__def]
    unfold slices_Clone___int_int__m
    rw [cond_true]
theorem dgL {F i q P n : Nat} (h1 : P * F ^ q ≤ n) (h2 : n < (P + 1) * F ^ q) : ∀ k, k < i → dg F (i + q) n k = dg F i P k := fun k hk => by unfold dg; rw [dig_pre h1 h2 hk]
theorem blk_of {F i q P n : Nat} (h1 : P * F ^ (q + 1) ≤ n) (h2 : n < (P + 1) * F ^ (q + 1)) : ∃ c, c < F ∧ n / F ^ q = P * F + c ∧ (P * F + c) * F ^ q ≤ n ∧ n < (P * F + c + 1) * F ^ q := by
  have hp : 0 < F ^ q := by
    rcases Nat.eq_zero_or_pos (F ^ q) with h | h
    · rw [Nat.pow_succ, h] at h2; omega
    · exact h
  have a1 : P * F ≤ n / F ^ q := (Nat.le_div_iff_mul_le hp).2 (by rw [Nat.mul_assoc, Nat.mul_comm F, ← Nat.pow_succ]; exact h1)
  have a2 : n / F ^ q < (P + 1) * F := (Nat.div_lt_iff_lt_mul hp).2 (by rw [Nat.mul_assoc, Nat.mul_comm F, ← Nat.pow_succ]; exact h2)
  refine ⟨n / F ^ q - P * F, by rw [Nat.add_mul] at a2; omega, by omega, ?_, ?_⟩
  · rw [show P * F + (n / F ^ q - P * F) = n / F ^ q by omega]
    exact Nat.div_mul_le_self _ _
  · rw [show P * F + (n / F ^ q - P * F) = n / F ^ q by omega]
    exact Nat.lt_of_lt_of_le (Nat.lt_div_mul_add hp) (by rw [Nat.add_mul]; omega)
theorem PrD.grow {F : Nat} {x : Nat → Int} {m : Nat} (h : PrD F x m) {i : Nat} : ∀ j, i + j < m → x i + (j : Int) ≤ x (i + j)
  | 0, _ => by simp
  | j + 1, hj => by
    have h1 := h.grow (i := i) j (by omega)
    have h2 := (h (i + (j + 1)) hj).1
    have h3 : lowD x (i + (j + 1)) = x (i + j) + 1 := rfl
    rw [h3] at h2
    omega
theorem no_div {G F : Nat} {x : Nat → Int} {i q : Nat} (hi : i + (q + 1) = G) {c : Nat} (hx : x i = (c : Int)) (hc : (c : Int) < lowD x i ∨ F < c + (q + 1) ∨ (q = 0 ∧ c + 1 < F)) : ¬ DOk G F x := fun ⟨h1, h2⟩ => by
  rcases hc with hc | hc | ⟨rfl, hc⟩
  · have := (h1 i (by omega)).1
    omega
  · have := h1.grow (i := i) q (by omega)
    have h3 := (h1 (i + q) (by omega)).2
    omega
  · rw [← hi] at h2
    have : x i + 1 = (F : Int) := h2
    omega
theorem foldB_skip {g : Arr api_Car} {F : Nat} {i q P : Nat} (hi : i + (q + 1) = g.n) {a n : Nat} (h1 : P * F ^ (q + 1) ≤ a) (h2 : a + n ≤ (P + 1) * F ^ (q + 1)) (s : BS)
    (hno : ∀ c, (P * F + c) * F ^ q < a + n → a < (P * F + c + 1) * F ^ q → (c : Int) < lowD (dg F i P) i ∨ F < c + (q + 1) ∨ (q = 0 ∧ c + 1 < F)) : foldB (valD g F) F g.n a n s = s := by
  refine foldB_id _ _ _ fun n' n1 n2 => valD_bad ?_
  obtain ⟨c, c1, c2, c3, c4⟩ := blk_of (F := F) (i := i) (q := q) (P := P) (n := n') (by omega) (by omega)
  have hpre : ∀ k, k < i → dg F g.n n' k = dg F i P k := by
    have := dgL (F := F) (i := i) (q := q + 1) (P := P) (n := n') (by omega) (by omega)
    rw [hi] at this
    exact this
  have hdi : dg F g.n n' i = (c : Int) := by
    have := dgL (F := F) (i := i + 1) (q := q) (P := P * F + c) (n := n') c3 c4 i (by omega)
    rw [show i + 1 + q = g.n by omega] at this
    rw [this]
    unfold dg
    rw [(dig_snoc c1).2]
  refine no_div hi hdi ?_
  rw [lowD_congr hpre i (Nat.le_refl _)]
  exact hno c (by omega) (by omega)
theorem v2_t_eq {N : Nat} {R : Type} (rf : Bool → Arr Int → Int → Int → Arr api_Car → Int → Bool → Arr Int → (Bool → Int → Bool → Arr Int → Option R) → Option R) {x : Nat → Int} {i : Nat} (hi : i ≤ 100) {hs : Arr Int} (hh : hs.Is i x) {F : Nat} (hp : PrD F x i) (hF : F ≤ 6)
    (b : Bool) (C Fl : Int) (g : Arr api_Car) (most : Int) (nb : Bool) (best : Arr Int) (k : Bool → Int → Bool → Arr Int → Option R) :
    calls_divisions_1_1_v2_t N rf b hs C Fl g most nb best k = calls_divisions_1_1_v2_j0_m N rf (lowD x i - 1) b hs C Fl g most nb best k := by
  unfold calls_divisions_1_1_v2_t
  simp only [calls_divisions_1_1_v2_j0_def]
  rw [hh.1]
  cases i with
  | zero =>
    rw [decide_eq_false (show ¬ (((0 : Nat) : Int) > 0) by omega), cond_false]
    rfl
  | succ i =>
    have hw : w64 (((i + 1 : Nat) : Int) - 1) = (i : Int) := by rw [w64_eq (by omega) (by omega)]; omega
    rw [decide_eq_true (show (((i + 1 : Nat) : Int) > 0) by omega), cond_true, hw, nat_nonneg, ltT (show i < i + 1 by omega), Bool.and_self, cond_true, Int.toNat_natCast, hh.2 i (by omega)]
    rw [show lowD x (i + 1) - 1 = x i by show x i + 1 - 1 = x i; omega]
end
end Go.Proofs.Ytlphgonhenegoaa
set_option linter.unusedVariables false
set_option linter.unusedSimpArgs false
set_option maxHeartbeats 0
set_option maxRecDepth 100000
namespace Go.Proofs.Ytlphgonhenegoaa
open Go.Sx
section
theorem dv_push {a : Arr Int} {i : Nat} {F P c : Nat} (hc : c < F) (h : a.Is i (dg F i P)) {z : List SV} {v : Int} (hv : v = (c : Int)) :
    (lst intC (Arr.n a + (1 : Nat)) (catC (Arr.n a) (Cod.cell intC (Arr.f a)) (litC z [[SV.int IntKind.i64 v]]))).Is (i + 1) (dg F (i + 1) (P * F + c)) := by
  obtain ⟨d1, d2⟩ := dig_snoc (G := F) (i := i) (P := P) hc
  have h' : a.Is i (dg F (i + 1) (P * F + c)) := ⟨h.1, fun k hk => by rw [h.2 k hk]; unfold dg; rw [d1 k hk]⟩
  refine Arr.Is.push_int h' ?_
  rw [hv]
  unfold dg
  rw [d2]
theorem PrD.snoc {F i P c : Nat} (hc : c < F) (h : PrD F (dg F i P) i) (hl : lowD (dg F i P) i ≤ (c : Int)) : PrD F (dg F (i + 1) (P * F + c)) (i + 1) := by
  obtain ⟨d1, d2⟩ := dig_snoc (G := F) (i := i) (P := P) hc
  have e : ∀ k, k < i → dg F i P k = dg F (i + 1) (P * F + c) k := fun k hk => by unfold dg; rw [d1 k hk]
  have ed : dg F (i + 1) (P * F + c) i = (c : Int) := by unfold dg; rw [d2]
  intro k hk
  by_cases hki : k = i
  · subst hki
    rw [ed, ← lowD_congr e k (Nat.le_refl _)]
    exact ⟨hl, by omega⟩
  · exact (h.congr e) k (by omega)
theorem lowD_snoc {F i P c : Nat} (hc : c < F) : lowD (dg F (i + 1) (P * F + c)) (i + 1) = ((c + 1 : Nat) : Int) := by
  obtain ⟨d1, d2⟩ := dig_snoc (G := F) (i := i) (P := P) hc
  show dg F (i + 1) (P * F + c) i + 1 = _
  unfold dg
  rw [d2]
  omega
theorem dv_rec {N : Nat} (hN : 200 < N) {g : Arr api_Car} (hg : carsP g) (hgn : g.n ≤ 3) {F : Nat} (hF : F ≤ 6) : ∀ (q i d P : Nat) (b : Bool) (hs : Arr Int) (most : Int) (nb : Bool) (best : Arr Int) (s : BS), i + (q + 1) = g.n → q + 1 ≤ d → hs.Is i (dg F i P) → (b = true → i = 0) →
    PrD F (dg F i P) i → lowD (dg F i P) i + ((q + 1 : Nat) : Int) ≤ (F : Int) → DS s most nb best →
    ∃ most' nb' best', DS (foldB (valD g F) F g.n (P * F ^ (q + 1)) (F ^ (q + 1)) s) most' nb' best' ∧
      ∀ {R : Type} (k : Bool → Int → Bool → Arr Int → Option R), calls_divisions_1_1_v2_r N d b hs (g.n : Int) (F : Int) g most nb best k = k true most' nb' best' := by
  intro q
  induction q with
  | zero =>
    intro i d P b hs most nb best s h1 h2 h3 h4 h5 h6 h7
    obtain ⟨d, rfl⟩ : ∃ m, d = m + 1 := ⟨d - 1, by omega⟩
    have hl0 := lowD_nonneg h5 i (Nat.le_refl _)
    have hF1 : 1 ≤ F := by omega
    have hlast : F - 1 < F := by omega
    obtain ⟨b', a', ha, hcl⟩ := clone_any N (a := hs) (by rw [h3.1]; omega) (b := b) (fun e => by rw [h3.1]; exact h4 e)
    have ha' : a'.Is i (dg F i P) := ⟨by rw [ha.1, h3.1], fun k hk => by rw [ha.2 k (by rw [h3.1]; exact hk), h3.2 k hk]⟩
    have hw : w64 ((F : Int) - 1) = ((F - 1 : Nat) : Int) := by rw [w64_eq (by omega) (by omega)]; omega
    have hpush := dv_push (F := F) hlast ha' (z := [SV.int IntKind.i64 (0 : Int)]) hw
    have hpr := PrD.snoc hlast h5 (show lowD (dg F i P) i ≤ ((F - 1 : Nat) : Int) by omega)
    have hlow := lowD_snoc (F := F) (i := i) (P := P) hlast
    rw [show i + 1 = g.n by omega] at hpush hpr hlow
    have hok : DOk g.n F (dg F g.n (P * F + (F - 1))) := ⟨hpr, by rw [hlow]; omega⟩
    obtain ⟨most', nb', best', r1, r2⟩ := round_step hN hg (by omega) hF hok hpush h7
    refine ⟨most', nb', best', ?_, fun {R} k => ?_⟩
    · have e : foldB (valD g F) F g.n (P * F ^ (0 + 1)) (F ^ (0 + 1)) s = stepB (valD g F) g.n (dg F g.n (P * F + (F - 1))) s := by
        rw [Nat.zero_add, Nat.pow_one]
        have hs' : foldB (valD g F) F g.n (P * F) (F - 1) s = s := foldB_skip (i := i) (q := 0) (P := P) (by omega) (by rw [Nat.zero_add, Nat.pow_one]; omega) (by rw [Nat.zero_add, Nat.pow_one, Nat.succ_mul]; omega) s fun c c1 c2 => by
          rw [Nat.pow_zero] at c1 c2
          exact .inr (.inr ⟨rfl, by omega⟩)
        have hsp := foldB_add (valD g F) F g.n (F - 1) 1 (P * F) s
        rw [show F - 1 + 1 = F by omega, hs'] at hsp
        rw [hsp]
        rfl
      rw [e]
      exact r1
    · show calls_divisions_1_1_v2_t N (calls_divisions_1_1_v2_r N d) b hs (g.n : Int) (F : Int) g most nb best k = _
      rw [v2_t_eq _ (by omega) h3 h5 hF]
      unfold calls_divisions_1_1_v2_j0_m
      have hl : (w64 ((g.n : Int) - (hs.n : Int)) == (1 : Int)) = true := by rw [h3.1, w64_eq (by omega) (by omega), beq_iff_eq]; omega
      rw [hl, cond_true, hcl, room_of (by rw [ha'.1]; omega), cond_true]
      exact r2 _
  | succ q ih =>
    intro i d P b hs most nb best s h1 h2 h3 h4 h5 h6 h7
    obtain ⟨d, rfl⟩ : ∃ m, d = m + 1 := ⟨d - 1, by omega⟩
    have hl0 := lowD_nonneg h5 i (Nat.le_refl _)
    obtain ⟨lo, hlo⟩ : ∃ lo : Nat, lowD (dg F i P) i = (lo : Int) := ⟨(lowD (dg F i P) i).toNat, by omega⟩
    rw [hlo] at h6
    obtain ⟨b', a', ha, hcl⟩ := clone_any N (a := hs) (by rw [h3.1]; omega) (b := b) (fun e => by rw [h3.1]; exact h4 e)
    have ha' : a'.Is i (dg F i P) := ⟨by rw [ha.1, h3.1], fun k hk => by rw [ha.2 k (by rw [h3.1]; exact hk), h3.2 k hk]⟩
    have loop : ∀ (r c n : Nat) (most : Int) (nb : Bool) (best : Arr Int) (s : BS), c + r = F - (q + 1) → r < n → lo ≤ c → DS s most nb best →
        ∃ most' nb' best', DS (foldB (valD g F) F g.n ((P * F + c) * F ^ (q + 1)) (r * F ^ (q + 1)) s) most' nb' best' ∧
          ∀ {R : Type} (kr : Bool → Int → Bool → Arr Int → Option R) (k0 : Int → Bool → Arr Int → Option R), calls_divisions_1_1_v2_l8 N (calls_divisions_1_1_v2_r N d) n ((q + 2 : Nat) : Int) (c : Int) b hs (g.n : Int) (F : Int) g most nb best kr k0 = k0 most' nb' best' := by
      intro r
      induction r with
      | zero =>
        intro c n most nb best s a1 a2 a3 a4
        obtain ⟨n, rfl⟩ : ∃ m, n = m + 1 := ⟨n - 1, by omega⟩
        rw [Nat.zero_mul]
        refine ⟨most, nb, best, a4, fun {R} kr k0 => ?_⟩
        unfold calls_divisions_1_1_v2_l8 calls_divisions_1_1_v2_b8
        have hw : w64 (w64 ((F : Int) - ((q + 2 : Nat) : Int)) + 1) = (F : Int) - ((q + 1 : Nat) : Int) := by
          rw [w64_eq (n := (F : Int) - ((q + 2 : Nat) : Int)) (by omega) (by omega), w64_eq (by omega) (by omega)]; omega
        rw [hw, decide_eq_false (show ¬ ((c : Int) < (F : Int) - ((q + 1 : Nat) : Int)) by omega), cond_false]
      | succ r ihr =>
        intro c n most nb best s a1 a2 a3 a4
        obtain ⟨n, rfl⟩ : ∃ m, n = m + 1 := ⟨n - 1, by omega⟩
        have hc : c < F := by omega
        have hw : w64 (w64 ((F : Int) - ((q + 2 : Nat) : Int)) + 1) = (F : Int) - ((q + 1 : Nat) : Int) := by
          rw [w64_eq (n := (F : Int) - ((q + 2 : Nat) : Int)) (by omega) (by omega), w64_eq (by omega) (by omega)]; omega
        have hpush := dv_push (F := F) hc ha' (z := [SV.int IntKind.i64 (0 : Int)]) (v := (c : Int)) rfl
        have hpr := PrD.snoc hc h5 (show lowD (dg F i P) i ≤ (c : Int) by omega)
        have hlow := lowD_snoc (F := F) (i := i) (P := P) hc
        obtain ⟨m1, n1, b1, r1, r2⟩ := ih (i + 1) d (P * F + c) false _ most nb best s (by omega) (by omega) hpush (fun h => by cases h) hpr (by rw [hlow]; omega) a4
        obtain ⟨m2, n2, b2, t1, t2⟩ := ihr (c + 1) n m1 n1 b1 _ (by omega) (by omega) (by omega) r1
        have hsplit : foldB (valD g F) F g.n ((P * F + c) * F ^ (q + 1)) ((r + 1) * F ^ (q + 1)) s = foldB (valD g F) F g.n ((P * F + (c + 1)) * F ^ (q + 1)) (r * F ^ (q + 1)) (foldB (valD g F) F g.n ((P * F + c) * F ^ (q + 1)) (F ^ (q + 1)) s) := by
          rw [show (r + 1) * F ^ (q + 1) = F ^ (q + 1) + r * F ^ (q + 1) by rw [Nat.succ_mul, Nat.add_comm], foldB_add, show (P * F + (c + 1)) * F ^ (q + 1) = (P * F + c) * F ^ (q + 1) + F ^ (q + 1) by rw [← Nat.add_assoc, Nat.succ_mul]]
        rw [hsplit]
        refine ⟨m2, n2, b2, t1, fun {R} kr k0 => ?_⟩
        unfold calls_divisions_1_1_v2_l8 calls_divisions_1_1_v2_b8
        rw [hw, decide_eq_true (show ((c : Int) < (F : Int) - ((q + 1 : Nat) : Int)) by omega), cond_true, hcl, room_of (by rw [ha'.1]; omega), cond_true, r2, Bool.not_true, cond_false, w64_succ (show c < 1000000000000 by omega)]
        exact t2 kr k0
    obtain ⟨m', n', b2', t1, t2⟩ := loop (F - (q + 1) - lo) lo N most nb best s (by omega) (by omega) (Nat.le_refl _) h7
    refine ⟨m', n', b2', ?_, fun {R} k => ?_⟩
    · have e0 : P * F ^ (q + 1 + 1) = P * F * F ^ (q + 1) := by rw [Nat.pow_succ F (q + 1), Nat.mul_comm (F ^ (q + 1)), Nat.mul_assoc]
      have e1 : (P + 1) * F ^ (q + 1 + 1) = (P * F + F) * F ^ (q + 1) := by rw [Nat.pow_succ F (q + 1), Nat.mul_comm (F ^ (q + 1)), ← Nat.mul_assoc, Nat.add_mul, Nat.one_mul]
      have k1 : foldB (valD g F) F g.n (P * F ^ (q + 1 + 1)) (lo * F ^ (q + 1)) s = s := foldB_skip (i := i) (q := q + 1) (P := P) (by omega) (Nat.le_refl _) (by rw [e0, e1, ← Nat.add_mul]; exact Nat.mul_le_mul_right _ (by omega)) s fun c c1 c2 => by
        left
        rw [e0, ← Nat.add_mul] at c1
        have := Nat.lt_of_mul_lt_mul_right c1
        rw [hlo]
        omega
      have k2 : ∀ s, foldB (valD g F) F g.n ((P * F + (F - (q + 1))) * F ^ (q + 1)) ((q + 1) * F ^ (q + 1)) s = s := fun s => foldB_skip (i := i) (q := q + 1) (P := P) (by omega) (by rw [e0]; exact Nat.mul_le_mul_right _ (by omega)) (by rw [e1, ← Nat.add_mul]; exact Nat.mul_le_mul_right _ (by omega)) s fun c c1 c2 => by
        have := Nat.lt_of_mul_lt_mul_right c2
        exact .inr (.inl (by omega))
      have hsum : F ^ (q + 1 + 1) = lo * F ^ (q + 1) + ((F - (q + 1) - lo) * F ^ (q + 1) + (q + 1) * F ^ (q + 1)) := by
        rw [← Nat.add_mul, ← Nat.add_mul, Nat.pow_succ F (q + 1), Nat.mul_comm]
        congr 1
        omega
      have e2 : P * F ^ (q + 1 + 1) + lo * F ^ (q + 1) = (P * F + lo) * F ^ (q + 1) := by rw [e0, ← Nat.add_mul]
      have e3 : (P * F + lo) * F ^ (q + 1) + (F - (q + 1) - lo) * F ^ (q + 1) = (P * F + (F - (q + 1))) * F ^ (q + 1) := by rw [← Nat.add_mul]; congr 1; omega
      have hall : foldB (valD g F) F g.n (P * F ^ (q + 1 + 1)) (F ^ (q + 1 + 1)) s = foldB (valD g F) F g.n ((P * F + lo) * F ^ (q + 1)) ((F - (q + 1) - lo) * F ^ (q + 1)) s := by
        refine (congrArg (fun n => foldB (valD g F) F g.n (P * F ^ (q + 1 + 1)) n s) hsum).trans ?_
        show foldB (valD g F) F g.n (P * F ^ (q + 1 + 1)) (lo * F ^ (q + 1) + ((F - (q + 1) - lo) * F ^ (q + 1) + (q + 1) * F ^ (q + 1))) s = _
        rw [foldB_add, k1, e2, foldB_add, e3, k2]
      rw [hall]
      exact t1
    · show calls_divisions_1_1_v2_t N (calls_divisions_1_1_v2_r N d) b hs (g.n : Int) (F : Int) g most nb best k = _
      rw [v2_t_eq _ (by omega) h3 h5 hF]
      unfold calls_divisions_1_1_v2_j0_m
      have hleft : w64 ((g.n : Int) - (hs.n : Int)) = ((q + 2 : Nat) : Int) := by rw [h3.1, w64_eq (by omega) (by omega)]; omega
      have hne : (((q + 2 : Nat) : Int) == (1 : Int)) = false := by rw [beq_eq_false_iff_ne]; omega
      have hlw : w64 (lowD (dg F i P) i - 1 + 1) = (lo : Int) := by rw [show lowD (dg F i P) i - 1 + 1 = (lo : Int) by omega]; exact w64_eq (by omega) (by omega)
      rw [hleft, hne, cond_false, hlw]
      exact t2 _ _
theorem l8_same (N : Nat) {R : Type} : ∀ (n : Nat) (left high : Int) (b : Bool) (hs : Arr Int) (C Fl : Int) (g : Arr api_Car) (most : Int) (nb : Bool) (best : Arr Int) (kr : Bool → Int → Bool → Arr Int → Option R) (k0 : Int → Bool → Arr Int → Option R),
    calls_divisions_1_1_l8 N n left high C Fl g most b hs nb best kr k0 = calls_divisions_1_1_v2_l8 N (calls_divisions_1_1_v2 N) n left high b hs C Fl g most nb best kr k0 := by
  intro n
  induction n with
  | zero => intros; rfl
  | succ n ih =>
    intro left high b hs C Fl g most nb best kr k0
    unfold calls_divisions_1_1_l8 calls_divisions_1_1_v2_l8 calls_divisions_1_1_b8 calls_divisions_1_1_v2_b8
    simp only [ih]
theorem v2_is (N : Nat) {R : Type} : (calls_divisions_1_1_v2 N : Bool → Arr Int → Int → Int → Arr api_Car → Int → Bool → Arr Int → (Bool → Int → Bool → Arr Int → Option R) → Option R) = calls_divisions_1_1_v2_r N N := by
  funext a b c d e f g h k
  rw [calls_divisions_1_1_v2_def]
  rfl
theorem v1_is (N : Nat) (C Fl : Int) (g : Arr api_Car) (most : Int) (nb : Bool) (best : Arr Int) {R : Type} (k : Bool → Int → Bool → Arr Int → Option R) :
    calls_divisions_1_1 N C Fl g most nb best k = calls_divisions_1_1_v2_r N (N + 1) true (lst intC (0 : Nat) fun (x x_1 : Nat) ↦ SV.undef) C Fl g most nb best k := by
  rw [calls_divisions_1_1_def]
  unfold calls_divisions_1_1_m
  rw [calls_divisions_1_1_j0_def]
  unfold calls_divisions_1_1_j0_m
  show _ = calls_divisions_1_1_v2_t N (calls_divisions_1_1_v2_r N N) true (lst intC (0 : Nat) fun (x x_1 : Nat) ↦ SV.undef) C Fl g most nb best k
  unfold calls_divisions_1_1_v2_t
  rw [decide_eq_false (show ¬ ((((lst intC (0 : Nat) fun (x x_1 : Nat) ↦ SV.undef).n : Nat) : Int) > 0) from fun h => absurd h (by decide)), cond_false, calls_divisions_1_1_v2_j0_def]
  unfold calls_divisions_1_1_v2_j0_m
  simp only [l8_same, v2_is]
end
end Go.Proofs.Ytlphgonhenegoaa
set_option linter.unusedVariables false
set_option linter.unusedSimpArgs false
set_option maxHeartbeats 0
set_option maxRecDepth 100000
namespace Go.Proofs.Ytlphgonhenegoaa
open Go.Sx
section
def bestD (g : Arr api_Car) (F : Nat) : BS := foldB (valD g F) F g.n 0 (F ^ g.n) ⟨-1, 0, fun _ => 0⟩
theorem some_div : ∀ G : Nat, G < 4 → ∀ F : Nat, F < 7 → 1 ≤ G → G ≤ F → (G - 2) * F + (F - 1) < F ^ G ∧ DOk G F (dg F G ((G - 2) * F + (F - 1))) := by decide +kernel
theorem bestD_ok {g : Arr api_Car} {F : Nat} (h1 : 1 ≤ g.n) (h3 : g.n ≤ 3) (hF : g.n ≤ F) (h6 : F ≤ 6) : BOk (valD g F) F g.n 0 (F ^ g.n) (bestD g F) ∧ 0 ≤ (bestD g F).m := by
  have hb := BOk.fold (val := valD g F) (G := F) (L := g.n) (F ^ g.n) 0 0 ⟨-1, 0, fun _ => 0⟩ (Nat.le_refl _) ⟨fun n h1 h2 => by omega, .inl ⟨rfl, rfl⟩⟩
  rw [Nat.zero_add] at hb
  refine ⟨hb, ?_⟩
  obtain ⟨d1, d2⟩ := some_div g.n (by omega) F (by omega) h1 hF
  have := hb.le _ (Nat.zero_le _) d1 (by rw [valD_good d2]; omega)
  exact this.1
theorem bestD_is {g : Arr api_Car} {F : Nat} (h1 : 1 ≤ g.n) (h3 : g.n ≤ 3) (hF : g.n ≤ F) (h6 : F ≤ 6) : (bestD g F).n = g.n ∧ DOk g.n F (bestD g F).x ∧ (bestD g F).m = (gD g (bestD g F).x : Int) := by
  obtain ⟨hb, h0⟩ := bestD_ok h1 h3 hF h6
  rcases hb.ex with ⟨e, _⟩ | ⟨e1, e2, n, _, _, e3, e4⟩
  · omega
  · have hd : DOk g.n F (dg F g.n n) := by
      by_cases h : DOk g.n F (dg F g.n n)
      · exact h
      · have := valD_bad (g := g) h
        omega
    rw [e4]
    exact ⟨e1, hd, by rw [e3, valD_good hd]⟩
def l0 : Arr api_Press := lst api_PressC (0 : Nat) (zeroC [SV.int IntKind.i64 (0 : Int), SV.int IntKind.i64 (0 : Int)])
theorem errG_l0 {g : Arr api_Car} (h : errG g l0 = 0) : (1 ≤ g.n ∧ g.n ≤ 3) ∧ carsP g := ⟨(errG_zero h).1, (errG_zero h).2.1⟩
theorem divide_eq {N : Nat} (hN : 1000 < N) {g : Arr api_Car} (hgn : g.n ≤ 100) (he : errG g l0 = 0) {F : Nat} (hF : g.n ≤ F) (h6 : F ≤ 6) :
    ∃ best, best.Is (bestD g F).n (bestD g F).x ∧ ∀ {R : Type} (k : Int → Int → Bool → Arr Int → Option R), calls_Divide N g (F : Int) k = k (bestD g F).m 0 false best := by
  obtain ⟨⟨h1, h3⟩, hc⟩ := errG_l0 he
  obtain ⟨hb, h0⟩ := bestD_ok h1 h3 hF h6
  obtain ⟨q, hq⟩ : ∃ q, g.n = q + 1 := ⟨g.n - 1, by omega⟩
  obtain ⟨m', nb', best', r1, r2⟩ := dv_rec (by omega : 200 < N) hc h3 h6 q 0 (N + 1) 0 true (lst intC (0 : Nat) fun (x x_1 : Nat) ↦ SV.undef) 0 true (lst intC (0 : Nat) (zeroC [SV.int IntKind.i64 (0 : Int)])) ⟨-1, 0, fun _ => 0⟩ (by omega) (by omega) (zero_is _) (fun _ => rfl) (fun i hi => by omega) (by show (0 : Int) + _ ≤ _; omega) (.inl ⟨by decide, rfl, rfl, rfl⟩)
  rw [Nat.zero_mul, ← hq] at r1
  have r1 : DS (bestD g F) m' nb' best' := r1
  rcases r1 with ⟨e, _⟩ | ⟨_, e2, e3, e4⟩
  · omega
  subst e2 e3
  refine ⟨best', e4, fun {R} k => ?_⟩
  rw [calls_Divide_def]
  unfold calls_Divide_m
  rw [group_eq hN hgn (Nat.zero_le _)]
  show (bif (errG g l0 != (0 : Int)) then _ else _) = _
  rw [he, show ((0 : Int) != 0) = false from rfl, cond_false, in_eq, decide_eq_true (show ((g.n : Int) ≤ (F : Int) ∧ (F : Int) ≤ 6) by omega), Bool.not_true, cond_false, calls_divisions_def]
  unfold calls_divisions_m
  show calls_divisions_1 N g 0 (g.n : Int) (F : Int) true _ _ = _
  rw [calls_divisions_1_def]
  unfold calls_divisions_1_m
  rw [v1_is, r2]
theorem cars_l6 (N : Nat) {g : Arr api_Car} (hg : carsP g) (hgn : g.n ≤ 100) {F : Nat} (hF : F ≤ 6) {x : Nat → Int} {hs : Arr Int} (hx : hs.Is g.n x) : ∀ (q i n : Nat) (b : Bool) (arr : Arr api_Car), i + q = g.n → q < n → PrD F x i → arr.Is i (fun j => (carD g x j).car) →
    (PrD F x g.n → ∃ b' arr', arr'.Is g.n (fun j => (carD g x j).car) ∧ ∀ {R : Type} (kr : Bool → Bool → Arr api_Car → Option R) (k0 : Int → Bool → Arr api_Car → Option R), newelref07_Cars_l6 N n g (F : Int) hs (lowD x i) (i : Int) b arr kr k0 = k0 (lowD x g.n) b' arr') ∧
    (¬ PrD F x g.n → ∃ b' arr', ∀ {R : Type} (kr : Bool → Bool → Arr api_Car → Option R) (k0 : Int → Bool → Arr api_Car → Option R), newelref07_Cars_l6 N n g (F : Int) hs (lowD x i) (i : Int) b arr kr k0 = kr false b' arr') := by
  intro q
  induction q with
  | zero =>
    intro i n b arr h1 h2 h3 h4
    obtain ⟨n, rfl⟩ : ∃ m, n = m + 1 := ⟨n - 1, by omega⟩
    have hi : i = g.n := by omega
    subst hi
    refine ⟨fun _ => ⟨b, arr, h4, fun {R} kr k0 => ?_⟩, fun h => absurd h3 h⟩
    unfold newelref07_Cars_l6 newelref07_Cars_b6
    rw [ltF (Nat.le_refl _), cond_false]
  | succ q ih =>
    intro i n b arr h1 h2 h3 h4
    obtain ⟨n, rfl⟩ : ∃ m, n = m + 1 := ⟨n - 1, by omega⟩
    have hi : i < g.n := by omega
    have e0 : decide ((i : Int) < (g.n : Int)) = true := ltT hi
    have e1 : decide ((i : Int) < (hs.n : Int)) = true := by rw [hx.1]; exact e0
    have ex : hs.f i = x i := hx.2 i hi
    by_cases c1 : x i < lowD x i
    · refine ⟨fun h => absurd (h i hi).1 (by omega), fun _ => ⟨true, (lst api_CarC (0 : Nat) (zeroC [SV.int IntKind.i64 (0 : Int), SV.int IntKind.i64 (0 : Int), SV.int IntKind.i64 (0 : Int), SV.int IntKind.i64 (0 : Int), SV.int IntKind.i64 (0 : Int)])), fun {R} kr k0 => ?_⟩⟩
      · unfold newelref07_Cars_l6 newelref07_Cars_b6
        rw [e0, cond_true, nat_nonneg, e1, Bool.and_self, cond_true, Int.toNat_natCast, ex, decide_eq_true c1, cond_true]
    by_cases c2 : x i ≥ (F : Int)
    · refine ⟨fun h => absurd (h i hi).2 (by omega), fun _ => ⟨true, (lst api_CarC (0 : Nat) (zeroC [SV.int IntKind.i64 (0 : Int), SV.int IntKind.i64 (0 : Int), SV.int IntKind.i64 (0 : Int), SV.int IntKind.i64 (0 : Int), SV.int IntKind.i64 (0 : Int)])), fun {R} kr k0 => ?_⟩⟩
      · unfold newelref07_Cars_l6 newelref07_Cars_b6
        rw [e0, cond_true, nat_nonneg, e1, Bool.and_self, cond_true, Int.toNat_natCast, ex, decide_eq_false c1, cond_false, cond_true, decide_eq_true c2, cond_true]
    have h3' : PrD F x (i + 1) := fun k hk => by
      by_cases e : k = i
      · subst e; exact ⟨by omega, by omega⟩
      · exact h3 k (by omega)
    obtain ⟨d1, d2, d3, d4, d5⟩ := carD_fact hg hF h3' (Nat.lt_succ_self i) hi
    have hl0 := lowD_nonneg h3' i (by omega)
    have hpush : (lst api_CarC (Arr.n arr + (1 : Nat)) (catC (Arr.n arr) (Cod.cell api_CarC (Arr.f arr)) (litC [SV.int IntKind.i64 (0 : Int), SV.int IntKind.i64 (0 : Int), SV.int IntKind.i64 (0 : Int), SV.int IntKind.i64 (0 : Int), SV.int IntKind.i64 (0 : Int)] [[SV.int IntKind.i64 (lowD x i), SV.int IntKind.i64 (x i), SV.int IntKind.i64 (lowD x i), SV.int IntKind.i64 (api_Car.Move (Arr.f g i)), SV.int IntKind.i64 (api_Car.Stop (Arr.f g i))]]))).Is (i + 1) (fun j => (carD g x j).car) := by
      refine Arr.Is.push (C := api_CarC) (fun _ => rfl) h4 ?_
      show (⟨lowD x i, x i, lowD x i, (g.f i).Move, (g.f i).Stop⟩ : api_Car) = (carD g x i).car
      rw [← d1, ← d2, ← d3, ← d4]
      rfl
    obtain ⟨n1, n2⟩ := ih (i + 1) n false _ (by omega) (by omega) h3' hpush
    have hw : w64 (x i + 1) = lowD x (i + 1) := w64_eq (by omega) (by omega)
    have step : ∀ {R : Type} (kr : Bool → Bool → Arr api_Car → Option R) (k0 : Int → Bool → Arr api_Car → Option R), newelref07_Cars_l6 N (n + 1) g (F : Int) hs (lowD x i) (i : Int) b arr kr k0 =
        newelref07_Cars_l6 N n g (F : Int) hs (lowD x (i + 1)) ((i + 1 : Nat) : Int) false (lst api_CarC (Arr.n arr + (1 : Nat)) (catC (Arr.n arr) (Cod.cell api_CarC (Arr.f arr)) (litC [SV.int IntKind.i64 (0 : Int), SV.int IntKind.i64 (0 : Int), SV.int IntKind.i64 (0 : Int), SV.int IntKind.i64 (0 : Int), SV.int IntKind.i64 (0 : Int)] [[SV.int IntKind.i64 (lowD x i), SV.int IntKind.i64 (x i), SV.int IntKind.i64 (lowD x i), SV.int IntKind.i64 (api_Car.Move (Arr.f g i)), SV.int IntKind.i64 (api_Car.Stop (Arr.f g i))]]))) kr k0 := fun {R} kr k0 => by
      conv => lhs; unfold newelref07_Cars_l6 newelref07_Cars_b6
      rw [e0, cond_true, nat_nonneg, e1, Bool.and_self, cond_true, Int.toNat_natCast, ex, decide_eq_false c1, cond_false, cond_true, decide_eq_false c2, cond_false, cond_true, cond_true, room_of (by rw [h4.1]; omega), cond_true, cond_true, hw, w64_succ (show i < 1000000000000 by omega)]
    refine ⟨fun h => ?_, fun h => ?_⟩
    · obtain ⟨b', arr', t1, t2⟩ := n1 h
      exact ⟨b', arr', t1, fun {R} kr k0 => by rw [step]; exact t2 kr k0⟩
    · obtain ⟨b', arr', t2⟩ := n2 h
      exact ⟨b', arr', fun {R} kr k0 => by rw [step]; exact t2 kr k0⟩
theorem cars_good {N : Nat} (hN : 200 < N) {g : Arr api_Car} (hg : carsP g) (hgn : g.n ≤ 100) {F : Nat} (hF : F ≤ 6) {x : Nat → Int} {hs : Arr Int} (hx : hs.Is g.n x) (hd : DOk g.n F x) :
    ∃ b' arr', arr'.Is g.n (fun j => (carD g x j).car) ∧ ∀ {R : Type} (k : Bool → Bool → Arr api_Car → Option R), newelref07_Cars N g (F : Int) hs k = k true b' arr' := by
  obtain ⟨b', arr', t1, t2⟩ := (cars_l6 N hg hgn hF hx g.n 0 N true (lst api_CarC (0 : Nat) (zeroC [SV.int IntKind.i64 (0 : Int), SV.int IntKind.i64 (0 : Int), SV.int IntKind.i64 (0 : Int), SV.int IntKind.i64 (0 : Int), SV.int IntKind.i64 (0 : Int)])) (by omega) (by omega) (fun i hi => by omega) ⟨rfl, fun i hi => by omega⟩).1 hd.1
  refine ⟨b', arr', t1, fun {R} k => ?_⟩
  rw [newelref07_Cars_def]
  unfold newelref07_Cars_m
  rw [hx.1, bne_self_eq_false, cond_false]
  refine (t2 (fun r1 r2 r3 => k r1 r2 r3) (fun r5 r6 r7 => k (r5 == (F : Int)) r6 r7)).trans ?_
  show k (lowD x g.n == (F : Int)) b' arr' = _
  rw [hd.2, BEq.rfl]
end
end Go.Proofs.Ytlphgonhenegoaa
set_option linter.unusedVariables false
set_option linter.unusedSimpArgs false
set_option maxHeartbeats 0
set_option maxRecDepth 100000
namespace Go.Proofs.Ytlphgonhenegoaa
open Go.Sx
section
theorem longP_good {N : Nat} (hN : 2000 < N) {g : Arr api_Car} (hgn : g.n ≤ 100) {l : Arr api_Press} (hl : l.n ≤ 1000) (he : errG g l = 0) {sh : Arr Int} (hs : Shr g l sh) :
    ∃ m, Lng g l sh g.n m ∧ ∀ {R : Type} (k : Int → Int → Option R), calls_Longest N g l sh k = k m 0 := by
  obtain ⟨h1, h2, h3, h4⟩ := errG_zero he
  have z0 : ((0 : Int) != 0) = false := rfl
  obtain ⟨m, m1, _⟩ := longest_eq hN hgn hs h2 h3 (fun _ => (none : Option Unit))
  refine ⟨m, m1, fun {R} k => ?_⟩
  obtain ⟨m', g1, g2⟩ := longest_eq hN hgn hs h2 h3 (fun r607 => k r607 (0 : Int))
  rw [calls_Longest_def]
  unfold calls_Longest_m
  rw [group_eq (by omega) hgn hl, he, z0, cond_false, hs.n, bne_self_eq_false, cond_false]
  refine ((longest_l7 N hgn hl hs.n (fun r529 r530 => k r529 r530) _ l.n 0 N (by omega) (by omega) (fun j hj => by omega)).1 hs).trans ?_
  exact g2.trans (by rw [g1.unique m1])
theorem longP_bad {N : Nat} (hN : 2000 < N) {g : Arr api_Car} (hgn : g.n ≤ 100) {l : Arr api_Press} (hl : l.n ≤ 1000) (he : errG g l = 0) {sh : Arr Int} (hs : ¬ Shr g l sh) {R : Type} (k : Int → Int → Option R) : calls_Longest N g l sh k = k 0 1 := by
  have z0 : ((0 : Int) != 0) = false := rfl
  rw [calls_Longest_def]
  unfold calls_Longest_m
  rw [group_eq (by omega) hgn hl, he, z0, cond_false]
  by_cases hn : sh.n = l.n
  · rw [hn, bne_self_eq_false, cond_false]
    exact (longest_l7 N hgn hl hn (fun r529 r530 => k r529 r530) _ l.n 0 N (by omega) (by omega) (fun j hj => by omega)).2 hs
  · have : ((sh.n : Int) != (l.n : Int)) = true := by simp only [bne_iff_ne, ne_eq]; omega
    rw [this, cond_true]
theorem dig_all {G : Nat} (f : Nat → Nat) : ∀ L : Nat, (∀ k, k < L → f k < G) → ∃ n, n < G ^ L ∧ ∀ k, k < L → dig G L n k = f k
  | 0, _ => ⟨0, by simp, fun k hk => by omega⟩
  | L + 1, h => by
    obtain ⟨P, h1, h2⟩ := dig_all f L fun k hk => h k (by omega)
    have hc := h L (by omega)
    obtain ⟨d1, d2⟩ := dig_snoc (G := G) (i := L) (P := P) hc
    refine ⟨P * G + f L, ?_, fun k hk => ?_⟩
    · have : (P + 1) * G ≤ G ^ L * G := Nat.mul_le_mul_right _ h1
      rw [Nat.pow_succ]
      rw [Nat.add_mul] at this
      omega
    · by_cases e : k = L
      · subst e; exact d2
      · rw [d1 k (by omega)]; exact h2 k (by omega)
theorem bestS_ok {g : Arr api_Car} {l : Arr api_Press} : BOk (valS g l) g.n l.n 0 (g.n ^ l.n) (bestS g l) := by
  have hb := BOk.fold (val := valS g l) (G := g.n) (L := l.n) (g.n ^ l.n) 0 0 ⟨-1, 0, fun _ => 0⟩ (Nat.le_refl _) ⟨fun n h1 h2 => by omega, .inl ⟨rfl, rfl⟩⟩
  rw [Nat.zero_add] at hb
  exact hb
theorem bestS_le {g : Arr api_Car} {l : Arr api_Press} {sh : Arr Int} {m : Int} (hs : Shr g l sh) (hm : Lng g l sh g.n m) : 0 ≤ (bestS g l).m ∧ (bestS g l).m ≤ m := by
  obtain ⟨n, n1, n2⟩ := dig_all (G := g.n) (fun k => (sh.f k).toNat) l.n fun k hk => by have := hs.i k hk; omega
  have hx : ∀ k, k < l.n → sh.f k = dg g.n l.n n k := fun k hk => by
    unfold dg
    rw [n2 k hk]
    have := hs.i k hk
    omega
  have hv : valS g l (dg g.n l.n n) = m := valS_good hs hm hx
  have := bestS_ok.le n (Nat.zero_le _) n1 (by rw [hv]; exact hm.z)
  rw [hv] at this
  exact this
theorem some_share {g : Arr api_Car} {l : Arr api_Press} (h : allOn g l) : ∃ sh, Shr g l sh := by
  classical
  refine ⟨⟨l.n, fun k => if h' : k < l.n then (((h k h').choose : Nat) : Int) else 0⟩, ⟨rfl, fun k hk => ?_, fun k hk => ?_⟩⟩
  · simp only [hk, dif_pos]
    have := (h k hk).choose_spec.1
    omega
  · simp only [hk, dif_pos]
    have := (h k hk).choose_spec.2
    rw [Int.toNat_natCast]
    exact this
theorem best_good {N : Nat} (hN : 2000 < N) {g : Arr api_Car} (hgn : g.n ≤ 100) {l : Arr api_Press} (he : errG g l = 0) {best : Arr Int} (hb : best.Is (bestS g l).n (bestS g l).x) : Shr g l best ∧ Lng g l best g.n (bestS g l).m := by
  obtain ⟨h1, h2, h3, h4⟩ := errG_zero he
  obtain ⟨sh, hs⟩ := some_share h4
  obtain ⟨m, m1, _⟩ := longest_eq hN hgn hs h2 h3 (fun _ => (none : Option Unit))
  obtain ⟨a1, a2⟩ := bestS_le hs m1
  rcases bestS_ok.ex with ⟨e, _⟩ | ⟨e1, e2, n, e3, e4, e5, e6⟩
  · exact absurd a1 (by rw [e]; decide)
  · have hv : 0 ≤ valS g l (dg g.n l.n n) := by rw [← e5]; exact e2
    obtain ⟨v1, v2⟩ := valS_nonneg hv
    have hn : best.n = l.n := by rw [hb.1, e1]
    have hx : ∀ k, k < l.n → (⟨l.n, dg g.n l.n n⟩ : Arr Int).f k = best.f k := fun k hk => by
      rw [hb.2 k (by rw [e1]; exact hk), e6]
    rw [e5]
    exact ⟨v1.congr hn hx, v2.congr hx⟩
theorem mxF_le {c : Cn} : ∀ (n f a : Nat), a ≤ mxF c f n a ∧ ∀ f', f ≤ f' → f' < f + n → worstN c f' ≤ mxF c f n a
  | 0, f, a => ⟨Nat.le_refl _, fun f' h1 h2 => by omega⟩
  | n + 1, f, a => by
    obtain ⟨h1, h2⟩ := mxF_le (c := c) n (f + 1) (max a (worstN c f))
    have e : mxF c f (n + 1) a = mxF c (f + 1) n (max a (worstN c f)) := rfl
    rw [e]
    refine ⟨by omega, fun f' a1 a2 => ?_⟩
    by_cases e : f' = f
    · subst e; omega
    · exact h2 f' (by omega) (by omega)
theorem mxD_le {g : Arr api_Car} {x : Nat → Int} : ∀ (q i a : Nat), a ≤ mxD g x i q a ∧ ∀ j, i ≤ j → j < i + q → ∀ f, (carD g x j).L ≤ f → f ≤ (carD g x j).H → worstN (carD g x j) f ≤ mxD g x i q a
  | 0, i, a => ⟨Nat.le_refl _, fun j h1 h2 => by omega⟩
  | q + 1, i, a => by
    obtain ⟨h1, h2⟩ := mxD_le (g := g) (x := x) q (i + 1) (mxF (carD g x i) (carD g x i).L ((carD g x i).H + 1 - (carD g x i).L) a)
    obtain ⟨k1, k2⟩ := mxF_le (c := carD g x i) ((carD g x i).H + 1 - (carD g x i).L) (carD g x i).L a
    have e : mxD g x i (q + 1) a = mxD g x (i + 1) q (mxF (carD g x i) (carD g x i).L ((carD g x i).H + 1 - (carD g x i).L) a) := rfl
    rw [e]
    refine ⟨by omega, fun j a1 a2 f b1 b2 => ?_⟩
    by_cases e : j = i
    · subst e; exact Nat.le_trans (k2 f b1 (by omega)) h1
    · exact h2 j (by omega) (by omega) f b1 b2
def inC (c : Cn) (l : Arr api_Press) : Nat → Bool := fun k => decide ((c.L : Int) ≤ (l.f k).Floor ∧ (l.f k).Floor ≤ (c.H : Int))
theorem inC_vq {l : Arr api_Press} (ht : tAll l) (c : Cn) : VQ c l (inC c l) := by
  obtain ⟨h1, h2⟩ := ht
  have hm : ∀ i j, i ≤ j → j < l.n → (l.f i).At ≤ (l.f j).At := fun i j => by
    induction j with
    | zero =>
      intro a b
      have : i = 0 := by omega
      subst this; exact Int.le_refl _
    | succ j ih =>
      intro a b
      by_cases e : i = j + 1
      · subst e; exact Int.le_refl _
      · have h3 := (h2 (j + 1) b).1
        simp only [prevA, Nat.add_one_ne_zero, if_false, Nat.add_sub_cancel] at h3
        exact Int.le_trans (ih (by omega) (by omega)) h3
  refine ⟨h1, fun j hj => ⟨tP_nonneg h2 j hj, (h2 j hj).2⟩, hm, fun j hj hp => ?_⟩
  unfold inC at hp
  simpa using hp
theorem waits_le {c : Cn} (hc : c.Ok) {l : Arr api_Press} (hl : VL c l) {w : Arr Int} (hw : WE c l allP w) {m : Nat} (hm : ∀ f, c.L ≤ f → f ≤ c.H → worstN c f ≤ m) : ∀ i, i < w.n → w.f i ≤ (m : Int) := fun i hi => by
  rw [hw.n] at hi
  have hap : allP i = true := rfl
  rw [hw.f i hi, if_pos hap]
  have h1 := wt_worst hc hl hi (rfl : allP i = true)
  have h2 := hl.g i hi hap
  have h3 : (pG l i : Int) = (l.f i).Floor := by unfold pG; omega
  have := hm (pG l i) (by omega) (by omega)
  omega
end
end Go.Proofs.Ytlphgonhenegoaa
