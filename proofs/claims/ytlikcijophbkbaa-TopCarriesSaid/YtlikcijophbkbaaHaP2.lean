import Derived.Test.YtlikcijophbkbaaHaP1
set_option linter.unusedVariables false
set_option linter.unusedSimpArgs false
set_option maxHeartbeats 0
set_option maxRecDepth 100000
namespace Go.Proofs.Ytlikcijophbkbaa
open Go.Sx
namespace Ha
section
def su (F : Nat → Int) : Nat → Nat → Int
  | _, 0 => 0
  | p, k + 1 => F p + su F (p + 1) k
theorem su_nonneg {F : Nat → Int} : ∀ (k p : Nat), (∀ q, p ≤ q → q < p + k → 0 ≤ F q) → 0 ≤ su F p k := by
  intro k
  induction k with
  | zero => intro p _; exact Int.le_refl _
  | succ k ih =>
    intro p h
    have h1 := h p (Nat.le_refl _) (by omega)
    have h2 := ih (p + 1) fun q a b => h q (by omega) (by omega)
    simp only [su]
    omega
theorem su_ge {F : Nat → Int} : ∀ (k p : Nat), (∀ q, p ≤ q → q < p + k → 0 ≤ F q) → ∀ q, p ≤ q → q < p + k → F q ≤ su F p k := by
  intro k
  induction k with
  | zero => intro p _ q a b; omega
  | succ k ih =>
    intro p h q a b
    have h1 := h p (Nat.le_refl _) (by omega)
    have h3 : ∀ q, p + 1 ≤ q → q < p + 1 + k → 0 ≤ F q := fun q a b => h q (by omega) (by omega)
    have h2 := su_nonneg k (p + 1) h3
    simp only [su]
    by_cases e : q = p
    · subst e; omega
    · have := ih (p + 1) h3 q (by omega) (by omega)
      omega
theorem su_upd (F : Nat → Int) (j : Nat) (v : Int) : ∀ (k p : Nat), su (fun q => if q = j then v else F q) p k = su F p k + (if p ≤ j ∧ j < p + k then v - F j else 0) := by
  intro k
  induction k with
  | zero => intro p; rw [if_neg (by omega)]; rfl
  | succ k ih =>
    intro p
    simp only [su, ih]
    by_cases e : p = j
    · subst e
      rw [if_pos rfl, if_neg (by omega), if_pos (by omega)]
      omega
    · rw [if_neg e]
      by_cases c : p ≤ j ∧ j < p + (k + 1)
      · rw [if_pos (show p + 1 ≤ j ∧ j < p + 1 + k by omega), if_pos c]; omega
      · rw [if_neg (show ¬ (p + 1 ≤ j ∧ j < p + 1 + k) by omega), if_neg c]; omega
theorem su_congr {F G : Nat → Int} : ∀ (k p : Nat), (∀ q, p ≤ q → q < p + k → F q = G q) → su F p k = su G p k := by
  intro k
  induction k with
  | zero => intro p _; rfl
  | succ k ih =>
    intro p h
    simp only [su]
    rw [h p (Nat.le_refl _) (by omega), ih (p + 1) fun q a b => h q (by omega) (by omega)]
def fl (C : Nat) (m : Arr (Arr Int)) : Nat → Int := fun q => (m.f (q / C)).f (q % C)
theorem fl_at {C : Nat} (m : Arr (Arr Int)) {i j : Nat} (hj : j < C) : fl C m (i * C + j) = (m.f i).f j := by
  unfold fl
  rw [Nat.add_comm, Nat.add_mul_div_right _ _ (by omega), Nat.div_eq_of_lt hj, Nat.zero_add, Nat.add_mul_mod_self_right, Nat.mod_eq_of_lt hj]
theorem fl_set {C : Nat} (m : Arr (Arr Int)) {i j : Nat} (hj : j < C) (v : Int) : fl C (mxD m.n (mxL m) (setG i j v (mxG m))) = fun q => if q = i * C + j then v else fl C m q := by
  funext q
  show setG i j v (mxG m) (q / C) (q % C) = _
  unfold setG
  by_cases e : q = i * C + j
  · subst e
    have e1 : (i * C + j) / C = i := by rw [Nat.add_comm, Nat.add_mul_div_right _ _ (by omega), Nat.div_eq_of_lt hj, Nat.zero_add]
    have e2 : (i * C + j) % C = j := by rw [Nat.add_comm, Nat.add_mul_mod_self_right, Nat.mod_eq_of_lt hj]
    rw [e1, e2, if_pos rfl, BEq.rfl, BEq.rfl]
    rfl
  · rw [if_neg e]
    have : (q / C == i && q % C == j) = false := by
      cases h : (q / C == i && q % C == j)
      · rfl
      · exfalso
        simp only [Bool.and_eq_true, beq_iff_eq] at h
        have := Nat.div_add_mod q C
        rw [h.1, h.2, Nat.mul_comm] at this
        exact e this.symm
    rw [this, cond_false]
    rfl
structure Inv (U C : Nat) (T : Int) (p : Nat) (m : Arr (Arr Int)) (s : Int) : Prop where
  n : m.n = U
  l : ∀ i, i < U → (m.f i).n = C
  z : ∀ q, q < U * C → 0 ≤ fl C m q ∧ fl C m q ≤ T
  s : su (fl C m) p (U * C - p) ≤ s
theorem idx_lt {U C i j : Nat} (hi : i < U) (hj : j < C) : i * C + j < U * C := by
  have : (i + 1) * C ≤ U * C := Nat.mul_le_mul_right _ hi
  rw [Nat.add_mul] at this
  omega
theorem Inv.ge {U C : Nat} {T : Int} {p : Nat} {m : Arr (Arr Int)} {s : Int} (h : Inv U C T p m s) {q : Nat} (h1 : p ≤ q) (h2 : q < U * C) : fl C m q ≤ s :=
  Int.le_trans (su_ge _ _ (fun q a b => (h.z q (by omega)).1) q h1 (by omega)) h.s
theorem Inv.add {U C : Nat} {T : Int} {p : Nat} {m : Arr (Arr Int)} {s : Int} (h : Inv U C T p m s) {i j : Nat} (hi : i < U) (hj : j < C) (hp : p ≤ i * C + j) {a : Int} (h0 : 0 ≤ a) (hT : s + a ≤ T) :
    Inv U C T p (mxD m.n (mxL m) (setG i j (mxG m i j + a) (mxG m))) (s + a) := by
  have hq := idx_lt hi hj
  have hg := h.ge hp hq
  have hat : fl C m (i * C + j) = mxG m i j := fl_at m hj
  refine ⟨h.n, h.l, fun q hq' => ?_, ?_⟩
  · rw [fl_set m hj]
    have := h.z q hq'
    by_cases e : q = i * C + j
    · subst e
      simp only [if_true]
      omega
    · simp only [if_neg e]
      exact this
  · rw [fl_set m hj, su_upd, if_pos (by omega)]
    have := h.s
    omega
theorem Inv.next {U C : Nat} {T : Int} {p : Nat} {m : Arr (Arr Int)} {s : Int} (h : Inv U C T p m s) (hp : p < U * C) : Inv U C T (p + 1) m (s - fl C m p) := by
  refine ⟨h.n, h.l, h.z, ?_⟩
  have := h.s
  obtain ⟨k, hk⟩ : ∃ k, U * C - p = k + 1 := ⟨U * C - p - 1, by omega⟩
  rw [hk] at this
  rw [show U * C - (p + 1) = k by omega]
  simp only [su] at this
  omega
theorem Inv.less {U C : Nat} {T : Int} {p : Nat} {m : Arr (Arr Int)} {s s' : Int} (h : Inv U C T p m s) (hs : s ≤ s') : Inv U C T p m s' := ⟨h.n, h.l, h.z, Int.le_trans h.s hs⟩
theorem pl_l8 {N : Nat} (h : api_Hall) (d : api_Day) {U C : Nat} (hU : h.Until = (U : Int)) (hU2 : U ≤ 100) (hC : h.Combs.n = C) (hC8 : C ≤ 8) {R : Type} (k0 : Arr (Arr Int) → Option R) : ∀ (q t n : Nat) (m : Arr (Arr Int)), t + q = U → q < n → m.n = t → (∀ i, i < t → (m.f i).n = C ∧ ∀ j, (m.f i).f j = 0) →
    ∃ m' : Arr (Arr Int), m'.n = U ∧ (∀ i, i < U → (m'.f i).n = C ∧ ∀ j, (m'.f i).f j = 0) ∧ halls_Play_l8 N n h.Until (t : Int) h d m k0 = k0 m' := by
  intro q
  induction q with
  | zero =>
    intro t n m h1 h2 h3 h4
    obtain ⟨n, rfl⟩ : ∃ m, n = m + 1 := ⟨n - 1, by omega⟩
    refine ⟨m, by omega, fun i hi => h4 i (by omega), ?_⟩
    unfold halls_Play_l8 halls_Play_b8
    rw [hU, ltF (show U ≤ t by omega), cond_false]
  | succ q ih =>
    intro t n m h1 h2 h3 h4
    obtain ⟨n, rfl⟩ : ∃ m, n = m + 1 := ⟨n - 1, by omega⟩
    obtain ⟨m', g1, g2, g3⟩ := ih (t + 1) n (mxD (Arr.n m + (1 : Nat)) (catL (Arr.n m) (mxL m) (constL (Int.toNat (↑(Arr.n (api_Hall.Combs h)) : Int)))) (catG (Arr.n m) (mxG m) (rowG (zeroC [SV.int IntKind.i64 (0 : Int)])))) (by omega) (by omega) (by show m.n + 1 = t + 1; omega) (fun i hi => by
      show catL m.n (mxL m) (constL _) i = C ∧ ∀ j, catG m.n (mxG m) (rowG _) i j = 0
      unfold catL catG
      by_cases e : i < m.n
      · have : Nat.blt i m.n = true := by rw [Nat.blt_eq]; exact e
        rw [this, cond_true, cond_true]
        exact h4 i (by omega)
      · have : Nat.blt i m.n = false := by
          cases hb : Nat.blt i m.n
          · rfl
          · rw [Nat.blt_eq] at hb; omega
        rw [this, cond_false, cond_false]
        exact ⟨by show Int.toNat (h.Combs.n : Int) = C; rw [Int.toNat_natCast]; exact hC, fun j => rfl⟩)
    refine ⟨m', g1, g2, ?_⟩
    unfold halls_Play_l8 halls_Play_b8
    have e0 : decide ((t : Int) < h.Until) = true := by rw [hU]; exact ltT (by omega)
    have e1 : (decide ((h.Combs.n : Int) ≤ (h.Combs.n : Int)) && decide ((h.Combs.n : Int) ≤ 1073741824)) = true := by simp; omega
    simp only [e0, e1, cond_true, room_of (show m.n + 1 ≤ 1073741824 by omega), ws (show t < 100000 by omega)]
    exact g3
theorem w64_mid {x : Int} (h1 : -1000000 ≤ x) (h2 : x ≤ 1000000) : w64 x = x := w64_eq (by omega) (by omega)
theorem pl_l15 (N : Nat) {h : api_Hall} (hv : HallV h) {d : api_Day} (hd : DayV h d) {U C : Nat} (hU : h.Until = (U : Int)) (hC : h.Combs.n = C) {x : Nat} (hx : x < h.Trains.n) (v1 : Arr api_Train) (v2 v3 : Int) {S : Int} (hS0 : 0 ≤ S) (hS : S + 4000 ≤ 48000) {R : Type} (k4 : Arr (Arr Int) → Option R) :
    ∀ (q i n : Nat) (m : Arr (Arr Int)), i + q = (h.Trains.f x).Crowds.n → q < n → Inv U C 48000 0 m (S + 1000 * (i : Int)) →
    ∃ m' : Arr (Arr Int), Inv U C 48000 0 m' (S + 4000) ∧ halls_Play_l15 N n (x : Int) v1 v2 v3 (h.Trains.f x).Crowds ((h.Trains.f x).Crowds.n : Int) (i : Int) h d m k4 = k4 m' := by
  have h4 := (hv.t x hx).n
  have hp := hd.pn
  have ha := hd.an
  have hq := hd.qn x hx
  have hA := hd.a x hx
  have hat := (hv.t x hx).at_
  unfold spanP at hat
  obtain ⟨A, hAe⟩ : ∃ A : Nat, d.At.f x = (A : Int) := ⟨(d.At.f x).toNat, by omega⟩
  have hAU : A < U := by omega
  intro q
  induction q with
  | zero =>
    intro i n m h1 h2 h3
    obtain ⟨n, rfl⟩ : ∃ m, n = m + 1 := ⟨n - 1, by omega⟩
    refine ⟨m, h3.less (by omega), ?_⟩
    unfold halls_Play_l15 halls_Play_b15
    simp only [ltF (show (h.Trains.f x).Crowds.n ≤ i by omega), cond_false]
  | succ q ih =>
    intro i n m h1 h2 h3
    obtain ⟨n, rfl⟩ : ∃ m, n = m + 1 := ⟨n - 1, by omega⟩
    have hi : i < (h.Trains.f x).Crowds.n := by omega
    obtain ⟨⟨c1, c2⟩, c3⟩ := (hv.t x hx).c i hi
    unfold spanP at c3
    have hlow := CrowdOk.low (hv.t x hx).c i hi
    obtain ⟨c, hce⟩ : ∃ c : Nat, ((h.Trains.f x).Crowds.f i).Comb = (c : Int) := ⟨((h.Trains.f x).Crowds.f i).Comb.toNat, by omega⟩
    have hcC : c < C := by omega
    have hP := hd.q x i hx hi
    have hml : mxL m A = C := h3.l A hAU
    have hb := h3.z _ (idx_lt hAU hcC)
    rw [fl_at m hcC] at hb
    have hb : 0 ≤ mxG m A c ∧ mxG m A c ≤ 48000 := hb
    have hadd := h3.add hAU hcC (Nat.zero_le _) (a := (d.People.f x).f i) (by omega) (by omega)
    obtain ⟨m', g1, g2⟩ := ih (i + 1) n _ (by omega) (by omega) (hadd.less (s' := S + 1000 * ((i + 1 : Nat) : Int)) (by omega))
    refine ⟨m', g1, ?_⟩
    have hmn := h3.n
    unfold halls_Play_l15 halls_Play_b15
    simp only [ltT hi, ltT (show x < d.At.n by omega), ltT (show x < d.People.n by omega), ltT (show i < (d.People.f x).n by omega), nat_nonneg, Bool.and_self, cond_true, Int.toNat_natCast, hAe, hce, ltT (show A < m.n by omega), hml, ltT hcC, ws (show i < 100000 by omega), w64_mid (x := mxG m A c + (d.People.f x).f i) (by omega) (by omega)]
    exact g2
theorem pl_l12 {N : Nat} (hN : 200 ≤ N) {h : api_Hall} (hv : HallV h) {d : api_Day} (hd : DayV h d) {U C : Nat} (hU : h.Until = (U : Int)) (hC : h.Combs.n = C) {R : Type} (k2 : Arr (Arr Int) → Option R) :
    ∀ (q i n : Nat) (m : Arr (Arr Int)), i + q = h.Trains.n → q < n → Inv U C 48000 0 m (4000 * (i : Int)) →
    ∃ m' : Arr (Arr Int), Inv U C 48000 0 m' 48000 ∧ halls_Play_l12 N n h.Trains (h.Trains.n : Int) (i : Int) h d m k2 = k2 m' := by
  have hn := hv.tn
  intro q
  induction q with
  | zero =>
    intro i n m h1 h2 h3
    obtain ⟨n, rfl⟩ : ∃ m, n = m + 1 := ⟨n - 1, by omega⟩
    refine ⟨m, h3.less (by omega), ?_⟩
    unfold halls_Play_l12 halls_Play_b12
    simp only [ltF (show h.Trains.n ≤ i by omega), cond_false]
  | succ q ih =>
    intro i n m h1 h2 h3
    obtain ⟨n, rfl⟩ : ∃ m, n = m + 1 := ⟨n - 1, by omega⟩
    have hi : i < h.Trains.n := by omega
    have h4 := (hv.t i hi).n
    obtain ⟨m1, a1, a2⟩ := pl_l15 N hv hd hU hC hi h.Trains (h.Trains.n : Int) (i : Int) (S := 4000 * (i : Int)) (by omega) (by omega) (fun r225 => halls_Play_l12 N n h.Trains (h.Trains.n : Int) ((i + 1 : Nat) : Int) h d r225 k2) (h.Trains.f i).Crowds.n 0 N m (by omega) (by omega) (h3.less (by omega))
    obtain ⟨m', g1, g2⟩ := ih (i + 1) n m1 (by omega) (by omega) (a1.less (by omega))
    refine ⟨m', g1, ?_⟩
    unfold halls_Play_l12 halls_Play_b12
    simp only [ltT hi, nat_nonneg, Bool.and_self, cond_true, Int.toNat_natCast, ws (show i < 100000 by omega)]
    exact a2.trans g2
theorem setA_f {a : Arr (Arr Int)} {m : Nat} {v : Arr Int} (j : Nat) : (lst (lsC intC) a.n (setCs m 0 (Cod.cell (lsC intC) a.f) [SV.sl SK.any (Cod.sg intC) (Cod.size intC) (Arr.n v) (Cod.cell intC (Arr.f v))])).f j = if j = m then v else a.f j := by
  show (lsC intC).dec (fun i => setCs m 0 (Cod.cell (lsC intC) a.f) [SV.sl SK.any (Cod.sg intC) (Cod.size intC) (Arr.n v) (Cod.cell intC (Arr.f v))] j i) = _
  by_cases h : j = m
  · subst h
    rw [if_pos rfl]
    have : (fun i => setCs j 0 (Cod.cell (lsC intC) a.f) [SV.sl SK.any (Cod.sg intC) (Cod.size intC) (Arr.n v) (Cod.cell intC (Arr.f v))] j i) 0 = slC intC v := by
      simp [setCs, setC, slC]
    show lstC intC ((fun i => setCs j 0 (Cod.cell (lsC intC) a.f) [SV.sl SK.any (Cod.sg intC) (Cod.size intC) (Arr.n v) (Cod.cell intC (Arr.f v))] j i) 0) = _
    rw [this]
    rfl
  · rw [if_neg h]
    have e : (j == m) = false := by simpa using h
    simp only [setCs, setC, e, Bool.false_and, cond_false]
    rfl
structure Opn (U C : Nat) (op : Arr (Arr Int)) (i : Nat) : Prop where
  n : op.n = C
  l : ∀ c, c < i → (op.f c).n = U ∧ ∀ t, t < U → 0 ≤ (op.f c).f t ∧ (op.f c).f t ≤ 1000
theorem pl_l22 {N : Nat} (hN : 200 ≤ N) {h : api_Hall} (hv : HallV h) (d : api_Day) {U C : Nat} (hU : h.Until = (U : Int)) (hC : h.Combs.n = C) (m : Arr (Arr Int)) (b : Bool) {R : Type} (k6 : Arr (Arr Int) → Option R) :
    ∀ (q i n : Nat) (op : Arr (Arr Int)), i + q = C → q < n → Opn U C op i → ∃ op' : Arr (Arr Int), Opn U C op' C ∧ halls_Play_l22 N n (C : Int) (i : Int) h d m b op k6 = k6 op' := by
  have hn := hv.cn
  intro q
  induction q with
  | zero =>
    intro i n op h1 h2 h3
    obtain ⟨n, rfl⟩ : ∃ m, n = m + 1 := ⟨n - 1, by omega⟩
    have : i = C := by omega
    subst this
    refine ⟨op, h3, ?_⟩
    unfold halls_Play_l22 halls_Play_b22
    simp only [ltF (Nat.le_refl i), cond_false]
  | succ q ih =>
    intro i n op h1 h2 h3
    obtain ⟨n, rfl⟩ : ∃ m, n = m + 1 := ⟨n - 1, by omega⟩
    have hi : i < C := by omega
    have hop := h3.n
    obtain ⟨r, r1, r2, r3⟩ := rates_eq hN hv (show i < h.Combs.n by omega) (fun r234 r235 =>
   bif decide ((0 : Int) ≤ (i : Int)) && decide ((i : Int) < (↑(Arr.n op) : Int)) then
    halls_Play_l22 N n (C : Int) (w64 ((i : Int) + (1 : Int))) h d m b (lst (lsC intC) (Arr.n op) (setCs (Int.toNat (i : Int)) (0 : Nat) (Cod.cell (lsC intC) (Arr.f op)) [SV.sl SK.any (Cod.sg intC) (Cod.size intC) (Arr.n r235) (Cod.cell intC (Arr.f r235))])) k6
   else
    Option.none)
    have hUt : h.Until.toNat = U := by omega
    rw [hUt] at r1 r2
    obtain ⟨op', g1, g2⟩ := ih (i + 1) n (lst (lsC intC) (Arr.n op) (setCs i (0 : Nat) (Cod.cell (lsC intC) (Arr.f op)) [SV.sl SK.any (Cod.sg intC) (Cod.size intC) (Arr.n r) (Cod.cell intC (Arr.f r))])) (by omega) (by omega) ⟨h3.n, fun c hc => by
      rw [setA_f]
      split
      · exact ⟨r1, r2⟩
      · exact h3.l c (by omega)⟩
    refine ⟨op', g1, ?_⟩
    unfold halls_Play_l22 halls_Play_b22
    rw [ltT hi, cond_true]
    refine r3.trans ?_
    rw [nat_nonneg, ltT (show i < op.n by omega), Bool.and_self, cond_true, ws (show i < 100000 by omega), Int.toNat_natCast]
    exact g2
theorem pl_l30 (N : Nat) {h : api_Hall} (hv : HallV h) {d : api_Day} (hd : DayV h d) {U C : Nat} (hU : h.Until = (U : Int)) (hC : h.Combs.n = C) {op : Arr (Arr Int)} (ho : Opn U C op C) {t : Nat} (ht : t < U) (v1 v2 : Int) (b : Bool) {R : Type} (k10 : Arr (Arr Int) → Option R) :
    ∀ (q c n : Nat) (m : Arr (Arr Int)) (s : Int), c + q = C → q < n → s ≤ 48000 → Inv U C 48000 (t * C + c) m s →
    ∃ (m' : Arr (Arr Int)) (s' : Int), s' ≤ 48000 ∧ Inv U C 48000 (t * C + C) m' s' ∧ halls_Play_l30 N n (t : Int) v1 v2 t (C : Int) (c : Int) h d m b op k10 = k10 m' := by
  have hcn := hv.cn
  have hu := hv.u
  have hw := hd.wn
  have hop := ho.n
  intro q
  induction q with
  | zero =>
    intro c n m s h1 h2 h3 h4
    obtain ⟨n, rfl⟩ : ∃ m, n = m + 1 := ⟨n - 1, by omega⟩
    have : c = C := by omega
    subst this
    refine ⟨m, s, h3, h4, ?_⟩
    unfold halls_Play_l30 halls_Play_b30
    simp only [ltF (Nat.le_refl c), cond_false]
  | succ q ih =>
    intro c n m s h1 h2 h3 h4
    obtain ⟨n, rfl⟩ : ∃ m, n = m + 1 := ⟨n - 1, by omega⟩
    have hc : c < C := by omega
    obtain ⟨o1, o2⟩ := ho.l c hc
    have hrate := o2 t ht
    obtain ⟨w1, w2⟩ := hd.vn c (by omega)
    have hwalk := hd.v c (t % (d.Walks.f c).n) (by omega) (Nat.mod_lt _ (by omega))
    have hws := (hv.c c (by omega)).walk
    unfold spanP at hws
    obtain ⟨w, hwe⟩ : ∃ w : Nat, (d.Walks.f c).f (t % (d.Walks.f c).n) = (w : Int) := ⟨((d.Walks.f c).f (t % (d.Walks.f c).n)).toNat, by omega⟩
    have hw1 : 1 ≤ w ∧ w ≤ 20 := by omega
    have hidx := idx_lt ht hc
    have hnow := h4.z _ hidx
    have hns := h4.ge (Nat.le_refl _) hidx
    have hnext := h4.next hidx
    rw [fl_at m hc] at hnow hns hnext
    have hml : ∀ i, i < U → mxL m i = C := fun i hi => h4.l i hi
    have hmn := h4.n
    obtain ⟨P, hPe⟩ : ∃ P, mnI (mxG m t c) ((op.f c).f t) = P := ⟨_, rfl⟩
    have hg : (m.f t).f c = mxG m t c := rfl
    rw [hg] at hnow hns hnext
    have hP : 0 ≤ P ∧ P ≤ mxG m t c := by
      rw [← hPe]
      unfold mnI
      split <;> omega
    have tm : Int.tmod (t : Int) ((d.Walks.f c).n : Int) = ((t % (d.Walks.f c).n : Nat) : Int) := (Int.ofNat_tmod _ _).symm
    have lz : (((d.Walks.f c).n : Int) == 0) = false := by rw [beq_eq_false_iff_ne]; omega
    have lm : t % (d.Walks.f c).n < (d.Walks.f c).n := Nat.mod_lt _ (by omega)
    have ew : w64 ((t : Int) + (w : Int)) = ((t + w : Nat) : Int) := by rw [w64_eq (by omega) (by omega)]; omega
    have esub : w64 (mxG m t c - P) = mxG m t c - P := w64_mid (by omega) (by omega)
    -- the leftover
    have fin : ∀ (m2 : Arr (Arr Int)) (s2 : Int), s2 ≤ 48000 → Inv U C 48000 (t * C + (c + 1)) m2 s2 → halls_Play_l30 N (n + 1) (t : Int) v1 v2 t (C : Int) (c : Int) h d m b op k10 = halls_Play_l30 N n (t : Int) v1 v2 t (C : Int) ((c + 1 : Nat) : Int) h d m2 b op k10 →
        ∃ (m' : Arr (Arr Int)) (s' : Int), s' ≤ 48000 ∧ Inv U C 48000 (t * C + C) m' s' ∧ halls_Play_l30 N (n + 1) (t : Int) v1 v2 t (C : Int) (c : Int) h d m b op k10 = k10 m' := fun m2 s2 a1 a2 a3 => by
      obtain ⟨m', s', g1, g2, g3⟩ := ih (c + 1) n m2 s2 (by omega) (by omega) a1 a2
      exact ⟨m', s', g1, g2, a3.trans g3⟩
    by_cases c1 : t + 1 < U
    · have e1 : decide (((t + 1 : Nat) : Int) < h.Until) = true := by rw [hU]; exact ltT c1
      have hidx1 := idx_lt c1 hc
      have hlt : t * C + (c + 1) ≤ (t + 1) * C + c := by rw [Nat.add_mul]; omega
      have hb1 := h4.z _ hidx1
      rw [fl_at m hc] at hb1
      have hb1 : 0 ≤ mxG m (t + 1) c ∧ mxG m (t + 1) c ≤ 48000 := hb1
      have ea1 : w64 (mxG m (t + 1) c + (mxG m t c - P)) = mxG m (t + 1) c + (mxG m t c - P) := w64_mid (by omega) (by omega)
      have hadd := hnext.add c1 hc hlt (a := mxG m t c - P) (by omega) (by omega)
      by_cases c2 : (h.Combs.f c).Next ≥ 0
      · obtain ⟨x, hxe⟩ : ∃ x : Nat, (h.Combs.f c).Next = (x : Int) := ⟨(h.Combs.f c).Next.toNat, by omega⟩
        have hxC : x < C := by
          rcases (hv.c c (by omega)).next with e | ⟨_, e⟩
          · omega
          · omega
        by_cases c3 : t + w < U
        · have hidx2 := idx_lt c3 hxC
          have hlt2 : t * C + (c + 1) ≤ (t + w) * C + x := by
            have : (t + 1) * C ≤ (t + w) * C := Nat.mul_le_mul_right _ (by omega)
            rw [Nat.add_mul] at this
            omega
          have hb2 := hadd.z _ hidx2
          rw [fl_at _ hxC] at hb2
          have hb2 : 0 ≤ setG (t + 1) c (mxG m (t + 1) c + (mxG m t c - P)) (mxG m) (t + w) x ∧ setG (t + 1) c (mxG m (t + 1) c + (mxG m t c - P)) (mxG m) (t + w) x ≤ 48000 := hb2
          have ea2 : w64 (setG (t + 1) c (mxG m (t + 1) c + (mxG m t c - P)) (mxG m) (t + w) x + P) = setG (t + 1) c (mxG m (t + 1) c + (mxG m t c - P)) (mxG m) (t + w) x + P := w64_mid (by omega) (by omega)
          have hadd2 := hadd.add c3 hxC hlt2 (a := P) (by omega) (by omega)
          refine fin _ _ (by omega) hadd2 ?_
          conv => lhs; unfold halls_Play_l30 halls_Play_b30
          have e2 : decide ((x : Int) ≥ 0) = true := by simp
          have e3 : decide (((t + w : Nat) : Int) < h.Until) = true := by rw [hU]; exact ltT c3
          simp only [ltT hc, nat_nonneg, Bool.and_self, cond_true, cond_false, Int.toNat_natCast, hml t ht, hml (t + 1) c1, hml (t + w) c3, ltT (show c < op.n by omega), ltT (show t < (op.f c).n by omega), ws (show t < 100000 by omega), ws (show c < 100000 by omega), e1, ltT (show t + 1 < m.n by omega), ltT (show c < d.Walks.n by omega), lz, tm, ltT lm, ltT (show c < h.Combs.n by omega), hwe, ew, hxe, e2, e3, ltT (show t + w < m.n by omega), ltT hxC, hPe, esub, ea1, ea2]
          rfl
        · refine fin _ _ (by omega) hadd ?_
          conv => lhs; unfold halls_Play_l30 halls_Play_b30
          have e2 : decide ((x : Int) ≥ 0) = true := by simp
          have e3 : decide (((t + w : Nat) : Int) < h.Until) = false := by rw [hU]; exact ltF (by omega)
          simp only [ltT hc, nat_nonneg, Bool.and_self, cond_true, cond_false, Int.toNat_natCast, hml t ht, hml (t + 1) c1, ltT (show c < op.n by omega), ltT (show t < (op.f c).n by omega), ws (show t < 100000 by omega), ws (show c < 100000 by omega), e1, ltT (show t + 1 < m.n by omega), ltT (show c < d.Walks.n by omega), lz, tm, ltT lm, ltT (show c < h.Combs.n by omega), hwe, ew, hxe, e2, e3, hPe, esub, ea1]
      · refine fin _ _ (by omega) hadd ?_
        conv => lhs; unfold halls_Play_l30 halls_Play_b30
        simp only [ltT hc, nat_nonneg, Bool.and_self, cond_true, cond_false, Int.toNat_natCast, hml t ht, hml (t + 1) c1, ltT (show c < op.n by omega), ltT (show t < (op.f c).n by omega), ws (show t < 100000 by omega), ws (show c < 100000 by omega), e1, ltT (show t + 1 < m.n by omega), ltT (show c < d.Walks.n by omega), lz, tm, ltT lm, ltT (show c < h.Combs.n by omega), hwe, ew, decide_eq_false c2, hPe, esub, ea1]
    · have e1 : decide (((t + 1 : Nat) : Int) < h.Until) = false := by rw [hU]; exact ltF (by omega)
      have e3 : decide (((t + w : Nat) : Int) < h.Until) = false := by rw [hU]; exact ltF (by omega)
      refine fin m _ (by omega) hnext ?_
      conv => lhs; unfold halls_Play_l30 halls_Play_b30
      simp only [ltT hc, nat_nonneg, Bool.and_self, cond_true, cond_false, Int.toNat_natCast, hml t ht, ltT (show c < op.n by omega), ltT (show t < (op.f c).n by omega), ws (show t < 100000 by omega), ws (show c < 100000 by omega), e1, ltT (show c < d.Walks.n by omega), lz, tm, ltT lm, ltT (show c < h.Combs.n by omega), hwe, ew, e3]
      cases decide ((h.Combs.f c).Next ≥ 0) <;> rfl
theorem pl_l27 {N : Nat} (hN : 200 ≤ N) {h : api_Hall} (hv : HallV h) {d : api_Day} (hd : DayV h d) {U C : Nat} (hU : h.Until = (U : Int)) (hC : h.Combs.n = C) {op : Arr (Arr Int)} (ho : Opn U C op C) (b : Bool) {R : Type} (k8 : Arr (Arr Int) → Option R) :
    ∀ (q t n : Nat) (m : Arr (Arr Int)) (s : Int), t + q = U → q < n → s ≤ 48000 → Inv U C 48000 (t * C) m s →
    ∃ (m' : Arr (Arr Int)) (s' : Int), s' ≤ 48000 ∧ Inv U C 48000 (U * C) m' s' ∧ halls_Play_l27 N n (U : Int) (t : Int) h d m b op k8 = k8 m' := by
  have hcn := hv.cn
  have hu := hv.u
  intro q
  induction q with
  | zero =>
    intro t n m s h1 h2 h3 h4
    obtain ⟨n, rfl⟩ : ∃ m, n = m + 1 := ⟨n - 1, by omega⟩
    have : t = U := by omega
    subst this
    refine ⟨m, s, h3, h4, ?_⟩
    unfold halls_Play_l27 halls_Play_b27
    simp only [ltF (Nat.le_refl t), cond_false]
  | succ q ih =>
    intro t n m s h1 h2 h3 h4
    obtain ⟨n, rfl⟩ : ∃ m, n = m + 1 := ⟨n - 1, by omega⟩
    have ht : t < U := by omega
    have hmn := h4.n
    obtain ⟨m1, s1, a1, a2, a3⟩ := pl_l30 N hv hd hU hC ho ht (U : Int) (t : Int) b (fun r255 => halls_Play_l27 N n (U : Int) ((t + 1 : Nat) : Int) h d r255 b op k8) C 0 N m s (by omega) (by omega) h3 h4
    obtain ⟨m', s', g1, g2, g3⟩ := ih (t + 1) n m1 s1 (by omega) (by omega) a1 (by rw [Nat.add_mul, Nat.one_mul]; exact a2)
    refine ⟨m', s', g1, g2, ?_⟩
    have hml : mxL m t = C := h4.l t ht
    unfold halls_Play_l27 halls_Play_b27
    simp only [ltT ht, nat_nonneg, Bool.and_self, cond_true, Int.toNat_natCast, ltT (show t < m.n by omega), hml, ws (show t < 100000 by omega)]
    exact a3.trans g3
theorem Play_eq {N : Nat} (hN : 200 ≤ N) {h : api_Hall} (hv : HallV h) {d : api_Day} (hd : DayV h d) {R : Type} (k : Int → Arr (Arr Int) → Option R) :
    ∃ rows : Arr (Arr Int), rows.n = h.Until.toNat ∧ (∀ t, t < h.Until.toNat → (rows.f t).n = h.Combs.n ∧ ∀ c, c < h.Combs.n → 0 ≤ (rows.f t).f c ∧ (rows.f t).f c ≤ 48000) ∧ halls_Play N h d k = k 0 rows := by
  have hcn := hv.cn
  have hu := hv.u
  have htn := hv.tn
  obtain ⟨U, hU⟩ : ∃ U : Nat, h.Until = (U : Int) := ⟨h.Until.toNat, by omega⟩
  obtain ⟨C, hC⟩ : ∃ C : Nat, h.Combs.n = C := ⟨_, rfl⟩
  have hUt : h.Until.toNat = U := by omega
  rw [hUt]
  have e1 : (decide ((h.Combs.n : Int) ≤ (h.Combs.n : Int)) && decide ((h.Combs.n : Int) ≤ 1073741824)) = true := by simp; omega
  -- backwards: what follows each loop
  have step : ∀ m0 : Arr (Arr Int), m0.n = U → (∀ i, i < U → (m0.f i).n = C ∧ ∀ j, (m0.f i).f j = 0) →
      ∃ rows : Arr (Arr Int), rows.n = U ∧ (∀ t, t < U → (rows.f t).n = C ∧ ∀ c, c < C → 0 ≤ (rows.f t).f c ∧ (rows.f t).f c ≤ 48000) ∧
      halls_Play_l12 N N (api_Hall.Trains h) ((↑(Arr.n (api_Hall.Trains h)) : Int)) (0 : Int) h d m0 (fun r226 =>
      bif decide ((↑(Arr.n (api_Hall.Combs h)) : Int) ≤ (↑(Arr.n (api_Hall.Combs h)) : Int)) && decide ((↑(Arr.n (api_Hall.Combs h)) : Int) ≤ (1073741824 : Int)) then
       halls_Play_l22 N N ((↑(Arr.n (api_Hall.Combs h)) : Int)) (0 : Int) h d r226 false (lst (lsC intC) (Int.toNat (↑(Arr.n (api_Hall.Combs h)) : Int)) (zeroC [SV.sl SK.nil (CK.cons (CK.int IntKind.i64) CK.nil) (1 : Nat) (0 : Nat) (zeroC [SV.int IntKind.i64 (0 : Int)])])) (fun r236 =>
        halls_Play_l27 N N ((↑(Arr.n r226) : Int)) (0 : Int) h d r226 false r236 (fun r256 =>
         k (0 : Int) r256))
      else
       Option.none) = k 0 rows := fun m0 z1 z2 => by
    have hfl : ∀ q, fl C m0 q = 0 ∨ ¬ q < U * C := fun q => by
      by_cases hq : q < U * C
      · left
        have hC0 : 0 < C := by omega
        exact (z2 (q / C) (by rw [Nat.div_lt_iff_lt_mul hC0]; exact hq)).2 _
      · exact .inr hq
    have hinv0 : Inv U C 48000 0 m0 (4000 * ((0 : Nat) : Int)) := by
      refine ⟨z1, fun i hi => (z2 i hi).1, fun q hq => ?_, ?_⟩
      · rcases hfl q with h | h
        · rw [h]; omega
        · exact absurd hq h
      · have : su (fl C m0) 0 (U * C - 0) = su (fun _ => 0) 0 (U * C - 0) := su_congr _ _ fun q a b => by
          rcases hfl q with h | h
          · exact h
          · omega
        rw [this]
        have zero : ∀ (k p : Nat), su (fun _ => 0) p k = 0 := by
          intro k
          induction k with
          | zero => intro p; rfl
          | succ k ih => intro p; simp only [su, ih]; rfl
        rw [zero]
        omega
    obtain ⟨m1, a1, a2⟩ := pl_l12 hN hv hd hU hC (fun r226 =>
      bif decide ((↑(Arr.n (api_Hall.Combs h)) : Int) ≤ (↑(Arr.n (api_Hall.Combs h)) : Int)) && decide ((↑(Arr.n (api_Hall.Combs h)) : Int) ≤ (1073741824 : Int)) then
       halls_Play_l22 N N ((↑(Arr.n (api_Hall.Combs h)) : Int)) (0 : Int) h d r226 false (lst (lsC intC) (Int.toNat (↑(Arr.n (api_Hall.Combs h)) : Int)) (zeroC [SV.sl SK.nil (CK.cons (CK.int IntKind.i64) CK.nil) (1 : Nat) (0 : Nat) (zeroC [SV.int IntKind.i64 (0 : Int)])])) (fun r236 =>
        halls_Play_l27 N N ((↑(Arr.n r226) : Int)) (0 : Int) h d r226 false r236 (fun r256 =>
         k (0 : Int) r256))
      else
       Option.none) h.Trains.n 0 N m0 (by omega) (by omega) hinv0
    obtain ⟨op, b1, b2⟩ := pl_l22 hN hv d hU hC m1 false (fun r236 =>
        halls_Play_l27 N N ((↑(Arr.n m1) : Int)) (0 : Int) h d m1 false r236 (fun r256 =>
         k (0 : Int) r256)) C 0 N (lst (lsC intC) (Int.toNat (↑(Arr.n (api_Hall.Combs h)) : Int)) (zeroC [SV.sl SK.nil (CK.cons (CK.int IntKind.i64) CK.nil) (1 : Nat) (0 : Nat) (zeroC [SV.int IntKind.i64 (0 : Int)])])) (by omega) (by omega) ⟨by show Int.toNat (h.Combs.n : Int) = C; rw [Int.toNat_natCast]; exact hC, fun c hc => by omega⟩
    obtain ⟨m2, s2, c0, c1, c2⟩ := pl_l27 hN hv hd hU hC b1 false (fun r256 => k (0 : Int) r256) U 0 N m1 48000 (by omega) (by omega) (Int.le_refl _) (by rw [Nat.zero_mul]; exact a1)
    refine ⟨m2, c1.n, fun t ht => ⟨c1.l t ht, fun c hc => ?_⟩, ?_⟩
    · have := c1.z _ (idx_lt ht hc)
      rw [fl_at m2 hc] at this
      exact this
    · refine a2.trans ?_
      have hm1 : (m1.n : Int) = (U : Int) := by rw [a1.n]
      rw [e1, cond_true]
      rw [hm1] at b2 ⊢
      rw [hC] at b2 ⊢
      exact b2.trans c2
  obtain ⟨m0, z1, z2, z3⟩ := pl_l8 (N := N) h d hU (by omega) hC (by omega) (fun r208 =>
     halls_Play_l12 N N (api_Hall.Trains h) ((↑(Arr.n (api_Hall.Trains h)) : Int)) (0 : Int) h d r208 (fun r226 =>
      bif decide ((↑(Arr.n (api_Hall.Combs h)) : Int) ≤ (↑(Arr.n (api_Hall.Combs h)) : Int)) && decide ((↑(Arr.n (api_Hall.Combs h)) : Int) ≤ (1073741824 : Int)) then
       halls_Play_l22 N N ((↑(Arr.n (api_Hall.Combs h)) : Int)) (0 : Int) h d r226 false (lst (lsC intC) (Int.toNat (↑(Arr.n (api_Hall.Combs h)) : Int)) (zeroC [SV.sl SK.nil (CK.cons (CK.int IntKind.i64) CK.nil) (1 : Nat) (0 : Nat) (zeroC [SV.int IntKind.i64 (0 : Int)])])) (fun r236 =>
        halls_Play_l27 N N ((↑(Arr.n r226) : Int)) (0 : Int) h d r226 false r236 (fun r256 =>
         k (0 : Int) r256))
      else
       Option.none)) U 0 N (mxD (0 : Nat) (constL (0 : Nat)) fun (x x_1 : Nat) => (0 : Int)) (by omega) (by omega) rfl (fun i hi => by omega)
  obtain ⟨rows, r1, r2, r3⟩ := step m0 z1 z2
  refine ⟨rows, r1, fun t ht => by rw [hC]; exact r2 t ht, ?_⟩
  rw [halls_Play_def]
  unfold halls_Play_m
  simp only [check_eq hN hv, isDay_eq hN hv hd, bne_self_eq_false, cond_false, Bool.not_true]
  exact z3.trans r3
end
end Ha
end Go.Proofs.Ytlikcijophbkbaa
