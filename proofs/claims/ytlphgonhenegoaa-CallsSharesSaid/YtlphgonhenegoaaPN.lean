import Derived.Test.YtlphgonhenegoaaQ3
set_option linter.unusedVariables false
set_option linter.unusedSimpArgs false
set_option maxHeartbeats 0
set_option maxRecDepth 100000
namespace Go.Proofs.Ytlphgonhenegoaa
open Go.Sx
section
theorem clone_eq (N : Nat) {a : Arr Int} (h : a.n ≤ 1000) {R : Type} (k : Bool → Arr Int → Option R) : slices_Clone___int_int_ N false a k = k false a := by
  rw [slices_Clone___int_int__def]
  unfold slices_Clone___int_int__m
  rw [cond_false, room_of (by omega), cond_true]
  have e1 : (bif Arr.n a == (0 : Nat) then false else false) = false := by cases (Arr.n a == (0 : Nat)) <;> rfl
  rw [e1]
  refine congrArg (k false) ?_
  obtain ⟨n, f⟩ := a
  unfold lst
  congr 1
  · exact Nat.zero_add n
open Classical in
theorem sh_rec {N : Nat} (hN : 2000 < N) {g : Arr api_Car} (hgn : g.n ≤ 3) (hg : carsP g) {l : Arr api_Press} (ht : tAll l) : ∀ (q i d P : Nat) (sh : Arr Int) (nl : Bool) (best : Arr Int) (s : BS), i + q = l.n → q < d → sh.n = l.n →
    (∀ k, k < i → sh.f k = dg g.n i P k) → (∀ k, k < i → inP g (l.f k) (dig g.n i P k)) → (i = 0 ∨ 0 < g.n) → best.Is s.n s.x →
    ∃ (sh' : Arr Int) (nl' : Bool) (best' : Arr Int), sh'.n = l.n ∧ (∀ k, k < i → sh'.f k = sh.f k) ∧ best'.Is (foldB (valS g l) g.n l.n (P * g.n ^ q) (g.n ^ q) s).n (foldB (valS g l) g.n l.n (P * g.n ^ q) (g.n ^ q) s).x ∧
      ∀ {R : Type} (k : Int → Arr Int → Bool → Arr Int → Option R), calls_Share_1_r N d (i : Int) l g s.m false sh nl best k = k (foldB (valS g l) g.n l.n (P * g.n ^ q) (g.n ^ q) s).m sh' nl' best' := by
  have hln := ht.1
  intro q
  induction q with
  | zero =>
    intro i d P sh nl best s h1 h2 h3 h4 h5 h6 h7
    obtain ⟨d, rfl⟩ : ∃ m, d = m + 1 := ⟨d - 1, by omega⟩
    have hi : i = l.n := by omega
    subst hi
    rw [Nat.pow_zero, Nat.mul_one]
    have hs : Shr g l sh := ⟨h3, fun k hk => by
      have := dig_lt (show 0 < g.n by omega) l.n P k
      rw [h4 k hk]
      unfold dg
      omega, fun k hk => by rw [h4 k hk]; exact h5 k hk⟩
    obtain ⟨m, m1, _⟩ := longest_eq hN (show g.n ≤ 100 by omega) hs hg ht (fun _ => (none : Option Unit))
    have hv : valS g l (dg g.n l.n P) = m := valS_good hs m1 h4
    have hf : foldB (valS g l) g.n l.n P 1 s = stepB (valS g l) l.n (dg g.n l.n P) s := rfl
    rw [hf]
    unfold stepB
    rw [hv]
    have hm0 := m1.z
    have run : ∀ {R : Type} (k : Int → Arr Int → Bool → Arr Int → Option R), calls_Share_1_r N (d + 1) (l.n : Int) l g s.m false sh nl best k = (bif decide (s.m < (0 : Int)) then slices_Clone___int_int_ N false sh (fun r739 r740 => k m sh r739 r740) else bif decide (m < s.m) then slices_Clone___int_int_ N false sh (fun r741 r742 => k m sh r741 r742) else k s.m sh nl best) := fun {R} k => by
      show calls_Share_1_t N (calls_Share_1_r N d) (l.n : Int) l g s.m false sh nl best k = _
      unfold calls_Share_1_t
      rw [BEq.rfl, cond_true]
      obtain ⟨m', g1, g2⟩ := longest_eq hN (show g.n ≤ 100 by omega) hs hg ht (fun r738 => bif decide (s.m < (0 : Int)) then slices_Clone___int_int_ N false sh (fun r739 r740 => k r738 sh r739 r740) else bif decide (r738 < s.m) then slices_Clone___int_int_ N false sh (fun r741 r742 => k r738 sh r741 r742) else k s.m sh nl best)
      rw [g2, g1.unique m1]
    by_cases hc : s.m < 0 ∨ m < s.m
    · rw [if_pos ⟨hm0, hc⟩]
      refine ⟨sh, false, sh, h3, fun k _ => rfl, ⟨h3, h4⟩, fun {R} k => ?_⟩
      rw [run]
      by_cases e : s.m < 0
      · rw [decide_eq_true e, cond_true, clone_eq N (by omega)]
      · rw [decide_eq_false e, cond_false, decide_eq_true (show m < s.m by omega), cond_true, clone_eq N (by omega)]
    · rw [if_neg fun h => hc h.2]
      refine ⟨sh, nl, best, h3, fun k _ => rfl, h7, fun {R} k => ?_⟩
      rw [run, decide_eq_false (show ¬ s.m < 0 by omega), cond_false, decide_eq_false (show ¬ m < s.m by omega), cond_false]
  | succ q ih =>
    intro i d P sh nl best s h1 h2 h3 h4 h5 h6 h7
    obtain ⟨d, rfl⟩ : ∃ m, d = m + 1 := ⟨d - 1, by omega⟩
    have loop : ∀ (r c n : Nat) (sh : Arr Int) (nl : Bool) (best : Arr Int) (s : BS), c + r = g.n → r < n → sh.n = l.n → (∀ k, k < i → sh.f k = dg g.n i P k) → best.Is s.n s.x →
        ∃ (sh' : Arr Int) (nl' : Bool) (best' : Arr Int), sh'.n = l.n ∧ (∀ k, k < i → sh'.f k = sh.f k) ∧ best'.Is (foldB (valS g l) g.n l.n ((P * g.n + c) * g.n ^ q) (r * g.n ^ q) s).n (foldB (valS g l) g.n l.n ((P * g.n + c) * g.n ^ q) (r * g.n ^ q) s).x ∧
          ∀ {R : Type} (k0 : Int → Arr Int → Bool → Arr Int → Option R), calls_Share_1_l5 N (calls_Share_1_r N d) n (i : Int) (g.n : Int) (c : Int) l g s.m false sh nl best k0 = k0 (foldB (valS g l) g.n l.n ((P * g.n + c) * g.n ^ q) (r * g.n ^ q) s).m sh' nl' best' := by
      intro r
      induction r with
      | zero =>
        intro c n sh nl best s a1 a2 a3 a4 a5
        obtain ⟨n, rfl⟩ : ∃ m, n = m + 1 := ⟨n - 1, by omega⟩
        rw [Nat.zero_mul]
        refine ⟨sh, nl, best, a3, fun k _ => rfl, a5, fun {R} k0 => ?_⟩
        unfold calls_Share_1_l5 calls_Share_1_b5
        rw [ltF (show g.n ≤ c by omega), cond_false]
        rfl
      | succ r ihr =>
        intro c n sh nl best s a1 a2 a3 a4 a5
        obtain ⟨n, rfl⟩ : ∃ m, n = m + 1 := ⟨n - 1, by omega⟩
        have hc : c < g.n := by omega
        have hil : i < l.n := by omega
        have e0 : decide ((c : Int) < (g.n : Int)) = true := ltT hc
        have e1 : decide ((i : Int) < (l.n : Int)) = true := ltT hil
        have e2 : decide ((i : Int) < (sh.n : Int)) = true := by rw [a3]; exact e1
        have hsplit : foldB (valS g l) g.n l.n ((P * g.n + c) * g.n ^ q) ((r + 1) * g.n ^ q) s = foldB (valS g l) g.n l.n ((P * g.n + (c + 1)) * g.n ^ q) (r * g.n ^ q) (foldB (valS g l) g.n l.n ((P * g.n + c) * g.n ^ q) (g.n ^ q) s) := by
          rw [show (r + 1) * g.n ^ q = g.n ^ q + r * g.n ^ q by rw [Nat.succ_mul, Nat.add_comm], foldB_add, show (P * g.n + (c + 1)) * g.n ^ q = (P * g.n + c) * g.n ^ q + g.n ^ q by rw [← Nat.add_assoc, Nat.succ_mul]]
        rw [hsplit]
        obtain ⟨ds1, ds2⟩ := dig_snoc (G := g.n) (i := i) (P := P) hc
        have front : ∀ {R : Type} (k0 : Int → Arr Int → Bool → Arr Int → Option R), calls_Share_1_l5 N (calls_Share_1_r N d) (n + 1) (i : Int) (g.n : Int) (c : Int) l g s.m false sh nl best k0 =
            bif decide (inP g (l.f i) c) then calls_Share_1_r N d ((i + 1 : Nat) : Int) l g s.m false (lst intC (Arr.n sh) (setCs i (0 : Nat) (Cod.cell intC (Arr.f sh)) [SV.int IntKind.i64 (c : Int)])) nl best (fun r754 r755 r756 r757 => calls_Share_1_l5 N (calls_Share_1_r N d) n (i : Int) (g.n : Int) ((c + 1 : Nat) : Int) l g r754 false r755 r756 r757 k0)
            else calls_Share_1_l5 N (calls_Share_1_r N d) n (i : Int) (g.n : Int) ((c + 1 : Nat) : Int) l g s.m false sh nl best k0 := fun {R} k0 => by
          conv => lhs; unfold calls_Share_1_l5 calls_Share_1_b5
          rw [e0, cond_true, e1, nat_nonneg, Bool.and_self, cond_true, given_eq N (by omega), e2, Bool.and_self, w64_succ (show i < 1000000000000 by omega), w64_succ (show c < 1000000000000 by omega), Int.toNat_natCast]
          by_cases hin : inP g (l.f i) c
          · rw [decide_eq_true hin, decide_eq_true (show (0 ≤ (c : Int) ∧ (c : Int) ≤ (g.n : Int) - 1) ∧ inP g (Arr.f l i) (c : Int).toNat from ⟨by omega, hin⟩), cond_true, cond_true]
            rfl
          · rw [decide_eq_false hin, decide_eq_false (show ¬ ((0 ≤ (c : Int) ∧ (c : Int) ≤ (g.n : Int) - 1) ∧ inP g (Arr.f l i) (c : Int).toNat) from fun h => hin h.2), cond_false, cond_false]
        by_cases hin : inP g (l.f i) c
        · have sf : ∀ k, (lst intC (Arr.n sh) (setCs i (0 : Nat) (Cod.cell intC (Arr.f sh)) [SV.int IntKind.i64 (c : Int)])).f k = if k = i then (c : Int) else sh.f k := fun k => set_f sh (Arr.n sh) i (c : Int) k
          obtain ⟨sh1, nl1, best1, b1, b2, b3, b4⟩ := ih (i + 1) d (P * g.n + c) (lst intC (Arr.n sh) (setCs i (0 : Nat) (Cod.cell intC (Arr.f sh)) [SV.int IntKind.i64 (c : Int)])) nl best s (by omega) (by omega) a3 (fun k hk => by
            rw [sf]
            by_cases e : k = i
            · subst e
              rw [if_pos rfl]
              unfold dg
              rw [ds2]
            · rw [if_neg e, a4 k (by omega)]
              unfold dg
              rw [ds1 k (by omega)]) (fun k hk => by
            by_cases e : k = i
            · subst e
              rw [ds2]
              exact hin
            · rw [ds1 k (by omega)]
              exact h5 k (by omega)) (.inr (by omega)) a5
          obtain ⟨sh2, nl2, best2, c1, c2, c3, c4⟩ := ihr (c + 1) n sh1 nl1 best1 (foldB (valS g l) g.n l.n ((P * g.n + c) * g.n ^ q) (g.n ^ q) s) (by omega) (by omega) b1 (fun k hk => by
            rw [b2 k (by omega), sf, if_neg (by omega)]
            exact a4 k hk) b3
          refine ⟨sh2, nl2, best2, c1, fun k hk => by rw [c2 k hk, b2 k (by omega), sf, if_neg (by omega)], c3, fun {R} k0 => ?_⟩
          rw [front, decide_eq_true hin, cond_true, b4]
          exact c4 k0
        · have hid : foldB (valS g l) g.n l.n ((P * g.n + c) * g.n ^ q) (g.n ^ q) s = s := foldB_id _ _ _ fun n' n1 n2 => by
            have hno : ¬ Shr g l ⟨l.n, dg g.n l.n n'⟩ := fun hs => by
              have := hs.o i hil
              have hd := dig_pre (G := g.n) (i := i + 1) (q := q) (P := P * g.n + c) (n := n') n1 (by rw [Nat.succ_mul]; exact n2) (show i < i + 1 by omega)
              rw [show i + 1 + q = l.n by omega, ds2] at hd
              have e : ((dg g.n l.n n' i).toNat) = c := by unfold dg; rw [hd]; rfl
              exact hin (e ▸ this)
            rw [valS_bad hno]
            decide
          rw [hid]
          obtain ⟨sh2, nl2, best2, c1, c2, c3, c4⟩ := ihr (c + 1) n sh nl best s (by omega) (by omega) a3 a4 a5
          refine ⟨sh2, nl2, best2, c1, c2, c3, fun {R} k0 => ?_⟩
          rw [front, decide_eq_false hin, cond_false]
          exact c4 k0
    obtain ⟨sh', nl', best', g1, g2, g3, g4⟩ := loop g.n 0 N sh nl best s (by omega) (by omega) h3 h4 h7
    have ea : (P * g.n + 0) * g.n ^ q = P * g.n ^ (q + 1) := by rw [Nat.add_zero, Nat.mul_assoc, Nat.pow_succ, Nat.mul_comm (g.n ^ q)]
    have eb : g.n * g.n ^ q = g.n ^ (q + 1) := by rw [Nat.pow_succ, Nat.mul_comm]
    rw [ea, eb] at g3 g4
    refine ⟨sh', nl', best', g1, g2, g3, fun {R} k => ?_⟩
    show calls_Share_1_t N (calls_Share_1_r N d) (i : Int) l g s.m false sh nl best k = _
    unfold calls_Share_1_t
    have : ((i : Int) == (l.n : Int)) = false := by rw [beq_eq_false_iff_ne]; omega
    rw [this, cond_false]
    exact g4 k
noncomputable def bestS (g : Arr api_Car) (l : Arr api_Press) : BS := foldB (valS g l) g.n l.n 0 (g.n ^ l.n) ⟨-1, 0, fun _ => 0⟩
theorem zero_is {a : Nat → Nat → SV} (f : Nat → Int) : (lst intC (0 : Nat) a).Is 0 f := ⟨rfl, fun i hi => by omega⟩
theorem share_eq {N : Nat} (hN : 2000 < N) {g : Arr api_Car} (hgn : g.n ≤ 100) {l : Arr api_Press} (hl : l.n ≤ 1000) (he : errG g l = 0) (h6 : l.n ≤ 6) : ∃ (nl : Bool) (best : Arr Int), best.Is (bestS g l).n (bestS g l).x ∧ ∀ {R : Type} (k : Int → Bool → Arr Int → Option R), calls_Share N g l k = k 0 nl best := by
  obtain ⟨h1, h2, h3, h4⟩ := errG_zero he
  obtain ⟨sh', nl', best', g1, g2, g3, g4⟩ := sh_rec hN (by omega) h2 h3 l.n 0 N 0 (lst intC (Int.toNat (↑(Arr.n l) : Int)) (zeroC [SV.int IntKind.i64 (0 : Int)])) true (lst intC (0 : Nat) (zeroC [SV.int IntKind.i64 (0 : Int)])) ⟨-1, 0, fun _ => 0⟩ (by omega) (by omega) (Int.toNat_natCast _) (fun k hk => by omega) (fun k hk => by omega) (.inl rfl) (zero_is _)
  rw [Nat.zero_mul] at g3 g4
  refine ⟨nl', best', g3, fun {R} k => ?_⟩
  rw [calls_Share_def]
  unfold calls_Share_m
  rw [group_eq (by omega) hgn hl, he, show ((0 : Int) != 0) = false from rfl, cond_false, decide_eq_false (show ¬ ((l.n : Int) > 6) by omega), cond_false]
  have : (decide ((↑(Arr.n l) : Int) ≤ (↑(Arr.n l) : Int)) && decide ((↑(Arr.n l) : Int) ≤ (1073741824 : Int))) = true := by simp; omega
  rw [this, cond_true, calls_Share_1_def]
  unfold calls_Share_1_m
  exact g4 _
theorem w64_small {x : Nat} (h : x ≤ 1000) : w64 (x : Int) = (x : Int) := w64_eq (by omega) (by omega)
theorem sh_l8 (N : Nat) {g : Arr api_Car} (hgn : g.n ≤ 3) {l : Arr api_Press} (h6 : l.n ≤ 6) {R : Type} (k0 : Int → Option R) : ∀ (q i n : Nat), i + q = l.n → q < n → newelref07_Share_l8 N n g l ((g.n ^ i : Nat) : Int) (i : Int) k0 = k0 ((g.n ^ l.n : Nat) : Int) := by
  intro q
  induction q with
  | zero =>
    intro i n a1 a2
    obtain ⟨n, rfl⟩ : ∃ m, n = m + 1 := ⟨n - 1, by omega⟩
    have : i = l.n := by omega
    subst this
    unfold newelref07_Share_l8 newelref07_Share_b8
    rw [ltF (Nat.le_refl _), cond_false]
  | succ q ih =>
    intro i n a1 a2
    obtain ⟨n, rfl⟩ : ∃ m, n = m + 1 := ⟨n - 1, by omega⟩
    have e0 : decide ((i : Int) < (l.n : Int)) = true := ltT (by omega)
    have hb : g.n ^ (i + 1) ≤ 729 := Nat.le_trans (Nat.pow_le_pow_left hgn _) (Nat.pow_le_pow_right (by decide) (show i + 1 ≤ 6 by omega))
    have hw : w64 (((g.n ^ i : Nat) : Int) * (g.n : Int)) = ((g.n ^ (i + 1) : Nat) : Int) := by
      rw [← Int.natCast_mul, ← Nat.pow_succ]
      exact w64_small (Nat.le_trans hb (by decide))
    unfold newelref07_Share_l8 newelref07_Share_b8
    rw [e0, cond_true, hw, w64_succ (show i < 1000000000000 by omega)]
    exact ih (i + 1) n (by omega) (by omega)
theorem sh_l19 (N : Nat) {g : Arr api_Car} (hgn : g.n ≤ 3) (hg0 : 0 < g.n) (l : Arr api_Press) (h6 : l.n ≤ 6) (all least : Int) (a : Nat) (ha : a < 1000) (b b2 : Bool) (best : Arr Int) : ∀ (j n : Nat) (arr : Arr Int), j < n → arr.n = l.n → j ≤ l.n → (∀ k, j ≤ k → k < l.n → arr.f k = dg g.n l.n a k) →
    ∃ arr' : Arr Int, arr'.Is l.n (dg g.n l.n a) ∧ ∀ {R : Type} (k4 : Arr Int → Option R), newelref07_Share_l19 N n g l all least (a : Int) ((a / g.n ^ (l.n - j) : Nat) : Int) ((j : Int) - 1) b best b2 arr k4 = k4 arr' := by
  intro j
  induction j with
  | zero =>
    intro n arr h1 h2 h3 h4
    obtain ⟨n, rfl⟩ : ∃ m, n = m + 1 := ⟨n - 1, by omega⟩
    refine ⟨arr, ⟨h2, fun k hk => h4 k (Nat.zero_le _) hk⟩, fun {R} k4 => ?_⟩
    unfold newelref07_Share_l19 newelref07_Share_b19
    rw [decide_eq_false (show ¬ (((0 : Nat) : Int) - 1 ≥ 0) by omega), cond_false]
  | succ j ih =>
    intro n arr h1 h2 h3 h4
    obtain ⟨n, rfl⟩ : ∃ m, n = m + 1 := ⟨n - 1, by omega⟩
    have ej : (((j + 1 : Nat) : Int) - 1) = (j : Int) := by omega
    have hq : a / g.n ^ (l.n - (j + 1)) ≤ a := Nat.div_le_self _ _
    have hz : ((g.n : Int) == 0) = false := by rw [beq_eq_false_iff_ne]; omega
    have e1 : decide ((j : Int) < (arr.n : Int)) = true := by rw [h2]; exact ltT (by omega)
    have hdiv : w64 (Int.tdiv ((a / g.n ^ (l.n - (j + 1)) : Nat) : Int) (g.n : Int)) = ((a / g.n ^ (l.n - j) : Nat) : Int) := by
      rw [← Int.ofNat_tdiv, Nat.div_div_eq_div_mul, ← Nat.pow_succ, show (l.n - (j + 1)).succ = l.n - j by omega]
      have : a / g.n ^ (l.n - j) ≤ a := Nat.div_le_self _ _
      exact w64_small (Nat.le_trans this (by omega))
    have hmod : Int.tmod ((a / g.n ^ (l.n - (j + 1)) : Nat) : Int) (g.n : Int) = dg g.n l.n a j := by
      rw [← Int.ofNat_tmod]
      unfold dg dig
      rw [show l.n - 1 - j = l.n - (j + 1) by omega]
    have hw : w64 ((j : Int) - 1) = (j : Int) - 1 := w64_eq (by omega) (by omega)
    obtain ⟨arr', g1, g2⟩ := ih n (lst intC (Arr.n arr) (setCs j (0 : Nat) (Cod.cell intC (Arr.f arr)) [SV.int IntKind.i64 (dg g.n l.n a j)])) (by omega) h2 (by omega) (fun k k1 k2 => by
      rw [set_f]
      by_cases e : k = j
      · subst e; rw [if_pos rfl]
      · rw [if_neg e]; exact h4 k (by omega) k2)
    refine ⟨arr', g1, fun {R} k4 => ?_⟩
    unfold newelref07_Share_l19 newelref07_Share_b19
    rw [ej, decide_eq_true (show (j : Int) ≥ 0 by omega), cond_true, hz, cond_false, e1, Bool.and_self, cond_true, cond_false, hdiv, hmod, hw, Int.toNat_natCast]
    exact g2 k4
theorem sh_l14 {N : Nat} (hN : 2000 < N) {g : Arr api_Car} (hgn : g.n ≤ 3) (hg0 : 0 < g.n) (hg : carsP g) {l : Arr api_Press} (ht : tAll l) (h6 : l.n ≤ 6) : ∀ (q a n : Nat) (b : Bool) (best : Arr Int) (s : BS), a + q = g.n ^ l.n → q < n → best.Is s.n s.x →
    ∃ (b' : Bool) (best' : Arr Int), best'.Is (foldB (valS g l) g.n l.n a q s).n (foldB (valS g l) g.n l.n a q s).x ∧ ∀ {R : Type} (k2 : Bool → Arr Int → Option R), newelref07_Share_l14 N n g l ((g.n ^ l.n : Nat) : Int) s.m (a : Int) b best k2 = k2 b' best' := by
  have hb : g.n ^ l.n ≤ 729 := Nat.le_trans (Nat.pow_le_pow_left hgn _) (Nat.pow_le_pow_right (by decide) h6)
  intro q
  induction q with
  | zero =>
    intro a n b best s h1 h2 h3
    obtain ⟨n, rfl⟩ : ∃ m, n = m + 1 := ⟨n - 1, by omega⟩
    refine ⟨b, best, h3, fun {R} k2 => ?_⟩
    unfold newelref07_Share_l14 newelref07_Share_b14
    rw [ltF (show g.n ^ l.n ≤ a by omega), cond_false]
  | succ q ih =>
    intro a n b best s h1 h2 h3
    obtain ⟨n, rfl⟩ : ∃ m, n = m + 1 := ⟨n - 1, by omega⟩
    have e0 : decide ((a : Int) < ((g.n ^ l.n : Nat) : Int)) = true := ltT (by omega)
    have e1 : (decide ((↑(Arr.n l) : Int) ≤ (↑(Arr.n l) : Int)) && decide ((↑(Arr.n l) : Int) ≤ (1073741824 : Int))) = true := by simp; omega
    obtain ⟨arr, r1, r2⟩ := sh_l19 N hgn hg0 l h6 ((g.n ^ l.n : Nat) : Int) s.m a (by omega) b false best l.n N (lst intC (Int.toNat (↑(Arr.n l) : Int)) (zeroC [SV.int IntKind.i64 (0 : Int)])) (by omega) (Int.toNat_natCast _) (Nat.le_refl _) (fun k k1 k2 => by omega)
    rw [Nat.sub_self, Nat.pow_zero, Nat.div_one] at r2
    have hw : w64 ((l.n : Int) - 1) = (l.n : Int) - 1 := w64_eq (by omega) (by omega)
    have front : ∀ {R : Type} (k2 : Bool → Arr Int → Option R), newelref07_Share_l14 N (n + 1) g l ((g.n ^ l.n : Nat) : Int) s.m (a : Int) b best k2 = newelref07_longest N g l arr (fun r793 =>
     bif decide (r793 ≥ (0 : Int)) then
      bif decide (s.m < (0 : Int)) then
       newelref07_Share_l14 N n g l ((g.n ^ l.n : Nat) : Int) r793 ((a + 1 : Nat) : Int) false arr k2
      else
       bif decide (r793 < s.m) then
        newelref07_Share_l14 N n g l ((g.n ^ l.n : Nat) : Int) r793 ((a + 1 : Nat) : Int) false arr k2
       else
        newelref07_Share_l14 N n g l ((g.n ^ l.n : Nat) : Int) s.m ((a + 1 : Nat) : Int) b best k2
     else
      newelref07_Share_l14 N n g l ((g.n ^ l.n : Nat) : Int) s.m ((a + 1 : Nat) : Int) b best k2) := fun {R} k2 => by
      conv => lhs; unfold newelref07_Share_l14 newelref07_Share_b14
      rw [e0, cond_true, e1, cond_true, hw, r2, w64_succ (show a < 1000000000000 by omega)]
    show ∃ (b' : Bool) (best' : Arr Int), best'.Is (foldB (valS g l) g.n l.n (a + 1) q (stepB (valS g l) l.n (dg g.n l.n a) s)).n (foldB (valS g l) g.n l.n (a + 1) q (stepB (valS g l) l.n (dg g.n l.n a) s)).x ∧ _
    by_cases hs : Shr g l arr
    · obtain ⟨m, m1, _⟩ := refLongest_good hN (show g.n ≤ 100 by omega) hs hg ht (fun _ => (none : Option Unit))
      have hv : valS g l (dg g.n l.n a) = m := valS_good hs m1 r1.2
      have run : ∀ {R : Type} (k : Int → Option R), newelref07_longest N g l arr k = k m := fun {R} k => by
        obtain ⟨m', g1, g2⟩ := refLongest_good hN (show g.n ≤ 100 by omega) hs hg ht k
        rw [g2, g1.unique m1]
      have hm0 := m1.z
      by_cases hc : s.m < 0 ∨ m < s.m
      · have hst : stepB (valS g l) l.n (dg g.n l.n a) s = ⟨m, l.n, dg g.n l.n a⟩ := by unfold stepB; rw [hv, if_pos ⟨hm0, hc⟩]
        obtain ⟨b', best', c1, c2⟩ := ih (a + 1) n false arr ⟨m, l.n, dg g.n l.n a⟩ (by omega) (by omega) r1
        rw [hst]
        refine ⟨b', best', c1, fun {R} k2 => ?_⟩
        rw [front, run, decide_eq_true (show m ≥ 0 from hm0), cond_true]
        by_cases e : s.m < 0
        · rw [decide_eq_true e, cond_true]; exact c2 k2
        · rw [decide_eq_false e, cond_false, decide_eq_true (show m < s.m by omega), cond_true]; exact c2 k2
      · have hst : stepB (valS g l) l.n (dg g.n l.n a) s = s := by unfold stepB; rw [hv, if_neg fun h => hc h.2]
        obtain ⟨b', best', c1, c2⟩ := ih (a + 1) n b best s (by omega) (by omega) h3
        rw [hst]
        refine ⟨b', best', c1, fun {R} k2 => ?_⟩
        rw [front, run, decide_eq_true (show m ≥ 0 from hm0), cond_true, decide_eq_false (show ¬ s.m < 0 by omega), cond_false, decide_eq_false (show ¬ m < s.m by omega), cond_false]
        exact c2 k2
    · have hv : valS g l (dg g.n l.n a) = -1 := valS_bad fun h => hs (h.congr (sh' := arr) r1.1 fun k hk => (r1.2 k hk).symm)
      have hst : stepB (valS g l) l.n (dg g.n l.n a) s = s := by unfold stepB; rw [hv, if_neg fun h => absurd h.1 (by decide)]
      obtain ⟨b', best', c1, c2⟩ := ih (a + 1) n b best s (by omega) (by omega) h3
      rw [hst]
      refine ⟨b', best', c1, fun {R} k2 => ?_⟩
      rw [front, refLongest_bad hN (show g.n ≤ 100 by omega) (show l.n ≤ 1000 by omega) hs, decide_eq_false (show ¬ ((-1 : Int) ≥ 0) by decide), cond_false]
      exact c2 k2
theorem refShare_eq {N : Nat} (hN : 2000 < N) {g : Arr api_Car} (hgn : g.n ≤ 100) {l : Arr api_Press} (hl : l.n ≤ 1000) (he : errG g l = 0) (h6 : l.n ≤ 6) : ∃ (nl : Bool) (best : Arr Int), best.Is (bestS g l).n (bestS g l).x ∧ ∀ {R : Type} (k : Int → Bool → Arr Int → Option R), newelref07_Share N g l k = k 0 nl best := by
  obtain ⟨h1, h2, h3, h4⟩ := errG_zero he
  have hb : g.n ^ l.n ≤ 729 := Nat.le_trans (Nat.pow_le_pow_left h1.2 _) (Nat.pow_le_pow_right (by decide) h6)
  obtain ⟨b', best', g1, g2⟩ := sh_l14 hN h1.2 h1.1 h2 h3 h6 (g.n ^ l.n) 0 N true (lst intC (0 : Nat) (zeroC [SV.int IntKind.i64 (0 : Int)])) ⟨-1, 0, fun _ => 0⟩ (by omega) (by omega) (zero_is _)
  refine ⟨b', best', g1, fun {R} k => ?_⟩
  rw [newelref07_Share_def]
  unfold newelref07_Share_m
  rw [refGroup_eq (by omega) hgn hl, he, show ((0 : Int) != 0) = false from rfl, cond_false, decide_eq_false (show ¬ ((l.n : Int) > 6) by omega), cond_false]
  have := sh_l8 N h1.2 h6 (fun r773 => newelref07_Share_l14 N N g l r773 (-1 : Int) (0 : Int) true (lst intC (0 : Nat) (zeroC [SV.int IntKind.i64 (0 : Int)])) (fun r794 r795 => k (0 : Int) r794 r795)) l.n 0 N (by omega) (by omega)
  rw [Nat.pow_zero] at this
  exact this.trans (g2 _)
theorem share_same {N : Nat} (hN : 2000 < N) {g : Arr api_Car} (hgn : g.n ≤ 100) {l : Arr api_Press} (hl : l.n ≤ 1000) : ∃ (e : Int) (b b' : Bool) (x x' : Arr Int), x.n = x'.n ∧ x.n ≤ 1000 ∧ (∀ i, i < x.n → x.f i = x'.f i) ∧ (∀ {R : Type} (k : Int → Bool → Arr Int → Option R), calls_Share N g l k = k e b x) ∧ (∀ {R : Type} (k : Int → Bool → Arr Int → Option R), newelref07_Share N g l k = k e b' x') := by
  by_cases he : errG g l = 0
  rotate_left
  · have e0 : (errG g l != 0) = true := by simpa using he
    refine ⟨errG g l, true, true, lst intC (0 : Nat) (zeroC [SV.int IntKind.i64 (0 : Int)]), lst intC (0 : Nat) (zeroC [SV.int IntKind.i64 (0 : Int)]), rfl, Nat.zero_le 1000, fun i hi => rfl, fun {R} k => ?_, fun {R} k => ?_⟩
    · rw [calls_Share_def]
      unfold calls_Share_m
      rw [group_eq (by omega) hgn hl, e0, cond_true]
    · rw [newelref07_Share_def]
      unfold newelref07_Share_m
      rw [refGroup_eq (by omega) hgn hl, e0, cond_true]
  by_cases h6 : l.n ≤ 6
  rotate_left
  · refine ⟨2, true, true, lst intC (0 : Nat) (zeroC [SV.int IntKind.i64 (0 : Int)]), lst intC (0 : Nat) (zeroC [SV.int IntKind.i64 (0 : Int)]), rfl, Nat.zero_le 1000, fun i hi => rfl, fun {R} k => ?_, fun {R} k => ?_⟩
    · rw [calls_Share_def]
      unfold calls_Share_m
      rw [group_eq (by omega) hgn hl, he, show ((0 : Int) != 0) = false from rfl, cond_false, decide_eq_true (show (l.n : Int) > 6 by omega), cond_true]
    · rw [newelref07_Share_def]
      unfold newelref07_Share_m
      rw [refGroup_eq (by omega) hgn hl, he, show ((0 : Int) != 0) = false from rfl, cond_false, decide_eq_true (show (l.n : Int) > 6 by omega), cond_true]
  obtain ⟨b, x, x1, x2⟩ := share_eq hN hgn hl he h6
  obtain ⟨b', x', y1, y2⟩ := refShare_eq hN hgn hl he h6
  have hn : (bestS g l).n ≤ 1000 := by
    have hb := BOk.fold (val := valS g l) (G := g.n) (L := l.n) (g.n ^ l.n) 0 0 ⟨-1, 0, fun _ => 0⟩ (Nat.le_refl _) ⟨fun n h1 h2 => by omega, .inl ⟨rfl, rfl⟩⟩
    rcases hb.ex with ⟨_, e⟩ | ⟨e, _⟩
    · show (foldB (valS g l) g.n l.n 0 (g.n ^ l.n) ⟨-1, 0, fun _ => 0⟩).n ≤ 1000
      rw [e]; omega
    · show (foldB (valS g l) g.n l.n 0 (g.n ^ l.n) ⟨-1, 0, fun _ => 0⟩).n ≤ 1000
      rw [e]; omega
  exact ⟨0, b, b', x, x', by rw [x1.1, y1.1], by rw [x1.1]; exact hn, fun i hi => by rw [x1.1] at hi; rw [x1.2 i hi, y1.2 i hi], x2, y2⟩
end
end Go.Proofs.Ytlphgonhenegoaa
