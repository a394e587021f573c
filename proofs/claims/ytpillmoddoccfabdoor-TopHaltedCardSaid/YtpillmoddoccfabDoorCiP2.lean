import Derived.Test.YtpillmoddoccfabDoorH3
import Derived.Test.YtpillmoddoccfabDoorCiP1
set_option linter.unusedVariables false
set_option linter.unusedSimpArgs false
set_option maxHeartbeats 0
set_option maxRecDepth 100000
namespace Go.Proofs.YtpillmoddoccfabDoor
namespace Ci
open Go.Sx
section
variable {R : Type}
theorem contains3 {N : Nat} (hN : 10 ≤ N) (k : Bool → Option R) : slices_Contains___bool_bool_ N (lst boolC (3 : Nat) (litC [SV.bool false] [[SV.bool true], [SV.bool true], [SV.bool true]])) false k = k false := by
  obtain ⟨N, rfl⟩ : ∃ m, N = m + 4 := ⟨N - 4, by omega⟩
  rw [slices_Contains___bool_bool__def]
  unfold slices_Contains___bool_bool__m
  rw [slices_Index___bool_bool__def]
  rfl
theorem isSet_eq {N : Nat} {v : Int} {n : Nat} (hn : n ≤ 20) (hv : 0 ≤ v ∧ v ≤ ((2 ^ n : Nat) : Int) - 1) (k : Bool → Option R) : circuit_isSet N v (n : Int) k = k true := by
  rw [circuit_isSet_def]
  unfold circuit_isSet_m
  have h1 : v ≥ 0 := hv.1
  have h2 : v < ((2 ^ n : Nat) : Int) := by omega
  simp only [h1, natF, shl_eq (show n < 60 by omega), h2, decide_true, cond_true, cond_false]
theorem sets_l2 (N : Nat) {c : api_Circuit} (hc : VCi c) (kr : Int → Option R) (k0 : Unit → Option R) : ∀ (q i n : Nat), i + q = c.Switches.n → q < n →
    ixI_l2 N n c.Switches (c.Switches.n : Int) (i : Int) c kr k0 = k0 () := by
  obtain ⟨e1, e2⟩ := hz_nat hc.h
  have hs := hc.s
  intro q
  induction q with
  | zero =>
    intro i n h1 h2
    obtain ⟨n, rfl⟩ : ∃ m, n = m + 1 := ⟨n - 1, by omega⟩
    unfold ixI_l2 ixI_b2
    simp only [ltF (show c.Switches.n ≤ i by omega), cond_false]
  | succ q ih =>
    intro i n h1 h2
    obtain ⟨n, rfl⟩ : ∃ m, n = m + 1 := ⟨n - 1, by omega⟩
    unfold ixI_l2 ixI_b2
    have hset : ∀ {R : Type} (k : Bool → Option R), circuit_isSet N (c.Switches.f i) c.Hazards k = k true := fun {R} k => by
      conv => lhs; rw [e1]
      exact isSet_eq (by omega) (hc.sw i (by omega)) k
    simp only [ltT (show i < c.Switches.n by omega), nat_nonneg, Bool.and_self, cond_true, Int.toNat_natCast, w64_succ (show i < 1000000000000 by omega), circuit_Check_1_def, circuit_Check_1_m, hset, Bool.not_true, cond_false]
    exact ih (i + 1) n (by omega) (by omega)
theorem ones_l2 (N : Nat) {a : Arr Int} (hn : a.n ≤ 24) (ha : ∀ i, i < a.n → a.f i = 1) (kr : Int → Option R) (k0 : Unit → Option R) : ∀ (q i n : Nat), i + q = a.n → q < n →
    ixI_v2_l2 N n a (a.n : Int) (i : Int) kr k0 = k0 () := by
  intro q
  induction q with
  | zero =>
    intro i n h1 h2
    obtain ⟨n, rfl⟩ : ∃ m, n = m + 1 := ⟨n - 1, by omega⟩
    unfold ixI_v2_l2 ixI_v2_b2
    simp only [ltF (show a.n ≤ i by omega), cond_false]
  | succ q ih =>
    intro i n h1 h2
    obtain ⟨n, rfl⟩ : ∃ m, n = m + 1 := ⟨n - 1, by omega⟩
    unfold ixI_v2_l2 ixI_v2_b2
    simp only [ltT (show i < a.n by omega), nat_nonneg, Bool.and_self, cond_true, Int.toNat_natCast, w64_succ (show i < 1000000000000 by omega), circuit_Check_2_def, circuit_Check_2_m, ha i (by omega), bne_self_eq_false, cond_false]
    exact ih (i + 1) n (by omega) (by omega)
def lowA (o : Arr Int) (lo : Int) : Nat → Int
  | 0 => lo
  | k + 1 => o.f k + 1
theorem asc_l2 (N : Nat) {o : Arr Int} (hn : o.n ≤ 100) {lo hi : Int} (h : ∀ k, k < o.n → lowA o lo k ≤ o.f k ∧ o.f k < hi) (hb : ∀ k, k < o.n → 0 ≤ o.f k ∧ o.f k ≤ 1000) (kr : Bool → Option R) (k0 : Unit → Option R) : ∀ (q k n : Nat), k + q = o.n → q < n →
    circuit_ascending_l2 N n (lowA o lo k) hi o (o.n : Int) (k : Int) kr k0 = k0 () := by
  intro q
  induction q with
  | zero =>
    intro k n h1 h2
    obtain ⟨n, rfl⟩ : ∃ m, n = m + 1 := ⟨n - 1, by omega⟩
    unfold circuit_ascending_l2 circuit_ascending_b2
    simp only [ltF (show o.n ≤ k by omega), cond_false]
  | succ q ih =>
    intro k n h1 h2
    obtain ⟨n, rfl⟩ : ∃ m, n = m + 1 := ⟨n - 1, by omega⟩
    obtain ⟨g1, g2⟩ := h k (by omega)
    obtain ⟨g3, g4⟩ := hb k (by omega)
    unfold circuit_ascending_l2 circuit_ascending_b2
    have c1 : ¬ o.f k < lowA o lo k := by omega
    have c2 : ¬ o.f k ≥ hi := by omega
    have e1 : w64 (o.f k + 1) = o.f k + 1 := w64_eq (by omega) (by omega)
    simp only [ltT (show k < o.n by omega), nat_nonneg, Bool.and_self, cond_true, Int.toNat_natCast, w64_succ (show k < 1000000000000 by omega), c1, c2, decide_false, cond_false, e1]
    exact ih (k + 1) n (by omega) (by omega)
theorem asc_eq {N : Nat} (hN : 200 ≤ N) {o : Arr Int} (hn : o.n ≤ 100) {lo hi : Int} (h : ∀ k, k < o.n → lowA o lo k ≤ o.f k ∧ o.f k < hi) (hb : ∀ k, k < o.n → 0 ≤ o.f k ∧ o.f k ≤ 1000) (k : Bool → Option R) : circuit_ascending N o lo hi k = k true := by
  rw [circuit_ascending_def]
  unfold circuit_ascending_m
  exact asc_l2 N hn h hb _ _ o.n 0 N (by omega) (by omega)
theorem count_l18 (N : Nat) {c : api_Circuit} (hw : c.Wires.n ≤ 24) (i : Nat) (b : Bool) (hn8 : (wOf c i).n ≤ 8) (hb : ∀ k, k < (wOf c i).n → 0 ≤ (wOf c i).f k ∧ (wOf c i).f k ≤ (c.Wires.n : Int) - 1) (ws : Arr api_Wire) (nw iv : Int) (u : Nat → Int) : ∀ (q k n : Nat) (a : Arr Int), k + q = (wOf c i).n → q < n → CA c a (foldO (wOf c i) u k) →
    ∃ a', CA c a' (foldO (wOf c i) u (wOf c i).n) ∧ ∀ {R : Type} (k3 : Arr Int → Option R), circuit_Check_l18 N n ws nw iv (wOf c i) ((wOf c i).n : Int) (k : Int) c b a k3 = k3 a' := by
  intro q
  induction q with
  | zero =>
    intro k n a h1 h2 h3
    obtain ⟨n, rfl⟩ : ∃ m, n = m + 1 := ⟨n - 1, by omega⟩
    obtain rfl : k = (wOf c i).n := by omega
    refine ⟨a, h3, fun {R} k3 => ?_⟩
    unfold circuit_Check_l18 circuit_Check_b18
    simp only [ltF (Nat.le_refl (wOf c i).n), cond_false]
  | succ q ih =>
    intro k n a h1 h2 h3
    obtain ⟨n, rfl⟩ : ∃ m, n = m + 1 := ⟨n - 1, by omega⟩
    have g := hb k (by omega)
    obtain ⟨a', g1, g2⟩ := ih (k + 1) n _ (by omega) (by omega) (h3.step g)
    refine ⟨a', g1, fun {R} k3 => ?_⟩
    unfold circuit_Check_l18 circuit_Check_b18
    have e3 : (decide ((0 : Int) ≤ (wOf c i).f k) && decide ((wOf c i).f k < (a.n : Int))) = true := by rw [h3.1]; simp; omega
    simp only [ltT (show k < (wOf c i).n by omega), nat_nonneg, Bool.and_self, cond_true, Int.toNat_natCast (n := k), w64_succ (show k < 1000000000000 by omega), e3]
    exact g2 k3
theorem of_range {c : api_Circuit} {i : Nat} (h : ∀ k, k < (wOf c i).n → ofP c i k) : ∀ k, k < (wOf c i).n → (i : Int) + 1 ≤ (wOf c i).f k ∧ (wOf c i).f k ≤ (c.Wires.n : Int) - 1 :=
  fun k hk => ⟨of_gt k (fun m hm => h m (by omega)), (h k hk).2⟩
theorem check_l6 (N : Nat) (hN : 300 ≤ N) {c : api_Circuit} (hc : VCi c) (b : Bool) : ∀ (q i n : Nat) (a : Arr Int), i + q = c.Wires.n → q < n → CA c a (usedS c i) →
    ∃ a', CA c a' (usedS c c.Wires.n) ∧ ∀ {R : Type} (kr : Int → Option R) (k0 : Arr Int → Option R), circuit_Check_l6 N n c.Wires (c.Wires.n : Int) (i : Int) c b a kr k0 = k0 a' := by
  have hw := hc.w
  have hs := hc.s
  intro q
  induction q with
  | zero =>
    intro i n a h1 h2 h3
    obtain ⟨n, rfl⟩ : ∃ m, n = m + 1 := ⟨n - 1, by omega⟩
    obtain rfl : i = c.Wires.n := by omega
    refine ⟨a, h3, fun {R} kr k0 => ?_⟩
    unfold circuit_Check_l6 circuit_Check_b6
    simp only [ltF (Nat.le_refl c.Wires.n), cond_false]
  | succ q ih =>
    intro i n a h1 h2 h3
    obtain ⟨n, rfl⟩ : ∃ m, n = m + 1 := ⟨n - 1, by omega⟩
    have hi : i < c.Wires.n := by omega
    rcases hc.k i hi with ⟨hk, hn, ho⟩ | ⟨hk, hn, ho⟩
    · obtain ⟨a', g1, g2⟩ := ih (i + 1) n a (by omega) (by omega) (by show CA c a (if (c.Wires.f i).Kind = 1 then _ else _); rw [if_pos hk]; exact h3)
      refine ⟨a', g1, fun {R} kr k0 => ?_⟩
      unfold circuit_Check_l6 circuit_Check_b6
      have d1 : ((c.Wires.f i).Kind == 1) = true := by simpa using hk
      have d2 : (((wOf c i).n : Int) != 1) = false := by simp; omega
      have asc : ∀ {R : Type} (k : Bool → Option R), circuit_ascending N (wOf c i) 0 (c.Switches.n : Int) k = k true := fun {R} k =>
        asc_eq (by omega) (by omega) (fun k hk => by obtain rfl : k = 0 := by omega
                                                     exact ⟨ho.1, by omega⟩) (fun k hk => by obtain rfl : k = 0 := by omega
                                                                                             omega) k
      simp only [ltT hi, nat_nonneg, Bool.and_self, cond_true, Int.toNat_natCast (n := i), w64_succ (show i < 1000000000000 by omega), show (c.Wires.f i).Of = wOf c i from rfl, d1, d2, cond_false, asc, Bool.not_true]
      exact g2 kr k0
    · have hr := of_range ho
      have hne : ¬ (c.Wires.f i).Kind = 1 := by omega
      have hu : usedS c (i + 1) = foldO (wOf c i) (usedS c i) (wOf c i).n := by show (if (c.Wires.f i).Kind = 1 then _ else _) = _; rw [if_neg hne]
      obtain ⟨a1, g3, g4⟩ := count_l18 N (by omega) i b hn.2 (fun k hk => ⟨by have := (hr k hk).1; omega, (hr k hk).2⟩) c.Wires (c.Wires.n : Int) (i : Int) (usedS c i) (wOf c i).n 0 N a (by omega) (by omega) h3
      obtain ⟨a', g1, g2⟩ := ih (i + 1) n a1 (by omega) (by omega) (by rw [hu]; exact g3)
      refine ⟨a', g1, fun {R} kr k0 => ?_⟩
      have d1 : ((c.Wires.f i).Kind == 1) = false := by simpa using hne
      have d4 : decide (((wOf c i).n : Int) < 1) = false := by simp; omega
      have d5 : decide (((wOf c i).n : Int) > 8) = false := by simp; omega
      have asc : ∀ {R : Type} (k : Bool → Option R), circuit_ascending N (wOf c i) (((i + 1 : Nat) : Nat) : Int) (c.Wires.n : Int) k = k true := fun {R} k =>
        asc_eq (by omega) (by omega) (fun k hk => ⟨by
          have := (ho k hk).1
          cases k with
          | zero => show ((i + 1 : Nat) : Int) ≤ _; have h' : (i : Int) + 1 ≤ (wOf c i).f 0 := this; omega
          | succ k => exact this, by have := (hr k hk).2; omega⟩) (fun k hk => by have := hr k hk; omega) k
      have fin : ∀ {R : Type} (kr : Int → Option R) (k0 : Arr Int → Option R), circuit_Check_l18 N N c.Wires (c.Wires.n : Int) (i : Int) (wOf c i) ((wOf c i).n : Int) 0 c b a (fun r319 => circuit_Check_l6 N n c.Wires (c.Wires.n : Int) ((i + 1 : Nat) : Int) c b r319 kr k0) = k0 a' := fun {R} kr k0 => (g4 _).trans (g2 kr k0)
      unfold circuit_Check_l6 circuit_Check_b6
      rcases hk with hk | hk
      · have d2 : ((c.Wires.f i).Kind == 2) = true := by simpa using hk
        simp only [ltT hi, nat_nonneg, Bool.and_self, cond_true, Int.toNat_natCast (n := i), w64_succ (show i < 1000000000000 by omega), show (c.Wires.f i).Of = wOf c i from rfl, d1, d2, d4, d5, cond_false, asc, Bool.not_true]
        exact fin kr k0
      · have d2 : ((c.Wires.f i).Kind == 2) = false := by simp; omega
        have d3 : ((c.Wires.f i).Kind == 3) = true := by simpa using hk
        simp only [ltT hi, nat_nonneg, Bool.and_self, cond_true, Int.toNat_natCast (n := i), w64_succ (show i < 1000000000000 by omega), show (c.Wires.f i).Of = wOf c i from rfl, d1, d2, d3, d4, d5, cond_false, asc, Bool.not_true]
        exact fin kr k0
theorem fold_zero {o : Arr Int} {u : Nat → Int} (hu : u 0 = 0) : ∀ k, (∀ m, m < k → 1 ≤ o.f m) → foldO o u k 0 = 0 := by
  intro k
  induction k with
  | zero => intro _; exact hu
  | succ k ih =>
    intro h
    show (if 0 = (o.f k).toNat then _ else foldO o u k 0) = 0
    have := h k (by omega)
    rw [if_neg (by omega)]
    exact ih (fun m hm => h m (by omega))
theorem used_zero {c : api_Circuit} (hc : VCi c) : ∀ i, i ≤ c.Wires.n → usedS c i 0 = 0 := by
  intro i
  induction i with
  | zero => intro _; rfl
  | succ i ih =>
    intro hi
    show (if (c.Wires.f i).Kind = 1 then usedS c i else foldO (wOf c i) (usedS c i) (wOf c i).n) 0 = 0
    rcases hc.k i (by omega) with ⟨hk, hn, ho⟩ | ⟨hk, hn, ho⟩
    · rw [if_pos hk]; exact ih (by omega)
    · rw [if_neg (by omega)]
      exact fold_zero (ih (by omega)) _ (fun m hm => by have := (of_range ho m hm).1; omega)
theorem checkCi {N : Nat} (hN : 300 ≤ N) {c : api_Circuit} (hc : VCi c) (k : Int → Option R) : circuit_Check N c k = k 0 := by
  have hw := hc.w
  have hs := hc.s
  obtain ⟨a, h1, h2⟩ := check_l6 N hN hc false c.Wires.n 0 N _ (by omega) (by omega) CA.zero
  rw [circuit_Check_def]
  unfold circuit_Check_m
  have c1 : c.Hazards ≥ 1 := hc.h.1
  have c2 : (c.Switches.n : Int) ≥ 1 := by omega
  have c3 : (c.Wires.n : Int) ≥ 1 := by omega
  have c4 : c.Hazards ≤ 8 := hc.h.2
  have c5 : (c.Switches.n : Int) ≤ 12 := by omega
  have c6 : (c.Wires.n : Int) ≤ 24 := by omega
  have e1 : (decide ((c.Wires.n : Int) ≤ (c.Wires.n : Int)) && decide ((c.Wires.n : Int) ≤ 1073741824)) = true := by simp; omega
  simp only [c1, c2, c3, c4, c5, c6, decide_true, cond_true, contains3 (show 10 ≤ N by omega), cond_false]
  rw [coI_def]
  unfold coI_m
  rw [ixI_def]
  unfold ixI_m
  refine (sets_l2 N hc _ _ c.Switches.n 0 N (by omega) (by omega)).trans ?_
  have e0 : decide ((-1 : Int) ≥ 0) = false := rfl
  simp only [e0, cond_false, e1, cond_true]
  refine (h2 _ _).trans ?_
  have hn := h1.1
  have z : a.f 0 = 0 := by rw [h1.2 0 (by omega)]; exact used_zero hc _ (Nat.le_refl _)
  have e2 : decide ((0 : Int) < (a.n : Int)) = true := by simp; omega
  have e3 : (a.f (Int.toNat 0) != 0) = false := by show (a.f 0 != 0) = false; rw [z]; rfl
  have e4 : (decide ((1 : Int) ≤ (a.n : Int)) && decide ((a.n : Int) ≤ (a.n : Int))) = true := by simp; omega
  simp only [e2, e3, e4, cond_true, cond_false]
  rw [coI_v2_def]
  unfold coI_v2_m
  rw [ixI_v2_def]
  unfold ixI_v2_m
  have hn' : (lst intC (Int.toNat (↑(Arr.n a) : Int) - Int.toNat (1 : Int)) fun (i j : Nat) ↦ Cod.cell intC (Arr.f a) (Int.toNat (1 : Int) + i) j).n = a.n - 1 := by show Int.toNat (a.n : Int) - 1 = _; rw [Int.toNat_natCast]
  refine (ones_l2 N (by rw [hn']; omega) (fun i hi => ?_) _ _ _ 0 N (Nat.zero_add _) (by rw [hn']; omega)).trans ?_
  · rw [hn'] at hi
    show a.f (1 + i) = 1
    rw [h1.2 (1 + i) (by omega)]
    exact hc.u (1 + i) (by omega) (by omega)
  · simp only [e0, cond_false]
end
end Ci
end Go.Proofs.YtpillmoddoccfabDoor
