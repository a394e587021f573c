import Derived.Test.YtpillmoddoccfabDoorCiP2
set_option linter.unusedVariables false
set_option linter.unusedSimpArgs false
set_option maxHeartbeats 0
set_option maxRecDepth 100000
namespace Go.Proofs.YtpillmoddoccfabDoor
namespace Ci
open Go.Sx
def swS (c : api_Circuit) (hz cl s : Nat) : Bool := cl.testBit s || ((c.Switches.f s).toNat &&& hz == 0)
def condS (c : api_Circuit) (hz cl : Nat) : Nat → Nat → Bool
  | 0, _ => false
  | d + 1, i => bif (c.Wires.f i).Kind == 1 then swS c hz cl ((wOf c i).f 0).toNat
    else bif (c.Wires.f i).Kind == 3 then (List.range (wOf c i).n).any (fun k => condS c hz cl d ((wOf c i).f k).toNat)
    else (List.range (wOf c i).n).all (fun k => condS c hz cl d ((wOf c i).f k).toNat)
theorem cond_mono {c : api_Circuit} {hz cl hz' cl' : Nat} (hh : ∀ i, hz'.testBit i = true → hz.testBit i = true) (hc : ∀ i, cl.testBit i = true → cl'.testBit i = true) : ∀ d i, condS c hz cl d i = true → condS c hz' cl' d i = true := by
  intro d
  induction d with
  | zero => intro i h; cases h
  | succ d ih =>
    intro i h
    unfold condS at h ⊢
    cases h1 : (c.Wires.f i).Kind == 1 with
    | true =>
      rw [h1] at h
      simp only [cond_true] at h ⊢
      unfold swS at h ⊢
      rw [Bool.or_eq_true] at h ⊢
      rcases h with h | h
      · exact .inl (hc _ h)
      · right
        have h0 : (c.Switches.f ((wOf c i).f 0).toNat).toNat &&& hz = 0 := by simpa using h
        have : (c.Switches.f ((wOf c i).f 0).toNat).toNat &&& hz' = 0 := by
          apply Nat.eq_of_testBit_eq
          intro j
          rw [Nat.testBit_and, Nat.zero_testBit]
          cases hj : hz'.testBit j with
          | false => simp
          | true =>
            have := congrArg (fun x => x.testBit j) h0
            simp only [Nat.testBit_and, Nat.zero_testBit, hh j hj, Bool.and_true] at this
            rw [this]; rfl
        rw [this]; rfl
    | false =>
      rw [h1] at h
      simp only [cond_false] at h ⊢
      cases h3 : (c.Wires.f i).Kind == 3 with
      | true =>
        rw [h3] at h
        simp only [cond_true, List.any_eq_true] at h ⊢
        obtain ⟨k, hk, hv⟩ := h
        exact ⟨k, hk, ih _ hv⟩
      | false =>
        rw [h3] at h
        simp only [cond_false, List.all_eq_true] at h ⊢
        exact fun k hk => ih _ (h k hk)
section
variable {R : Type}
theorem sw_eq (N : Nat) {c : api_Circuit} (hc : VCi c) {hz cl : Nat} (hhz : hz < 256) (hcl : cl < 4096) {s : Nat} (hs : s < c.Switches.n) (k : Bool → Option R) : circuit_state_conducts N ⟨c, hz, cl, 0⟩ (s : Int) k = k (swS c hz cl s) := by
  have hsn := hc.s
  have hv := hc.sw s hs
  have hp := pow_le (hz_nat hc.h).2
  rw [circuit_state_conducts_def]
  unfold circuit_state_conducts_m
  have o1 : (w64 (↑(BitVec.toNat (BitVec.ofInt (IntKind.bits IntKind.i64) (Int.fdiv 0 ((2 : Int) ^ min s (IntKind.bits IntKind.i64))) &&& BitVec.ofInt (IntKind.bits IntKind.i64) (1 : Int))) : Int) == (0 : Int)) = true :=
    (bit64_eq0 (a := 0) (by omega) (by omega) (show s < 64 by omega)).trans (by rw [show (0 : Int).toNat = 0 from rfl, Nat.zero_testBit]; rfl)
  have o2 : w64 (↑(BitVec.toNat (BitVec.ofInt (IntKind.bits IntKind.i64) (Int.fdiv (cl : Int) ((2 : Int) ^ min s (IntKind.bits IntKind.i64))) &&& BitVec.ofInt (IntKind.bits IntKind.i64) (1 : Int))) : Int) = if cl.testBit s then 1 else 0 :=
    (bit64 (a := (cl : Int)) (by omega) (by omega) (show s < 64 by omega)).trans (by rw [Int.toNat_natCast])
  have o3 : (w64 (↑(BitVec.toNat (BitVec.ofInt (IntKind.bits IntKind.i64) (c.Switches.f s) &&& BitVec.ofInt (IntKind.bits IntKind.i64) (hz : Int))) : Int) == (0 : Int)) = ((c.Switches.f s).toNat &&& hz == 0) := by
    have e : c.Switches.f s = ((c.Switches.f s).toNat : Int) := by omega
    conv => lhs; rw [e]
    have := and64 (a := (c.Switches.f s).toNat) (b := hz) (by omega) (by omega)
    unfold w64
    rw [this]
    cases h : ((c.Switches.f s).toNat &&& hz == 0) with
    | true => rw [eq_of_beq h]; rfl
    | false => simp at h ⊢; exact_mod_cast h
  have hlt : (decide ((0 : Int) ≤ (s : Int)) && decide ((s : Int) < (c.Switches.n : Int))) = true := by simp; omega
  simp only [natF, cond_false, Int.toNat_natCast, o1, cond_true, o2, o3, hlt]
  unfold swS
  cases cl.testBit s with
  | true => rfl
  | false => simp only [Bool.false_eq_true, if_false, show ((0 : Int) == 1) = false from rfl, cond_false, Bool.false_or]
theorem any_l2 (N : Nat) (rf : circuit_state → Int → (Bool → Option R) → Option R) {o : Arr Int} (hn : o.n ≤ 1000) (st : circuit_state) (g : Nat → Bool) (hrf : ∀ m, m < o.n → ∀ k, rf st (o.f m) k = k (g m)) (kr : Int → Option R) (k0 : Unit → Option R) : ∀ (q i n : Nat), i + q = o.n → q < n → (∀ m, m < i → g m = false) →
    (∃ m : Nat, m < o.n ∧ g m = true ∧ ixI_v3_l2 N rf n o st (o.n : Int) (i : Int) kr k0 = kr (m : Int)) ∨ ((∀ m, m < o.n → g m = false) ∧ ixI_v3_l2 N rf n o st (o.n : Int) (i : Int) kr k0 = k0 ()) := by
  intro q
  induction q with
  | zero =>
    intro i n h1 h2 h3
    obtain ⟨n, rfl⟩ : ∃ m, n = m + 1 := ⟨n - 1, by omega⟩
    refine .inr ⟨fun m hm => h3 m (by omega), ?_⟩
    unfold ixI_v3_l2 ixI_v3_b2
    simp only [ltF (show o.n ≤ i by omega), cond_false]
  | succ q ih =>
    intro i n h1 h2 h3
    obtain ⟨n, rfl⟩ : ∃ m, n = m + 1 := ⟨n - 1, by omega⟩
    unfold ixI_v3_l2 ixI_v3_b2
    simp only [ltT (show i < o.n by omega), nat_nonneg, Bool.and_self, cond_true, Int.toNat_natCast, w64_succ (show i < 1000000000000 by omega), hrf i (by omega)]
    cases hg : g i with
    | true => exact .inl ⟨i, by omega, hg, rfl⟩
    | false =>
      simp only [cond_false]
      exact ih (i + 1) n (by omega) (by omega) (fun m hm => by
        by_cases e : m = i
        · subst e; exact hg
        · exact h3 m (by omega))
theorem any_eq {N : Nat} (hN : 2000 ≤ N) (rf : circuit_state → Int → (Bool → Option R) → Option R) {o : Arr Int} (hn : o.n ≤ 1000) (st : circuit_state) (g : Nat → Bool) (hrf : ∀ m, m < o.n → ∀ k, rf st (o.f m) k = k (g m)) (k : Bool → Option R) :
    coI_v3 N rf o st k = k ((List.range o.n).any g) := by
  rw [coI_v3_def]
  unfold coI_v3_m
  rw [ixI_v3_def]
  unfold ixI_v3_m
  rcases any_l2 N rf hn st g hrf (fun r456 => k (decide (r456 ≥ 0))) (fun _ => k (decide ((-1 : Int) ≥ 0))) o.n 0 N (by omega) (by omega) (fun m hm => by omega) with ⟨m, h1, h2, h3⟩ | ⟨h1, h2⟩
  · refine h3.trans ?_
    have e1 : decide ((m : Int) ≥ 0) = true := by simp
    have e2 : (List.range o.n).any g = true := List.any_eq_true.2 ⟨m, List.mem_range.2 h1, h2⟩
    rw [e1, e2]
  · refine h2.trans ?_
    have e2 : (List.range o.n).any g = false := by
      rw [List.any_eq_false]
      intro m hm
      rw [h1 m (List.mem_range.1 hm)]; simp
    rw [e2]; rfl
theorem all_l2 (N : Nat) (rf : circuit_state → Int → (Bool → Option R) → Option R) {o : Arr Int} (hn : o.n ≤ 1000) (c : api_Circuit) (hz cl op : Int) (g : Nat → Bool) (hrf : ∀ m, m < o.n → ∀ k, rf ⟨c, hz, cl, op⟩ (o.f m) k = k (g m)) (kr : Int → Option R) (k0 : Unit → Option R) : ∀ (q i n : Nat), i + q = o.n → q < n → (∀ m, m < i → g m = true) →
    (∃ m : Nat, m < o.n ∧ g m = false ∧ ixI_v4_l2 N rf n o (o.n : Int) (i : Int) ⟨c, hz, cl, op⟩ kr k0 = kr (m : Int)) ∨ ((∀ m, m < o.n → g m = true) ∧ ixI_v4_l2 N rf n o (o.n : Int) (i : Int) ⟨c, hz, cl, op⟩ kr k0 = k0 ()) := by
  intro q
  induction q with
  | zero =>
    intro i n h1 h2 h3
    obtain ⟨n, rfl⟩ : ∃ m, n = m + 1 := ⟨n - 1, by omega⟩
    refine .inr ⟨fun m hm => h3 m (by omega), ?_⟩
    unfold ixI_v4_l2 ixI_v4_b2
    simp only [ltF (show o.n ≤ i by omega), cond_false]
  | succ q ih =>
    intro i n h1 h2 h3
    obtain ⟨n, rfl⟩ : ∃ m, n = m + 1 := ⟨n - 1, by omega⟩
    have hw : ∀ k, circuit_state_wire_1 N rf (o.f i) ⟨c, hz, cl, op⟩ k = k (!g i) := fun k => by
      rw [circuit_state_wire_1_def]
      unfold circuit_state_wire_1_m
      exact hrf i (by omega) _
    unfold ixI_v4_l2 ixI_v4_b2
    simp only [ltT (show i < o.n by omega), nat_nonneg, Bool.and_self, cond_true, Int.toNat_natCast, w64_succ (show i < 1000000000000 by omega), hw]
    cases hg : g i with
    | false => exact .inl ⟨i, by omega, hg, rfl⟩
    | true =>
      simp only [Bool.not_true, cond_false]
      exact ih (i + 1) n (by omega) (by omega) (fun m hm => by
        by_cases e : m = i
        · subst e; exact hg
        · exact h3 m (by omega))
theorem all_eq {N : Nat} (hN : 2000 ≤ N) (rf : circuit_state → Int → (Bool → Option R) → Option R) {o : Arr Int} (hn : o.n ≤ 1000) (c : api_Circuit) (hz cl op : Int) (g : Nat → Bool) (hrf : ∀ m, m < o.n → ∀ k, rf ⟨c, hz, cl, op⟩ (o.f m) k = k (g m)) (k : Bool → Option R) :
    coI_v4 N rf o ⟨c, hz, cl, op⟩ k = k (!(List.range o.n).all g) := by
  rw [coI_v4_def]
  unfold coI_v4_m
  rw [ixI_v4_def]
  unfold ixI_v4_m
  rcases all_l2 N rf hn c hz cl op g hrf (fun r456 => k (decide (r456 ≥ 0))) (fun _ => k (decide ((-1 : Int) ≥ 0))) o.n 0 N (by omega) (by omega) (fun m hm => by omega) with ⟨m, h1, h2, h3⟩ | ⟨h1, h2⟩
  · refine h3.trans ?_
    have e1 : decide ((m : Int) ≥ 0) = true := by simp
    have e2 : (List.range o.n).all g = false := by
      rw [List.all_eq_false]
      exact ⟨m, List.mem_range.2 h1, by rw [h2]; simp⟩
    rw [e1, e2]; rfl
  · refine h2.trans ?_
    have e2 : (List.range o.n).all g = true := List.all_eq_true.2 fun m hm => h1 m (List.mem_range.1 hm)
    rw [e2]; rfl
theorem wire_r {N : Nat} (hN : 2000 ≤ N) {c : api_Circuit} (hc : VCi c) {hz cl : Nat} (hhz : hz < 256) (hcl : cl < 4096) : ∀ (d i : Nat), i < c.Wires.n → c.Wires.n - i ≤ d → ∀ k : Bool → Option R, circuit_state_wire_r N d ⟨c, hz, cl, 0⟩ (i : Int) k = k (condS c hz cl d i) := by
  have hw := hc.w
  intro d
  induction d with
  | zero => intro i h1 h2; omega
  | succ d ih =>
    intro i h1 h2 k
    unfold circuit_state_wire_r circuit_state_wire_t condS
    have hlt : (decide ((0 : Int) ≤ (i : Int)) && decide ((i : Int) < (c.Wires.n : Int))) = true := by simp; omega
    simp only [hlt, cond_true, Int.toNat_natCast, show (c.Wires.f i).Of = wOf c i from rfl]
    rcases hc.k i h1 with ⟨hk, hn, ho⟩ | ⟨hk, hn, ho⟩
    · have d1 : ((c.Wires.f i).Kind == 1) = true := by simpa using hk
      have d2 : decide ((0 : Int) < ((wOf c i).n : Int)) = true := by simp; omega
      simp only [d1, d2, cond_true]
      have e : (wOf c i).f (Int.toNat 0) = (((wOf c i).f 0).toNat : Int) := by show (wOf c i).f 0 = _; omega
      rw [e]
      exact sw_eq N hc hhz hcl (by omega) _
    · have hr := of_range ho
      have d1 : ((c.Wires.f i).Kind == 1) = false := by simp; omega
      have hrf : ∀ m, m < (wOf c i).n → ∀ k : Bool → Option R, circuit_state_wire_r N d ⟨c, hz, cl, 0⟩ ((wOf c i).f m) k = k (condS c hz cl d ((wOf c i).f m).toNat) := fun m hm k => by
        have := hr m hm
        have e : (wOf c i).f m = (((wOf c i).f m).toNat : Int) := by omega
        conv => lhs; rw [e]
        exact ih _ (by omega) (by omega) k
      simp only [d1, cond_false]
      rcases hk with hk | hk
      · have d2 : ((c.Wires.f i).Kind == 3) = false := by simp; omega
        simp only [d2, cond_false]
        rw [all_eq hN _ (by omega) c hz cl 0 (fun m => condS c hz cl d ((wOf c i).f m).toNat) hrf]
        simp only [Bool.not_not]
      · have d2 : ((c.Wires.f i).Kind == 3) = true := by simpa using hk
        simp only [d2, cond_true]
        rw [any_eq hN _ (by omega) ⟨c, hz, cl, 0⟩ (fun m => condS c hz cl d ((wOf c i).f m).toNat) hrf]
theorem wire_eq {N : Nat} (hN : 2000 ≤ N) {c : api_Circuit} (hc : VCi c) {hz cl : Nat} (hhz : hz < 256) (hcl : cl < 4096) (k : Bool → Option R) : circuit_state_wire N ⟨c, hz, cl, 0⟩ 0 k = k (condS c hz cl N 0) := by
  have hw := hc.w
  rw [circuit_state_wire_def]
  exact wire_r hN hc hhz hcl N 0 (by omega) (by omega) k
end
theorem weak_l2 {N : Nat} (hN : 2000 ≤ N) {c : api_Circuit} (hc : VCi c) {cl : Nat} (hcl : cl < 4096) : ∀ (q i n : Nat) (b : Bool) (a : Arr Int), i + q = c.Hazards.toNat → q < n → a.n ≤ i → (a.n = 0 → ∀ h, h < i → condS c (2 ^ h) cl N 0 = false) →
    ∃ (b' : Bool) (a' : Arr Int), a'.n ≤ 8 ∧ (a'.n = 0 → ∀ h, h < c.Hazards.toNat → condS c (2 ^ h) cl N 0 = false) ∧ ∀ {R : Type} (k0 : Bool → Arr Int → Option R), circuit_weak_l2 N n (cl : Int) c.Hazards (i : Int) c b a k0 = k0 b' a' := by
  obtain ⟨e1, e2⟩ := hz_nat hc.h
  intro q
  induction q with
  | zero =>
    intro i n b a h1 h2 h3 h4
    obtain ⟨n, rfl⟩ : ∃ m, n = m + 1 := ⟨n - 1, by omega⟩
    refine ⟨b, a, by omega, fun h j hj => h4 h j (by omega), fun {R} k0 => ?_⟩
    unfold circuit_weak_l2 circuit_weak_b2
    have : decide ((i : Int) < c.Hazards) = false := by simp; omega
    simp only [this, cond_false]
  | succ q ih =>
    intro i n b a h1 h2 h3 h4
    obtain ⟨n, rfl⟩ : ∃ m, n = m + 1 := ⟨n - 1, by omega⟩
    have d1 : decide ((i : Int) < c.Hazards) = true := by simp; omega
    have hp := pow_le (show i ≤ 7 by omega)
    have hroom : room (a.n + 1) = true := room_of (by omega)
    cases hw : condS c (2 ^ i) cl N 0 with
    | true =>
      obtain ⟨b', a', g1, g2, g3⟩ := ih (i + 1) n false (lst intC (Arr.n a + (1 : Nat)) (catC (Arr.n a) (Cod.cell intC (Arr.f a)) (litC [SV.int IntKind.i64 (0 : Int)] [[SV.int IntKind.i64 (i : Int)]]))) (by omega) (by omega) (by show a.n + 1 ≤ i + 1; omega) (fun h => by have h' : a.n + 1 = 0 := h; omega)
      refine ⟨b', a', g1, g2, fun {R} k0 => ?_⟩
      unfold circuit_weak_l2 circuit_weak_b2
      simp only [d1, natF, cond_true, cond_false, shl_eq (show i < 60 by omega), wire_eq hN hc (show 2 ^ i < 256 by omega) hcl, hw, hroom, w64_succ (show i < 1000000000000 by omega)]
      exact g3 k0
    | false =>
      obtain ⟨b', a', g1, g2, g3⟩ := ih (i + 1) n b a (by omega) (by omega) (by omega) (fun h j hj => by
        by_cases e : j = i
        · subst e; exact hw
        · exact h4 h j (by omega))
      refine ⟨b', a', g1, g2, fun {R} k0 => ?_⟩
      unfold circuit_weak_l2 circuit_weak_b2
      simp only [d1, natF, cond_true, cond_false, shl_eq (show i < 60 by omega), wire_eq hN hc (show 2 ^ i < 256 by omega) hcl, hw, w64_succ (show i < 1000000000000 by omega)]
      exact g3 k0
theorem weak_ok {N : Nat} (hN : 2000 ≤ N) {c : api_Circuit} (hc : VCi c) {cl : Nat} (hcl : cl < 4096) :
    ∃ (b' : Bool) (a' : Arr Int), (a'.n = 0 → ∀ h, h < c.Hazards.toNat → condS c (2 ^ h) cl N 0 = false) ∧ ∀ {R : Type} (k : Bool → Arr Int → Option R), circuit_weak N c (cl : Int) k = k b' a' := by
  obtain ⟨e1, e2⟩ := hz_nat hc.h
  obtain ⟨b, a, g1, g2, g3⟩ := weak_l2 hN hc hcl c.Hazards.toNat 0 N true (lst intC (0 : Nat) (zeroC [SV.int IntKind.i64 (0 : Int)])) (by omega) (by omega) (Nat.le_refl _) (fun _ h hh => by omega)
  refine ⟨b, a, g2, fun {R} k => ?_⟩
  rw [circuit_weak_def]
  unfold circuit_weak_m
  exact g3 _
theorem crit_l6 {N : Nat} (hN : 2000 ≤ N) {c : api_Circuit} (hc : VCi c) : ∀ (q i n : Nat) (b : Bool) (a : Arr Int), i + q = c.Switches.n → q < n → a.n ≤ i → (a.n = 0 → ∀ s, s < i → ∀ h, h < c.Hazards.toNat → condS c (2 ^ h) (2 ^ s) N 0 = false) →
    ∃ (b' : Bool) (a' : Arr Int), (a'.n = 0 → ∀ s, s < c.Switches.n → ∀ h, h < c.Hazards.toNat → condS c (2 ^ h) (2 ^ s) N 0 = false) ∧ ∀ {R : Type} (k0 : Bool → Arr Int → Option R), circuit_Critical_l6 N n (c.Switches.n : Int) (i : Int) c b a k0 = k0 b' a' := by
  have hs := hc.s
  intro q
  induction q with
  | zero =>
    intro i n b a h1 h2 h3 h4
    obtain ⟨n, rfl⟩ : ∃ m, n = m + 1 := ⟨n - 1, by omega⟩
    refine ⟨b, a, fun h s hs => h4 h s (by omega), fun {R} k0 => ?_⟩
    unfold circuit_Critical_l6 circuit_Critical_b6
    simp only [ltF (show c.Switches.n ≤ i by omega), cond_false]
  | succ q ih =>
    intro i n b a h1 h2 h3 h4
    obtain ⟨n, rfl⟩ : ∃ m, n = m + 1 := ⟨n - 1, by omega⟩
    have hp := pow_le (show i ≤ 11 by omega)
    have hroom : room (a.n + 1) = true := room_of (by omega)
    obtain ⟨wb, wa, w1, w2⟩ := weak_ok hN hc (show 2 ^ i < 4096 by omega)
    by_cases hw : wa.n = 0
    · have d2 : decide ((wa.n : Int) > 0) = false := by simp; omega
      obtain ⟨b', a', g2, g3⟩ := ih (i + 1) n b a (by omega) (by omega) (by omega) (fun h s hs => by
        by_cases e : s = i
        · subst e; exact w1 hw
        · exact h4 h s (by omega))
      refine ⟨b', a', g2, fun {R} k0 => ?_⟩
      unfold circuit_Critical_l6 circuit_Critical_b6
      simp only [ltT (show i < c.Switches.n by omega), natF, cond_true, cond_false, shl_eq (show i < 60 by omega), w2, d2, w64_succ (show i < 1000000000000 by omega)]
      exact g3 k0
    · have d2 : decide ((wa.n : Int) > 0) = true := by simp; omega
      obtain ⟨b', a', g2, g3⟩ := ih (i + 1) n false (lst intC (Arr.n a + (1 : Nat)) (catC (Arr.n a) (Cod.cell intC (Arr.f a)) (litC [SV.int IntKind.i64 (0 : Int)] [[SV.int IntKind.i64 (i : Int)]]))) (by omega) (by omega) (by show a.n + 1 ≤ i + 1; omega) (fun h => by have h' : a.n + 1 = 0 := h; omega)
      refine ⟨b', a', g2, fun {R} k0 => ?_⟩
      unfold circuit_Critical_l6 circuit_Critical_b6
      simp only [ltT (show i < c.Switches.n by omega), natF, cond_true, cond_false, shl_eq (show i < 60 by omega), w2, d2, hroom, w64_succ (show i < 1000000000000 by omega)]
      exact g3 k0
theorem crit_ok {N : Nat} (hN : 2000 ≤ N) {c : api_Circuit} (hc : VCi c) :
    ∃ (b' : Bool) (a' : Arr Int), (a'.n = 0 → ∀ s, s < c.Switches.n → ∀ h, h < c.Hazards.toNat → condS c (2 ^ h) (2 ^ s) N 0 = false) ∧ ∀ {R : Type} (k : Int → Bool → Arr Int → Option R), circuit_Critical N c k = k 0 b' a' := by
  have hs := hc.s
  obtain ⟨b, a, g2, g3⟩ := crit_l6 hN hc c.Switches.n 0 N true (lst intC (0 : Nat) (zeroC [SV.int IntKind.i64 (0 : Int)])) (by omega) (by omega) (Nat.le_refl _) (fun _ s hs => by omega)
  refine ⟨b, a, g2, fun {R} k => ?_⟩
  rw [circuit_Critical_def]
  unfold circuit_Critical_m
  rw [checkCi (by omega) hc]
  simp only [bne_self_eq_false, cond_false]
  exact g3 _
section
variable {R : Type}
theorem refHz {N : Nat} {c : api_Circuit} (hc : VCi c) (n : Int) (k : Bool → Option R) : r3_Hazards N c n k = k (decide (0 ≤ n ∧ n ≤ ((2 ^ c.Hazards.toNat : Nat) : Int) - 1)) := by
  obtain ⟨e1, e2⟩ := hz_pow hc.h
  rw [r3_Hazards_def]
  unfold r3_Hazards_m
  simp only [e1, e2, cond_false, rIn_eq]
theorem runs_eq {N : Nat} (hN : 2000 ≤ N) {c : api_Circuit} (hc : VCi c) {hz cl : Nat} (hhz : hz < 2 ^ c.Hazards.toNat) (hcl : cl < 2 ^ c.Switches.n) (k : Bool → Int → Option R) : circuit_Runs N c hz cl 0 k = k (condS c hz cl N 0) 0 := by
  have hs := hc.s
  obtain ⟨e1, e2⟩ := hz_nat hc.h
  have p1 := pow_le e2
  have p2 := pow_le hs.2
  rw [circuit_Runs_def]
  unfold circuit_Runs_m
  rw [checkCi (by omega) hc]
  simp only [bne_self_eq_false, cond_false]
  have h1 : ∀ {R : Type} (k : Bool → Option R), circuit_isSet N (hz : Int) c.Hazards k = k true := fun {R} k => by
    conv => lhs; rw [e1]
    exact isSet_eq (by omega) ⟨by omega, by omega⟩ k
  rw [h1]
  simp only [Bool.not_true, cond_false]
  rw [isSet_eq (show c.Switches.n ≤ 20 by omega) ⟨by omega, by omega⟩]
  simp only [Bool.not_true, cond_false]
  rw [isSet_eq (show c.Switches.n ≤ 20 by omega) ⟨by omega, by have : 1 ≤ 2 ^ c.Switches.n := Nat.one_le_two_pow; omega⟩]
  simp only [Bool.not_true, cond_false]
  rw [wire_eq hN hc (by omega) (by omega)]
theorem safe {N : Nat} (hN : 2000 ≤ N) {c : api_Circuit} (hc : VCi c) (h : ∀ s, s < c.Switches.n → ∀ h, h < c.Hazards.toNat → condS c (2 ^ h) (2 ^ s) N 0 = false) {hz cl : Nat} (h0 : hz ≠ 0) (hhz : hz < 2 ^ c.Hazards.toNat) (hcl : cl = 0 ∨ ∃ s, s < c.Switches.n ∧ cl = 2 ^ s) : condS c hz cl N 0 = false := by
  have hs := hc.s
  obtain ⟨i, hi⟩ := Nat.exists_testBit_of_ne_zero h0
  have hi2 : i < c.Hazards.toNat := by
    by_cases h : i < c.Hazards.toNat
    · exact h
    · have := pow_le (show c.Hazards.toNat ≤ i by omega)
      have : hz.testBit i = false := Nat.testBit_lt_two_pow (by omega)
      rw [this] at hi; cases hi
  have hbit : ∀ j, (2 ^ i).testBit j = true → hz.testBit j = true := fun j hj => by
    rw [Nat.testBit_two_pow] at hj
    simp at hj
    subst hj; exact hi
  cases hcd : condS c hz cl N 0 with
  | false => rfl
  | true =>
    rcases hcl with e | ⟨s, hs, e⟩
    · have := cond_mono (c := c) (hz := hz) (cl := cl) (hz' := 2 ^ i) (cl' := 2 ^ 0) hbit (fun j hj => by rw [e, Nat.zero_testBit] at hj; cases hj) N 0 hcd
      rw [h 0 (by omega) i hi2] at this; cases this
    · have := cond_mono (c := c) (hz := hz) (cl := cl) (hz' := 2 ^ i) (cl' := 2 ^ s) hbit (fun j hj => by rw [← e]; exact hj) N 0 hcd
      rw [h s hs i hi2] at this; cases this
end
end Ci
end Go.Proofs.YtpillmoddoccfabDoor
