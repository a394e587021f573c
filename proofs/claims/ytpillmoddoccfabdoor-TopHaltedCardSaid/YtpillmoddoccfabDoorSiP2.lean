import Derived.Test.YtpillmoddoccfabDoorSiP1
set_option linter.unusedVariables false
set_option linter.unusedSimpArgs false
set_option linter.unusedSectionVars false
set_option maxHeartbeats 0
set_option maxRecDepth 100000
namespace Go.Proofs.YtpillmoddoccfabDoor
namespace Si
open Go.Sx
open Classical
noncomputable section
variable {R : Type}
def litP (m : api_Machine) (x : api_Literal) : Prop :=
  (x.Kind = 1 ∧ (0 ≤ x.Number ∧ x.Number ≤ (m.Inputs.n : Int) - 1) ∧ x.Value = 0) ∨
  (x.Kind = 2 ∧ (0 ≤ x.Number ∧ x.Number ≤ (m.Counters.n : Int) - 1) ∧ (0 ≤ x.Value ∧ x.Value ≤ (m.Counters.f x.Number.toNat).Max)) ∨
  (x.Kind = 4 ∧ (0 ≤ x.Number ∧ x.Number ≤ (m.Outputs.n : Int) - 1) ∧ x.Value = 0)
structure condP (m : api_Machine) (c : Arr (Arr api_Literal)) : Prop where
  n : c.n ≤ 6
  t : ∀ i, i < c.n → (c.f i).n ≤ 6 ∧ ∀ j, j < (c.f i).n → litP m ((c.f i).f j)
structure ruleP (m : api_Machine) (r : api_Rule) : Prop where
  from_ : -1 ≤ r.From ∧ r.From ≤ (m.States.n : Int) - 1
  to : 0 ≤ r.To ∧ r.To ≤ (m.States.n : Int) - 1
  w : condP m r.When
  n : r.Sets.n ≤ 4
  s : ∀ i, i < r.Sets.n → (1 ≤ (r.Sets.f i).Kind ∧ (r.Sets.f i).Kind ≤ 3) ∧ (0 ≤ (r.Sets.f i).Counter ∧ (r.Sets.f i).Counter ≤ (m.Counters.n : Int) - 1)
structure VM (m : api_Machine) : Prop where
  i : m.Inputs.n ≤ 4
  o : m.Outputs.n ≤ 6
  c : m.Counters.n ≤ 2
  s : 1 ≤ m.States.n ∧ m.States.n ≤ 12
  r : m.Rules.n ≤ 40
  names : NamesP m
  cm : ∀ i, i < m.Counters.n → 1 ≤ (m.Counters.f i).Max ∧ (m.Counters.f i).Max ≤ 7
  sh : ∀ i, i < m.States.n → 0 ≤ (m.States.f i).Shows ∧ (m.States.f i).Shows ≤ ((2 ^ m.Outputs.n : Nat) : Int) - 1
  rules : ∀ i, i < m.Rules.n → ruleP m (m.Rules.f i)
theorem names_l3 (N : Nat) {m : api_Machine} (hc : m.Counters.n ≤ 2) {p : Nat} (hp : p ≤ 20) {nm : Nat → ByteArray} (hnm : ∀ j, j < m.Counters.n → (m.Counters.f j).Name = nm (p + j)) : ∀ (q i n : Nat) (b : Bool) (a : Arr ByteArray), i + q = m.Counters.n → q < n → a.Is (p + i) nm →
    ∃ (b' : Bool) (a' : Arr ByteArray), a'.Is (p + m.Counters.n) nm ∧ ∀ (k0 : Bool → Arr ByteArray → Option R), sT_names_l3 N n m.Counters (m.Counters.n : Int) (i : Int) m b a k0 = k0 b' a' := by
  intro q
  induction q with
  | zero =>
    intro i n b a h1 h2 h3
    obtain ⟨n, rfl⟩ : ∃ m, n = m + 1 := ⟨n - 1, by omega⟩
    have : i = m.Counters.n := by omega
    subst this
    refine ⟨b, a, h3, fun k0 => ?_⟩
    unfold sT_names_l3 sT_names_b3
    simp only [ltF (Nat.le_refl m.Counters.n), cond_false]
  | succ q ih =>
    intro i n b a h1 h2 h3
    obtain ⟨n, rfl⟩ : ∃ m, n = m + 1 := ⟨n - 1, by omega⟩
    have hr : room (a.n + 1) = true := room_of (by rw [h3.len]; omega)
    obtain ⟨b', a', g1, g2⟩ := ih (i + 1) n false _ (by omega) (by omega) (push_is (z := [SV.str (ByteArray.mk (Array.mk []))]) h3 (hnm i (by omega)))
    refine ⟨b', a', g1, fun k0 => ?_⟩
    unfold sT_names_l3 sT_names_b3
    simp only [ltT (show i < m.Counters.n by omega), nat_nonneg, Bool.and_self, cond_true, Int.toNat_natCast, w64_succ (show i < 1000000000000 by omega), hr]
    exact g2 k0
theorem names_l8 (N : Nat) {m : api_Machine} (hc : m.States.n ≤ 12) {p : Nat} (hp : p ≤ 20) {nm : Nat → ByteArray} (hnm : ∀ j, j < m.States.n → (m.States.f j).Name = nm (p + j)) : ∀ (q i n : Nat) (b : Bool) (a : Arr ByteArray), i + q = m.States.n → q < n → a.Is (p + i) nm →
    ∃ (b' : Bool) (a' : Arr ByteArray), a'.Is (p + m.States.n) nm ∧ ∀ (k0 : Bool → Arr ByteArray → Option R), sT_names_l8 N n m.States (m.States.n : Int) (i : Int) b a k0 = k0 b' a' := by
  intro q
  induction q with
  | zero =>
    intro i n b a h1 h2 h3
    obtain ⟨n, rfl⟩ : ∃ m, n = m + 1 := ⟨n - 1, by omega⟩
    have : i = m.States.n := by omega
    subst this
    refine ⟨b, a, h3, fun k0 => ?_⟩
    unfold sT_names_l8 sT_names_b8
    simp only [ltF (Nat.le_refl m.States.n), cond_false]
  | succ q ih =>
    intro i n b a h1 h2 h3
    obtain ⟨n, rfl⟩ : ∃ m, n = m + 1 := ⟨n - 1, by omega⟩
    have hr : room (a.n + 1) = true := room_of (by rw [h3.len]; omega)
    obtain ⟨b', a', g1, g2⟩ := ih (i + 1) n false _ (by omega) (by omega) (push_is (z := [SV.str (ByteArray.mk (Array.mk []))]) h3 (hnm i (by omega)))
    refine ⟨b', a', g1, fun k0 => ?_⟩
    unfold sT_names_l8 sT_names_b8
    simp only [ltT (show i < m.States.n by omega), nat_nonneg, Bool.and_self, cond_true, Int.toNat_natCast, w64_succ (show i < 1000000000000 by omega), hr]
    exact g2 k0
theorem names_eq {N : Nat} (hN : 2000 ≤ N) {m : api_Machine} (v : VM m) : ∃ (b : Bool) (a : Arr ByteArray), a.Is (nN m) (nmF m) ∧ ∀ (k : Bool → Arr ByteArray → Option R), sT_names N m k = k b a := by
  have hi := v.i
  have ho := v.o
  have hc := v.c
  have hs := v.s
  obtain ⟨b1, a1, h1, g1⟩ := concat_eq (R := R) hN (a := m.Inputs) (b := m.Outputs) (by omega) (by omega)
  have h1' : a1.Is (m.Inputs.n + m.Outputs.n + 0) (nmF m) := by
    refine ⟨by rw [h1.len]; omega, fun i hi => ?_⟩
    rw [h1.get i (by omega)]
    unfold nmF
    by_cases e : i < m.Inputs.n
    · rw [if_pos e, if_pos e]
    · rw [if_neg e, if_neg e, if_pos (by omega)]
  obtain ⟨b2, a2, h2, g2⟩ := names_l3 (R := R) N hc (p := m.Inputs.n + m.Outputs.n) (by omega) (nm := nmF m) (fun j hj => by
    unfold nmF
    rw [if_neg (by omega), if_neg (by omega), if_pos (by omega)]
    congr 2; omega) m.Counters.n 0 N b1 a1 (by omega) (by omega) h1'
  obtain ⟨b3, a3, h3, g3⟩ := names_l8 (R := R) N hs.2 (p := m.Inputs.n + m.Outputs.n + m.Counters.n) (by omega) (nm := nmF m) (fun j hj => by
    unfold nmF
    rw [if_neg (by omega), if_neg (by omega), if_neg (by omega)]
    congr 2; omega) m.States.n 0 N b2 a2 (by omega) (by omega) ⟨by rw [h2.len]; omega, fun i hi => h2.get i (by omega)⟩
  refine ⟨b3, a3, h3, fun k => ?_⟩
  rw [sT_names_def]
  unfold sT_names_m
  rw [g1]
  refine (g2 _).trans ?_
  exact g3 k
theorem named_ok {N : Nat} (hN : 2000 ≤ N) {m : api_Machine} (v : VM m) (k : Bool → Option R) : sT_named N m k = k true := by
  have hi := v.i
  have ho := v.o
  have hc := v.c
  have hs := v.s
  obtain ⟨b, a, h, g⟩ := names_eq (R := R) hN v
  rw [sT_named_def]
  unfold sT_named_m
  rw [g, h.len]
  have hn : nN m ≤ 1000 := by unfold nN; omega
  exact named_l3 N hN hn v.names.w v.names.d h b (fun r => k r) (fun _ => k true) (nN m) 0 N (mpD strC intC noH (noG (CK.cons (CK.int IntKind.i64) CK.nil))) (by omega) (by omega) (fun x _ => rfl)
theorem asks_ok (N : Nat) {m : api_Machine} (v : VM m) {x : api_Literal} (h : litP m x) (k : Bool → Option R) : sT_asks N m x k = k true := by
  have hi := v.i
  have ho := v.o
  have hc := v.c
  rw [sT_asks_def]
  unfold sT_asks_m
  have w1 : w64 ((m.Inputs.n : Int) - 1) = (m.Inputs.n : Int) - 1 := w64_eq (by omega) (by omega)
  have w2 : w64 ((m.Counters.n : Int) - 1) = (m.Counters.n : Int) - 1 := w64_eq (by omega) (by omega)
  have w3 : w64 ((m.Outputs.n : Int) - 1) = (m.Outputs.n : Int) - 1 := w64_eq (by omega) (by omega)
  simp only [in_eq, w1, w2, w3]
  rcases h with ⟨h1, h2, h3⟩ | ⟨h1, h2, h3⟩ | ⟨h1, h2, h3⟩
  · have e : (x.Kind == 1) = true := by rw [h1]; rfl
    simp only [e, cond_true, h2, and_self, decide_true, h3, BEq.rfl]
  · have e1 : (x.Kind == 1) = false := by rw [h1]; rfl
    have e2 : (x.Kind == 2) = true := by rw [h1]; rfl
    have c1 : x.Number < (m.Counters.n : Int) := by omega
    simp only [e1, e2, cond_true, cond_false, h2, and_self, decide_true, c1, Bool.and_self, h3]
  · have e1 : (x.Kind == 1) = false := by rw [h1]; rfl
    have e2 : (x.Kind == 2) = false := by rw [h1]; rfl
    have e3 : (x.Kind == 3) = false := by rw [h1]; rfl
    have e4 : (x.Kind == 4) = true := by rw [h1]; rfl
    simp only [e1, e2, e3, e4, cond_true, cond_false, h2, and_self, decide_true, h3, BEq.rfl]
theorem idx_l2 (N : Nat) {m : api_Machine} (v : VM m) {t : Arr api_Literal} (hn : t.n ≤ 6) (ht : ∀ j, j < t.n → litP m (t.f j)) (kr : Int → Option R) (k0 : Unit → Option R) : ∀ (q i n : Nat), i + q = t.n → q < n →
    ixL_l2 N n t (t.n : Int) (i : Int) m kr k0 = k0 () := by
  intro q
  induction q with
  | zero =>
    intro i n h1 h2
    obtain ⟨n, rfl⟩ : ∃ m, n = m + 1 := ⟨n - 1, by omega⟩
    unfold ixL_l2 ixL_b2
    simp only [ltF (show t.n ≤ i by omega), cond_false]
  | succ q ih =>
    intro i n h1 h2
    obtain ⟨n, rfl⟩ : ∃ m, n = m + 1 := ⟨n - 1, by omega⟩
    have e : ∀ kk : Bool → Option R, sT_Asked_1 N (t.f i) m kk = kk false := fun kk => by
      rw [sT_Asked_1_def]
      unfold sT_Asked_1_m
      rw [asks_ok N v (ht i (by omega))]
      rfl
    unfold ixL_l2 ixL_b2
    simp only [ltT (show i < t.n by omega), nat_nonneg, Bool.and_self, cond_true, Int.toNat_natCast, w64_succ (show i < 1000000000000 by omega), e, cond_false]
    exact ih (i + 1) n (by omega) (by omega)
theorem cont_eq {N : Nat} (hN : 100 ≤ N) {m : api_Machine} (v : VM m) {t : Arr api_Literal} (hn : t.n ≤ 6) (ht : ∀ j, j < t.n → litP m (t.f j)) (k : Bool → Option R) : coL N t m k = k false := by
  rw [coL_def]
  unfold coL_m
  rw [ixL_def]
  unfold ixL_m
  refine (idx_l2 N v hn ht _ _ t.n 0 N (by omega) (by omega)).trans ?_
  rfl
theorem asked_l4 (N : Nat) (hN : 100 ≤ N) {m : api_Machine} (v : VM m) {c : Arr (Arr api_Literal)} (h : condP m c) (kr : Bool → Option R) (k0 : Unit → Option R) : ∀ (q i n : Nat), i + q = c.n → q < n →
    sT_Asked_l4 N n c (c.n : Int) (i : Int) m kr k0 = k0 () := by
  intro q
  induction q with
  | zero =>
    intro i n h1 h2
    obtain ⟨n, rfl⟩ : ∃ m, n = m + 1 := ⟨n - 1, by omega⟩
    unfold sT_Asked_l4 sT_Asked_b4
    simp only [ltF (show c.n ≤ i by omega), cond_false]
  | succ q ih =>
    intro i n h1 h2
    obtain ⟨n, rfl⟩ : ∃ m, n = m + 1 := ⟨n - 1, by omega⟩
    obtain ⟨t1, t2⟩ := h.t i (by omega)
    have hn := h.n
    unfold sT_Asked_l4 sT_Asked_b4
    have c1 : ¬ (((c.f i).n : Int) > 6) := by omega
    simp only [ltT (show i < c.n by omega), nat_nonneg, Bool.and_self, cond_true, Int.toNat_natCast, w64_succ (show i < 1000000000000 by omega), c1, decide_false, cond_false, cont_eq hN v t1 t2]
    exact ih (i + 1) n (by omega) (by omega)
theorem asked_ok {N : Nat} (hN : 100 ≤ N) {m : api_Machine} (v : VM m) {c : Arr (Arr api_Literal)} (h : condP m c) (k : Bool → Option R) : sT_Asked N m c k = k true := by
  rw [sT_Asked_def]
  unfold sT_Asked_m
  have hn := h.n
  have c1 : ¬ ((c.n : Int) > 6) := by omega
  simp only [c1, decide_false, cond_false]
  exact asked_l4 N hN v h (fun r => k r) (fun _ => k true) c.n 0 N (by omega) (by omega)
theorem idx2_l2 (N : Nat) {m : api_Machine} {t : Arr api_Literal} (hn : t.n ≤ 6) (ht : ∀ j, j < t.n → litP m (t.f j)) (kr : Int → Option R) (k0 : Unit → Option R) : ∀ (q i n : Nat), i + q = t.n → q < n →
    ixL_v2_l2 N n t (t.n : Int) (i : Int) kr k0 = k0 () := by
  intro q
  induction q with
  | zero =>
    intro i n h1 h2
    obtain ⟨n, rfl⟩ : ∃ m, n = m + 1 := ⟨n - 1, by omega⟩
    unfold ixL_v2_l2 ixL_v2_b2
    simp only [ltF (show t.n ≤ i by omega), cond_false]
  | succ q ih =>
    intro i n h1 h2
    obtain ⟨n, rfl⟩ : ∃ m, n = m + 1 := ⟨n - 1, by omega⟩
    have e : ∀ kk : Bool → Option R, sT_Check_1 N (t.f i) kk = kk false := fun kk => by
      rw [sT_Check_1_def]
      unfold sT_Check_1_m
      have : ((t.f i).Kind == 3) = false := by
        rcases ht i (by omega) with ⟨h, _⟩ | ⟨h, _⟩ | ⟨h, _⟩ <;> rw [h] <;> rfl
      rw [this]
    unfold ixL_v2_l2 ixL_v2_b2
    simp only [ltT (show i < t.n by omega), nat_nonneg, Bool.and_self, cond_true, Int.toNat_natCast, w64_succ (show i < 1000000000000 by omega), e, cond_false]
    exact ih (i + 1) n (by omega) (by omega)
theorem cont2_eq {N : Nat} (hN : 100 ≤ N) {m : api_Machine} {t : Arr api_Literal} (hn : t.n ≤ 6) (ht : ∀ j, j < t.n → litP m (t.f j)) (k : Bool → Option R) : coL_v2 N t k = k false := by
  rw [coL_v2_def]
  unfold coL_v2_m
  rw [ixL_v2_def]
  unfold ixL_v2_m
  refine (idx2_l2 N hn ht _ _ t.n 0 N (by omega) (by omega)).trans ?_
  rfl
theorem chk_l4 (N : Nat) {m : api_Machine} (v : VM m) (kr : Int → Option R) (k0 : Unit → Option R) : ∀ (q i n : Nat), i + q = m.Counters.n → q < n →
    sT_Check_l4 N n m.Counters (m.Counters.n : Int) (i : Int) m kr k0 = k0 () := by
  intro q
  induction q with
  | zero =>
    intro i n h1 h2
    obtain ⟨n, rfl⟩ : ∃ m, n = m + 1 := ⟨n - 1, by omega⟩
    unfold sT_Check_l4 sT_Check_b4
    simp only [ltF (show m.Counters.n ≤ i by omega), cond_false]
  | succ q ih =>
    intro i n h1 h2
    obtain ⟨n, rfl⟩ : ∃ m, n = m + 1 := ⟨n - 1, by omega⟩
    have hc := v.c
    unfold sT_Check_l4 sT_Check_b4
    simp only [ltT (show i < m.Counters.n by omega), nat_nonneg, Bool.and_self, cond_true, Int.toNat_natCast, w64_succ (show i < 1000000000000 by omega), in_eq, v.cm i (by omega), and_self, decide_true, Bool.not_true, cond_false]
    exact ih (i + 1) n (by omega) (by omega)
theorem pow6 {n : Nat} (h : n ≤ 6) : w64 (w64 ((1 : Int) * (2 : Int) ^ min (Int.toNat (n : Int)) (IntKind.bits IntKind.i64)) - (1 : Int)) = ((2 ^ n : Nat) : Int) - 1 := by
  have : ∀ m : Fin 7, w64 (w64 ((1 : Int) * (2 : Int) ^ min (Int.toNat (m.val : Int)) (IntKind.bits IntKind.i64)) - (1 : Int)) = ((2 ^ m.val : Nat) : Int) - 1 := by decide +kernel
  exact this ⟨n, by omega⟩
theorem chk_l10 (N : Nat) {m : api_Machine} (v : VM m) (kr : Int → Option R) (k0 : Unit → Option R) : ∀ (q i n : Nat), i + q = m.States.n → q < n →
    sT_Check_l10 N n m.States (m.States.n : Int) (i : Int) m kr k0 = k0 () := by
  intro q
  induction q with
  | zero =>
    intro i n h1 h2
    obtain ⟨n, rfl⟩ : ∃ m, n = m + 1 := ⟨n - 1, by omega⟩
    unfold sT_Check_l10 sT_Check_b10
    simp only [ltF (show m.States.n ≤ i by omega), cond_false]
  | succ q ih =>
    intro i n h1 h2
    obtain ⟨n, rfl⟩ : ∃ m, n = m + 1 := ⟨n - 1, by omega⟩
    have hs := v.s
    unfold sT_Check_l10 sT_Check_b10
    simp only [ltT (show i < m.States.n by omega), nat_nonneg, Bool.and_self, cond_true, Int.toNat_natCast (n := i), w64_succ (show i < 1000000000000 by omega), in_eq, pow6 v.o, v.sh i (by omega), and_self, decide_true, Bool.not_true, cond_false]
    exact ih (i + 1) n (by omega) (by omega)
theorem chk_l21 (N : Nat) (hN : 100 ≤ N) {m : api_Machine} {c : Arr (Arr api_Literal)} (h : condP m c) (a : Arr api_Rule) (x y : Int) (r : api_Rule) (kr : Int → Option R) (k0 : Unit → Option R) : ∀ (q i n : Nat), i + q = c.n → q < n →
    sT_Check_l21 N n a x y c (c.n : Int) (i : Int) m r kr k0 = k0 () := by
  intro q
  induction q with
  | zero =>
    intro i n h1 h2
    obtain ⟨n, rfl⟩ : ∃ m, n = m + 1 := ⟨n - 1, by omega⟩
    unfold sT_Check_l21 sT_Check_b21
    simp only [ltF (show c.n ≤ i by omega), cond_false]
  | succ q ih =>
    intro i n h1 h2
    obtain ⟨n, rfl⟩ : ∃ m, n = m + 1 := ⟨n - 1, by omega⟩
    obtain ⟨t1, t2⟩ := h.t i (by omega)
    have hn := h.n
    unfold sT_Check_l21 sT_Check_b21
    simp only [ltT (show i < c.n by omega), nat_nonneg, Bool.and_self, cond_true, Int.toNat_natCast, w64_succ (show i < 1000000000000 by omega), cont2_eq hN t1 t2, cond_false]
    exact ih (i + 1) n (by omega) (by omega)
theorem chk_l27 (N : Nat) {m : api_Machine} (v : VM m) {r : api_Rule} (h : ruleP m r) (a : Arr api_Rule) (x y : Int) (kr : Int → Option R) (k0 : Unit → Option R) : ∀ (q i n : Nat), i + q = r.Sets.n → q < n →
    sT_Check_l27 N n a x y r.Sets (r.Sets.n : Int) (i : Int) m kr k0 = k0 () := by
  have hc := v.c
  have w2 : w64 ((m.Counters.n : Int) - 1) = (m.Counters.n : Int) - 1 := w64_eq (by omega) (by omega)
  intro q
  induction q with
  | zero =>
    intro i n h1 h2
    obtain ⟨n, rfl⟩ : ∃ m, n = m + 1 := ⟨n - 1, by omega⟩
    unfold sT_Check_l27 sT_Check_b27
    simp only [ltF (show r.Sets.n ≤ i by omega), cond_false]
  | succ q ih =>
    intro i n h1 h2
    obtain ⟨n, rfl⟩ : ∃ m, n = m + 1 := ⟨n - 1, by omega⟩
    obtain ⟨s1, s2⟩ := h.s i (by omega)
    have hn := h.n
    unfold sT_Check_l27 sT_Check_b27
    simp only [ltT (show i < r.Sets.n by omega), nat_nonneg, Bool.and_self, cond_true, Int.toNat_natCast, w64_succ (show i < 1000000000000 by omega), in_eq, w2, s1, s2, and_self, decide_true, Bool.not_true, cond_false]
    exact ih (i + 1) n (by omega) (by omega)
theorem chk_l16 (N : Nat) (hN : 100 ≤ N) {m : api_Machine} (v : VM m) (kr : Int → Option R) (k0 : Unit → Option R) : ∀ (q i n : Nat), i + q = m.Rules.n → q < n →
    sT_Check_l16 N n m.Rules (m.Rules.n : Int) (i : Int) m kr k0 = k0 () := by
  have hs := v.s
  have hr := v.r
  have w1 : w64 ((m.States.n : Int) - 1) = (m.States.n : Int) - 1 := w64_eq (by omega) (by omega)
  intro q
  induction q with
  | zero =>
    intro i n h1 h2
    obtain ⟨n, rfl⟩ : ∃ m, n = m + 1 := ⟨n - 1, by omega⟩
    unfold sT_Check_l16 sT_Check_b16
    simp only [ltF (show m.Rules.n ≤ i by omega), cond_false]
  | succ q ih =>
    intro i n h1 h2
    obtain ⟨n, rfl⟩ : ∃ m, n = m + 1 := ⟨n - 1, by omega⟩
    have h := v.rules i (by omega)
    have hn := h.n
    have hw := h.w.n
    unfold sT_Check_l16 sT_Check_b16
    have c1 : ¬ (((m.Rules.f i).Sets.n : Int) > 4) := by omega
    simp only [ltT (show i < m.Rules.n by omega), nat_nonneg, Bool.and_self, cond_true, Int.toNat_natCast, w64_succ (show i < 1000000000000 by omega), in_eq, w1, h.from_, h.to, and_self, decide_true, Bool.not_true, cond_false, asked_ok hN v h.w, c1, decide_false]
    refine (chk_l21 N hN h.w _ _ _ _ _ _ (m.Rules.f i).When.n 0 N (by omega) (by omega)).trans ?_
    refine (chk_l27 N v h _ _ _ _ _ (m.Rules.f i).Sets.n 0 N (by omega) (by omega)).trans ?_
    exact ih (i + 1) n (by omega) (by omega)
theorem check_ok {N : Nat} (hN : 2000 ≤ N) {m : api_Machine} (v : VM m) (k : Int → Option R) : sT_Check N m k = k 0 := by
  rw [sT_Check_def]
  unfold sT_Check_m
  have hi := v.i
  have ho := v.o
  have hc := v.c
  have hs := v.s
  have hr := v.r
  have c1 : ¬ ((m.Inputs.n : Int) > 4) := by omega
  have c2 : ¬ ((m.Outputs.n : Int) > 6) := by omega
  have c3 : ¬ ((m.Counters.n : Int) > 2) := by omega
  have c4 : (1 : Int) ≤ (m.States.n : Int) ∧ (m.States.n : Int) ≤ 12 := by omega
  have c5 : ¬ ((m.Rules.n : Int) > 40) := by omega
  simp only [c1, c2, c3, c4, c5, decide_false, cond_false, in_eq, and_self, decide_true, Bool.not_true, named_ok hN v]
  refine (chk_l4 N v _ _ m.Counters.n 0 N (by omega) (by omega)).trans ?_
  refine (chk_l10 N v _ _ m.States.n 0 N (by omega) (by omega)).trans ?_
  exact chk_l16 N (by omega) v (fun r => k r) (fun _ => k 0) m.Rules.n 0 N (by omega) (by omega)
end
end Si
end Go.Proofs.YtpillmoddoccfabDoor
