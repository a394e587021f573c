import Derived.Test.YtpillmoddoccfabDoorHaP1
set_option linter.unusedVariables false
set_option linter.unusedSimpArgs false
set_option linter.unusedSectionVars false
set_option maxHeartbeats 0
set_option maxRecDepth 100000
namespace Go.Proofs.YtpillmoddoccfabDoor
namespace Ha
open Go.Sx Si
open Classical
noncomputable section
variable {R : Type}
theorem w_pred {n : Nat} (h : n ≤ 1000) : w64 ((n : Int) - 1) = (n : Int) - 1 := w64_eq (by omega) (by omega)
theorem cond_l9 (N : Nat) (hN : 200 ≤ N) {m : api_Machine} (hi : m.Inputs.n ≤ 4) (ho : m.Outputs.n ≤ 6) (hc : m.Counters.n ≤ 2) {c : Arr (Arr api_Literal)} {i : Nat} (hic : i < c.n) (ht : (c.f i).n ≤ 6) (kr : Bool → Option R) (k2 : Unit → Option R) :
    r4_condition_l9 N N c false (i : Int) 0 m kr k2 = kr false ∨ ((∀ j, j < (c.f i).n → litP m ((c.f i).f j)) ∧ r4_condition_l9 N N c false (i : Int) 0 m kr k2 = k2 ()) := by
  exact scan (fun n j => r4_condition_l9 N n c false (i : Int) (j : Int) m kr k2) (c.f i).n (fun j => litP m ((c.f i).f j)) (kr false) (k2 ()) (fun n => by
    show r4_condition_l9 N (n + 1) c false (i : Int) ((c.f i).n : Int) m kr k2 = _
    unfold r4_condition_l9 r4_condition_b9
    simp only [ltT hic, nat_nonneg, Bool.and_self, cond_true, Int.toNat_natCast, ltF (Nat.le_refl (c.f i).n), cond_false]) (fun n j X hj _ hX => by
    have hX : X = r4_condition_l9 N n c false (i : Int) ((j + 1 : Nat) : Int) m kr k2 := hX
    show r4_condition_l9 N (n + 1) c false (i : Int) (j : Int) m kr k2 = _ ∨ (_ ∧ r4_condition_l9 N (n + 1) c false (i : Int) (j : Int) m kr k2 = X)
    unfold r4_condition_l9 r4_condition_b9
    simp only [ltT hic, ltT hj, nat_nonneg, Bool.and_self, cond_true, Int.toNat_natCast, w64_succ (show j < 1000000000000 by omega), from_eq, w_pred (show m.Inputs.n ≤ 1000 by omega), w_pred (show m.Outputs.n ≤ 1000 by omega), w_pred (show m.Counters.n ≤ 1000 by omega)]
    by_cases k1 : ((c.f i).f j).Kind = 1
    · have e1 : (((c.f i).f j).Kind == 1) = true := by simpa using k1
      rw [e1, cond_true]
      by_cases r : 0 ≤ ((c.f i).f j).Number ∧ ((c.f i).f j).Number ≤ (m.Inputs.n : Int) - 1
      · simp only [r, and_self, decide_true, cond_true]
        by_cases z : ((c.f i).f j).Value = 0
        · right
          refine ⟨.inl ⟨k1, r, z⟩, ?_⟩
          have e2 : (!(((c.f i).f j).Value == 0)) = false := by simp [z]
          rw [e2, hX]; rfl
        · left
          have e2 : (!(((c.f i).f j).Value == 0)) = true := by simp [z]
          rw [e2]; rfl
      · left; simp only [r, decide_false, cond_false]
    have e1 : (((c.f i).f j).Kind == 1) = false := by simpa using k1
    rw [e1, cond_false]
    by_cases k2' : ((c.f i).f j).Kind = 2
    · have e2 : (((c.f i).f j).Kind == 2) = true := by simpa using k2'
      rw [e2, cond_true]
      by_cases r : 0 ≤ ((c.f i).f j).Number ∧ ((c.f i).f j).Number ≤ (m.Counters.n : Int) - 1
      · have e3 : decide (((c.f i).f j).Number < (m.Counters.n : Int)) = true := by simp; omega
        simp only [r, and_self, decide_true, cond_true, e3, Bool.and_self]
        by_cases z : 0 ≤ ((c.f i).f j).Value ∧ ((c.f i).f j).Value ≤ (m.Counters.f ((c.f i).f j).Number.toNat).Max
        · right
          refine ⟨.inr (.inl ⟨k2', r, z⟩), ?_⟩
          simp only [z, and_self, decide_true, Bool.not_true, cond_false]
          exact hX.symm
        · left
          simp only [z, decide_false, Bool.not_false, cond_true]
      · left; simp only [r, decide_false, cond_false]
    have e2 : (((c.f i).f j).Kind == 2) = false := by simpa using k2'
    rw [e2, cond_false]
    by_cases k3 : ((c.f i).f j).Kind = 3
    · have e3 : (((c.f i).f j).Kind == 3) = true := by simpa using k3
      left; rw [e3]; rfl
    have e3 : (((c.f i).f j).Kind == 3) = false := by simpa using k3
    rw [e3, cond_false]
    by_cases k4 : ((c.f i).f j).Kind = 4
    · have e4 : (((c.f i).f j).Kind == 4) = true := by simpa using k4
      rw [e4, cond_true]
      by_cases r : 0 ≤ ((c.f i).f j).Number ∧ ((c.f i).f j).Number ≤ (m.Outputs.n : Int) - 1
      · simp only [r, and_self, decide_true, cond_true]
        by_cases z : ((c.f i).f j).Value = 0
        · right
          refine ⟨.inr (.inr ⟨k4, r, z⟩), ?_⟩
          have e5 : (!(((c.f i).f j).Value == 0)) = false := by simp [z]
          rw [e5, hX]; rfl
        · left
          have e5 : (!(((c.f i).f j).Value == 0)) = true := by simp [z]
          rw [e5]; rfl
      · left; simp only [r, decide_false, cond_false]
    · have e4 : (((c.f i).f j).Kind == 4) = false := by simpa using k4
      left; rw [e4]; rfl) (c.f i).n 0 N (by omega) (by omega) (fun j hj => by omega)
theorem cond_eq (N : Nat) (hN : 200 ≤ N) {m : api_Machine} (hi : m.Inputs.n ≤ 4) (ho : m.Outputs.n ≤ 6) (hc : m.Counters.n ≤ 2) (c : Arr (Arr api_Literal)) (k : Bool → Option R) :
    r4_condition N m c false k = k false ∨ (condP m c ∧ r4_condition N m c false k = k true) := by
  rw [r4_condition_def]
  unfold r4_condition_m
  by_cases hn : (c.n : Int) > 6
  · left; simp only [hn, decide_true, cond_true]
  simp only [hn, decide_false, cond_false]
  rcases scan (fun n i => r4_condition_l4 N n c false (i : Int) m (fun r => k r) (fun _ => k true)) c.n (fun i => (c.f i).n ≤ 6 ∧ ∀ j, j < (c.f i).n → litP m ((c.f i).f j)) (k false) (k true) (fun n => by
    show r4_condition_l4 N (n + 1) c false (c.n : Int) m _ _ = _
    unfold r4_condition_l4 r4_condition_b4
    simp only [ltF (Nat.le_refl c.n), cond_false]) (fun n i X hi' _ hX => by
    have hX : X = r4_condition_l4 N n c false ((i + 1 : Nat) : Int) m (fun r => k r) (fun _ => k true) := hX
    show r4_condition_l4 N (n + 1) c false (i : Int) m _ _ = _ ∨ (_ ∧ r4_condition_l4 N (n + 1) c false (i : Int) m _ _ = X)
    unfold r4_condition_l4 r4_condition_b4
    simp only [ltT hi', nat_nonneg, Bool.and_self, cond_true, Int.toNat_natCast, w64_succ (show i < 1000000000000 by omega)]
    by_cases h6 : ((c.f i).n : Int) > 6
    · left; simp only [h6, decide_true, cond_true]
    · simp only [h6, decide_false, cond_false]
      rcases cond_l9 N hN hi ho hc hi' (by omega) (fun r => k r) (fun _ => r4_condition_l4 N n c false ((i + 1 : Nat) : Int) m (fun r => k r) (fun _ => k true)) with h | ⟨h, h'⟩
      · exact .inl h
      · exact .inr ⟨⟨by omega, h⟩, h'.trans hX.symm⟩) c.n 0 N (by omega) (by omega) (fun j hj => by omega) with h | ⟨h, h'⟩
  · exact .inl h
  · exact .inr ⟨⟨by omega, h⟩, h'⟩
theorem chk_l31 (N : Nat) (hN : 200 ≤ N) {m : api_Machine} (hc : m.Counters.n ≤ 2) (r : api_Rule) (hr : r.Sets.n ≤ 4) (i : Int) (kr : Int → Option R) (k2 : Unit → Option R) :
    r4_Check_l31 N N i 0 m r kr k2 = kr 41 ∨ ((∀ j, j < r.Sets.n → (1 ≤ (r.Sets.f j).Kind ∧ (r.Sets.f j).Kind ≤ 3) ∧ (0 ≤ (r.Sets.f j).Counter ∧ (r.Sets.f j).Counter ≤ (m.Counters.n : Int) - 1)) ∧ r4_Check_l31 N N i 0 m r kr k2 = k2 ()) := by
  exact scan (fun n j => r4_Check_l31 N n i (j : Int) m r kr k2) r.Sets.n (fun j => (1 ≤ (r.Sets.f j).Kind ∧ (r.Sets.f j).Kind ≤ 3) ∧ (0 ≤ (r.Sets.f j).Counter ∧ (r.Sets.f j).Counter ≤ (m.Counters.n : Int) - 1)) (kr 41) (k2 ()) (fun n => by
    show r4_Check_l31 N (n + 1) i (r.Sets.n : Int) m r kr k2 = _
    unfold r4_Check_l31 r4_Check_b31
    simp only [ltF (Nat.le_refl r.Sets.n), cond_false]) (fun n j X hj _ hX => by
    have hX : X = r4_Check_l31 N n i ((j + 1 : Nat) : Int) m r kr k2 := hX
    show r4_Check_l31 N (n + 1) i (j : Int) m r kr k2 = _ ∨ (_ ∧ r4_Check_l31 N (n + 1) i (j : Int) m r kr k2 = X)
    unfold r4_Check_l31 r4_Check_b31
    simp only [ltT hj, nat_nonneg, Bool.and_self, cond_true, Int.toNat_natCast, w64_succ (show j < 1000000000000 by omega), from_eq, w_pred (show m.Counters.n ≤ 1000 by omega)]
    by_cases r1 : 1 ≤ (r.Sets.f j).Kind ∧ (r.Sets.f j).Kind ≤ 3
    · by_cases r2 : 0 ≤ (r.Sets.f j).Counter ∧ (r.Sets.f j).Counter ≤ (m.Counters.n : Int) - 1
      · right
        refine ⟨⟨r1, r2⟩, ?_⟩
        simp only [r1, r2, and_self, decide_true, Bool.not_true, cond_false]
        exact hX.symm
      · left; simp only [r1, r2, and_self, decide_true, decide_false, Bool.not_true, Bool.not_false, cond_false, cond_true]
    · left; simp only [r1, decide_false, Bool.not_false, cond_true]) r.Sets.n 0 N (by omega) (by omega) (fun j hj => by omega)
theorem shl6 {n : Nat} (h : n ≤ 6) : w64 (w64 ((1 : Int) * (2 : Int) ^ min (Int.toNat (IntKind.wrap IntKind.u64 (n : Int))) (IntKind.bits IntKind.i64)) - (1 : Int)) = ((2 ^ n : Nat) : Int) - 1 := by
  rw [u64_nat (show n < 1000000000 by omega)]; exact pow6 h
theorem ref_check {N : Nat} (hN : 2000 ≤ N) (m : api_Machine) (k : Int → Option R) : r4_Check N m k = k 41 ∨ (VM m ∧ r4_Check N m k = k 0) := by
  rw [r4_Check_def]
  unfold r4_Check_m
  by_cases hi : (m.Inputs.n : Int) > 4
  · left; simp only [hi, decide_true, cond_true]
  by_cases ho : (m.Outputs.n : Int) > 6
  · left; simp only [hi, ho, decide_true, decide_false, cond_true, cond_false]
  by_cases hc : (m.Counters.n : Int) > 2
  · left; simp only [hi, ho, hc, decide_true, decide_false, cond_true, cond_false]
  simp only [hi, ho, hc, decide_false, cond_false, from_eq]
  by_cases hs : 1 ≤ (m.States.n : Int) ∧ (m.States.n : Int) ≤ 12
  rotate_left
  · left; simp only [hs, decide_false, Bool.not_false, cond_true]
  simp only [hs, and_self, decide_true, Bool.not_true, cond_false]
  by_cases hr : (m.Rules.n : Int) > 40
  · left; simp only [hr, decide_true, cond_true]
  simp only [hr, decide_false, cond_false]
  obtain ⟨b, a, ha, hna⟩ := names_eq (R := R) hN (m := m) (by omega) (by omega) (by omega) (by omega)
  rw [hna]
  have hnn : nN m ≤ 100 := by unfold nN; omega
  rcases chk_l5 N hN ha hnn b (fun r43 => k r43) (fun (_ : Unit) =>
        r4_Check_l15 N N (0 : Int) m (fun r47 => k r47) (fun (_ : Unit) =>
         r4_Check_l20 N N (0 : Int) m (fun r51 => k r51) (fun (_ : Unit) =>
          r4_Check_l25 N N (0 : Int) m (fun r83 => k r83) (fun (_ : Unit) => k (0 : Int))))) with h | ⟨h5, h5'⟩
  · exact .inl h
  rcases scan (fun n i => r4_Check_l15 N n (i : Int) m (fun r47 => k r47) (fun (_ : Unit) =>
         r4_Check_l20 N N (0 : Int) m (fun r51 => k r51) (fun (_ : Unit) =>
          r4_Check_l25 N N (0 : Int) m (fun r83 => k r83) (fun (_ : Unit) => k (0 : Int))))) m.Counters.n (fun i => 1 ≤ (m.Counters.f i).Max ∧ (m.Counters.f i).Max ≤ 7) (k 41) (r4_Check_l20 N N (0 : Int) m (fun r51 => k r51) (fun (_ : Unit) =>
          r4_Check_l25 N N (0 : Int) m (fun r83 => k r83) (fun (_ : Unit) => k (0 : Int)))) (fun n => by
    show r4_Check_l15 N (n + 1) (m.Counters.n : Int) m _ _ = _
    unfold r4_Check_l15 r4_Check_b15
    simp only [ltF (Nat.le_refl m.Counters.n), cond_false]) (fun n i X hi' _ hX => by
    generalize hk : (fun (_ : Unit) =>
         r4_Check_l20 N N (0 : Int) m (fun r51 => k r51) (fun (_ : Unit) =>
          r4_Check_l25 N N (0 : Int) m (fun r83 => k r83) (fun (_ : Unit) => k (0 : Int)))) = kk at *
    have hX : X = r4_Check_l15 N n ((i + 1 : Nat) : Int) m (fun r47 => k r47) kk := hX
    show r4_Check_l15 N (n + 1) (i : Int) m (fun r47 => k r47) kk = _ ∨ (_ ∧ r4_Check_l15 N (n + 1) (i : Int) m (fun r47 => k r47) kk = X)
    unfold r4_Check_l15 r4_Check_b15
    simp only [ltT hi', nat_nonneg, Bool.and_self, cond_true, Int.toNat_natCast, w64_succ (show i < 1000000000000 by omega), from_eq]
    by_cases r1 : 1 ≤ (m.Counters.f i).Max ∧ (m.Counters.f i).Max ≤ 7
    · right
      refine ⟨r1, ?_⟩
      simp only [r1, and_self, decide_true, Bool.not_true, cond_false]
      exact hX.symm
    · left; simp only [r1, decide_false, Bool.not_false, cond_true]) m.Counters.n 0 N (by omega) (by omega) (fun j hj => by omega) with h | ⟨h15, h15'⟩
  · exact .inl (h5'.trans h)
  rcases scan (fun n i => r4_Check_l20 N n (i : Int) m (fun r51 => k r51) (fun (_ : Unit) =>
          r4_Check_l25 N N (0 : Int) m (fun r83 => k r83) (fun (_ : Unit) => k (0 : Int)))) m.States.n (fun i => 0 ≤ (m.States.f i).Shows ∧ (m.States.f i).Shows ≤ ((2 ^ m.Outputs.n : Nat) : Int) - 1) (k 41) (r4_Check_l25 N N (0 : Int) m (fun r83 => k r83) (fun (_ : Unit) => k (0 : Int))) (fun n => by
    show r4_Check_l20 N (n + 1) (m.States.n : Int) m _ _ = _
    unfold r4_Check_l20 r4_Check_b20
    simp only [ltF (Nat.le_refl m.States.n), cond_false]) (fun n i X hi' _ hX => by
    generalize hk : (fun (_ : Unit) =>
          r4_Check_l25 N N (0 : Int) m (fun r83 => k r83) (fun (_ : Unit) => k (0 : Int))) = kk at *
    have hX : X = r4_Check_l20 N n ((i + 1 : Nat) : Int) m (fun r51 => k r51) kk := hX
    show r4_Check_l20 N (n + 1) (i : Int) m (fun r51 => k r51) kk = _ ∨ (_ ∧ r4_Check_l20 N (n + 1) (i : Int) m (fun r51 => k r51) kk = X)
    unfold r4_Check_l20 r4_Check_b20
    simp only [ltT hi', nat_nonneg, Bool.and_self, cond_true, Int.toNat_natCast, w64_succ (show i < 1000000000000 by omega), from_eq, shl6 (show m.Outputs.n ≤ 6 by omega)]
    by_cases r1 : 0 ≤ (m.States.f i).Shows ∧ (m.States.f i).Shows ≤ ((2 ^ m.Outputs.n : Nat) : Int) - 1
    · right
      refine ⟨r1, ?_⟩
      simp only [r1, and_self, decide_true, Bool.not_true, cond_false]
      exact hX.symm
    · left; simp only [r1, decide_false, Bool.not_false, cond_true]) m.States.n 0 N (by omega) (by omega) (fun j hj => by omega) with h | ⟨h20, h20'⟩
  · exact .inl (h5'.trans (h15'.trans h))
  rcases scan (fun n i => r4_Check_l25 N n (i : Int) m (fun r83 => k r83) (fun (_ : Unit) => k (0 : Int))) m.Rules.n (fun i => ruleP m (m.Rules.f i)) (k 41) (k 0) (fun n => by
    show r4_Check_l25 N (n + 1) (m.Rules.n : Int) m _ _ = _
    unfold r4_Check_l25 r4_Check_b25
    simp only [ltF (Nat.le_refl m.Rules.n), cond_false]) (fun n i X hi' _ hX => by
    have hX : X = r4_Check_l25 N n ((i + 1 : Nat) : Int) m (fun r83 => k r83) (fun (_ : Unit) => k (0 : Int)) := hX
    show r4_Check_l25 N (n + 1) (i : Int) m (fun r83 => k r83) (fun (_ : Unit) => k (0 : Int)) = _ ∨ (_ ∧ r4_Check_l25 N (n + 1) (i : Int) m (fun r83 => k r83) (fun (_ : Unit) => k (0 : Int)) = X)
    unfold r4_Check_l25 r4_Check_b25
    simp only [ltT hi', nat_nonneg, Bool.and_self, cond_true, Int.toNat_natCast, w64_succ (show i < 1000000000000 by omega), from_eq, w_pred (show m.States.n ≤ 1000 by omega)]
    by_cases r1 : -1 ≤ (m.Rules.f i).From ∧ (m.Rules.f i).From ≤ (m.States.n : Int) - 1
    rotate_left
    · left; simp only [r1, decide_false, Bool.not_false, cond_true]
    by_cases r2 : 0 ≤ (m.Rules.f i).To ∧ (m.Rules.f i).To ≤ (m.States.n : Int) - 1
    rotate_left
    · left; simp only [r1, r2, and_self, decide_true, decide_false, Bool.not_true, Bool.not_false, cond_true, cond_false]
    simp only [r1, r2, and_self, decide_true, Bool.not_true, cond_false]
    rcases cond_eq N (by omega) (m := m) (by omega) (by omega) (by omega) (m.Rules.f i).When (fun r75 =>
      bif !r75 then k (41 : Int) else
       bif decide (((m.Rules.f i).Sets.n : Int) > (4 : Int)) then k (41 : Int) else
        r4_Check_l31 N N (i : Int) (0 : Int) m (m.Rules.f i) (fun r82 => k r82) (fun (_ : Unit) => r4_Check_l25 N n ((i + 1 : Nat) : Int) m (fun r83 => k r83) (fun (_ : Unit) => k (0 : Int)))) with h | ⟨h, h'⟩
    · exact .inl h
    · by_cases r3 : ((m.Rules.f i).Sets.n : Int) > 4
      · left
        refine h'.trans ?_
        simp only [r3, decide_true, Bool.not_true, cond_true, cond_false]
      · rcases chk_l31 N (by omega) (m := m) (by omega) (m.Rules.f i) (by omega) (i : Int) (fun r82 => k r82) (fun (_ : Unit) => r4_Check_l25 N n ((i + 1 : Nat) : Int) m (fun r83 => k r83) (fun (_ : Unit) => k (0 : Int))) with g | ⟨g, g'⟩
        · exact .inl (h'.trans (Eq.trans (by simp only [r3, decide_false, Bool.not_true, cond_false]) g))
        · exact .inr ⟨⟨r1, r2, h, by omega, g⟩, h'.trans (Eq.trans (by simp only [r3, decide_false, Bool.not_true, cond_false]) (g'.trans hX.symm))⟩) m.Rules.n 0 N (by omega) (by omega) (fun j hj => by omega) with h | ⟨h25, h25'⟩
  · exact .inl (h5'.trans (h15'.trans (h20'.trans h)))
  refine .inr ⟨⟨by omega, by omega, by omega, by omega, by omega, ⟨fun i hi => (h5 i hi).1, fun i j hij hj => (h5 j hj).2 i hij⟩, h15, h20, h25⟩, h5'.trans (h15'.trans (h20'.trans h25'))⟩
end
end Ha
end Go.Proofs.YtpillmoddoccfabDoor
