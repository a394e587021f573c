import Derived.Test.YtlphgonhenegoaaPH
set_option maxRecDepth 100000
set_option maxHeartbeats 0
set_option linter.unusedSectionVars false
set_option linter.unusedVariables false
set_option linter.unusedSimpArgs false
namespace Go.Proofs.Ytlphgonhenegoaa
open Go.Sx
noncomputable section
def newellaw07_CallsBounds_m {R : Type} (N : Nat) (a888 : api_Car) (a889 : api_Ride) (a890 : Int) (k : Bool → Option R) : Option R :=
  newellaw07_Tall N a888 (fun r891 =>
  bif r891 then
   newellaw07_works N  (fun r892 =>
   k r892)
  else
   calls_Worst N a888 a890 (fun r893 r894 =>
   newelref07_Worst N a888 a890 (fun r895 r896 =>
   bif r893 != r895 then
    k false
   else
    bif r894 != r896 then
     k false
    else
     calls_Bound N a888 a889 a890 (fun r897 r898 =>
     newelref07_Bound N a888 a889 a890 (fun r899 r900 =>
     bif r897 == r899 then
      bif r898 == r900 then
       newellaw07_works N  (fun r901 =>
       k r901)
      else
       k false
     else
      k false)))))
noncomputable def newellaw07_CallsBounds {R : Type} : Nat → api_Car → api_Ride → Int → (Bool → Option R) → Option R := lock (@newellaw07_CallsBounds_m R)
theorem newellaw07_CallsBounds_def {R : Type} (N : Nat) (a888 : api_Car) (a889 : api_Ride) (a890 : Int) (k : Bool → Option R) : newellaw07_CallsBounds N a888 a889 a890 k = newellaw07_CallsBounds_m N a888 a889 a890 k := by unfold newellaw07_CallsBounds; rw [lock_eq]
def newellaw07_CallsBounds_sp : Sp := ⟨[rAgg api_CarC, rAgg api_RideC, rInt .i64], []⟩
theorem newellaw07_CallsBounds_sp_ok : newellaw07_CallsBounds_sp.Ok := ⟨(allCons (rAgg_ok api_CarC_ok api_CarC_len) (allCons (rAgg_ok api_RideC_ok api_RideC_len) (allCons (rInt_ok .i64) allNil))), eNil⟩
def newellaw07_CallsBounds_rs : Sp := ⟨[rBool], []⟩
theorem newellaw07_CallsBounds_rs_ok : newellaw07_CallsBounds_rs.Ok := ⟨(allCons rBool_ok allNil), eNil⟩
def newellaw07_CallsBounds_run {R : Type} (N : Nat) (args : List SV) (T : Tab) (kf : SV × Tab → Option R) : Option R :=
  newellaw07_CallsBounds_m N (Cod.dec api_CarC (lget (toCs (lget args 0)))) (Cod.dec api_RideC (lget (toCs (lget args 1)))) (toI (lget args 2)) (fun q0 => kf (lget [.bool q0] 0, []))
def newellaw07_CallsBounds_lp {R : Type} (N : Nat) : Lp R := fun body S k => Option.none
noncomputable def newellaw07_CallsBounds_go {R : Type} (N : Nat) (args : List SV) (T : Tab) (kf : SV × Tab → Option R) : Option R :=
  newellaw07_CallsBounds N (Cod.dec api_CarC (lget (toCs (lget args 0)))) (Cod.dec api_RideC (lget (toCs (lget args 1)))) (toI (lget args 2)) (fun q0 => kf (lget [.bool q0] 0, []))
noncomputable def newellaw07_CallsBounds_cal {R : Type} (N : Nat) : Cal R := callM (calls_waits_v2_cal N) 8 0 newellaw07_CallsBounds_sp (newellaw07_CallsBounds_go N)
theorem newellaw07_CallsBounds_cal_ok {R : Type} (N : Nat) : CalOk E.P (newellaw07_CallsBounds_cal (R := R) N) :=
  callM_ok hE (calls_waits_v2_cal_ok N) (lp := newellaw07_CallsBounds_lp N) (jn := noJn) (keys := []) kNil (by kernel_rfl) (js := []) jNil (by kernel_rfl) newellaw07_CallsBounds_sp_ok newellaw07_CallsBounds_rs_ok (fun args T kf => Eq.trans (newellaw07_CallsBounds_def N (Cod.dec api_CarC (lget (toCs (lget args 0)))) (Cod.dec api_RideC (lget (toCs (lget args 1)))) (toI (lget args 2)) (fun q0 => kf (lget [.bool q0] 0, []))) (by kernel_rfl : newellaw07_CallsBounds_run N args T kf = fnM E (calls_waits_v2_cal N) (newellaw07_CallsBounds_lp N) (noJn) 8 (newellaw07_CallsBounds_sp.vs args) (newellaw07_CallsBounds_sp.tab T) 0 (resK newellaw07_CallsBounds_rs kf)))
open Classical in
theorem bound_same {N : Nat} (hN : 70000 < N) (c : api_Car) (x : api_Ride) (hx : x.wf) (fl : Int) : ∃ n e : Int, (∀ {R : Type} (k : Int → Int → Option R), calls_Bound N c x fl k = k n e) ∧ (∀ {R : Type} (k : Int → Int → Option R), newelref07_Bound N c x fl k = k n e) := by
  have z0 : ((0 : Int) != 0) = false := rfl
  by_cases hs : servesE c fl = 0
  rotate_left
  · have e0 : (servesE c fl != 0) = true := by simpa using hs
    refine ⟨0, servesE c fl, fun {R} k => ?_, fun {R} k => ?_⟩
    · rw [calls_Bound_def]
      unfold calls_Bound_m
      rw [serves_eq, e0, cond_true]
    · rw [newelref07_Bound_def]
      unfold newelref07_Bound_m
      rw [refCar, from_eq]
      unfold servesE at hs ⊢
      by_cases h : VC c
      · rw [if_pos h] at hs ⊢
        rw [if_pos h]
        by_cases h2 : c.Low ≤ fl ∧ fl ≤ c.High
        · rw [if_pos h2] at hs; exact absurd rfl hs
        · rw [decide_eq_false h2, if_neg h2]; rfl
      · rw [if_neg h, if_neg h]; rfl
  obtain ⟨n, f, hn, rfl, rfl, h1, h2⟩ := servesE_zero hs
  have h5 := hn.h5
  by_cases hr : RightI n x
  · obtain ⟨r, rfl, hok⟩ := hr.ok
    cases hw : r.W.testBit f with
    | true => exact ⟨((pot n r f : Nat) : Int), 0, fun k => bound_eq (by omega) hn hok hw k, fun k => refBound_eq hN hn hok hw k⟩
    | false =>
      refine ⟨0, 1, fun {R} k => ?_, fun {R} k => ?_⟩
      · rw [calls_Bound_def]
        unfold calls_Bound_m
        rw [serves_eq, hs, z0, cond_false, right_eq N hn _ hx, decide_eq_true hr]
        show (bif decide ((f : Int) < 0) then none else bif w64 (↑(BitVec.toNat (BitVec.ofInt (IntKind.bits IntKind.i64) (Int.fdiv (r.W : Int) ((2 : Int) ^ min (Int.toNat (f : Int)) (IntKind.bits IntKind.i64))) &&& BitVec.ofInt (IntKind.bits IntKind.i64) (1 : Int))) : Int) == (0 : Int) then _ else _) = _
        rw [natF, cond_false, bit0 f (by omega) r.W hok.w6, hw, Bool.not_false, cond_true]
      · rw [newelref07_Bound_def]
        unfold newelref07_Bound_m
        rw [refCar, if_pos hn.vc, z0, cond_false, from_eq, decide_eq_true (show (n.car.Low ≤ (f : Int) ∧ (f : Int) ≤ n.car.High) by show ((n.L : Nat) : Int) ≤ _ ∧ _ ≤ ((n.H : Nat) : Int); omega), Bool.not_true, cond_false, refRight (by omega) hn, decide_eq_true hr, Bool.not_true, cond_false, wanted_eq N hok.w6 (by omega), hw, Bool.not_false, cond_true]
  · refine ⟨0, 1, fun {R} k => ?_, fun {R} k => ?_⟩
    · rw [calls_Bound_def]
      unfold calls_Bound_m
      rw [serves_eq, hs, z0, cond_false, right_eq N hn _ hx, decide_eq_false hr, Bool.not_false, cond_true]
    · rw [newelref07_Bound_def]
      unfold newelref07_Bound_m
      rw [refCar, if_pos hn.vc, z0, cond_false, from_eq, decide_eq_true (show (n.car.Low ≤ (f : Int) ∧ (f : Int) ≤ n.car.High) by show ((n.L : Nat) : Int) ≤ _ ∧ _ ≤ ((n.H : Nat) : Int); omega), Bool.not_true, cond_false, refRight (by omega) hn, decide_eq_false hr, Bool.not_false, cond_true]
theorem callsBounds_true (c : api_Car) (x : api_Ride) (fl : Int) (hc : c.wf) (hx : x.wf) (hf : i64 fl) : ∃ N, newellaw07_CallsBounds N c x fl (fun q0 => okK (lget [.bool q0] 0, [])) = some () := by
  refine ⟨80000, ?_⟩
  have hN : 70000 < 80000 := by decide
  have wk : newellaw07_works 80000 (fun r => okK (lget [.bool r] 0, [])) = some () := works_eq (by decide) _
  rw [newellaw07_CallsBounds_def]
  unfold newellaw07_CallsBounds_m
  obtain ⟨n1, e1, b1, b2⟩ := bound_same hN c x hx fl
  have tail : ∀ a : Int, ∀ b : Int, (bif a != a then okK (lget [.bool false] 0, []) else bif b != b then okK (lget [.bool false] 0, []) else calls_Bound 80000 c x fl (fun r897 r898 => newelref07_Bound 80000 c x fl (fun r899 r900 => bif r897 == r899 then bif r898 == r900 then newellaw07_works 80000 (fun r901 => okK (lget [.bool r901] 0, [])) else okK (lget [.bool false] 0, []) else okK (lget [.bool false] 0, [])))) = some () := fun a b => by
    rw [bne_self_eq_false, cond_false, bne_self_eq_false, cond_false]
    refine (b1 _).trans ((b2 _).trans ?_)
    rw [BEq.rfl, cond_true, BEq.rfl, cond_true]
    exact wk
  have bad : servesE c fl ≠ 0 → calls_Worst 80000 c fl (fun r893 r894 => newelref07_Worst 80000 c fl (fun r895 r896 => bif r893 != r895 then okK (lget [.bool false] 0, []) else bif r894 != r896 then okK (lget [.bool false] 0, []) else calls_Bound 80000 c x fl (fun r897 r898 => newelref07_Bound 80000 c x fl (fun r899 r900 => bif r897 == r899 then bif r898 == r900 then newellaw07_works 80000 (fun r901 => okK (lget [.bool r901] 0, [])) else okK (lget [.bool false] 0, []) else okK (lget [.bool false] 0, []))))) = some () := fun h => by
    rw [worst_err _ h, refWorst_err _ h]
    exact tail _ _
  by_cases hv : VC c
  · obtain ⟨n, hn, rfl⟩ := hv.cn
    rw [tall_eq 80000 hn]
    by_cases hs : Sm n
    · rw [decide_eq_true hs, Bool.not_true, cond_false]
      by_cases h0 : servesE n.car fl = 0
      · obtain ⟨n', f, hn', hcn', rfl, h1, h2⟩ := servesE_zero h0
        have : n = n' := by
          unfold Cn.car at hcn'
          obtain ⟨a1, a2, a3, a4, a5⟩ := n
          obtain ⟨b1, b2, b3, b4, b5⟩ := n'
          simp only [api_Car.mk.injEq] at hcn'
          obtain ⟨k1, k2, k3, k4, k5⟩ := hcn'
          congr 1 <;> omega
        subst this
        rw [worstP_eq _ hn ⟨h1, h2⟩, refWorst_eq hN hn hs ⟨h1, h2⟩]
        exact tail _ _
      · exact bad h0
    · rw [decide_eq_false hs, Bool.not_false, cond_true]
      exact wk
  · rw [tall_no 80000 hv, cond_false]
    refine bad ?_
    unfold servesE
    rw [if_neg hv]
    decide
end
end Go.Proofs.Ytlphgonhenegoaa
