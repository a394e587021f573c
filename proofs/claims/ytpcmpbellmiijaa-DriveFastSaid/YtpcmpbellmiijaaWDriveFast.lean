/-
  The model of the statement DriveFast, that it is what the code does (written by a program), and that it answers true.
-/
import Derived.Test.YtpcmpbellmiijaaP9
set_option maxRecDepth 100000
set_option maxHeartbeats 0
set_option linter.unusedVariables false
set_option linter.unusedSimpArgs false
namespace Go.Proofs.Ytpcmpbellmiijaa
open Go.Sx
noncomputable section


def newellaw01_DriveFast_m {R : Type} (N : Nat) (a550 : api_Escalator) (a551 : api_Stop) (a552 : Int) (k : Bool → Option R) : Option R :=
  newellaw01_Far N a550 (fun r553 =>
  bif r553 then
   newellaw01_works N  (fun r554 =>
   k r554)
  else
   newelref01_CheckStop N a550 a551 (fun r555 =>
   bif r555 != (0 : Int) then
    newellaw01_works N  (fun r556 =>
    k r556)
   else
    bif decide (a552 < (0 : Int)) then
     newellaw01_works N  (fun r557 =>
     k r557)
    else
     bif decide (a552 > (10000000 : Int)) then
      newellaw01_works N  (fun r558 =>
      k r558)
     else
      drive_Fastest N a550 a551 a552 (fun r559 r560 =>
      bif r560 != (0 : Int) then
       k false
      else
       bif decide (r559 < (0 : Int)) then
        k false
       else
        bif decide (r559 > (1000 : Int)) then
         k false
        else
         drive_Distance N a550 (api_Stop.mk r559 (api_Stop.Loads a551) (api_Stop.Fail a551)) (fun r561 r562 r563 =>
         bif r563 != (0 : Int) then
          k false
         else
          bif decide (api_Span.High r561 > a552) then
           k false
          else
           bif r559 == (1000 : Int) then
            newellaw01_works N  (fun r564 =>
            k r564)
           else
            drive_Distance N a550 (api_Stop.mk (w64 (r559 + (1 : Int))) (api_Stop.Loads a551) (api_Stop.Fail a551)) (fun r565 r566 r567 =>
            bif r567 == (12 : Int) then
             newellaw01_works N  (fun r568 =>
             k r568)
            else
             bif r567 == (0 : Int) then
              bif decide (api_Span.High r565 > a552) then
               newellaw01_works N  (fun r569 =>
               k r569)
              else
               k false
             else
              k false)))))
noncomputable def newellaw01_DriveFast {R : Type} : Nat → api_Escalator → api_Stop → Int → (Bool → Option R) → Option R := lock (@newellaw01_DriveFast_m R)
theorem newellaw01_DriveFast_def {R : Type} (N : Nat) (a550 : api_Escalator) (a551 : api_Stop) (a552 : Int) (k : Bool → Option R) : newellaw01_DriveFast N a550 a551 a552 k = newellaw01_DriveFast_m N a550 a551 a552 k := by unfold newellaw01_DriveFast; rw [lock_eq]
def newellaw01_DriveFast_sp : Sp := ⟨[rAgg api_EscalatorC, rAgg api_StopC, rInt .i64], []⟩
theorem newellaw01_DriveFast_sp_ok : newellaw01_DriveFast_sp.Ok := ⟨(allCons (rAgg_ok api_EscalatorC_ok api_EscalatorC_len) (allCons (rAgg_ok api_StopC_ok api_StopC_len) (allCons (rInt_ok .i64) allNil))), eNil⟩
def newellaw01_DriveFast_rs : Sp := ⟨[rBool], []⟩
theorem newellaw01_DriveFast_rs_ok : newellaw01_DriveFast_rs.Ok := ⟨(allCons rBool_ok allNil), eNil⟩
def newellaw01_DriveFast_run {R : Type} (N : Nat) (args : List SV) (T : Tab) (kf : SV × Tab → Option R) : Option R :=
  newellaw01_DriveFast_m N (Cod.dec api_EscalatorC (lget (toCs (lget args 0)))) (Cod.dec api_StopC (lget (toCs (lget args 1)))) (toI (lget args 2)) (fun q0 => kf (lget [.bool q0] 0, []))
def newellaw01_DriveFast_lp {R : Type} (N : Nat) : Lp R := fun body S k => Option.none
noncomputable def newellaw01_DriveFast_go {R : Type} (N : Nat) (args : List SV) (T : Tab) (kf : SV × Tab → Option R) : Option R :=
  newellaw01_DriveFast N (Cod.dec api_EscalatorC (lget (toCs (lget args 0)))) (Cod.dec api_StopC (lget (toCs (lget args 1)))) (toI (lget args 2)) (fun q0 => kf (lget [.bool q0] 0, []))
noncomputable def newellaw01_DriveFast_cal {R : Type} (N : Nat) : Cal R := callM (newelref01_Legal_cal N) 7 0 newellaw01_DriveFast_sp (newellaw01_DriveFast_go N)
theorem newellaw01_DriveFast_cal_ok {R : Type} (N : Nat) : CalOk E.P (newellaw01_DriveFast_cal (R := R) N) :=
  callM_ok hE (newelref01_Legal_cal_ok N) (lp := newellaw01_DriveFast_lp N) (keys := []) kNil (by kernel_rfl) newellaw01_DriveFast_sp_ok newellaw01_DriveFast_rs_ok (fun args T kf => Eq.trans (newellaw01_DriveFast_def N (Cod.dec api_EscalatorC (lget (toCs (lget args 0)))) (Cod.dec api_StopC (lget (toCs (lget args 1)))) (toI (lget args 2)) (fun q0 => kf (lget [.bool q0] 0, []))) (by kernel_rfl : newellaw01_DriveFast_run N args T kf = fnM E (newelref01_Legal_cal N) (newellaw01_DriveFast_lp N) 7 (newellaw01_DriveFast_sp.vs args) (newellaw01_DriveFast_sp.tab T) 0 (resK newellaw01_DriveFast_rs kf)))

theorem driveFast_true (e : api_Escalator) (s : api_Stop) (limit : Int) (he : e.wf) (hs : s.wf) (hl : i64 limit) : ∃ N, newellaw01_DriveFast N e s limit (fun q0 => okK (lget [.bool q0] 0, [])) = some () := by
  refine ⟨NN, ?_⟩
  rw [newellaw01_DriveFast_def]
  unfold newellaw01_DriveFast_m
  simp only [Far_eq, works_eq, refCheckStop_eq (show 10 ≤ NN by decide)]
  by_cases h1 : (e.Brakes.n : Int) > 10
  · simp only [h1, decide_true, cond_true]; rfl
  simp only [h1, decide_false, cond_false]
  by_cases h3 : stopV e s = 0
  case neg =>
    have : (stopV e s != 0) = true := by simpa using h3
    simp only [this, cond_true]; rfl
  obtain ⟨hV, hS⟩ := stopV_zero h3
  simp only [h3, bne_self_eq_false, cond_false]
  by_cases h4 : limit < 0
  · simp only [h4, decide_true, cond_true]; rfl
  simp only [h4, decide_false, cond_false]
  by_cases h5 : limit > 10000000
  · simp only [h5, decide_true, cond_true]; rfl
  simp only [h5, decide_false, cond_false, Fastest_eq (show 2000 ≤ NN by decide)]
  have hf : fastV e s limit = (fastC e s limit, 0) := by unfold fastV; rw [h3]; simp; omega
  obtain ⟨c1, c2, hc⟩ := fastC_spec (e := e) (s := s) (limit := limit) (by omega)
  have b1 : ¬ (fastC e s limit < 0) := by omega
  have b2 : ¬ (fastC e s limit > 1000) := by omega
  rw [hf]
  simp only [bne_self_eq_false, cond_false, b1, b2, decide_false]
  have hok := (hc (fastC e s limit) c1 c2).2 (Int.le_refl _)
  have d1 := fun k => Distance_eq (R := Unit) (N := NN) (by decide) e (fromV s (fastC e s limit)) k
  rw [dist_zero hV (fromV_ok hS c1 c2), if_pos hok.1] at d1
  have b3 : ¬ (wayS (pathV e (fromV s (fastC e s limit)) true) (restS e (fromV s (fastC e s limit)) true) > limit) := by have := hok.2; omega
  refine Eq.trans (d1 _) ?_
  simp only [bne_self_eq_false, cond_false, b3, decide_false]
  by_cases h6 : fastC e s limit = 1000
  · simp only [h6, BEq.rfl, cond_true]; rfl
  have h6' : (fastC e s limit == 1000) = false := by simpa using h6
  simp only [h6', cond_false]
  rw [w64_eq (by omega) (by omega)]
  have hnot : ¬ okF e s limit (fastC e s limit + 1) := fun h => by have := (hc (fastC e s limit + 1) (by omega) (by omega)).1 h; omega
  have d2 := fun k => Distance_eq (R := Unit) (N := NN) (by decide) e (fromV s (fastC e s limit + 1)) k
  rw [dist_zero hV (fromV_ok hS (v := fastC e s limit + 1) (by omega) (by omega))] at d2
  refine Eq.trans (d2 _) ?_
  by_cases h7 : pathV e (fromV s (fastC e s limit + 1)) true (restS e (fromV s (fastC e s limit + 1)) true) = 0
  · rw [if_pos h7]
    have h8 : wayS (pathV e (fromV s (fastC e s limit + 1)) true) (restS e (fromV s (fastC e s limit + 1)) true) > limit := by
      by_cases h : wayS (pathV e (fromV s (fastC e s limit + 1)) true) (restS e (fromV s (fastC e s limit + 1)) true) ≤ limit
      · exact absurd ⟨h7, h⟩ hnot
      · omega
    simp only [h8, decide_true]
    rfl
  · rw [if_neg h7]; rfl
end
end Go.Proofs.Ytpcmpbellmiijaa
