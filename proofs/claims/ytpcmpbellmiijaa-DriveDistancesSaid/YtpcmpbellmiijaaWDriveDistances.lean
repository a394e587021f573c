/-
  The model of the statement DriveDistances, that it is what the code does (written by a program), and that it answers true.
-/
import Derived.Test.YtpcmpbellmiijaaP4
set_option maxRecDepth 100000
set_option maxHeartbeats 0
set_option linter.unusedVariables false
set_option linter.unusedSimpArgs false
namespace Go.Proofs.Ytpcmpbellmiijaa
open Go.Sx
noncomputable section

def newellaw01_DriveDistances_L8 : LoopSp := ⟨⟨[2, 3, 11], ⟨(dr 2 ((rPtr 0 0) :: (rPtr 1 0) :: (dr 7 ((rInt .i64) :: (dr 64 []))))), [(0, eBlkC api_EscalatorC), (1, eBlkC api_StopC)]⟩, 2⟩, [(Option.none, ⟨[4], ⟨(dr 4 ((rBool) :: (dr 71 []))), []⟩, 0⟩), (some 0, ⟨[], ⟨(dr 76 []), []⟩, 0⟩)]⟩
theorem newellaw01_DriveDistances_L8_ok : newellaw01_DriveDistances_L8.Ok := ⟨⟨(drCons 2 (allCons (rPtr_ok 0 0) (allCons (rPtr_ok 1 0) (drCons 7 (allCons (rInt_ok .i64) (drCons 64 allNil)))))), (eCons (eBlkC_ok api_EscalatorC_ok api_EscalatorC_len) (eCons (eBlkC_ok api_StopC_ok api_StopC_len) eNil))⟩, (xCons ⟨(drCons 4 (allCons rBool_ok (drCons 71 allNil))), eNil⟩ (xCons ⟨(drCons 76 allNil), eNil⟩ xNil))⟩
def newellaw01_DriveDistances_h8 (v497 : Int) (v498 : api_Escalator) (v499 : api_Stop) : St := ⟨(un 2 ((.ptr 0 0) :: (.ptr 1 0) :: (un 7 ((.int .i64 v497) :: (un 64 []))))), [(0, .blk (Cod.enc api_EscalatorC v498)), (1, .blk (Cod.enc api_StopC v499))], 2⟩
def newellaw01_DriveDistances_x8_r (q0 : Bool) : St := ⟨(un 4 ((.bool q0) :: (un 71 []))), [], 0⟩
def newellaw01_DriveDistances_x8_0  : St := ⟨(un 76 []), [], 0⟩
def newellaw01_DriveDistances_b8 {R : Type} (N : Nat) (rc : Int → api_Escalator → api_Stop → Option R) (v497 : Int) (v498 : api_Escalator) (v499 : api_Stop) (kr : Bool → Option R) (k0 : Unit → Option R) : Option R :=
  bif decide (v497 < (2 : Int)) then
   drive_Witness N v498 v499 (v497 == (0 : Int)) (fun r500 r501 r502 =>
   newelref01_Witness N v498 v499 (v497 == (0 : Int)) (fun r503 r504 =>
   bif r500 != r504 then
    kr false
   else
    newellaw01_sameInts N r502 r503 (fun r505 =>
    bif !r505 then
     kr false
    else
     rc (w64 (v497 + (1 : Int))) v498 v499)))
  else
   k0 ()
def newellaw01_DriveDistances_l8 {R : Type} (N : Nat) : Nat → Int → api_Escalator → api_Stop → (Bool → Option R) → (Unit → Option R) → Option R
  | 0, _, _, _, _, _ => Option.none
  | n + 1, v497, v498, v499, kr, k0 => newellaw01_DriveDistances_b8 N (fun v497 v498 v499 => newellaw01_DriveDistances_l8 N n v497 v498 v499 kr k0) v497 v498 v499 kr k0


def newellaw01_DriveDistances_m {R : Type} (N : Nat) (a487 : api_Escalator) (a488 : api_Stop) (k : Bool → Option R) : Option R :=
  newellaw01_Far N a487 (fun r489 =>
  bif r489 then
   newellaw01_works N  (fun r490 =>
   k r490)
  else
   drive_Distance N a487 a488 (fun r491 r492 r493 =>
   newelref01_Distance N a487 a488 (fun r494 r495 r496 =>
   bif !(api_Span.Low r491 == api_Span.Low r494 && (api_Span.High r491 == api_Span.High r494 && true)) then
    k false
   else
    bif !(api_Span.Low r492 == api_Span.Low r495 && (api_Span.High r492 == api_Span.High r495 && true)) then
     k false
    else
     bif r493 != r496 then
      k false
     else
      newellaw01_DriveDistances_l8 N N (0 : Int) a487 a488 (fun r506 =>
       k r506) (fun (_ : Unit) =>
       newellaw01_works N  (fun r507 =>
       k r507)))))
noncomputable def newellaw01_DriveDistances {R : Type} : Nat → api_Escalator → api_Stop → (Bool → Option R) → Option R := lock (@newellaw01_DriveDistances_m R)
theorem newellaw01_DriveDistances_def {R : Type} (N : Nat) (a487 : api_Escalator) (a488 : api_Stop) (k : Bool → Option R) : newellaw01_DriveDistances N a487 a488 k = newellaw01_DriveDistances_m N a487 a488 k := by unfold newellaw01_DriveDistances; rw [lock_eq]
def newellaw01_DriveDistances_sp : Sp := ⟨[rAgg api_EscalatorC, rAgg api_StopC], []⟩
theorem newellaw01_DriveDistances_sp_ok : newellaw01_DriveDistances_sp.Ok := ⟨(allCons (rAgg_ok api_EscalatorC_ok api_EscalatorC_len) (allCons (rAgg_ok api_StopC_ok api_StopC_len) allNil)), eNil⟩
def newellaw01_DriveDistances_rs : Sp := ⟨[rBool], []⟩
theorem newellaw01_DriveDistances_rs_ok : newellaw01_DriveDistances_rs.Ok := ⟨(allCons rBool_ok allNil), eNil⟩
def newellaw01_DriveDistances_run {R : Type} (N : Nat) (args : List SV) (T : Tab) (kf : SV × Tab → Option R) : Option R :=
  newellaw01_DriveDistances_m N (Cod.dec api_EscalatorC (lget (toCs (lget args 0)))) (Cod.dec api_StopC (lget (toCs (lget args 1)))) (fun q0 => kf (lget [.bool q0] 0, []))
def newellaw01_DriveDistances_d8 {R : Type} (N : Nat) (S0 : St) (k : Exit → St → Option R) : Option R :=
  newellaw01_DriveDistances_l8 N N (toI (lget S0.tmps 11)) (Cod.dec api_EscalatorC (lget (entCs (entAt S0.tab 0)))) (Cod.dec api_StopC (lget (entCs (entAt S0.tab 1)))) (fun q0 => k .ret (newellaw01_DriveDistances_x8_r q0)) (fun (_ : Unit) => k (.exit 0) (newellaw01_DriveDistances_x8_0 ))
def newellaw01_DriveDistances_lp {R : Type} (N : Nat) : Lp R := fun body S k => bif (Go.Sx.keyOf body).getD 0 == 8 then newellaw01_DriveDistances_L8.head.raw 0 S (fun S0 => newellaw01_DriveDistances_d8 N S0 k) else Option.none
theorem newellaw01_DriveDistances_l8_eq {R : Type} (N : Nat) (k : Exit → St → Option R) (n : Nat) : ∀ (v0 : Int) (v1 : api_Escalator) (v2 : api_Stop), loopM E.Θ (newelref01_Legal_cal N) (newellaw01_DriveDistances_lp N) 0 newellaw01_DriveDistances_L8 (bodyAt E 4 8) n (newellaw01_DriveDistances_h8 v0 v1 v2) k = newellaw01_DriveDistances_l8 N n v0 v1 v2 (fun q0 => k .ret (newellaw01_DriveDistances_x8_r q0)) (fun (_ : Unit) => k (.exit 0) (newellaw01_DriveDistances_x8_0 )) := by
  induction n with
  | zero => intro v0 v1 v2; rfl
  | succ n ih =>
    intro v0 v1 v2
    refine Eq.trans (b := newellaw01_DriveDistances_b8 N (fun v0 v1 v2 => loopM E.Θ (newelref01_Legal_cal N) (newellaw01_DriveDistances_lp N) 0 newellaw01_DriveDistances_L8 (bodyAt E 4 8) n (newellaw01_DriveDistances_h8 v0 v1 v2) k) v0 v1 v2 (fun q0 => k .ret (newellaw01_DriveDistances_x8_r q0)) (fun (_ : Unit) => k (.exit 0) (newellaw01_DriveDistances_x8_0 ))) (by kernel_rfl) ?_
    have h : (fun (v0 : Int) (v1 : api_Escalator) (v2 : api_Stop) => loopM E.Θ (newelref01_Legal_cal N) (newellaw01_DriveDistances_lp N) 0 newellaw01_DriveDistances_L8 (bodyAt E 4 8) n (newellaw01_DriveDistances_h8 v0 v1 v2) k) = (fun (v0 : Int) (v1 : api_Escalator) (v2 : api_Stop) => newellaw01_DriveDistances_l8 N n v0 v1 v2 (fun q0 => k .ret (newellaw01_DriveDistances_x8_r q0)) (fun (_ : Unit) => k (.exit 0) (newellaw01_DriveDistances_x8_0 ))) := funext fun v0 => funext fun v1 => funext fun v2 => ih v0 v1 v2
    rw [h]
    rfl
theorem newellaw01_DriveDistances_k8 {R : Type} (N : Nat) : LpKey (R := R) E 4 0 (newellaw01_DriveDistances_lp N) 8 :=
  lpKey_of hE (newelref01_Legal_cal_ok N) newellaw01_DriveDistances_L8_ok [] kNil (by kernel_rfl) N fun S k =>
    Eq.trans (b := newellaw01_DriveDistances_L8.head.raw 0 S (fun S0 => newellaw01_DriveDistances_d8 N S0 k)) (by kernel_rfl) (congrArg (newellaw01_DriveDistances_L8.head.raw 0 S) (funext fun S0 => Eq.trans (newellaw01_DriveDistances_l8_eq N k N (toI (lget S0.tmps 11)) (Cod.dec api_EscalatorC (lget (entCs (entAt S0.tab 0)))) (Cod.dec api_StopC (lget (entCs (entAt S0.tab 1))))).symm (by kernel_rfl)))
noncomputable def newellaw01_DriveDistances_go {R : Type} (N : Nat) (args : List SV) (T : Tab) (kf : SV × Tab → Option R) : Option R :=
  newellaw01_DriveDistances N (Cod.dec api_EscalatorC (lget (toCs (lget args 0)))) (Cod.dec api_StopC (lget (toCs (lget args 1)))) (fun q0 => kf (lget [.bool q0] 0, []))
noncomputable def newellaw01_DriveDistances_cal {R : Type} (N : Nat) : Cal R := callM (newelref01_Legal_cal N) 4 0 newellaw01_DriveDistances_sp (newellaw01_DriveDistances_go N)
theorem newellaw01_DriveDistances_cal_ok {R : Type} (N : Nat) : CalOk E.P (newellaw01_DriveDistances_cal (R := R) N) :=
  callM_ok hE (newelref01_Legal_cal_ok N) (lp := newellaw01_DriveDistances_lp N) (keys := [8]) (kCons (newellaw01_DriveDistances_k8 N) kNil) (by kernel_rfl) newellaw01_DriveDistances_sp_ok newellaw01_DriveDistances_rs_ok (fun args T kf => Eq.trans (newellaw01_DriveDistances_def N (Cod.dec api_EscalatorC (lget (toCs (lget args 0)))) (Cod.dec api_StopC (lget (toCs (lget args 1)))) (fun q0 => kf (lget [.bool q0] 0, []))) (by kernel_rfl : newellaw01_DriveDistances_run N args T kf = fnM E (newelref01_Legal_cal N) (newellaw01_DriveDistances_lp N) 4 (newellaw01_DriveDistances_sp.vs args) (newellaw01_DriveDistances_sp.tab T) 0 (resK newellaw01_DriveDistances_rs kf)))

theorem round_eq {R : Type} (e : api_Escalator) (s : api_Stop) (i : Int) (hi : i < 2) (rc : Int → api_Escalator → api_Stop → Option R) (kr : Bool → Option R) (k0 : Unit → Option R) :
    newellaw01_DriveDistances_b8 NN rc i e s kr k0 = rc (w64 (i + 1)) e s := by
  unfold newellaw01_DriveDistances_b8
  obtain ⟨l, a, ha, hk⟩ := Witness_eq (N := NN) (by decide) e s (i == 0)
  obtain ⟨b, hb, hk2⟩ := refWitness_eq (N := NN) (by decide) e s (i == 0)
  have hr := rest_le e s (i == 0)
  have hm : (if (distV e s).2.2 = 0 then restS e s (i == 0) else 0) ≤ 100 := by split <;> omega
  simp only [hi, decide_true, cond_true, hk, hk2, bne_self_eq_false, cond_false, same_eq (N := NN) (show _ < 5000 by omega) (by omega) ha hb, Bool.not_true]
theorem driveDistances_true (e : api_Escalator) (s : api_Stop) (he : e.wf) (hs : s.wf) : ∃ N, newellaw01_DriveDistances N e s (fun q0 => okK (lget [.bool q0] 0, [])) = some () := by
  refine ⟨NN, ?_⟩
  rw [newellaw01_DriveDistances_def]
  unfold newellaw01_DriveDistances_m
  simp only [Far_eq, works_eq, Distance_eq (show 200 ≤ NN by decide), refDistance_eq (show 2000 ≤ NN by decide), BEq.rfl, Bool.and_self, Bool.not_true, cond_false, bne_self_eq_false]
  have hl : ∀ (kr : Bool → Option Unit) (k0 : Unit → Option Unit), newellaw01_DriveDistances_l8 NN NN 0 e s kr k0 = k0 () := by
    intro kr k0
    have h5 : NN = 4997 + 1 + 1 + 1 := rfl
    conv => lhs; arg 2; rw [h5]
    rw [newellaw01_DriveDistances_l8, round_eq e s 0 (by omega), newellaw01_DriveDistances_l8, round_eq e s _ (by rw [w64_eq (by omega) (by omega)]; omega), newellaw01_DriveDistances_l8]
    rfl
  rw [hl]
  cases decide ((e.Brakes.n : Int) > 10) <;> rfl
end
end Go.Proofs.Ytpcmpbellmiijaa
