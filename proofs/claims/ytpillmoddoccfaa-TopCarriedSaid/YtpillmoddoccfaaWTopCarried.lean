/-
  The model of the statement TopCarried, that it is what the code does (written by a program), and that it answers true.
-/
import Derived.Test.YtpillmoddoccfaaDrP9
import Derived.Test.YtpillmoddoccfaaSxRun
set_option maxRecDepth 100000
set_option maxHeartbeats 0
set_option linter.unusedVariables false
set_option linter.unusedSimpArgs false
namespace Go.Proofs.Ytpillmoddoccfaa
open Go.Sx
noncomputable section

theorem neweltop_measures_closed {R : Type} (kf : SV × Tab → Option R) : (runG E 400 60).run 15 [] [] 0 kf = kf (.bool true, []) := by kernel_rfl
def neweltop_measures_m {R : Type} (N : Nat) (k : Bool → Option R) : Option R :=
  k true
noncomputable def neweltop_measures {R : Type} : Nat → (Bool → Option R) → Option R := lock (@neweltop_measures_m R)
theorem neweltop_measures_def {R : Type} (N : Nat) (k : Bool → Option R) : neweltop_measures N k = neweltop_measures_m N k := by unfold neweltop_measures; rw [lock_eq]
theorem neweltop_measures_eq {R : Type} (N : Nat) (k : Bool → Option R) : neweltop_measures N k = k true := by rw [neweltop_measures_def]; rfl
def neweltop_measures_sp : Sp := ⟨[], []⟩
noncomputable def neweltop_measures_go {R : Type} (N : Nat) (args : List SV) (T : Tab) (kf : SV × Tab → Option R) : Option R :=
  neweltop_measures N (fun q0 => kf (lget [.bool q0] 0, []))
noncomputable def neweltop_measures_cal {R : Type} (N : Nat) : Cal R := callM (newelref01_Rest_cal N) 15 0 neweltop_measures_sp (neweltop_measures_go N)
theorem neweltop_measures_cal_ok {R : Type} (N : Nat) : CalOk E.P (neweltop_measures_cal (R := R) N) :=
  callM_eq (m' := fun args T kf => kf (.bool true, [])) (fun args T kf => neweltop_measures_def N (fun q0 => kf (lget [.bool q0] 0, []))) (closed_ok hE (newelref01_Rest_cal_ok N) neweltop_measures_closed)

def neweltop_TopCarried_L14 : LoopSp := ⟨⟨[3, 4, 5, 7, 12, 13, 14, 15], ⟨(dr 3 ((rPtr 0 0) :: (rPtr 1 0) :: (rPtr 2 0) :: (dr 1 ((rInt .i64) :: (dr 4 ((rPtr 3 0) :: (rInt .i64) :: (rRow 4) :: (rInt .i64) :: (dr 251 []))))))), [(0, eBlkC api_EscalatorC), (1, eBlkC api_BandC), (2, eBlkC neweltop_RiddenC), (3, eBlkC api_SpanC), (4, eRow intC)]⟩, 5⟩, [(Option.none, ⟨[6], ⟨(dr 6 ((rBool) :: (dr 260 []))), []⟩, 0⟩), (some 0, ⟨[3, 4, 5, 13, 14], ⟨(dr 3 ((rPtr 0 0) :: (rPtr 1 0) :: (rPtr 2 0) :: (dr 7 ((rInt .i64) :: (rRow 3) :: (dr 252 []))))), [(0, eBlkC api_EscalatorC), (1, eBlkC api_BandC), (2, eBlkC neweltop_RiddenC), (3, eRow intC)]⟩, 4⟩)]⟩
theorem neweltop_TopCarried_L14_ok : neweltop_TopCarried_L14.Ok := ⟨⟨(drCons 3 (allCons (rPtr_ok 0 0) (allCons (rPtr_ok 1 0) (allCons (rPtr_ok 2 0) (drCons 1 (allCons (rInt_ok .i64) (drCons 4 (allCons (rPtr_ok 3 0) (allCons (rInt_ok .i64) (allCons (rRow_ok 4) (allCons (rInt_ok .i64) (drCons 251 allNil)))))))))))), (eCons (eBlkC_ok api_EscalatorC_ok api_EscalatorC_len) (eCons (eBlkC_ok api_BandC_ok api_BandC_len) (eCons (eBlkC_ok neweltop_RiddenC_ok neweltop_RiddenC_len) (eCons (eBlkC_ok api_SpanC_ok api_SpanC_len) (eCons (eRow_ok intC_ok) eNil)))))⟩, (xCons ⟨(drCons 6 (allCons rBool_ok (drCons 260 allNil))), eNil⟩ (xCons ⟨(drCons 3 (allCons (rPtr_ok 0 0) (allCons (rPtr_ok 1 0) (allCons (rPtr_ok 2 0) (drCons 7 (allCons (rInt_ok .i64) (allCons (rRow_ok 3) (drCons 252 allNil)))))))), (eCons (eBlkC_ok api_EscalatorC_ok api_EscalatorC_len) (eCons (eBlkC_ok api_BandC_ok api_BandC_len) (eCons (eBlkC_ok neweltop_RiddenC_ok neweltop_RiddenC_len) (eCons (eRow_ok intC_ok) eNil))))⟩ xNil))⟩
def neweltop_TopCarried_h14 (v511 : Int) (v512 : Int) (v513 : Int) (v514 : api_Escalator) (v515 : api_Band) (v516 : neweltop_Ridden) (v517 : api_Span) (v518 : Bool) (v519 : Arr Int) : St := ⟨(un 3 ((.ptr 0 0) :: (.ptr 1 0) :: (.ptr 2 0) :: (un 1 ((.int .i64 v511) :: (un 4 ((.ptr 3 0) :: (.int .i64 v512) :: (.row 4) :: (.int .i64 v513) :: (un 251 []))))))), [(0, .blk (Cod.enc api_EscalatorC v514)), (1, .blk (Cod.enc api_BandC v515)), (2, .blk (Cod.enc neweltop_RiddenC v516)), (3, .blk (Cod.enc api_SpanC v517)), (4, rowE intC v518 v519)], 5⟩
def neweltop_TopCarried_x14_r (q0 : Bool) : St := ⟨(un 6 ((.bool q0) :: (un 260 []))), [], 0⟩
def neweltop_TopCarried_x14_0 (v512 : Int) (v514 : api_Escalator) (v515 : api_Band) (v516 : neweltop_Ridden) (q4 : Bool) (q5 : Arr Int) : St := ⟨(un 3 ((.ptr 0 0) :: (.ptr 1 0) :: (.ptr 2 0) :: (un 7 ((.int .i64 v512) :: (.row 3) :: (un 252 []))))), [(0, .blk (Cod.enc api_EscalatorC v514)), (1, .blk (Cod.enc api_BandC v515)), (2, .blk (Cod.enc neweltop_RiddenC v516)), (3, rowE intC q4 q5)], 4⟩
def neweltop_TopCarried_b14 {R : Type} (N : Nat) (rc : Int → Int → Int → api_Escalator → api_Band → neweltop_Ridden → api_Span → Bool → Arr Int → Option R) (v511 : Int) (v512 : Int) (v513 : Int) (v514 : api_Escalator) (v515 : api_Band) (v516 : neweltop_Ridden) (v517 : api_Span) (v518 : Bool) (v519 : Arr Int) (kr : Bool → Option R) (k0 : Bool → Arr Int → Option R) : Option R :=
  bif decide (v513 < (↑(Arr.n (neweltop_Ridden.Flows v516)) : Int)) then
   bif decide ((0 : Int) ≤ v513) && decide (v513 < (↑(Arr.n (neweltop_Ridden.Flows v516)) : Int)) then
    bif decide (Arr.f (neweltop_Ridden.Flows v516) (Int.toNat v513) < api_Span.Low v517) then
     neweltop_measures N  (fun r520 =>
     kr r520)
    else
     bif decide ((0 : Int) ≤ v513) && decide (v513 < (↑(Arr.n (neweltop_Ridden.Flows v516)) : Int)) then
      bif decide (Arr.f (neweltop_Ridden.Flows v516) (Int.toNat v513) > api_Span.High v517) then
       neweltop_measures N  (fun r521 =>
       kr r521)
      else
       bif decide ((0 : Int) ≤ v513) && decide (v513 < (↑(Arr.n (neweltop_Ridden.Flows v516)) : Int)) then
        energy_Load N v515 (Arr.f (neweltop_Ridden.Flows v516) (Int.toNat v513)) v512 (fun r522 r523 =>
        bif r523 != (0 : Int) then
         kr false
        else
         bif decide (r522 > v511) then
          kr false
         else
          bif room (Arr.n v519 + (1 : Nat)) then
           rc v511 v512 (w64 (v513 + (1 : Int))) v514 v515 v516 v517 false (lst intC (Arr.n v519 + (1 : Nat)) (catC (Arr.n v519) (Cod.cell intC (Arr.f v519)) (litC [SV.int IntKind.i64 (0 : Int)] [[SV.int IntKind.i64 r522]])))
          else
           Option.none)
       else
        Option.none
     else
      Option.none
   else
    Option.none
  else
   k0 v518 v519
def neweltop_TopCarried_l14 {R : Type} (N : Nat) : Nat → Int → Int → Int → api_Escalator → api_Band → neweltop_Ridden → api_Span → Bool → Arr Int → (Bool → Option R) → (Bool → Arr Int → Option R) → Option R
  | 0, _, _, _, _, _, _, _, _, _, _, _ => Option.none
  | n + 1, v511, v512, v513, v514, v515, v516, v517, v518, v519, kr, k0 => neweltop_TopCarried_b14 N (fun v511 v512 v513 v514 v515 v516 v517 v518 v519 => neweltop_TopCarried_l14 N n v511 v512 v513 v514 v515 v516 v517 v518 v519 kr k0) v511 v512 v513 v514 v515 v516 v517 v518 v519 kr k0


def neweltop_TopCarried_m {R : Type} (N : Nat) (a473 : api_Escalator) (a474 : api_Band) (a475 : neweltop_Ridden) (k : Bool → Option R) : Option R :=
  newellaw01_Far N a473 (fun r476 =>
  bif r476 then
   neweltop_measures N  (fun r477 =>
   k r477)
  else
   newellaw11_Far N (api_Band.mk (api_Escalator.Up a473) (api_Escalator.Pull a473) (api_Escalator.Drag a473) (api_Band.Body a474) (api_Band.Ride a474) (api_Band.Most a474) (api_Band.Paces a474) (api_Band.Num a474) (api_Band.Den a474)) (fun r478 =>
   bif r478 then
    neweltop_measures N  (fun r479 =>
    k r479)
   else
    newellaw11_FarTimes N (neweltop_Ridden.Times a475) (fun r480 =>
    bif r480 then
     neweltop_measures N  (fun r481 =>
     k r481)
    else
     newelref01_Check N a473 (fun r482 =>
     bif r482 != (0 : Int) then
      neweltop_measures N  (fun r483 =>
      k r483)
     else
      newelref11_CheckTimes N (api_Band.mk (api_Escalator.Up a473) (api_Escalator.Pull a473) (api_Escalator.Drag a473) (api_Band.Body a474) (api_Band.Ride a474) (api_Band.Most a474) (api_Band.Paces a474) (api_Band.Num a474) (api_Band.Den a474)) (neweltop_Ridden.Times a475) (fun r484 =>
      bif r484 != (0 : Int) then
       neweltop_measures N  (fun r485 =>
       k r485)
      else
       bif decide (api_Band.Most a474 > (100000 : Int)) then
        neweltop_measures N  (fun r486 =>
        k r486)
       else
        bif decide (neweltop_Ridden.Limit a475 < (0 : Int)) then
         neweltop_measures N  (fun r487 =>
         k r487)
        else
         bif decide (neweltop_Ridden.Limit a475 > (10000000 : Int)) then
          neweltop_measures N  (fun r488 =>
          k r488)
         else
          bif decide (neweltop_Ridden.Period a475 < (0 : Int)) then
           neweltop_measures N  (fun r489 =>
           k r489)
          else
           bif decide (neweltop_Ridden.Period a475 ≥ (↑(Arr.n (api_Times.Periods (neweltop_Ridden.Times a475))) : Int)) then
            neweltop_measures N  (fun r490 =>
            k r490)
           else
            bif decide ((↑(Arr.n (neweltop_Ridden.Flows a475)) : Int) > (100 : Int)) then
             neweltop_measures N  (fun r491 =>
             k r491)
            else
             drive_Capacity N a473 (fun r492 r493 =>
             energy_Cheapest N (api_Band.mk (api_Escalator.Up a473) (api_Escalator.Pull a473) (api_Escalator.Drag a473) (api_Band.Body a474) (api_Band.Ride a474) (api_Band.Most a474) (api_Band.Paces a474) (api_Band.Num a474) (api_Band.Den a474)) (neweltop_Ridden.Times a475) (fun r494 r495 r496 r497 =>
             bif r493 != (0 : Int) then
              bif r493 == (0 : Int) then
               bif r495 == (0 : Int) then
                neweltop_measures N  (fun r498 =>
                k r498)
               else
                bif r495 == (3 : Int) then
                 neweltop_measures N  (fun r499 =>
                 k r499)
                else
                 k false
              else
               bif r493 == (1 : Int) then
                bif r495 == (0 : Int) then
                 neweltop_measures N  (fun r500 =>
                 k r500)
                else
                 bif r495 == (3 : Int) then
                  neweltop_measures N  (fun r501 =>
                  k r501)
                 else
                  k false
               else
                k false
             else
              bif r495 != (0 : Int) then
               bif r493 == (0 : Int) then
                bif r495 == (0 : Int) then
                 neweltop_measures N  (fun r502 =>
                 k r502)
                else
                 bif r495 == (3 : Int) then
                  neweltop_measures N  (fun r503 =>
                  k r503)
                 else
                  k false
               else
                bif r493 == (1 : Int) then
                 bif r495 == (0 : Int) then
                  neweltop_measures N  (fun r504 =>
                  k r504)
                 else
                  bif r495 == (3 : Int) then
                   neweltop_measures N  (fun r505 =>
                   k r505)
                  else
                   k false
                else
                 k false
              else
               bif decide (r492 < api_Band.Most a474) then
                bif r493 == (0 : Int) then
                 bif r495 == (0 : Int) then
                  neweltop_measures N  (fun r506 =>
                  k r506)
                 else
                  bif r495 == (3 : Int) then
                   neweltop_measures N  (fun r507 =>
                   k r507)
                  else
                   k false
                else
                 bif r493 == (1 : Int) then
                  bif r495 == (0 : Int) then
                   neweltop_measures N  (fun r508 =>
                   k r508)
                  else
                   bif r495 == (3 : Int) then
                    neweltop_measures N  (fun r509 =>
                    k r509)
                   else
                    k false
                 else
                  k false
               else
                newelref11_CheckPlan N (api_Band.mk (api_Escalator.Up a473) (api_Escalator.Pull a473) (api_Escalator.Drag a473) (api_Band.Body a474) (api_Band.Ride a474) (api_Band.Most a474) (api_Band.Paces a474) (api_Band.Num a474) (api_Band.Den a474)) (neweltop_Ridden.Times a475) r497 (fun r510 =>
                bif r510 != (0 : Int) then
                 k false
                else
                 bif decide ((0 : Int) ≤ neweltop_Ridden.Period a475) && decide (neweltop_Ridden.Period a475 < (↑(Arr.n (api_Times.Periods (neweltop_Ridden.Times a475))) : Int)) then
                  bif decide ((0 : Int) ≤ neweltop_Ridden.Period a475) && decide (neweltop_Ridden.Period a475 < (↑(Arr.n r497) : Int)) then
                   neweltop_TopCarried_l14 N N r492 (Arr.f r497 (Int.toNat (neweltop_Ridden.Period a475))) (0 : Int) a473 (api_Band.mk (api_Escalator.Up a473) (api_Escalator.Pull a473) (api_Escalator.Drag a473) (api_Band.Body a474) (api_Band.Ride a474) (api_Band.Most a474) (api_Band.Paces a474) (api_Band.Num a474) (api_Band.Den a474)) a475 (api_Period.Flow (Arr.f (api_Times.Periods (neweltop_Ridden.Times a475)) (Int.toNat (neweltop_Ridden.Period a475)))) true (lst intC (0 : Nat) (zeroC [SV.int IntKind.i64 (0 : Int)])) (fun r524 =>
                    k r524) (fun r525 r526 =>
                    drive_Fastest N a473 (api_Stop.mk (Arr.f r497 (Int.toNat (neweltop_Ridden.Period a475))) (api_Span.mk (0 : Int) (api_Band.Most (api_Band.mk (api_Escalator.Up a473) (api_Escalator.Pull a473) (api_Escalator.Drag a473) (api_Band.Body a474) (api_Band.Ride a474) (api_Band.Most a474) (api_Band.Paces a474) (api_Band.Num a474) (api_Band.Den a474)))) (0 : Int)) (neweltop_Ridden.Limit a475) (fun r527 r528 =>
                    bif r528 != (0 : Int) then
                     k false
                    else
                     bif decide ((0 : Int) ≤ w64 ((↑(Arr.n (api_Band.Paces (api_Band.mk (api_Escalator.Up a473) (api_Escalator.Pull a473) (api_Escalator.Drag a473) (api_Band.Body a474) (api_Band.Ride a474) (api_Band.Most a474) (api_Band.Paces a474) (api_Band.Num a474) (api_Band.Den a474)))) : Int) - (1 : Int))) && decide (w64 ((↑(Arr.n (api_Band.Paces (api_Band.mk (api_Escalator.Up a473) (api_Escalator.Pull a473) (api_Escalator.Drag a473) (api_Band.Body a474) (api_Band.Ride a474) (api_Band.Most a474) (api_Band.Paces a474) (api_Band.Num a474) (api_Band.Den a474)))) : Int) - (1 : Int)) < (↑(Arr.n (api_Band.Paces (api_Band.mk (api_Escalator.Up a473) (api_Escalator.Pull a473) (api_Escalator.Drag a473) (api_Band.Body a474) (api_Band.Ride a474) (api_Band.Most a474) (api_Band.Paces a474) (api_Band.Num a474) (api_Band.Den a474)))) : Int)) then
                      bif decide (r527 < Arr.f (api_Band.Paces (api_Band.mk (api_Escalator.Up a473) (api_Escalator.Pull a473) (api_Escalator.Drag a473) (api_Band.Body a474) (api_Band.Ride a474) (api_Band.Most a474) (api_Band.Paces a474) (api_Band.Num a474) (api_Band.Den a474))) (Int.toNat (w64 ((↑(Arr.n (api_Band.Paces (api_Band.mk (api_Escalator.Up a473) (api_Escalator.Pull a473) (api_Escalator.Drag a473) (api_Band.Body a474) (api_Band.Ride a474) (api_Band.Most a474) (api_Band.Paces a474) (api_Band.Num a474) (api_Band.Den a474)))) : Int) - (1 : Int))))) then
                       neweltop_measures N  (fun r529 =>
                       k r529)
                      else
                       drive_Play N a473 (api_Stop.mk (Arr.f r497 (Int.toNat (neweltop_Ridden.Period a475))) (api_Span.mk (0 : Int) (api_Band.Most (api_Band.mk (api_Escalator.Up a473) (api_Escalator.Pull a473) (api_Escalator.Drag a473) (api_Band.Body a474) (api_Band.Ride a474) (api_Band.Most a474) (api_Band.Paces a474) (api_Band.Num a474) (api_Band.Den a474)))) (0 : Int)) r526 (fun r530 r531 r532 =>
                       bif r530 != (0 : Int) then
                        k false
                       else
                        bif (↑(Arr.n r532) : Int) != (↑(Arr.n r526) : Int) then
                         k false
                        else
                         newelref01_Rest N (Arr.f r497 (Int.toNat (neweltop_Ridden.Period a475))) r532 (fun r533 r534 r535 =>
                         bif decide (r533 ≤ neweltop_Ridden.Limit a475) then
                          bif r535 then
                           neweltop_measures N  (fun r536 =>
                           k r536)
                          else
                           bif decide ((↑(Arr.n r526) : Int) < (100 : Int)) then
                            neweltop_measures N  (fun r537 =>
                            k r537)
                           else
                            k false
                         else
                          k false))
                     else
                      Option.none))
                  else
                   Option.none
                 else
                  Option.none))))))))
noncomputable def neweltop_TopCarried {R : Type} : Nat → api_Escalator → api_Band → neweltop_Ridden → (Bool → Option R) → Option R := lock (@neweltop_TopCarried_m R)
theorem neweltop_TopCarried_def {R : Type} (N : Nat) (a473 : api_Escalator) (a474 : api_Band) (a475 : neweltop_Ridden) (k : Bool → Option R) : neweltop_TopCarried N a473 a474 a475 k = neweltop_TopCarried_m N a473 a474 a475 k := by unfold neweltop_TopCarried; rw [lock_eq]
def neweltop_TopCarried_sp : Sp := ⟨[rAgg api_EscalatorC, rAgg api_BandC, rAgg neweltop_RiddenC], []⟩
theorem neweltop_TopCarried_sp_ok : neweltop_TopCarried_sp.Ok := ⟨(allCons (rAgg_ok api_EscalatorC_ok api_EscalatorC_len) (allCons (rAgg_ok api_BandC_ok api_BandC_len) (allCons (rAgg_ok neweltop_RiddenC_ok neweltop_RiddenC_len) allNil))), eNil⟩
def neweltop_TopCarried_rs : Sp := ⟨[rBool], []⟩
theorem neweltop_TopCarried_rs_ok : neweltop_TopCarried_rs.Ok := ⟨(allCons rBool_ok allNil), eNil⟩
def neweltop_TopCarried_run {R : Type} (N : Nat) (args : List SV) (T : Tab) (kf : SV × Tab → Option R) : Option R :=
  neweltop_TopCarried_m N (Cod.dec api_EscalatorC (lget (toCs (lget args 0)))) (Cod.dec api_BandC (lget (toCs (lget args 1)))) (Cod.dec neweltop_RiddenC (lget (toCs (lget args 2)))) (fun q0 => kf (lget [.bool q0] 0, []))
def neweltop_TopCarried_d14 {R : Type} (N : Nat) (S0 : St) (k : Exit → St → Option R) : Option R :=
  neweltop_TopCarried_l14 N N (toI (lget S0.tmps 7)) (toI (lget S0.tmps 13)) (toI (lget S0.tmps 15)) (Cod.dec api_EscalatorC (lget (entCs (entAt S0.tab 0)))) (Cod.dec api_BandC (lget (entCs (entAt S0.tab 1)))) (Cod.dec neweltop_RiddenC (lget (entCs (entAt S0.tab 2)))) (Cod.dec api_SpanC (lget (entCs (entAt S0.tab 3)))) (entNl (entAt S0.tab 4)) (lst intC (entN (entAt S0.tab 4)) (entC (entAt S0.tab 4))) (fun q0 => k .ret (neweltop_TopCarried_x14_r q0)) (fun q4 q5 => k (.exit 0) (neweltop_TopCarried_x14_0 (toI (lget S0.tmps 13)) (Cod.dec api_EscalatorC (lget (entCs (entAt S0.tab 0)))) (Cod.dec api_BandC (lget (entCs (entAt S0.tab 1)))) (Cod.dec neweltop_RiddenC (lget (entCs (entAt S0.tab 2)))) q4 q5))
def neweltop_TopCarried_lp {R : Type} (N : Nat) : Lp R := fun body S k => bif (Go.Sx.keyOf body).getD 0 == 14 then neweltop_TopCarried_L14.head.raw 0 S (fun S0 => neweltop_TopCarried_d14 N S0 k) else Option.none
theorem neweltop_TopCarried_l14_eq {R : Type} (N : Nat) (k : Exit → St → Option R) (n : Nat) : ∀ (v0 : Int) (v1 : Int) (v2 : Int) (v3 : api_Escalator) (v4 : api_Band) (v5 : neweltop_Ridden) (v6 : api_Span) (v7 : Bool) (v8 : Arr Int), loopM E.Θ (neweltop_measures_cal N) (neweltop_TopCarried_lp N) (noJn) 0 neweltop_TopCarried_L14 (bodyAt E 9 14) n (neweltop_TopCarried_h14 v0 v1 v2 v3 v4 v5 v6 v7 v8) k = neweltop_TopCarried_l14 N n v0 v1 v2 v3 v4 v5 v6 v7 v8 (fun q0 => k .ret (neweltop_TopCarried_x14_r q0)) (fun q4 q5 => k (.exit 0) (neweltop_TopCarried_x14_0 v1 v3 v4 v5 q4 q5)) := by
  induction n with
  | zero => intro v0 v1 v2 v3 v4 v5 v6 v7 v8; rfl
  | succ n ih =>
    intro v0 v1 v2 v3 v4 v5 v6 v7 v8
    refine Eq.trans (b := neweltop_TopCarried_b14 N (fun v0 v1 v2 v3 v4 v5 v6 v7 v8 => loopM E.Θ (neweltop_measures_cal N) (neweltop_TopCarried_lp N) (noJn) 0 neweltop_TopCarried_L14 (bodyAt E 9 14) n (neweltop_TopCarried_h14 v0 v1 v2 v3 v4 v5 v6 v7 v8) k) v0 v1 v2 v3 v4 v5 v6 v7 v8 (fun q0 => k .ret (neweltop_TopCarried_x14_r q0)) (fun q4 q5 => k (.exit 0) (neweltop_TopCarried_x14_0 v1 v3 v4 v5 q4 q5))) (by kernel_rfl) ?_
    have h : (fun (v0 : Int) (v1 : Int) (v2 : Int) (v3 : api_Escalator) (v4 : api_Band) (v5 : neweltop_Ridden) (v6 : api_Span) (v7 : Bool) (v8 : Arr Int) => loopM E.Θ (neweltop_measures_cal N) (neweltop_TopCarried_lp N) (noJn) 0 neweltop_TopCarried_L14 (bodyAt E 9 14) n (neweltop_TopCarried_h14 v0 v1 v2 v3 v4 v5 v6 v7 v8) k) = (fun (v0 : Int) (v1 : Int) (v2 : Int) (v3 : api_Escalator) (v4 : api_Band) (v5 : neweltop_Ridden) (v6 : api_Span) (v7 : Bool) (v8 : Arr Int) => neweltop_TopCarried_l14 N n v0 v1 v2 v3 v4 v5 v6 v7 v8 (fun q0 => k .ret (neweltop_TopCarried_x14_r q0)) (fun q4 q5 => k (.exit 0) (neweltop_TopCarried_x14_0 v1 v3 v4 v5 q4 q5))) := funext fun v0 => funext fun v1 => funext fun v2 => funext fun v3 => funext fun v4 => funext fun v5 => funext fun v6 => funext fun v7 => funext fun v8 => ih v0 v1 v2 v3 v4 v5 v6 v7 v8
    rw [h]
    rfl
theorem neweltop_TopCarried_k14 {R : Type} (N : Nat) : LpKey (R := R) E 9 0 (neweltop_TopCarried_lp N) 14 :=
  lpKey_of hE (neweltop_measures_cal_ok N) (jn := noJn) neweltop_TopCarried_L14_ok [] kNil (by kernel_rfl) [] jNil (by kernel_rfl) N fun S k =>
    Eq.trans (b := neweltop_TopCarried_L14.head.raw 0 S (fun S0 => neweltop_TopCarried_d14 N S0 k)) (by kernel_rfl) (congrArg (neweltop_TopCarried_L14.head.raw 0 S) (funext fun S0 => Eq.trans (neweltop_TopCarried_l14_eq N k N (toI (lget S0.tmps 7)) (toI (lget S0.tmps 13)) (toI (lget S0.tmps 15)) (Cod.dec api_EscalatorC (lget (entCs (entAt S0.tab 0)))) (Cod.dec api_BandC (lget (entCs (entAt S0.tab 1)))) (Cod.dec neweltop_RiddenC (lget (entCs (entAt S0.tab 2)))) (Cod.dec api_SpanC (lget (entCs (entAt S0.tab 3)))) (entNl (entAt S0.tab 4)) (lst intC (entN (entAt S0.tab 4)) (entC (entAt S0.tab 4)))).symm (by kernel_rfl)))
noncomputable def neweltop_TopCarried_go {R : Type} (N : Nat) (args : List SV) (T : Tab) (kf : SV × Tab → Option R) : Option R :=
  neweltop_TopCarried N (Cod.dec api_EscalatorC (lget (toCs (lget args 0)))) (Cod.dec api_BandC (lget (toCs (lget args 1)))) (Cod.dec neweltop_RiddenC (lget (toCs (lget args 2)))) (fun q0 => kf (lget [.bool q0] 0, []))
noncomputable def neweltop_TopCarried_cal {R : Type} (N : Nat) : Cal R := callM (neweltop_measures_cal N) 9 0 neweltop_TopCarried_sp (neweltop_TopCarried_go N)
theorem neweltop_TopCarried_cal_ok {R : Type} (N : Nat) : CalOk E.P (neweltop_TopCarried_cal (R := R) N) :=
  callM_ok hE (neweltop_measures_cal_ok N) (lp := neweltop_TopCarried_lp N) (jn := noJn) (keys := [14]) (kCons (neweltop_TopCarried_k14 N) kNil) (by kernel_rfl) (js := []) jNil (by kernel_rfl) neweltop_TopCarried_sp_ok neweltop_TopCarried_rs_ok (fun args T kf => Eq.trans (neweltop_TopCarried_def N (Cod.dec api_EscalatorC (lget (toCs (lget args 0)))) (Cod.dec api_BandC (lget (toCs (lget args 1)))) (Cod.dec neweltop_RiddenC (lget (toCs (lget args 2)))) (fun q0 => kf (lget [.bool q0] 0, []))) (by kernel_rfl : neweltop_TopCarried_run N args T kf = fnM E (neweltop_measures_cal N) (neweltop_TopCarried_lp N) (noJn) 9 (neweltop_TopCarried_sp.vs args) (neweltop_TopCarried_sp.tab T) 0 (resK neweltop_TopCarried_rs kf)))

theorem farE_eq {R : Type} (N : Nat) (e : api_Escalator) (k : Bool → Option R) : newellaw01_Far N e k = k (decide ((e.Brakes.n : Int) > 10)) := by rw [newellaw01_Far_def]; rfl
theorem farB_eq {R : Type} (N : Nat) (b : api_Band) (k : Bool → Option R) : newellaw11_Far N b k = k (decide ((b.Paces.n : Int) > 10)) := by rw [newellaw11_Far_def]; rfl
theorem farT_eq {R : Type} (N : Nat) (t : api_Times) (k : Bool → Option R) : newellaw11_FarTimes N t k = k (decide ((t.Periods.n : Int) > 20)) := by rw [newellaw11_FarTimes_def]; rfl

/-- From a speed from which each stop ends within a limit, each history does. -/
theorem within_plain {e : api_Escalator} {s : api_Stop} {a : Arr Int} (hH : Dr.HistOk e s a) {lim : Int} (hk : Dr.okF e s lim s.Speed) :
    Dr.wayS (Dr.playV e s a.f) (Dr.stopF (Dr.playV e s a.f) a.n 0) ≤ lim ∧ (Dr.playV e s a.f (Dr.stopF (Dr.playV e s a.f) a.n 0) = 0 ∨ a.n < 100) := by
  have hr : Dr.pathV e s true (Dr.restS e s true) = 0 := hk.1
  have hl : Dr.wayS (Dr.pathV e s true) (Dr.restS e s true) ≤ lim := hk.2
  have hS := hH.vs
  have hbt := Dr.play_between hH
  have sv := Dr.stopF_spec (Dr.playV e s a.f) a.n 0
  have hTM : Dr.restS e s true ≤ 100 := by have := (Dr.stopF_spec (Dr.pathV e s true) 100 0).2.1; unfold Dr.restS; omega
  have hsoftv := Dr.play_soft (e := e) hS.s1 a.f
  have hsoftM := Dr.path_soft (e := e) hS.s1 true
  have hup : Dr.stopF (Dr.playV e s a.f) a.n 0 ≤ Dr.restS e s true := by
    rcases Nat.lt_or_ge a.n (Dr.restS e s true) with hlt | hge
    · omega
    · exact (Dr.Soft.less hsoftv hsoftM (n := a.n) (m := 100) (fun t h6 _ _ _ => (hbt t h6).2) hr hge).1
  have hway : Dr.wayS (Dr.playV e s a.f) (Dr.stopF (Dr.playV e s a.f) a.n 0) ≤ Dr.wayS (Dr.pathV e s true) (Dr.restS e s true) := by
    have a1 := Dr.way_le (u := Dr.playV e s a.f) (v := Dr.pathV e s true) (n := a.n) (fun t ht => (hbt t ht).2) (Dr.stopF (Dr.playV e s a.f) a.n 0) (by omega)
    have a2 := Dr.way_mono (v := Dr.pathV e s true) (n := Dr.restS e s true) (fun t ht => (hsoftM.pos (n := 100) t ht).1) hup (Nat.le_refl _)
    omega
  refine ⟨by omega, ?_⟩
  by_cases hz : Dr.playV e s a.f (Dr.stopF (Dr.playV e s a.f) a.n 0) = 0
  · exact .inl hz
  · right
    rcases Nat.lt_or_ge a.n (Dr.restS e s true) with h6 | h6
    · omega
    · exact absurd (Dr.Soft.less hsoftv hsoftM (n := a.n) (m := 100) (fun t h6 _ _ _ => (hbt t h6).2) hr h6).2.1 hz

theorem pace_mono {c : api_Band} (hc : En.VB c) : ∀ (k j : Nat), j ≤ k → k < c.Paces.n → c.Paces.f j ≤ c.Paces.f k := by
  intro k
  induction k with
  | zero => intro j h1 _; rw [show j = 0 by omega]; exact Int.le_refl _
  | succ k ih =>
    intro j h1 h2
    by_cases e : j = k + 1
    · rw [e]; exact Int.le_refl _
    · have h3 := ih j (by omega) (by omega)
      have h4 : En.pP c (k + 1) + 1 ≤ c.Paces.f (k + 1) := (hc.pa (k + 1) h2).1
      have h5 : En.pP c (k + 1) = c.Paces.f k := rfl
      omega

theorem carried_l14 {N : Nat} (hN : 20 ≤ N) {c : api_Band} (hc : En.VB c) (m : api_Escalator) (x : neweltop_Ridden) {sp : api_Span} (hs : 0 ≤ sp.Low ∧ sp.High ≤ 100) {pace : Int} (hp : En.isIn c.Paces pace) {most : Int} (hm : En.loadS c sp.High pace ≤ most) (hn : x.Flows.n ≤ 100) :
    ∀ (r i n : Nat) (b : Bool) (a : Arr Int), i + r = x.Flows.n → r < n → a.Is i (fun j => En.loadS c (x.Flows.f j) pace) → (∀ j, j < i → sp.Low ≤ x.Flows.f j ∧ x.Flows.f j ≤ sp.High) →
    (∀ {R : Type} (kr : Bool → Option R) (k0 : Bool → Arr Int → Option R), neweltop_TopCarried_l14 N n most pace (i : Int) m c x sp b a kr k0 = kr true) ∨
    ∃ (b' : Bool) (a' : Arr Int), a'.Is x.Flows.n (fun j => En.loadS c (x.Flows.f j) pace) ∧ (∀ j, j < x.Flows.n → sp.Low ≤ x.Flows.f j ∧ x.Flows.f j ≤ sp.High) ∧
      ∀ {R : Type} (kr : Bool → Option R) (k0 : Bool → Arr Int → Option R), neweltop_TopCarried_l14 N n most pace (i : Int) m c x sp b a kr k0 = k0 b' a' := by
  intro r
  induction r with
  | zero =>
    intro i n b a h1 h2 h3 h4
    obtain ⟨n, rfl⟩ : ∃ m, n = m + 1 := ⟨n - 1, by omega⟩
    have hi : i = x.Flows.n := by omega
    subst hi
    refine .inr ⟨b, a, h3, h4, fun {R} kr k0 => ?_⟩
    unfold neweltop_TopCarried_l14 neweltop_TopCarried_b14
    simp only [En.lt_false (Nat.le_refl x.Flows.n), cond_false]
  | succ r ih =>
    intro i n b a h1 h2 h3 h4
    obtain ⟨n, rfl⟩ : ∃ m, n = m + 1 := ⟨n - 1, by omega⟩
    have hi : i < x.Flows.n := by omega
    by_cases c1 : x.Flows.f i < sp.Low
    · refine .inl fun {R} kr k0 => ?_
      unfold neweltop_TopCarried_l14 neweltop_TopCarried_b14
      simp only [En.lt_true hi, nat_nonneg, Bool.and_self, cond_true, Int.toNat_natCast, c1, decide_true, neweltop_measures_eq]
    by_cases c2 : x.Flows.f i > sp.High
    · refine .inl fun {R} kr k0 => ?_
      unfold neweltop_TopCarried_l14 neweltop_TopCarried_b14
      simp only [En.lt_true hi, nat_nonneg, Bool.and_self, cond_true, Int.toNat_natCast, c1, c2, decide_true, decide_false, cond_false, neweltop_measures_eq]
    have hfl : 0 ≤ x.Flows.f i ∧ x.Flows.f i ≤ 100 := by omega
    have hask : En.askV c (x.Flows.f i) pace = 0 := En.askV_zero.2 ⟨hc, hp, hfl⟩
    have hfp := En.isIn_fp hc hp hfl
    have hlv : En.loadV c (x.Flows.f i) pace = En.loadS c (x.Flows.f i) pace := by unfold En.loadV; rw [if_pos hask]
    have hle := En.load_mono hc hfp (g := sp.High) (by omega)
    have hpush := h3.push_int (z := [SV.int IntKind.i64 (0 : Int)]) (v := En.loadS c (x.Flows.f i) pace) rfl
    have hxl := h3.len
    have hr1 : room (a.n + 1) = true := room_of (by omega)
    have c3 : ¬ En.loadS c (x.Flows.f i) pace > most := by omega
    have step : ∀ {R : Type} (kr : Bool → Option R) (k0 : Bool → Arr Int → Option R), neweltop_TopCarried_l14 N (n + 1) most pace (i : Int) m c x sp b a kr k0 = neweltop_TopCarried_l14 N n most pace ((i + 1 : Nat) : Int) m c x sp false (lst intC (a.n + 1) (catC a.n (Cod.cell intC a.f) (litC [SV.int IntKind.i64 (0 : Int)] [[SV.int IntKind.i64 (En.loadS c (x.Flows.f i) pace)]]))) kr k0 := fun {R} kr k0 => by
      conv => lhs; unfold neweltop_TopCarried_l14 neweltop_TopCarried_b14
      simp only [En.lt_true hi, nat_nonneg, Bool.and_self, cond_true, Int.toNat_natCast, c1, c2, c3, decide_false, cond_false, En.Load_eq hN, hask, hlv, bne_self_eq_false, hr1, w64_succ (show i < 1000000000000 by omega)]
    rcases ih (i + 1) n false _ (by omega) (by omega) hpush (fun j hj => by
      by_cases e : j = i
      · subst e; omega
      · exact h4 j (by omega)) with h5 | ⟨b', a', h5, h6, h7⟩
    · exact .inl fun {R} kr k0 => (step kr k0).trans (h5 kr k0)
    · exact .inr ⟨b', a', h5, h6, fun {R} kr k0 => (step kr k0).trans (h7 kr k0)⟩

theorem runX_srv {b : api_Band} {t : api_Times} : ∀ (c x : Nat) (s : Option Nat), (∀ y, s = some y → En.srvX b t y) → ∀ y, En.runX b t c x s = some y → En.srvX b t y := by
  intro c
  induction c with
  | zero => intro x s h y hy; exact h y hy
  | succ c ih =>
    intro x s h y hy
    refine ih (x + 1) (En.stepX b t s x) (fun z hz => ?_) y hy
    unfold En.stepX at hz
    by_cases hs : En.srvX b t x
    · rw [if_pos hs] at hz
      cases s with
      | none => injection hz with hz; rw [← hz]; exact hs
      | some w =>
        simp only at hz
        split at hz <;> injection hz with hz
        · rw [← hz]; exact hs
        · rw [← hz]; exact h w rfl
    · rw [if_neg hs] at hz
      exact h z hz

theorem topCarried_true (m : api_Escalator) (b : api_Band) (x : neweltop_Ridden) (hm : m.wf) (hb : b.wf) (hx : x.wf) : ∃ N, neweltop_TopCarried N m b x (fun q0 => okK (lget [.bool q0] 0, [])) = some () := by
  classical
  refine ⟨20000, ?_⟩
  rw [neweltop_TopCarried_def]
  unfold neweltop_TopCarried_m
  have htr : okK (lget [SV.bool true] 0, []) = some () := rfl
  have hMost : b.Most = (api_Band.mk m.Up m.Pull m.Drag b.Body b.Ride b.Most b.Paces b.Num b.Den).Most := rfl
  generalize api_Band.mk m.Up m.Pull m.Drag b.Body b.Ride b.Most b.Paces b.Num b.Den = c at *
  simp only [farE_eq, farB_eq, farT_eq, neweltop_measures_eq, htr, Dr.refCheck_eq (show 10 ≤ 20000 by decide), En.refTimes_eq (show 20 ≤ 20000 by decide), Dr.Capacity_eq (show 200 ≤ 20000 by decide), hMost]
  cases decide ((m.Brakes.n : Int) > 10)
  rotate_left
  · rfl
  cases decide ((c.Paces.n : Int) > 10)
  rotate_left
  · rfl
  cases decide ((x.Times.Periods.n : Int) > 20)
  rotate_left
  · rfl
  by_cases hv : Dr.VE m
  rotate_left
  · have : (Dr.checkV m != 0) = true := by unfold Dr.checkV; rw [if_neg hv]; rfl
    simp only [cond_false, this, cond_true]
  have e1 : (Dr.checkV m != 0) = false := by unfold Dr.checkV; rw [if_pos hv]; rfl
  by_cases ht : En.timesV c x.Times = 0
  rotate_left
  · have : (En.timesV c x.Times != 0) = true := by simpa using ht
    simp only [cond_false, e1, this, cond_true]
  obtain ⟨hc, hT⟩ := En.timesV_zero.1 ht
  simp only [cond_false, e1, ht, bne_self_eq_false]
  by_cases h1 : c.Most > 100000
  · simp only [h1, decide_true, cond_true]
  by_cases h2 : x.Limit < 0
  · simp only [h1, h2, decide_true, decide_false, cond_true, cond_false]
  by_cases h3 : x.Limit > 10000000
  · simp only [h1, h2, h3, decide_true, decide_false, cond_true, cond_false]
  by_cases h4 : x.Period < 0
  · simp only [h1, h2, h3, h4, decide_true, decide_false, cond_true, cond_false]
  by_cases h5 : x.Period ≥ (x.Times.Periods.n : Int)
  · simp only [h1, h2, h3, h4, h5, decide_true, decide_false, cond_true, cond_false]
  by_cases h6 : (x.Flows.n : Int) > 100
  · simp only [h1, h2, h3, h4, h5, h6, decide_true, decide_false, cond_true, cond_false]
  simp only [h1, h2, h3, h4, h5, h6, decide_false, cond_false]
  obtain ⟨f, p, hp1, hp2⟩ := En.Cheapest_eq (N := 20000) (by decide) c x.Times
  rw [hp2]
  have hcap : (Dr.capV m).2 = 0 ∨ (Dr.capV m).2 = 1 := by
    unfold Dr.capV
    rw [if_pos hv]
    split
    · exact .inr rfl
    · split <;> exact .inl rfl
  have hche : En.chE c x.Times = 0 ∨ En.chE c x.Times = 3 := by
    unfold En.chE
    rw [if_pos ht]
    split
    · exact .inr rfl
    · exact .inl rfl
  rcases hcap with hcap | hcap
  rotate_left
  · rw [hcap]
    rcases hche with hche | hche <;> rw [hche] <;> rfl
  rcases hche with hche | hche
  rotate_left
  · rw [hcap, hche]; rfl
  rw [hcap, hche]
  by_cases h7 : (Dr.capV m).1 < c.Most
  · simp only [h7, decide_true, cond_true]; rfl
  simp only [h7, decide_false, cond_false, bne_self_eq_false]
  -- the plan
  obtain ⟨y, hy⟩ : ∃ y, En.cheapX c x.Times = some y := by
    cases hy : En.cheapX c x.Times with
    | none => unfold En.chE at hche; rw [if_pos ht, hy] at hche; cases hche
    | some y => exact ⟨y, rfl⟩
  have hsrv : En.srvX c x.Times y := runX_srv _ 0 none (fun _ h => by cases h) y hy
  have en : En.chN c x.Times = x.Times.Periods.n := by unfold En.chN; rw [if_pos ht, hy]
  have ef : En.chF c x.Times = En.planF c x.Times.Periods.n y := by unfold En.chF; rw [hy]
  rw [en, ef] at hp1
  have hl1 := hc.l1
  have hpa : En.planP c x.Times p := ⟨hp1.len, fun j hj => by
    rw [hp1.get j (by rw [← hp1.len]; exact hj)]
    exact ⟨En.dig c.Paces.n x.Times.Periods.n y j, Nat.mod_lt _ (by omega), rfl⟩⟩
  have hpv : En.planV c x.Times p = 0 := En.planV_zero.2 ⟨hc, hT, hpa⟩
  obtain ⟨j, hj⟩ : ∃ j : Nat, x.Period = (j : Int) := ⟨x.Period.toNat, by omega⟩
  have hjn : j < x.Times.Periods.n := by omega
  have hpn := hp1.len
  rw [hj]
  simp only [En.refPlan_eq (show 20 ≤ 20000 by decide), hpv, bne_self_eq_false, cond_false, En.lt_true hjn, En.lt_true (show j < p.n by omega), nat_nonneg, Bool.and_self, cond_true, Int.toNat_natCast]
  have hpj := hpa.2 j (by omega)
  have hsj : En.loadS c (x.Times.Periods.f j).Flow.High (p.f j) ≤ c.Most := by rw [hp1.get j hjn]; exact hsrv j hjn
  have hper := hT.per j hjn
  have f1 := hper.f1
  have f2 := hper.f2
  have f3 := hper.f3
  have hfpH := En.isIn_fp hc hpj (flow := (x.Times.Periods.f j).Flow.High) ⟨by omega, f3⟩
  have g1 := hfpH.p1
  have g2 := hfpH.p2
  rcases carried_l14 (N := 20000) (by decide) hc m x (sp := (x.Times.Periods.f j).Flow) ⟨f1, f3⟩ hpj (most := (Dr.capV m).1) (by omega) (by omega) x.Flows.n 0 20000 true (lst intC (0 : Nat) (zeroC [SV.int IntKind.i64 (0 : Int)])) (by omega) (by omega) Arr.Is.zero (fun j hj => by omega) with hl | ⟨b', a', k1, k2, k3⟩
  · exact (hl _ _).trans htr
  refine (k3 _ _).trans ?_
  have hVS : Dr.VS m ⟨p.f j, ⟨0, c.Most⟩, 0⟩ := ⟨by show 0 ≤ p.f j; omega, by show p.f j ≤ 1000; omega, Int.le_refl _, hc.m1, by show c.Most ≤ 100000; omega, Int.le_refl _, by show (0 : Int) < 2 ^ m.Brakes.n; exact (Dr.pow_small hv.n).1⟩
  have hfast : Dr.fastV m ⟨p.f j, ⟨0, c.Most⟩, 0⟩ x.Limit = (Dr.fastC m ⟨p.f j, ⟨0, c.Most⟩, 0⟩ x.Limit, 0) := by
    unfold Dr.fastV
    rw [if_neg (by rw [Dr.stopV_of hv hVS]; simp), if_pos ⟨by omega, by omega⟩]
  rw [Dr.Fastest_eq (by decide), hfast]
  have hw : w64 ((c.Paces.n : Int) - 1) = ((c.Paces.n - 1 : Nat) : Int) := by
    have := hc.l2
    rw [w64_eq (by omega) (by omega)]
    omega
  simp only [hw, bne_self_eq_false, cond_false, nat_nonneg, En.lt_true (show c.Paces.n - 1 < c.Paces.n by omega), Bool.and_self, cond_true, Int.toNat_natCast]
  by_cases h8 : Dr.fastC m ⟨p.f j, ⟨0, c.Most⟩, 0⟩ x.Limit < c.Paces.f (c.Paces.n - 1)
  · simp only [h8, decide_true, cond_true]
  simp only [h8, decide_false, cond_false]
  have hle : p.f j ≤ c.Paces.f (c.Paces.n - 1) := by
    obtain ⟨i, hi1, hi2⟩ := hpj
    rw [← hi2]
    exact pace_mono hc _ _ (by omega) (by omega)
  have hok : Dr.okF m ⟨p.f j, ⟨0, c.Most⟩, 0⟩ x.Limit (p.f j) := ((Dr.fastC_spec (e := m) (s := ⟨p.f j, ⟨0, c.Most⟩, 0⟩) (limit := x.Limit) (by omega)).2.2 (p.f j) (by omega) (by omega)).2 (by omega)
  have hH : Dr.HistOk m ⟨p.f j, ⟨0, c.Most⟩, 0⟩ a' := ⟨hv, hVS, fun i _ hi => by
    rw [k1.len] at hi
    rw [k1.get i hi]
    have q := k2 i hi
    have hfp := En.isIn_fp hc hpj (flow := x.Flows.f i) ⟨by omega, by omega⟩
    have hle := En.load_mono hc hfp (g := (x.Times.Periods.f j).Flow.High) q.2
    exact ⟨(En.load_bounds hc hfp).1, by show _ ≤ c.Most; omega⟩, by rw [k1.len]; omega⟩
  obtain ⟨l, d, hd, hk⟩ := Dr.Play_eq (N := 20000) (by decide) m ⟨p.f j, ⟨0, c.Most⟩, 0⟩ a'
  rw [Dr.playE_of hH, if_pos rfl] at hd
  have hrest := fun k => Dr.Rest_eq (R := Unit) (N := 20000) (by decide) (v := Dr.playV m ⟨p.f j, ⟨0, c.Most⟩, 0⟩ a'.f) (m := a'.n) (by rw [k1.len]; omega) (Dr.play_B hH) hd k
  have e0 : Dr.playV m ⟨p.f j, ⟨0, c.Most⟩, 0⟩ a'.f 0 = p.f j := rfl
  rw [e0] at hrest
  obtain ⟨w1, w2⟩ := within_plain hH (lim := x.Limit) hok
  rw [hk, Dr.playE_of hH]
  simp only [bne_self_eq_false, cond_false, hd.len, hrest, w1, decide_true, cond_true]
  rcases w2 with w2 | w2
  · have : (Dr.playV m ⟨p.f j, ⟨0, c.Most⟩, 0⟩ a'.f (Dr.stopF (Dr.playV m ⟨p.f j, ⟨0, c.Most⟩, 0⟩ a'.f) a'.n 0) == 0) = true := by simpa using w2
    simp only [this, cond_true]
  · have : decide ((a'.n : Int) < 100) = true := by simp; omega
    simp only [this, cond_true]
    cases (Dr.playV m ⟨p.f j, ⟨0, c.Most⟩, 0⟩ a'.f (Dr.stopF (Dr.playV m ⟨p.f j, ⟨0, c.Most⟩, 0⟩ a'.f) a'.n 0) == 0) <;> rfl
end
end Go.Proofs.Ytpillmoddoccfaa
