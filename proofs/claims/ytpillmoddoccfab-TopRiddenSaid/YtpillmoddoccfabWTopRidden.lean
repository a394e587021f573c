import Derived.Test.YtpillmoddoccfabWyQ1
import Derived.Test.YtpillmoddoccfabSxRun
set_option maxRecDepth 100000
set_option maxHeartbeats 0
set_option linter.unusedSectionVars false
set_option linter.unusedVariables false
set_option linter.unusedSimpArgs false
namespace Go.Proofs.Ytpillmoddoccfab
open Go.Sx
noncomputable section
theorem neweltop_measures_closed {R : Type} (kf : SV × Tab → Option R) : (runG E 400 60).run 13 [] [] 0 kf = kf (.bool true, []) := by kernel_rfl
def neweltop_measures_m {R : Type} (N : Nat) (k : Bool → Option R) : Option R :=
  k true
noncomputable def neweltop_measures {R : Type} : Nat → (Bool → Option R) → Option R := lock (@neweltop_measures_m R)
theorem neweltop_measures_def {R : Type} (N : Nat) (k : Bool → Option R) : neweltop_measures N k = neweltop_measures_m N k := by unfold neweltop_measures; rw [lock_eq]
theorem neweltop_measures_eq {R : Type} (N : Nat) (k : Bool → Option R) : neweltop_measures N k = k true := by rw [neweltop_measures_def]; rfl
def neweltop_measures_sp : Sp := ⟨[], []⟩
noncomputable def neweltop_measures_go {R : Type} (N : Nat) (args : List SV) (T : Tab) (kf : SV × Tab → Option R) : Option R :=
  neweltop_measures N (fun q0 => kf (lget [.bool q0] 0, []))
noncomputable def neweltop_measures_cal {R : Type} (N : Nat) : Cal R := callM (calls_Waits_cal N) 13 0 neweltop_measures_sp (neweltop_measures_go N)
theorem neweltop_measures_cal_ok {R : Type} (N : Nat) : CalOk E.P (neweltop_measures_cal (R := R) N) :=
  callM_eq (m' := fun args T kf => kf (.bool true, [])) (fun args T kf => neweltop_measures_def N (fun q0 => kf (lget [.bool q0] 0, []))) (closed_ok hE (calls_Waits_cal_ok N) neweltop_measures_closed)
def neweltop_TopRidden_L17 : LoopSp := ⟨⟨[5, 11, 12, 15, 17, 19, 21], ⟨(dr 5 ((rPtr 0 0) :: (dr 5 ((rPtr 1 0) :: (rInt .i64) :: (dr 2 ((rRow 2) :: (dr 1 ((rRow 3) :: (dr 1 ((rRow 4) :: (dr 1 ((rInt .i64) :: (dr 249 []))))))))))))), [(0, eBlkC neweltop_ServedC), (1, eBlk [rInt .i64, rRow 5, rRow 6]), (2, eRow intC), (3, eRow intC), (4, eRow intC), (5, eRow api_PassageC), (6, eRow intC)]⟩, 7⟩, [(Option.none, ⟨[6], ⟨(dr 6 ((rBool) :: (dr 264 []))), []⟩, 0⟩), (some 0, ⟨[5, 11], ⟨(dr 5 ((rPtr 0 0) :: (dr 5 ((rPtr 1 0) :: (dr 259 []))))), [(0, eBlkC neweltop_ServedC), (1, eBlk [rInt .i64, rRow 2, rRow 3]), (2, eRow api_PassageC), (3, eRow intC)]⟩, 4⟩)]⟩
theorem neweltop_TopRidden_L17_ok : neweltop_TopRidden_L17.Ok := ⟨⟨(drCons 5 (allCons (rPtr_ok 0 0) (drCons 5 (allCons (rPtr_ok 1 0) (allCons (rInt_ok .i64) (drCons 2 (allCons (rRow_ok 2) (drCons 1 (allCons (rRow_ok 3) (drCons 1 (allCons (rRow_ok 4) (drCons 1 (allCons (rInt_ok .i64) (drCons 249 allNil)))))))))))))), (eCons (eBlkC_ok neweltop_ServedC_ok neweltop_ServedC_len) (eCons (eBlk_ok (allCons (rInt_ok .i64) (allCons (rRow_ok 5) (allCons (rRow_ok 6) allNil)))) (eCons (eRow_ok intC_ok) (eCons (eRow_ok intC_ok) (eCons (eRow_ok intC_ok) (eCons (eRow_ok api_PassageC_ok) (eCons (eRow_ok intC_ok) eNil)))))))⟩, (xCons ⟨(drCons 6 (allCons rBool_ok (drCons 264 allNil))), eNil⟩ (xCons ⟨(drCons 5 (allCons (rPtr_ok 0 0) (drCons 5 (allCons (rPtr_ok 1 0) (drCons 259 allNil))))), (eCons (eBlkC_ok neweltop_ServedC_ok neweltop_ServedC_len) (eCons (eBlk_ok (allCons (rInt_ok .i64) (allCons (rRow_ok 2) (allCons (rRow_ok 3) allNil)))) (eCons (eRow_ok api_PassageC_ok) (eCons (eRow_ok intC_ok) eNil))))⟩ xNil))⟩
def neweltop_TopRidden_h17 (v477 : Int) (v478 : Int) (v479 : neweltop_Served) (v480 : Int) (v481 : Bool) (v482 : Arr Int) (v483 : Bool) (v484 : Arr Int) (v485 : Bool) (v486 : Arr Int) (v487 : Bool) (v488 : Arr api_Passage) (v489 : Bool) (v490 : Arr Int) : St := ⟨(un 5 ((.ptr 0 0) :: (un 5 ((.ptr 1 0) :: (.int .i64 v477) :: (un 2 ((.row 2) :: (un 1 ((.row 3) :: (un 1 ((.row 4) :: (un 1 ((.int .i64 v478) :: (un 249 []))))))))))))), [(0, .blk (Cod.enc neweltop_ServedC v479)), (1, .blk [.int .i64 v480, .row 5, .row 6]), (2, rowE intC v481 v482), (3, rowE intC v483 v484), (4, rowE intC v485 v486), (5, rowE api_PassageC v487 v488), (6, rowE intC v489 v490)], 7⟩
def neweltop_TopRidden_x17_r (q0 : Bool) : St := ⟨(un 6 ((.bool q0) :: (un 264 []))), [], 0⟩
def neweltop_TopRidden_x17_0 (v479 : neweltop_Served) (v480 : Int) (v487 : Bool) (v488 : Arr api_Passage) (v489 : Bool) (v490 : Arr Int) : St := ⟨(un 5 ((.ptr 0 0) :: (un 5 ((.ptr 1 0) :: (un 259 []))))), [(0, .blk (Cod.enc neweltop_ServedC v479)), (1, .blk [.int .i64 v480, .row 2, .row 3]), (2, rowE api_PassageC v487 v488), (3, rowE intC v489 v490)], 4⟩
def neweltop_TopRidden_b17 {R : Type} (N : Nat) (rc : Int → Int → neweltop_Served → Int → Bool → Arr Int → Bool → Arr Int → Bool → Arr Int → Bool → Arr api_Passage → Bool → Arr Int → Option R) (v477 : Int) (v478 : Int) (v479 : neweltop_Served) (v480 : Int) (v481 : Bool) (v482 : Arr Int) (v483 : Bool) (v484 : Arr Int) (v485 : Bool) (v486 : Arr Int) (v487 : Bool) (v488 : Arr api_Passage) (v489 : Bool) (v490 : Arr Int) (kr : Bool → Option R) (k0 : Unit → Option R) : Option R :=
  bif decide (v478 < (↑(Arr.n v482) : Int)) then
   bif decide ((0 : Int) ≤ v478) && decide (v478 < (↑(Arr.n (neweltop_Served.Presses v479)) : Int)) then
    bif api_Press.Floor (Arr.f (neweltop_Served.Presses v479) (Int.toNat v478)) == neweltop_Served.From v479 then
     bif decide ((0 : Int) ≤ v478) && decide (v478 < (↑(Arr.n v482) : Int)) then
      bif decide (w64 (w64 (Arr.f v482 (Int.toNat v478) + (↑(Arr.n v484) : Int)) + (↑(Arr.n v486) : Int)) > v477) then
       kr false
      else
       rc v477 (w64 (v478 + (1 : Int))) v479 v480 v481 v482 v483 v484 v485 v486 v487 v488 v489 v490
     else
      Option.none
    else
     rc v477 (w64 (v478 + (1 : Int))) v479 v480 v481 v482 v483 v484 v485 v486 v487 v488 v489 v490
   else
    Option.none
  else
   k0 ()
def neweltop_TopRidden_l17 {R : Type} (N : Nat) : Nat → Int → Int → neweltop_Served → Int → Bool → Arr Int → Bool → Arr Int → Bool → Arr Int → Bool → Arr api_Passage → Bool → Arr Int → (Bool → Option R) → (Unit → Option R) → Option R
  | 0, _, _, _, _, _, _, _, _, _, _, _, _, _, _, _, _ => Option.none
  | n + 1, v477, v478, v479, v480, v481, v482, v483, v484, v485, v486, v487, v488, v489, v490, kr, k0 => neweltop_TopRidden_b17 N (fun v477 v478 v479 v480 v481 v482 v483 v484 v485 v486 v487 v488 v489 v490 => neweltop_TopRidden_l17 N n v477 v478 v479 v480 v481 v482 v483 v484 v485 v486 v487 v488 v489 v490 kr k0) v477 v478 v479 v480 v481 v482 v483 v484 v485 v486 v487 v488 v489 v490 kr k0
def neweltop_TopRidden_m {R : Type} (N : Nat) (a436 : api_Lift) (a437 : api_Car) (a438 : neweltop_Served) (k : Bool → Option R) : Option R :=
  newellaw05_Far N a436 (fun r439 =>
  bif r439 then
   neweltop_measures N  (fun r440 =>
   k r440)
  else
   newelref05_Check N a436 (fun r441 =>
   bif r441 != (0 : Int) then
    neweltop_measures N  (fun r442 =>
    k r442)
   else
    newelref05_CheckDoor N (neweltop_Served.Door a438) (fun r443 =>
    bif r443 != (0 : Int) then
     neweltop_measures N  (fun r444 =>
     k r444)
    else
     newelref05_Floors N a436 (neweltop_Served.From a438) (neweltop_Served.To a438) (fun r445 =>
     bif !r445 then
      neweltop_measures N  (fun r446 =>
      k r446)
     else
      bif neweltop_Served.From a438 == neweltop_Served.To a438 then
       neweltop_measures N  (fun r447 =>
       k r447)
      else
       newelref07_Check N a437 (neweltop_Served.Presses a438) (fun r448 =>
       bif r448 != (0 : Int) then
        neweltop_measures N  (fun r449 =>
        k r449)
       else
        bif decide ((↑(Arr.n (neweltop_Served.Presses a438)) : Int) > (40 : Int)) then
         neweltop_measures N  (fun r450 =>
         k r450)
        else
         bif decide (neweltop_Served.From a438 < api_Car.Low a437) then
          neweltop_measures N  (fun r451 =>
          k r451)
         else
          bif decide (neweltop_Served.From a438 > api_Car.High a437) then
           neweltop_measures N  (fun r452 =>
           k r452)
          else
           newelref05_Breaks N (neweltop_Served.Breaks a438) (fun r453 =>
           bif !r453 then
            neweltop_measures N  (fun r454 =>
            k r454)
           else
            bif decide ((↑(Arr.n (neweltop_Served.Breaks a438)) : Int) > neweltop_Served.Most a438) then
             neweltop_measures N  (fun r455 =>
             k r455)
            else
             bif decide (neweltop_Served.Most a438 > (20 : Int)) then
              neweltop_measures N  (fun r456 =>
              k r456)
             else
              bif decide ((↑(Arr.n (api_Lift.Floors a436)) : Int) > (10 : Int)) then
               neweltop_measures N  (fun r457 =>
               k r457)
              else
               calls_Worst N a437 (neweltop_Served.From a438) (fun r458 r459 =>
               lift_Turn N a436 (neweltop_Served.Door a438) (neweltop_Served.From a438) (neweltop_Served.To a438) (neweltop_Served.Most a438) (fun r460 r461 =>
               bif r459 != (0 : Int) then
                k false
               else
                bif r461 != (0 : Int) then
                 k false
                else
                 bif decide (w64 (r458 + r460) < (1 : Int)) then
                  neweltop_measures N  (fun r462 =>
                  k r462)
                 else
                  bif decide (w64 (r458 + r460) > (20 : Int)) then
                   neweltop_measures N  (fun r463 =>
                   k r463)
                  else
                   ways_Way N (api_Station.mk (↑(Arr.n (api_Lift.Floors a436)) : Int) (lst api_PassageC (1 : Nat) (litC [SV.int IntKind.i64 (0 : Int), SV.int IntKind.i64 (0 : Int), SV.int IntKind.i64 (0 : Int), SV.int IntKind.i64 (0 : Int), SV.int IntKind.i64 (0 : Int), SV.int IntKind.i64 (0 : Int), SV.int IntKind.i64 (0 : Int)] [[SV.int IntKind.i64 (neweltop_Served.From a438), SV.int IntKind.i64 (neweltop_Served.To a438), SV.int IntKind.i64 (4 : Int), SV.int IntKind.i64 (w64 (r458 + r460)), SV.int IntKind.i64 (1 : Int), SV.int IntKind.i64 (0 : Int), SV.int IntKind.i64 (0 : Int)]])) (lst intC (0 : Nat) (zeroC [SV.int IntKind.i64 (0 : Int)]))) (0 : Int) false (neweltop_Served.From a438) (neweltop_Served.To a438) (fun r464 r465 r466 r467 =>
                   calls_Waits N a437 (neweltop_Served.Presses a438) (fun r468 r469 r470 =>
                   lift_Trip N a436 (neweltop_Served.From a438) (neweltop_Served.To a438) (fun r471 r472 r473 =>
                   lift_Doors N (neweltop_Served.Door a438) (neweltop_Served.Breaks a438) (fun r474 r475 r476 =>
                   bif r465 != (0 : Int) then
                    k false
                   else
                    bif r468 != (0 : Int) then
                     k false
                    else
                     bif r471 != (0 : Int) then
                      k false
                     else
                      bif r474 != (0 : Int) then
                       k false
                      else
                       bif (↑(Arr.n r467) : Int) != (1 : Int) then
                        k false
                       else
                        bif (↑(Arr.n r470) : Int) != (↑(Arr.n (neweltop_Served.Presses a438)) : Int) then
                         k false
                        else
                         neweltop_TopRidden_l17 N N r464 (0 : Int) a438 ((↑(Arr.n (api_Lift.Floors a436)) : Int)) r469 r470 r472 r473 r475 r476 false (lst api_PassageC (1 : Nat) (litC [SV.int IntKind.i64 (0 : Int), SV.int IntKind.i64 (0 : Int), SV.int IntKind.i64 (0 : Int), SV.int IntKind.i64 (0 : Int), SV.int IntKind.i64 (0 : Int), SV.int IntKind.i64 (0 : Int), SV.int IntKind.i64 (0 : Int)] [[SV.int IntKind.i64 (neweltop_Served.From a438), SV.int IntKind.i64 (neweltop_Served.To a438), SV.int IntKind.i64 (4 : Int), SV.int IntKind.i64 (w64 (r458 + r460)), SV.int IntKind.i64 (1 : Int), SV.int IntKind.i64 (0 : Int), SV.int IntKind.i64 (0 : Int)]])) true (lst intC (0 : Nat) (zeroC [SV.int IntKind.i64 (0 : Int)])) (fun r491 =>
                          k r491) (fun (_ : Unit) =>
                          ways_Needed N (api_Station.mk (↑(Arr.n (api_Lift.Floors a436)) : Int) (lst api_PassageC (1 : Nat) (litC [SV.int IntKind.i64 (0 : Int), SV.int IntKind.i64 (0 : Int), SV.int IntKind.i64 (0 : Int), SV.int IntKind.i64 (0 : Int), SV.int IntKind.i64 (0 : Int), SV.int IntKind.i64 (0 : Int), SV.int IntKind.i64 (0 : Int)] [[SV.int IntKind.i64 (neweltop_Served.From a438), SV.int IntKind.i64 (neweltop_Served.To a438), SV.int IntKind.i64 (4 : Int), SV.int IntKind.i64 (w64 (r458 + r460)), SV.int IntKind.i64 (1 : Int), SV.int IntKind.i64 (0 : Int), SV.int IntKind.i64 (0 : Int)]])) (lst intC (0 : Nat) (zeroC [SV.int IntKind.i64 (0 : Int)]))) (0 : Int) false (neweltop_Served.From a438) (neweltop_Served.To a438) (fun r492 r493 r494 =>
                          bif r492 == (0 : Int) then
                           bif (↑(Arr.n r494) : Int) == (1 : Int) then
                            bif decide ((0 : Int) < (↑(Arr.n r494) : Int)) then
                             bif Arr.f r494 (Int.toNat (0 : Int)) == (0 : Int) then
                              neweltop_measures N  (fun r495 =>
                              k r495)
                             else
                              k false
                            else
                             Option.none
                           else
                            k false
                          else
                           k false))))))))))))))
noncomputable def neweltop_TopRidden {R : Type} : Nat → api_Lift → api_Car → neweltop_Served → (Bool → Option R) → Option R := lock (@neweltop_TopRidden_m R)
theorem neweltop_TopRidden_def {R : Type} (N : Nat) (a436 : api_Lift) (a437 : api_Car) (a438 : neweltop_Served) (k : Bool → Option R) : neweltop_TopRidden N a436 a437 a438 k = neweltop_TopRidden_m N a436 a437 a438 k := by unfold neweltop_TopRidden; rw [lock_eq]
def neweltop_TopRidden_sp : Sp := ⟨[rAgg api_LiftC, rAgg api_CarC, rAgg neweltop_ServedC], []⟩
theorem neweltop_TopRidden_sp_ok : neweltop_TopRidden_sp.Ok := ⟨(allCons (rAgg_ok api_LiftC_ok api_LiftC_len) (allCons (rAgg_ok api_CarC_ok api_CarC_len) (allCons (rAgg_ok neweltop_ServedC_ok neweltop_ServedC_len) allNil))), eNil⟩
def neweltop_TopRidden_rs : Sp := ⟨[rBool], []⟩
theorem neweltop_TopRidden_rs_ok : neweltop_TopRidden_rs.Ok := ⟨(allCons rBool_ok allNil), eNil⟩
def neweltop_TopRidden_run {R : Type} (N : Nat) (args : List SV) (T : Tab) (kf : SV × Tab → Option R) : Option R :=
  neweltop_TopRidden_m N (Cod.dec api_LiftC (lget (toCs (lget args 0)))) (Cod.dec api_CarC (lget (toCs (lget args 1)))) (Cod.dec neweltop_ServedC (lget (toCs (lget args 2)))) (fun q0 => kf (lget [.bool q0] 0, []))
def neweltop_TopRidden_d17 {R : Type} (N : Nat) (S0 : St) (k : Exit → St → Option R) : Option R :=
  neweltop_TopRidden_l17 N N (toI (lget S0.tmps 12)) (toI (lget S0.tmps 21)) (Cod.dec neweltop_ServedC (lget (entCs (entAt S0.tab 0)))) (toI (lget (entCs (entAt S0.tab 1)) 0)) (entNl (entAt S0.tab 2)) (lst intC (entN (entAt S0.tab 2)) (entC (entAt S0.tab 2))) (entNl (entAt S0.tab 3)) (lst intC (entN (entAt S0.tab 3)) (entC (entAt S0.tab 3))) (entNl (entAt S0.tab 4)) (lst intC (entN (entAt S0.tab 4)) (entC (entAt S0.tab 4))) (entNl (entAt S0.tab 5)) (lst api_PassageC (entN (entAt S0.tab 5)) (entC (entAt S0.tab 5))) (entNl (entAt S0.tab 6)) (lst intC (entN (entAt S0.tab 6)) (entC (entAt S0.tab 6))) (fun q0 => k .ret (neweltop_TopRidden_x17_r q0)) (fun (_ : Unit) => k (.exit 0) (neweltop_TopRidden_x17_0 (Cod.dec neweltop_ServedC (lget (entCs (entAt S0.tab 0)))) (toI (lget (entCs (entAt S0.tab 1)) 0)) (entNl (entAt S0.tab 5)) (lst api_PassageC (entN (entAt S0.tab 5)) (entC (entAt S0.tab 5))) (entNl (entAt S0.tab 6)) (lst intC (entN (entAt S0.tab 6)) (entC (entAt S0.tab 6)))))
def neweltop_TopRidden_lp {R : Type} (N : Nat) : Lp R := fun body S k => bif (Go.Sx.keyOf body).getD 0 == 17 then (neweltop_TopRidden_L17.head.raw 0 S (fun S0 => neweltop_TopRidden_d17 N S0 k)) else Option.none
theorem neweltop_TopRidden_l17_eq {R : Type} (N : Nat) (k : Exit → St → Option R) (n : Nat) : ∀ (v0 : Int) (v1 : Int) (v2 : neweltop_Served) (v3 : Int) (v4 : Bool) (v5 : Arr Int) (v6 : Bool) (v7 : Arr Int) (v8 : Bool) (v9 : Arr Int) (v10 : Bool) (v11 : Arr api_Passage) (v12 : Bool) (v13 : Arr Int), loopM E.Θ (neweltop_measures_cal N) (neweltop_TopRidden_lp N) (noJn) 0 neweltop_TopRidden_L17 (bodyAt E 7 17) n (neweltop_TopRidden_h17 v0 v1 v2 v3 v4 v5 v6 v7 v8 v9 v10 v11 v12 v13) k = neweltop_TopRidden_l17 N n v0 v1 v2 v3 v4 v5 v6 v7 v8 v9 v10 v11 v12 v13 (fun q0 => k .ret (neweltop_TopRidden_x17_r q0)) (fun (_ : Unit) => k (.exit 0) (neweltop_TopRidden_x17_0 v2 v3 v10 v11 v12 v13)) := by
  induction n with
  | zero => intro v0 v1 v2 v3 v4 v5 v6 v7 v8 v9 v10 v11 v12 v13; rfl
  | succ n ih =>
    intro v0 v1 v2 v3 v4 v5 v6 v7 v8 v9 v10 v11 v12 v13
    refine Eq.trans (b := neweltop_TopRidden_b17 N (fun v0 v1 v2 v3 v4 v5 v6 v7 v8 v9 v10 v11 v12 v13 => loopM E.Θ (neweltop_measures_cal N) (neweltop_TopRidden_lp N) (noJn) 0 neweltop_TopRidden_L17 (bodyAt E 7 17) n (neweltop_TopRidden_h17 v0 v1 v2 v3 v4 v5 v6 v7 v8 v9 v10 v11 v12 v13) k) v0 v1 v2 v3 v4 v5 v6 v7 v8 v9 v10 v11 v12 v13 (fun q0 => k .ret (neweltop_TopRidden_x17_r q0)) (fun (_ : Unit) => k (.exit 0) (neweltop_TopRidden_x17_0 v2 v3 v10 v11 v12 v13))) (by kernel_rfl) ?_
    have h : (fun (v0 : Int) (v1 : Int) (v2 : neweltop_Served) (v3 : Int) (v4 : Bool) (v5 : Arr Int) (v6 : Bool) (v7 : Arr Int) (v8 : Bool) (v9 : Arr Int) (v10 : Bool) (v11 : Arr api_Passage) (v12 : Bool) (v13 : Arr Int) => loopM E.Θ (neweltop_measures_cal N) (neweltop_TopRidden_lp N) (noJn) 0 neweltop_TopRidden_L17 (bodyAt E 7 17) n (neweltop_TopRidden_h17 v0 v1 v2 v3 v4 v5 v6 v7 v8 v9 v10 v11 v12 v13) k) = (fun (v0 : Int) (v1 : Int) (v2 : neweltop_Served) (v3 : Int) (v4 : Bool) (v5 : Arr Int) (v6 : Bool) (v7 : Arr Int) (v8 : Bool) (v9 : Arr Int) (v10 : Bool) (v11 : Arr api_Passage) (v12 : Bool) (v13 : Arr Int) => neweltop_TopRidden_l17 N n v0 v1 v2 v3 v4 v5 v6 v7 v8 v9 v10 v11 v12 v13 (fun q0 => k .ret (neweltop_TopRidden_x17_r q0)) (fun (_ : Unit) => k (.exit 0) (neweltop_TopRidden_x17_0 v2 v3 v10 v11 v12 v13))) := funext fun v0 => funext fun v1 => funext fun v2 => funext fun v3 => funext fun v4 => funext fun v5 => funext fun v6 => funext fun v7 => funext fun v8 => funext fun v9 => funext fun v10 => funext fun v11 => funext fun v12 => funext fun v13 => ih v0 v1 v2 v3 v4 v5 v6 v7 v8 v9 v10 v11 v12 v13
    rw [h]
    rfl
theorem neweltop_TopRidden_k17 {R : Type} (N : Nat) : LpKey (R := R) E 7 0 (neweltop_TopRidden_lp N) 17 :=
  lpKey_of hE (neweltop_measures_cal_ok N) (lp := neweltop_TopRidden_lp N) (jn := noJn) neweltop_TopRidden_L17_ok [] kNil (by kernel_rfl) [] jNil (by kernel_rfl) N fun S k =>
    Eq.trans (b := neweltop_TopRidden_L17.head.raw 0 S (fun S0 => neweltop_TopRidden_d17 N S0 k)) (by kernel_rfl) (congrArg (neweltop_TopRidden_L17.head.raw 0 S) (funext fun S0 => Eq.trans (neweltop_TopRidden_l17_eq N k N (toI (lget S0.tmps 12)) (toI (lget S0.tmps 21)) (Cod.dec neweltop_ServedC (lget (entCs (entAt S0.tab 0)))) (toI (lget (entCs (entAt S0.tab 1)) 0)) (entNl (entAt S0.tab 2)) (lst intC (entN (entAt S0.tab 2)) (entC (entAt S0.tab 2))) (entNl (entAt S0.tab 3)) (lst intC (entN (entAt S0.tab 3)) (entC (entAt S0.tab 3))) (entNl (entAt S0.tab 4)) (lst intC (entN (entAt S0.tab 4)) (entC (entAt S0.tab 4))) (entNl (entAt S0.tab 5)) (lst api_PassageC (entN (entAt S0.tab 5)) (entC (entAt S0.tab 5))) (entNl (entAt S0.tab 6)) (lst intC (entN (entAt S0.tab 6)) (entC (entAt S0.tab 6)))).symm (by kernel_rfl)))
noncomputable def neweltop_TopRidden_go {R : Type} (N : Nat) (args : List SV) (T : Tab) (kf : SV × Tab → Option R) : Option R :=
  neweltop_TopRidden N (Cod.dec api_LiftC (lget (toCs (lget args 0)))) (Cod.dec api_CarC (lget (toCs (lget args 1)))) (Cod.dec neweltop_ServedC (lget (toCs (lget args 2)))) (fun q0 => kf (lget [.bool q0] 0, []))
noncomputable def neweltop_TopRidden_cal {R : Type} (N : Nat) : Cal R := callM (neweltop_measures_cal N) 7 0 neweltop_TopRidden_sp (neweltop_TopRidden_go N)
theorem neweltop_TopRidden_cal_ok {R : Type} (N : Nat) : CalOk E.P (neweltop_TopRidden_cal (R := R) N) :=
  callM_ok hE (neweltop_measures_cal_ok N) (lp := neweltop_TopRidden_lp N) (jn := noJn) (keys := [17]) (kCons (neweltop_TopRidden_k17 N) kNil) (by kernel_rfl) (js := []) jNil (by kernel_rfl) neweltop_TopRidden_sp_ok neweltop_TopRidden_rs_ok (fun args T kf => Eq.trans (neweltop_TopRidden_def N (Cod.dec api_LiftC (lget (toCs (lget args 0)))) (Cod.dec api_CarC (lget (toCs (lget args 1)))) (Cod.dec neweltop_ServedC (lget (toCs (lget args 2)))) (fun q0 => kf (lget [.bool q0] 0, []))) (by kernel_rfl : neweltop_TopRidden_run N args T kf = fnM E (neweltop_measures_cal N) (neweltop_TopRidden_lp N) (noJn) 7 (neweltop_TopRidden_sp.vs args) (neweltop_TopRidden_sp.tab T) 0 (resK neweltop_TopRidden_rs kf)))
theorem far_eq {R : Type} (N : Nat) (l : api_Lift) (k : Bool → Option R) : newellaw05_Far N l k = k (decide ((l.Floors.n : Int) > 30)) := by rw [newellaw05_Far_def]; rfl
open Li
def tkS (l : api_Lift) (a b : Nat) : Nat := ticksS l.Speed l.Accel (wayS l a b)
theorem tk_bound {l : api_Lift} (h : VL l) {a b : Nat} (ha : a < l.Floors.n) (hb : b < l.Floors.n) : tkS l a b ≤ 1000 := by
  have hw := way_bounds h (a := (a : Int)) (b := (b : Int)) ⟨⟨by omega, by omega⟩, by omega, by omega⟩
  have := (ticks_spec h.s1 h.a1 hw.1).1
  unfold tkS
  omega
section
variable {R : Type}
theorem flo {l : api_Lift} {a b : Nat} (ha : a < l.Floors.n) (hb : b < l.Floors.n) : floorsP l (a : Int) (b : Int) := ⟨⟨by omega, by omega⟩, by omega, by omega⟩
theorem trip_at {N : Nat} (hN : 1001 ≤ N) {l : api_Lift} (h : VL l) {a b : Nat} (ha : a < l.Floors.n) (hb : b < l.Floors.n) :
    ∃ (f : Bool) (c : Arr Int), c.n = tkS l a b ∧ ∀ {R : Type} (k : Int → Bool → Arr Int → Option R), lift_Trip N l (a : Int) (b : Int) k = k 0 f c := by
  obtain ⟨f, c, h1, h2⟩ := Trip_eq hN l (a : Int) (b : Int)
  have e : tripErr l (a : Int) (b : Int) = 0 := tripErr_zero.2 ⟨h, flo ha hb⟩
  refine ⟨f, c, ?_, fun k => ?_⟩
  · rw [h1.len]; unfold tripN tkS; rw [if_pos e]
  · rw [h2, e]
theorem turn_at {N : Nat} (hN : 1001 ≤ N) {l : api_Lift} (h : VL l) {d : api_Door} (hd : VD d) {a b : Nat} (ha : a < l.Floors.n) (hb : b < l.Floors.n) {n : Int} (hn : 0 ≤ n ∧ n ≤ 20) (k : Int → Int → Option R) :
    lift_Turn N l d (a : Int) (b : Int) n k = k ((tkS l a b : Int) + dwellS d n) 0 := by
  rw [Turn_eq hN]
  have : turnV l d (a : Int) (b : Int) n = ((tkS l a b : Int) + dwellS d n, 0) := by
    unfold turnV
    rw [if_pos h, if_pos hd, if_pos ⟨flo ha hb, hn⟩]
    rfl
  rw [this]
end
theorem ridden_l17 (N : Nat) {c : Ct.Cn} (hc : c.Ok) {x : neweltop_Served} (hl : Ct.VL c x.Presses) {w : Arr Int} (hw : Ct.WE c x.Presses Ct.allP w) {T : Int} {a : Nat} (hx : x.From = (a : Int)) (ar br : Arr Int) (hT : ((Ct.worstN c a : Nat) : Int) + (ar.n : Int) + (br.n : Int) ≤ T) (hT2 : T ≤ 20) (v480 : Int) (v481 v483 v485 v487 v489 : Bool) (v488 : Arr api_Passage) (v490 : Arr Int) {R : Type} (kr : Bool → Option R) (k0 : Unit → Option R) : ∀ (q i n : Nat), i + q = x.Presses.n → q < n →
    neweltop_TopRidden_l17 N n T (i : Int) x v480 v481 w v483 ar v485 br v487 v488 v489 v490 kr k0 = k0 () := by
  have hln := hl.n
  intro q
  induction q with
  | zero =>
    intro i n h1 h2
    obtain ⟨n, rfl⟩ : ∃ m, n = m + 1 := ⟨n - 1, by omega⟩
    unfold neweltop_TopRidden_l17 neweltop_TopRidden_b17
    rw [hw.n, Ct.ltF (show x.Presses.n ≤ i by omega), cond_false]
  | succ q ih =>
    intro i n h1 h2
    obtain ⟨n, rfl⟩ : ∃ m, n = m + 1 := ⟨n - 1, by omega⟩
    have hi : i < x.Presses.n := by omega
    have iG := hl.pg hi
    have next := ih (i + 1) n (by omega) (by omega)
    have e0 : decide ((i : Int) < (x.Presses.n : Int)) = true := Ct.ltT hi
    have e1 : decide ((i : Int) < (w.n : Int)) = true := by rw [hw.n]; exact e0
    have wi : w.f i = (Ct.wt c x.Presses Ct.allP i : Int) := by rw [hw.f i hi]; rfl
    unfold neweltop_TopRidden_l17 neweltop_TopRidden_b17
    rw [e1, cond_true, e0, nat_nonneg, Bool.true_and, cond_true, Ct.w64_succ (show i < 1000000000000 by omega)]
    by_cases hg : api_Press.Floor (Arr.f x.Presses (Int.toNat (i : Int))) = x.From
    · rw [hg, BEq.rfl, cond_true, cond_true]
      have hpg : Ct.pG x.Presses i = a := by
        rw [Int.toNat_natCast, iG.1, hx] at hg
        omega
      have hwt := Ct.wt_worst hc hl (p := Ct.allP) hi rfl
      rw [hpg] at hwt
      have c2 : decide (w64 (w64 (Arr.f w (Int.toNat (i : Int)) + (ar.n : Int)) + (br.n : Int)) > T) = false := decide_eq_false (by
        rw [Int.toNat_natCast, wi, w64_eq (n := (Ct.wt c x.Presses Ct.allP i : Int) + (ar.n : Int)) (by omega) (by omega), w64_eq (by omega) (by omega)]
        omega)
      rw [c2, cond_false]
      exact next
    · have e4 : (api_Press.Floor (Arr.f x.Presses (Int.toNat (i : Int))) == x.From) = false := by simpa using hg
      rw [e4, cond_false]
      exact next
theorem topRidden_true (l : api_Lift) (c : api_Car) (x : neweltop_Served) (hl : l.wf) (hc : c.wf) (hx : x.wf) : ∃ N, neweltop_TopRidden N l c x (fun q0 => okK (lget [.bool q0] 0, [])) = some () := by
  classical
  refine ⟨20000 + x.Breaks.n + x.Presses.n, ?_⟩
  have hN : 20000 ≤ 20000 + x.Breaks.n + x.Presses.n := by omega
  have hNb : x.Breaks.n < 20000 + x.Breaks.n + x.Presses.n := by omega
  have hNp : x.Presses.n < 20000 + x.Breaks.n + x.Presses.n := by omega
  generalize 20000 + x.Breaks.n + x.Presses.n = N at *
  rw [neweltop_TopRidden_def]
  unfold neweltop_TopRidden_m
  have htr : okK (lget [SV.bool true] 0, []) = some () := rfl
  simp only [far_eq, neweltop_measures_eq, htr, refCheck_eq (show 20 ≤ N by omega), refCheckDoor_eq]
  cases decide ((l.Floors.n : Int) > 30)
  rotate_left
  · rfl
  by_cases hv : VL l
  rotate_left
  · have : (checkV l != 0) = true := by rw [checkV_ne hv]; rfl
    simp only [cond_false, this, cond_true]
  by_cases hdv : VD x.Door
  rotate_left
  · have : (doorV x.Door != 0) = true := by rw [doorV_ne hdv]; rfl
    simp only [cond_false, checkV_pos hv, bne_self_eq_false, this, cond_true]
  simp only [cond_false, checkV_pos hv, doorV_pos hdv, bne_self_eq_false, Floors_eq hv]
  by_cases h1 : floorsP l x.From x.To
  rotate_left
  · simp only [h1, decide_false, Bool.not_false, cond_true]
  simp only [h1, decide_true, Bool.not_true, cond_false]
  cases h2 : (x.From == x.To)
  rotate_left
  · simp only [cond_true]
  have hne : x.From ≠ x.To := by simpa using h2
  have hpn : x.Presses.n ≤ 9223372036854775807 := hx.2.2.1.1
  rw [cond_false, Ct.refCheck c hpn hNp]
  by_cases he : Ct.errC c x.Presses = 0
  rotate_left
  · have : (Ct.errC c x.Presses != 0) = true := by simpa using he
    rw [this, cond_true]
  obtain ⟨cn, hcn, rfl, hvl⟩ := Ct.err_zero he
  rw [he, show ((0 : Int) != 0) = false from rfl, cond_false]
  by_cases h3 : (x.Presses.n : Int) > 40
  · rw [decide_eq_true h3, cond_true]
  rw [decide_eq_false h3, cond_false]
  by_cases h4 : x.From < cn.car.Low
  · rw [decide_eq_true h4, cond_true]
  rw [decide_eq_false h4, cond_false]
  by_cases h5 : x.From > cn.car.High
  · rw [decide_eq_true h5, cond_true]
  rw [decide_eq_false h5, cond_false]
  have hbn : x.Breaks.n ≤ 9223372036854775807 := hx.2.2.2.2.2.2.1
  rw [Breaks_eq hbn hNb]
  by_cases h6 : brP x.Breaks
  rotate_left
  · rw [decide_eq_false h6, Bool.not_false, cond_true]
  rw [decide_eq_true h6, Bool.not_true, cond_false]
  by_cases h7 : (x.Breaks.n : Int) > x.Most
  · rw [decide_eq_true h7, cond_true]
  rw [decide_eq_false h7, cond_false]
  by_cases h8 : x.Most > 20
  · rw [decide_eq_true h8, cond_true]
  rw [decide_eq_false h8, cond_false]
  by_cases h9 : (l.Floors.n : Int) > 10
  · rw [decide_eq_true h9, cond_true]
  rw [decide_eq_false h9, cond_false]
  have h4' : ¬ x.From < ((cn.L : Nat) : Int) := h4
  have h5' : ¬ x.From > ((cn.H : Nat) : Int) := h5
  have n1 := hv.n1
  obtain ⟨⟨fa1, fa2⟩, fb1, fb2⟩ := id h1
  obtain ⟨a, hxa⟩ : ∃ a : Nat, x.From = (a : Int) := ⟨x.From.toNat, by omega⟩
  obtain ⟨b, hxb⟩ : ∃ b : Nat, x.To = (b : Int) := ⟨x.To.toNat, by omega⟩
  have hal : a < l.Floors.n := by omega
  have hbl : b < l.Floors.n := by omega
  have hcf : cn.L ≤ a ∧ a ≤ cn.H := by omega
  have hdw := dwell_bounds hdv (n := x.Most) (by omega) (by omega)
  have hdwb := dwell_bounds hdv (n := (x.Breaks.n : Int)) (by omega) (by omega)
  obtain ⟨w1, w2, t1, t2⟩ := id hdv
  have hD : 0 ≤ dwellS x.Door x.Most ∧ dwellS x.Door x.Most ≤ 7000 := by unfold dwellS; omega
  have htk := tk_bound hv hal hbl
  have hwn : Ct.worstN cn a ≤ 100 := by
    have h5c := hcn.h5
    have m3 := hcn.m3
    have s4 := hcn.s4
    unfold Ct.worstN
    have hf : Ct.farN cn a ≤ 5 := by unfold Ct.farN; omega
    split
    · omega
    · have k1 := Nat.mul_le_mul (show 2 * Ct.farN cn a ≤ 10 by omega) m3
      have k2 := Nat.mul_le_mul (show 2 * Ct.farN cn a - 1 ≤ 10 by omega) s4
      omega
  rw [hxa, hxb, Ct.worstP_eq N hcn hcf, turn_at (by omega) hv hdv hal hbl (n := x.Most) (by omega), show ((0 : Int) != 0) = false from rfl, cond_false, cond_false]
  have eT : w64 (((Ct.worstN cn a : Nat) : Int) + ((tkS l a b : Int) + dwellS x.Door x.Most)) = ((Ct.worstN cn a : Nat) : Int) + ((tkS l a b : Int) + dwellS x.Door x.Most) := w64_eq (by omega) (by omega)
  rw [eT]
  generalize hT : ((Ct.worstN cn a : Nat) : Int) + ((tkS l a b : Int) + dwellS x.Door x.Most) = T
  by_cases g1 : T < 1
  · rw [decide_eq_true g1, cond_true]
  rw [decide_eq_false g1, cond_false]
  by_cases g2 : T > 20
  · rw [decide_eq_true g2, cond_true]
  rw [decide_eq_false g2, cond_false]
  have hone : Wy.One (api_Station.mk (↑(Arr.n (api_Lift.Floors l)) : Int) (lst api_PassageC (1 : Nat) (litC [SV.int IntKind.i64 (0 : Int), SV.int IntKind.i64 (0 : Int), SV.int IntKind.i64 (0 : Int), SV.int IntKind.i64 (0 : Int), SV.int IntKind.i64 (0 : Int), SV.int IntKind.i64 (0 : Int), SV.int IntKind.i64 (0 : Int)] [[SV.int IntKind.i64 (a : Int), SV.int IntKind.i64 (b : Int), SV.int IntKind.i64 (4 : Int), SV.int IntKind.i64 T, SV.int IntKind.i64 (1 : Int), SV.int IntKind.i64 (0 : Int), SV.int IntKind.i64 (0 : Int)]])) (lst intC (0 : Nat) (zeroC [SV.int IntKind.i64 (0 : Int)]))) (a : Int) (b : Int) T := by
    have hp : ∀ i, i < 1 → i = 0 := fun i hi => by omega
    refine ⟨⟨by show (1 : Int) ≤ (l.Floors.n : Int) ∧ (l.Floors.n : Int) ≤ 10; omega, by show 1 ≤ 24; decide, fun i hi => ?_, fun i j hij hj => ?_, fun i hi => ?_⟩, rfl, rfl⟩
    · have := hp i hi
      subst this
      show Wy.passP (l.Floors.n : Int) (⟨(a : Int), (b : Int), 4, T, 1, 0, 0⟩ : api_Passage)
      exact ⟨by simp only; omega, by simp only; omega, by simp only; omega, by simp only; omega, by simp only; omega, .inr (.inr ⟨rfl, by simp only; omega, rfl⟩)⟩
    · have : j < 1 := hj
      omega
    · have : i < 0 := hi
      omega
  obtain ⟨wl, way, way1, way2⟩ := hone.way (R := Unit) (N := N) hN
  refine (way2 _).trans ?_
  obtain ⟨w, v1, v2⟩ := Ct.waits_eq (show 2000 < N by omega) hcn hvl
  refine (v2 _).trans ?_
  obtain ⟨tf, trip, trip1, trip2⟩ := trip_at (N := N) (by omega) hv hal hbl
  refine (trip2 _).trans ?_
  obtain ⟨db, door, door1, door2⟩ := Doors_eq (N := N) (by omega) x.Door x.Breaks (by have := h6.2; omega) hNb
  refine (door2 _).trans ?_
  have hda := doors_all hdv h6
  rw [doorsE_zero.2 ⟨hdv, h6⟩, show ((0 : Int) != 0) = false from rfl, cond_false, cond_false, cond_false, cond_false, way1, show (((1 : Nat) : Int) != 1) = false from rfl, cond_false, v1.n, bne_self_eq_false, cond_false]
  have hmono : dwellS x.Door (x.Breaks.n : Int) ≤ dwellS x.Door x.Most := by
    unfold dwellS
    have := Int.mul_le_mul_of_nonneg_right (show (x.Breaks.n : Int) ≤ x.Most by omega) (show 0 ≤ 2 * x.Door.Wide + x.Door.Wait - 2 by omega)
    omega
  refine (ridden_l17 N hcn hvl v1 hxa trip door (T := T) (by rw [trip1, door1.len]; omega) (by omega) _ _ _ _ _ _ _ _ _ _ x.Presses.n 0 N (by omega) hNp).trans ?_
  obtain ⟨nl, need, need1, need2, need3⟩ := hone.need (R := Unit) (N := N) hN
  refine (need3 _).trans ?_
  rw [BEq.rfl, cond_true, need1, show (((1 : Nat) : Int) == 1) = true from rfl, cond_true, show decide ((0 : Int) < ((1 : Nat) : Int)) = true from rfl, cond_true]
  show (bif need.f 0 == 0 then _ else _) = _
  rw [need2]
  rfl
end
end Go.Proofs.Ytpillmoddoccfab
