/-
  The model of the statement TopDetour, that it is what the code does (written by a program), and that it answers true.
-/
import Derived.Test.YtpillmoddoccfabWyP4
import Derived.Test.YtpillmoddoccfabSxRun
set_option maxRecDepth 100000
set_option maxHeartbeats 0
set_option linter.unusedSectionVars false
set_option linter.unusedVariables false
set_option linter.unusedSimpArgs false
namespace Go.Proofs.Ytpillmoddoccfab
open Go.Sx
noncomputable section

theorem neweltop_measures_closed {R : Type} (kf : SV × Tab → Option R) : (runG E 400 60).run 13 [] [] 0 kf = kf (.bool true, []) := by kernel_rfl
def neweltop_measures_m {R : Type} (N : Nat) (k : Bool → Option R) : Option R :=
  k true
noncomputable def neweltop_measures {R : Type} : Nat → (Bool → Option R) → Option R := lock (@neweltop_measures_m R)
theorem neweltop_measures_def {R : Type} (N : Nat) (k : Bool → Option R) : neweltop_measures N k = neweltop_measures_m N k := by unfold neweltop_measures; rw [lock_eq]
theorem neweltop_measures_eq {R : Type} (N : Nat) (k : Bool → Option R) : neweltop_measures N k = k true := by rw [neweltop_measures_def]; rfl
def neweltop_measures_sp : Sp := ⟨[], []⟩
noncomputable def neweltop_measures_go {R : Type} (N : Nat) (args : List SV) (T : Tab) (kf : SV × Tab → Option R) : Option R :=
  neweltop_measures N (fun q0 => kf (lget [.bool q0] 0, []))
noncomputable def neweltop_measures_cal {R : Type} (N : Nat) : Cal R := callM (ways_Needed_cal N) 13 0 neweltop_measures_sp (neweltop_measures_go N)
theorem neweltop_measures_cal_ok {R : Type} (N : Nat) : CalOk E.P (neweltop_measures_cal (R := R) N) :=
  callM_eq (m' := fun args T kf => kf (.bool true, [])) (fun args T kf => neweltop_measures_def N (fun q0 => kf (lget [.bool q0] 0, []))) (closed_ok hE (ways_Needed_cal_ok N) neweltop_measures_closed)

def neweltop_TopDetour_L18 : LoopSp := ⟨⟨[3, 4, 5, 10, 12, 13, 14, 19, 21], ⟨(dr 3 ((rPtr 0 0) :: (rPtr 1 0) :: (rPtr 2 0) :: (dr 4 ((rInt .i64) :: (dr 1 ((rInt .i64) :: (rInt .i64) :: (rInt .i64) :: (dr 4 ((rRow 3) :: (dr 1 ((rInt .i64) :: (dr 154 []))))))))))), [(0, eBlkC api_StationC), (1, eBlkC newellaw08_TripC), (2, eBlkC newellaw09_PlannedC), (3, eRow intC)]⟩, 4⟩, [(Option.none, ⟨[6], ⟨(dr 6 ((rBool) :: (dr 169 []))), []⟩, 0⟩), (some 2, ⟨[3, 4, 5, 10, 12, 13], ⟨(dr 3 ((rPtr 0 0) :: (rPtr 1 0) :: (rPtr 2 0) :: (dr 4 ((rInt .i64) :: (dr 1 ((rInt .i64) :: (rInt .i64) :: (dr 162 []))))))), [(0, eBlkC api_StationC), (1, eBlkC newellaw08_TripC), (2, eBlkC newellaw09_PlannedC)]⟩, 3⟩)]⟩
theorem neweltop_TopDetour_L18_ok : neweltop_TopDetour_L18.Ok := ⟨⟨(drCons 3 (allCons (rPtr_ok 0 0) (allCons (rPtr_ok 1 0) (allCons (rPtr_ok 2 0) (drCons 4 (allCons (rInt_ok .i64) (drCons 1 (allCons (rInt_ok .i64) (allCons (rInt_ok .i64) (allCons (rInt_ok .i64) (drCons 4 (allCons (rRow_ok 3) (drCons 1 (allCons (rInt_ok .i64) (drCons 154 allNil))))))))))))))), (eCons (eBlkC_ok api_StationC_ok api_StationC_len) (eCons (eBlkC_ok newellaw08_TripC_ok newellaw08_TripC_len) (eCons (eBlkC_ok newellaw09_PlannedC_ok newellaw09_PlannedC_len) (eCons (eRow_ok intC_ok) eNil))))⟩, (xCons ⟨(drCons 6 (allCons rBool_ok (drCons 169 allNil))), eNil⟩ (xCons ⟨(drCons 3 (allCons (rPtr_ok 0 0) (allCons (rPtr_ok 1 0) (allCons (rPtr_ok 2 0) (drCons 4 (allCons (rInt_ok .i64) (drCons 1 (allCons (rInt_ok .i64) (allCons (rInt_ok .i64) (drCons 162 allNil)))))))))), (eCons (eBlkC_ok api_StationC_ok api_StationC_len) (eCons (eBlkC_ok newellaw08_TripC_ok newellaw08_TripC_len) (eCons (eBlkC_ok newellaw09_PlannedC_ok newellaw09_PlannedC_len) eNil)))⟩ xNil))⟩
def neweltop_TopDetour_h18 (v389 : Int) (v390 : Int) (v391 : Int) (v392 : Int) (v393 : Int) (v394 : api_Station) (v395 : newellaw08_Trip) (v396 : newellaw09_Planned) (v397 : Bool) (v398 : Arr Int) : St := ⟨(un 3 ((.ptr 0 0) :: (.ptr 1 0) :: (.ptr 2 0) :: (un 4 ((.int .i64 v389) :: (un 1 ((.int .i64 v390) :: (.int .i64 v391) :: (.int .i64 v392) :: (un 4 ((.row 3) :: (un 1 ((.int .i64 v393) :: (un 154 []))))))))))), [(0, .blk (Cod.enc api_StationC v394)), (1, .blk (Cod.enc newellaw08_TripC v395)), (2, .blk (Cod.enc newellaw09_PlannedC v396)), (3, rowE intC v397 v398)], 4⟩
def neweltop_TopDetour_x18_r (q0 : Bool) : St := ⟨(un 6 ((.bool q0) :: (un 169 []))), [], 0⟩
def neweltop_TopDetour_x18_2 (v389 : Int) (v390 : Int) (v391 : Int) (v394 : api_Station) (v395 : newellaw08_Trip) (v396 : newellaw09_Planned) : St := ⟨(un 3 ((.ptr 0 0) :: (.ptr 1 0) :: (.ptr 2 0) :: (un 4 ((.int .i64 v389) :: (un 1 ((.int .i64 v390) :: (.int .i64 v391) :: (un 162 []))))))), [(0, .blk (Cod.enc api_StationC v394)), (1, .blk (Cod.enc newellaw08_TripC v395)), (2, .blk (Cod.enc newellaw09_PlannedC v396))], 3⟩
def neweltop_TopDetour_b18 {R : Type} (N : Nat) (rc : Int → Int → Int → Int → Int → api_Station → newellaw08_Trip → newellaw09_Planned → Bool → Arr Int → Option R) (v389 : Int) (v390 : Int) (v391 : Int) (v392 : Int) (v393 : Int) (v394 : api_Station) (v395 : newellaw08_Trip) (v396 : newellaw09_Planned) (v397 : Bool) (v398 : Arr Int) (kr : Bool → Option R) (k2 : Unit → Option R) : Option R :=
  bif decide (v393 < (↑(Arr.n v398) : Int)) then
   bif decide ((0 : Int) ≤ v393) && decide (v393 < (↑(Arr.n v398) : Int)) then
    bif decide (IntKind.wrap IntKind.u64 (Arr.f v398 (Int.toNat v393)) < (0 : Int)) then
     Option.none
    else
     bif w64 (↑(BitVec.toNat (BitVec.ofInt (IntKind.bits IntKind.i64) (Int.fdiv v392 ((2 : Int) ^ min (Int.toNat (IntKind.wrap IntKind.u64 (Arr.f v398 (Int.toNat v393)))) (IntKind.bits IntKind.i64))) &&& BitVec.ofInt (IntKind.bits IntKind.i64) (1 : Int))) : Int) == (1 : Int) then
      kr false
     else
      rc v389 v390 v391 v392 (w64 (v393 + (1 : Int))) v394 v395 v396 v397 v398
   else
    Option.none
  else
   k2 ()
def neweltop_TopDetour_l18 {R : Type} (N : Nat) : Nat → Int → Int → Int → Int → Int → api_Station → newellaw08_Trip → newellaw09_Planned → Bool → Arr Int → (Bool → Option R) → (Unit → Option R) → Option R
  | 0, _, _, _, _, _, _, _, _, _, _, _, _ => Option.none
  | n + 1, v389, v390, v391, v392, v393, v394, v395, v396, v397, v398, kr, k2 => neweltop_TopDetour_b18 N (fun v389 v390 v391 v392 v393 v394 v395 v396 v397 v398 => neweltop_TopDetour_l18 N n v389 v390 v391 v392 v393 v394 v395 v396 v397 v398 kr k2) v389 v390 v391 v392 v393 v394 v395 v396 v397 v398 kr k2

def neweltop_TopDetour_L8 : LoopSp := ⟨⟨[3, 4, 5, 10, 12, 13], ⟨(dr 3 ((rPtr 0 0) :: (rPtr 1 0) :: (rPtr 2 0) :: (dr 4 ((rInt .i64) :: (dr 1 ((rInt .i64) :: (rInt .i64) :: (dr 162 []))))))), [(0, eBlkC api_StationC), (1, eBlkC newellaw08_TripC), (2, eBlkC newellaw09_PlannedC)]⟩, 3⟩, [(Option.none, ⟨[6], ⟨(dr 6 ((rBool) :: (dr 169 []))), []⟩, 0⟩), (some 0, ⟨[], ⟨(dr 176 []), []⟩, 0⟩)]⟩
theorem neweltop_TopDetour_L8_ok : neweltop_TopDetour_L8.Ok := ⟨⟨(drCons 3 (allCons (rPtr_ok 0 0) (allCons (rPtr_ok 1 0) (allCons (rPtr_ok 2 0) (drCons 4 (allCons (rInt_ok .i64) (drCons 1 (allCons (rInt_ok .i64) (allCons (rInt_ok .i64) (drCons 162 allNil)))))))))), (eCons (eBlkC_ok api_StationC_ok api_StationC_len) (eCons (eBlkC_ok newellaw08_TripC_ok newellaw08_TripC_len) (eCons (eBlkC_ok newellaw09_PlannedC_ok newellaw09_PlannedC_len) eNil)))⟩, (xCons ⟨(drCons 6 (allCons rBool_ok (drCons 169 allNil))), eNil⟩ (xCons ⟨(drCons 176 allNil), eNil⟩ xNil))⟩
def neweltop_TopDetour_h8 (v374 : Int) (v375 : Int) (v376 : Int) (v377 : api_Station) (v378 : newellaw08_Trip) (v379 : newellaw09_Planned) : St := ⟨(un 3 ((.ptr 0 0) :: (.ptr 1 0) :: (.ptr 2 0) :: (un 4 ((.int .i64 v374) :: (un 1 ((.int .i64 v375) :: (.int .i64 v376) :: (un 162 []))))))), [(0, .blk (Cod.enc api_StationC v377)), (1, .blk (Cod.enc newellaw08_TripC v378)), (2, .blk (Cod.enc newellaw09_PlannedC v379))], 3⟩
def neweltop_TopDetour_x8_r (q0 : Bool) : St := ⟨(un 6 ((.bool q0) :: (un 169 []))), [], 0⟩
def neweltop_TopDetour_x8_0  : St := ⟨(un 176 []), [], 0⟩
def neweltop_TopDetour_b8 {R : Type} (N : Nat) (rc : Int → Int → Int → api_Station → newellaw08_Trip → newellaw09_Planned → Option R) (v374 : Int) (v375 : Int) (v376 : Int) (v377 : api_Station) (v378 : newellaw08_Trip) (v379 : newellaw09_Planned) (kr : Bool → Option R) (k0 : Unit → Option R) : Option R :=
  bif decide (v376 < api_Works.Until (newellaw09_Planned.Works v379)) then
   shaft_Out N (newellaw09_Planned.Works v379) (newellaw09_Planned.Starts v379) v376 (fun r380 r381 =>
   bif r381 != (0 : Int) then
    kr false
   else
    bif decide (r380 < (0 : Int)) then
     kr false
    else
     bif decide (r380 ≥ (4096 : Int)) then
      kr false
     else
      ways_Way N v377 r380 (newellaw08_Trip.Help v378) (newellaw08_Trip.From v378) (newellaw08_Trip.To v378) (fun r382 r383 r384 r385 =>
      ways_Needed N v377 r380 (newellaw08_Trip.Help v378) (newellaw08_Trip.From v378) (newellaw08_Trip.To v378) (fun r386 r387 r388 =>
      bif r383 != r386 then
       kr false
      else
       bif r383 != (0 : Int) then
        bif r383 != (3 : Int) then
         kr false
        else
         bif r383 == (0 : Int) then
          bif v375 != (0 : Int) then
           kr false
          else
           bif decide (r382 < v374) then
            kr false
           else
            neweltop_TopDetour_l18 N N v374 v375 v376 r380 (0 : Int) v377 v378 v379 r387 r388 (fun r399 =>
             kr r399) (fun (_ : Unit) =>
             rc v374 v375 (w64 (v376 + (1 : Int))) v377 v378 v379)
         else
          neweltop_TopDetour_l18 N N v374 v375 v376 r380 (0 : Int) v377 v378 v379 r387 r388 (fun r400 =>
           kr r400) (fun (_ : Unit) =>
           rc v374 v375 (w64 (v376 + (1 : Int))) v377 v378 v379)
       else
        bif r383 == (0 : Int) then
         bif v375 != (0 : Int) then
          kr false
         else
          bif decide (r382 < v374) then
           kr false
          else
           neweltop_TopDetour_l18 N N v374 v375 v376 r380 (0 : Int) v377 v378 v379 r387 r388 (fun r401 =>
            kr r401) (fun (_ : Unit) =>
            rc v374 v375 (w64 (v376 + (1 : Int))) v377 v378 v379)
        else
         neweltop_TopDetour_l18 N N v374 v375 v376 r380 (0 : Int) v377 v378 v379 r387 r388 (fun r402 =>
          kr r402) (fun (_ : Unit) =>
          rc v374 v375 (w64 (v376 + (1 : Int))) v377 v378 v379))))
  else
   k0 ()
def neweltop_TopDetour_l8 {R : Type} (N : Nat) : Nat → Int → Int → Int → api_Station → newellaw08_Trip → newellaw09_Planned → (Bool → Option R) → (Unit → Option R) → Option R
  | 0, _, _, _, _, _, _, _, _ => Option.none
  | n + 1, v374, v375, v376, v377, v378, v379, kr, k0 => neweltop_TopDetour_b8 N (fun v374 v375 v376 v377 v378 v379 => neweltop_TopDetour_l8 N n v374 v375 v376 v377 v378 v379 kr k0) v374 v375 v376 v377 v378 v379 kr k0


def neweltop_TopDetour_m {R : Type} (N : Nat) (a354 : api_Station) (a355 : newellaw08_Trip) (a356 : newellaw09_Planned) (k : Bool → Option R) : Option R :=
  newellaw09_FarWorks N (newellaw09_Planned.Works a356) (fun r357 =>
  bif r357 then
   neweltop_measures N  (fun r358 =>
   k r358)
  else
   bif decide ((↑(Arr.n (newellaw09_Planned.Starts a356)) : Int) > (10 : Int)) then
    neweltop_measures N  (fun r359 =>
    k r359)
   else
    newelref08_Check N a354 (fun r360 =>
    bif r360 != (0 : Int) then
     neweltop_measures N  (fun r361 =>
     k r361)
    else
     bif decide (newellaw08_Trip.From a355 < (0 : Int)) then
      neweltop_measures N  (fun r362 =>
      k r362)
     else
      bif decide (newellaw08_Trip.From a355 ≥ api_Station.Places a354) then
       neweltop_measures N  (fun r363 =>
       k r363)
      else
       bif decide (newellaw08_Trip.To a355 < (0 : Int)) then
        neweltop_measures N  (fun r364 =>
        k r364)
       else
        bif decide (newellaw08_Trip.To a355 ≥ api_Station.Places a354) then
         neweltop_measures N  (fun r365 =>
         k r365)
        else
         newelref09_CheckPlan N (newellaw09_Planned.Works a356) (newellaw09_Planned.Starts a356) (fun r366 r367 r368 =>
         bif r368 != (0 : Int) then
          neweltop_measures N  (fun r369 =>
          k r369)
         else
          ways_Way N a354 (0 : Int) (newellaw08_Trip.Help a355) (newellaw08_Trip.From a355) (newellaw08_Trip.To a355) (fun r370 r371 r372 r373 =>
          neweltop_TopDetour_l8 N N r370 r371 (0 : Int) a354 a355 a356 (fun r403 =>
           k r403) (fun (_ : Unit) =>
           neweltop_measures N  (fun r404 =>
           k r404))))))
noncomputable def neweltop_TopDetour {R : Type} : Nat → api_Station → newellaw08_Trip → newellaw09_Planned → (Bool → Option R) → Option R := lock (@neweltop_TopDetour_m R)
theorem neweltop_TopDetour_def {R : Type} (N : Nat) (a354 : api_Station) (a355 : newellaw08_Trip) (a356 : newellaw09_Planned) (k : Bool → Option R) : neweltop_TopDetour N a354 a355 a356 k = neweltop_TopDetour_m N a354 a355 a356 k := by unfold neweltop_TopDetour; rw [lock_eq]
def neweltop_TopDetour_sp : Sp := ⟨[rAgg api_StationC, rAgg newellaw08_TripC, rAgg newellaw09_PlannedC], []⟩
theorem neweltop_TopDetour_sp_ok : neweltop_TopDetour_sp.Ok := ⟨(allCons (rAgg_ok api_StationC_ok api_StationC_len) (allCons (rAgg_ok newellaw08_TripC_ok newellaw08_TripC_len) (allCons (rAgg_ok newellaw09_PlannedC_ok newellaw09_PlannedC_len) allNil))), eNil⟩
def neweltop_TopDetour_rs : Sp := ⟨[rBool], []⟩
theorem neweltop_TopDetour_rs_ok : neweltop_TopDetour_rs.Ok := ⟨(allCons rBool_ok allNil), eNil⟩
def neweltop_TopDetour_run {R : Type} (N : Nat) (args : List SV) (T : Tab) (kf : SV × Tab → Option R) : Option R :=
  neweltop_TopDetour_m N (Cod.dec api_StationC (lget (toCs (lget args 0)))) (Cod.dec newellaw08_TripC (lget (toCs (lget args 1)))) (Cod.dec newellaw09_PlannedC (lget (toCs (lget args 2)))) (fun q0 => kf (lget [.bool q0] 0, []))
def neweltop_TopDetour_d18 {R : Type} (N : Nat) (S0 : St) (k : Exit → St → Option R) : Option R :=
  neweltop_TopDetour_l18 N N (toI (lget S0.tmps 10)) (toI (lget S0.tmps 12)) (toI (lget S0.tmps 13)) (toI (lget S0.tmps 14)) (toI (lget S0.tmps 21)) (Cod.dec api_StationC (lget (entCs (entAt S0.tab 0)))) (Cod.dec newellaw08_TripC (lget (entCs (entAt S0.tab 1)))) (Cod.dec newellaw09_PlannedC (lget (entCs (entAt S0.tab 2)))) (entNl (entAt S0.tab 3)) (lst intC (entN (entAt S0.tab 3)) (entC (entAt S0.tab 3))) (fun q0 => k .ret (neweltop_TopDetour_x18_r q0)) (fun (_ : Unit) => k (.exit 2) (neweltop_TopDetour_x18_2 (toI (lget S0.tmps 10)) (toI (lget S0.tmps 12)) (toI (lget S0.tmps 13)) (Cod.dec api_StationC (lget (entCs (entAt S0.tab 0)))) (Cod.dec newellaw08_TripC (lget (entCs (entAt S0.tab 1)))) (Cod.dec newellaw09_PlannedC (lget (entCs (entAt S0.tab 2))))))
def neweltop_TopDetour_d8 {R : Type} (N : Nat) (S0 : St) (k : Exit → St → Option R) : Option R :=
  neweltop_TopDetour_l8 N N (toI (lget S0.tmps 10)) (toI (lget S0.tmps 12)) (toI (lget S0.tmps 13)) (Cod.dec api_StationC (lget (entCs (entAt S0.tab 0)))) (Cod.dec newellaw08_TripC (lget (entCs (entAt S0.tab 1)))) (Cod.dec newellaw09_PlannedC (lget (entCs (entAt S0.tab 2)))) (fun q0 => k .ret (neweltop_TopDetour_x8_r q0)) (fun (_ : Unit) => k (.exit 0) (neweltop_TopDetour_x8_0 ))
def neweltop_TopDetour_lp {R : Type} (N : Nat) : Lp R := fun body S k => bif (Go.Sx.keyOf body).getD 0 == 8 then (neweltop_TopDetour_L8.head.raw 0 S (fun S0 => neweltop_TopDetour_d8 N S0 k)) else bif (Go.Sx.keyOf body).getD 0 == 18 then (neweltop_TopDetour_L18.head.raw 0 S (fun S0 => neweltop_TopDetour_d18 N S0 k)) else Option.none
theorem neweltop_TopDetour_l8_eq {R : Type} (N : Nat) (k : Exit → St → Option R) (n : Nat) : ∀ (v0 : Int) (v1 : Int) (v2 : Int) (v3 : api_Station) (v4 : newellaw08_Trip) (v5 : newellaw09_Planned), loopM E.Θ (neweltop_measures_cal N) (neweltop_TopDetour_lp N) (noJn) 0 neweltop_TopDetour_L8 (bodyAt E 4 8) n (neweltop_TopDetour_h8 v0 v1 v2 v3 v4 v5) k = neweltop_TopDetour_l8 N n v0 v1 v2 v3 v4 v5 (fun q0 => k .ret (neweltop_TopDetour_x8_r q0)) (fun (_ : Unit) => k (.exit 0) (neweltop_TopDetour_x8_0 )) := by
  induction n with
  | zero => intro v0 v1 v2 v3 v4 v5; rfl
  | succ n ih =>
    intro v0 v1 v2 v3 v4 v5
    refine Eq.trans (b := neweltop_TopDetour_b8 N (fun v0 v1 v2 v3 v4 v5 => loopM E.Θ (neweltop_measures_cal N) (neweltop_TopDetour_lp N) (noJn) 0 neweltop_TopDetour_L8 (bodyAt E 4 8) n (neweltop_TopDetour_h8 v0 v1 v2 v3 v4 v5) k) v0 v1 v2 v3 v4 v5 (fun q0 => k .ret (neweltop_TopDetour_x8_r q0)) (fun (_ : Unit) => k (.exit 0) (neweltop_TopDetour_x8_0 ))) (by kernel_rfl) ?_
    have h : (fun (v0 : Int) (v1 : Int) (v2 : Int) (v3 : api_Station) (v4 : newellaw08_Trip) (v5 : newellaw09_Planned) => loopM E.Θ (neweltop_measures_cal N) (neweltop_TopDetour_lp N) (noJn) 0 neweltop_TopDetour_L8 (bodyAt E 4 8) n (neweltop_TopDetour_h8 v0 v1 v2 v3 v4 v5) k) = (fun (v0 : Int) (v1 : Int) (v2 : Int) (v3 : api_Station) (v4 : newellaw08_Trip) (v5 : newellaw09_Planned) => neweltop_TopDetour_l8 N n v0 v1 v2 v3 v4 v5 (fun q0 => k .ret (neweltop_TopDetour_x8_r q0)) (fun (_ : Unit) => k (.exit 0) (neweltop_TopDetour_x8_0 ))) := funext fun v0 => funext fun v1 => funext fun v2 => funext fun v3 => funext fun v4 => funext fun v5 => ih v0 v1 v2 v3 v4 v5
    rw [h]
    rfl
theorem neweltop_TopDetour_l18_eq {R : Type} (N : Nat) (k : Exit → St → Option R) (n : Nat) : ∀ (v0 : Int) (v1 : Int) (v2 : Int) (v3 : Int) (v4 : Int) (v5 : api_Station) (v6 : newellaw08_Trip) (v7 : newellaw09_Planned) (v8 : Bool) (v9 : Arr Int), loopM E.Θ (neweltop_measures_cal N) (neweltop_TopDetour_lp N) (noJn) 0 neweltop_TopDetour_L18 (bodyAt E 4 18) n (neweltop_TopDetour_h18 v0 v1 v2 v3 v4 v5 v6 v7 v8 v9) k = neweltop_TopDetour_l18 N n v0 v1 v2 v3 v4 v5 v6 v7 v8 v9 (fun q0 => k .ret (neweltop_TopDetour_x18_r q0)) (fun (_ : Unit) => k (.exit 2) (neweltop_TopDetour_x18_2 v0 v1 v2 v5 v6 v7)) := by
  induction n with
  | zero => intro v0 v1 v2 v3 v4 v5 v6 v7 v8 v9; rfl
  | succ n ih =>
    intro v0 v1 v2 v3 v4 v5 v6 v7 v8 v9
    refine Eq.trans (b := neweltop_TopDetour_b18 N (fun v0 v1 v2 v3 v4 v5 v6 v7 v8 v9 => loopM E.Θ (neweltop_measures_cal N) (neweltop_TopDetour_lp N) (noJn) 0 neweltop_TopDetour_L18 (bodyAt E 4 18) n (neweltop_TopDetour_h18 v0 v1 v2 v3 v4 v5 v6 v7 v8 v9) k) v0 v1 v2 v3 v4 v5 v6 v7 v8 v9 (fun q0 => k .ret (neweltop_TopDetour_x18_r q0)) (fun (_ : Unit) => k (.exit 2) (neweltop_TopDetour_x18_2 v0 v1 v2 v5 v6 v7))) (by kernel_rfl) ?_
    have h : (fun (v0 : Int) (v1 : Int) (v2 : Int) (v3 : Int) (v4 : Int) (v5 : api_Station) (v6 : newellaw08_Trip) (v7 : newellaw09_Planned) (v8 : Bool) (v9 : Arr Int) => loopM E.Θ (neweltop_measures_cal N) (neweltop_TopDetour_lp N) (noJn) 0 neweltop_TopDetour_L18 (bodyAt E 4 18) n (neweltop_TopDetour_h18 v0 v1 v2 v3 v4 v5 v6 v7 v8 v9) k) = (fun (v0 : Int) (v1 : Int) (v2 : Int) (v3 : Int) (v4 : Int) (v5 : api_Station) (v6 : newellaw08_Trip) (v7 : newellaw09_Planned) (v8 : Bool) (v9 : Arr Int) => neweltop_TopDetour_l18 N n v0 v1 v2 v3 v4 v5 v6 v7 v8 v9 (fun q0 => k .ret (neweltop_TopDetour_x18_r q0)) (fun (_ : Unit) => k (.exit 2) (neweltop_TopDetour_x18_2 v0 v1 v2 v5 v6 v7))) := funext fun v0 => funext fun v1 => funext fun v2 => funext fun v3 => funext fun v4 => funext fun v5 => funext fun v6 => funext fun v7 => funext fun v8 => funext fun v9 => ih v0 v1 v2 v3 v4 v5 v6 v7 v8 v9
    rw [h]
    rfl
theorem neweltop_TopDetour_k18 {R : Type} (N : Nat) : LpKey (R := R) E 4 0 (neweltop_TopDetour_lp N) 18 :=
  lpKey_of hE (neweltop_measures_cal_ok N) (lp := neweltop_TopDetour_lp N) (jn := noJn) neweltop_TopDetour_L18_ok [] kNil (by kernel_rfl) [] jNil (by kernel_rfl) N fun S k =>
    Eq.trans (b := neweltop_TopDetour_L18.head.raw 0 S (fun S0 => neweltop_TopDetour_d18 N S0 k)) (by kernel_rfl) (congrArg (neweltop_TopDetour_L18.head.raw 0 S) (funext fun S0 => Eq.trans (neweltop_TopDetour_l18_eq N k N (toI (lget S0.tmps 10)) (toI (lget S0.tmps 12)) (toI (lget S0.tmps 13)) (toI (lget S0.tmps 14)) (toI (lget S0.tmps 21)) (Cod.dec api_StationC (lget (entCs (entAt S0.tab 0)))) (Cod.dec newellaw08_TripC (lget (entCs (entAt S0.tab 1)))) (Cod.dec newellaw09_PlannedC (lget (entCs (entAt S0.tab 2)))) (entNl (entAt S0.tab 3)) (lst intC (entN (entAt S0.tab 3)) (entC (entAt S0.tab 3)))).symm (by kernel_rfl)))
theorem neweltop_TopDetour_k8 {R : Type} (N : Nat) : LpKey (R := R) E 4 0 (neweltop_TopDetour_lp N) 8 :=
  lpKey_of hE (neweltop_measures_cal_ok N) (lp := neweltop_TopDetour_lp N) (jn := noJn) neweltop_TopDetour_L8_ok [18] (kCons (neweltop_TopDetour_k18 N) kNil) (by kernel_rfl) [] jNil (by kernel_rfl) N fun S k =>
    Eq.trans (b := neweltop_TopDetour_L8.head.raw 0 S (fun S0 => neweltop_TopDetour_d8 N S0 k)) (by kernel_rfl) (congrArg (neweltop_TopDetour_L8.head.raw 0 S) (funext fun S0 => Eq.trans (neweltop_TopDetour_l8_eq N k N (toI (lget S0.tmps 10)) (toI (lget S0.tmps 12)) (toI (lget S0.tmps 13)) (Cod.dec api_StationC (lget (entCs (entAt S0.tab 0)))) (Cod.dec newellaw08_TripC (lget (entCs (entAt S0.tab 1)))) (Cod.dec newellaw09_PlannedC (lget (entCs (entAt S0.tab 2))))).symm (by kernel_rfl)))
noncomputable def neweltop_TopDetour_go {R : Type} (N : Nat) (args : List SV) (T : Tab) (kf : SV × Tab → Option R) : Option R :=
  neweltop_TopDetour N (Cod.dec api_StationC (lget (toCs (lget args 0)))) (Cod.dec newellaw08_TripC (lget (toCs (lget args 1)))) (Cod.dec newellaw09_PlannedC (lget (toCs (lget args 2)))) (fun q0 => kf (lget [.bool q0] 0, []))
noncomputable def neweltop_TopDetour_cal {R : Type} (N : Nat) : Cal R := callM (neweltop_measures_cal N) 4 0 neweltop_TopDetour_sp (neweltop_TopDetour_go N)
theorem neweltop_TopDetour_cal_ok {R : Type} (N : Nat) : CalOk E.P (neweltop_TopDetour_cal (R := R) N) :=
  callM_ok hE (neweltop_measures_cal_ok N) (lp := neweltop_TopDetour_lp N) (jn := noJn) (keys := [8, 18]) (kCons (neweltop_TopDetour_k8 N) (kCons (neweltop_TopDetour_k18 N) kNil)) (by kernel_rfl) (js := []) jNil (by kernel_rfl) neweltop_TopDetour_sp_ok neweltop_TopDetour_rs_ok (fun args T kf => Eq.trans (neweltop_TopDetour_def N (Cod.dec api_StationC (lget (toCs (lget args 0)))) (Cod.dec newellaw08_TripC (lget (toCs (lget args 1)))) (Cod.dec newellaw09_PlannedC (lget (toCs (lget args 2)))) (fun q0 => kf (lget [.bool q0] 0, []))) (by kernel_rfl : neweltop_TopDetour_run N args T kf = fnM E (neweltop_measures_cal N) (neweltop_TopDetour_lp N) (noJn) 4 (neweltop_TopDetour_sp.vs args) (neweltop_TopDetour_sp.tab T) 0 (resK neweltop_TopDetour_rs kf)))


section
open Classical
open Wk (VW NF jdg ntA bad1 fnd)
theorem starts_in {R : Type} (N : Nat) {a : Arr Int} (hn : a.n ≤ 100) (hN : 200 ≤ N) (h : ∀ j, j < a.n → 0 ≤ a.f j ∧ a.f j ≤ 24) (k : Bool → Option R) : slices_ContainsFunc___int_int__v2 N a k = k false := by
  rw [slices_ContainsFunc___int_int__v2_def]
  unfold slices_ContainsFunc___int_int__v2_m
  rw [slices_IndexFunc___int_int__v2_def]
  unfold slices_IndexFunc___int_int__v2_m
  have hl : ∀ (q i n : Nat), i + q = a.n → q < n → slices_IndexFunc___int_int__v2_l2 N n a (a.n : Int) (i : Int) (fun r => k (decide (r ≥ 0))) (fun _ => k (decide ((-1 : Int) ≥ 0))) = k false := by
    intro q
    induction q with
    | zero =>
      intro i n h1 h2
      obtain ⟨n, rfl⟩ : ∃ m, n = m + 1 := ⟨n - 1, by omega⟩
      unfold slices_IndexFunc___int_int__v2_l2 slices_IndexFunc___int_int__v2_b2
      simp only [Wy.ltF (show a.n ≤ i by omega), cond_false]
      rfl
    | succ q ih =>
      intro i n h1 h2
      obtain ⟨n, rfl⟩ : ∃ m, n = m + 1 := ⟨n - 1, by omega⟩
      unfold slices_IndexFunc___int_int__v2_l2 slices_IndexFunc___int_int__v2_b2
      have hb := h i (by omega)
      have e : ∀ kk : Bool → Option R, shaft_Out_1 N (a.f i) kk = kk false := fun kk => by
        rw [shaft_Out_1_def]
        unfold shaft_Out_1_m
        have c1 : ¬ (a.f i < 0) := by omega
        have c2 : ¬ (a.f i > 24) := by omega
        simp only [c1, c2, decide_false, cond_false]
      simp only [Wy.ltT (show i < a.n by omega), nat_nonneg, Bool.and_self, cond_true, Int.toNat_natCast, w64_succ (show i < 1000000000000 by omega), e, cond_false]
      exact ih (i + 1) n (by omega) (by omega)
  exact hl a.n 0 N (by omega) (by omega)

/-- A right plan. -/
structure GoodP (w : api_Works) (p : Arr Int) : Prop where
  nf : NF w
  v : VW w
  n : p.n = w.Jobs.n
  b : fnd (bad1 w p) w.Jobs.n 0 = none

theorem out_good {R : Type} {N : Nat} (hN : 200 ≤ N) {w : api_Works} {p : Arr Int} (g : GoodP w p) {x : Int} (hx : 0 ≤ x ∧ x < w.Until) (k : Int → Int → Option R) : shaft_Out N w p x k = k (((ntA w p x).1 : Nat) : Int) 0 := by
  have hu := g.v.u
  have hj := g.v.j
  have hb := Wk.bounds24 g.v g.b
  rw [shaft_Out_def]
  unfold shaft_Out_m
  rw [Wk.ck_eq g.nf p N (by omega), if_pos g.v, if_pos g.n]
  have c1 : ¬ (x < 0) := by omega
  have c2 : ¬ (x ≥ w.Until) := by omega
  simp only [bne_self_eq_false, cond_false, c1, c2, decide_false]
  rw [starts_in N (by rw [g.n]; omega) hN (fun j hj => hb j (by rw [← g.n]; exact hj))]
  simp only [cond_false]
  rw [Wk.night_eq g.v g.n hb N (by omega) x (by omega)]

theorem plan_cases {R : Type} {N : Nat} (hN : 200 ≤ N) {w : api_Works} (nf : NF w) (p : Arr Int) (k : Int → Int → Int → Option R) : (∃ a b c, c ≠ 0 ∧ newelref09_CheckPlan N w p k = k a b c) ∨ (GoodP w p ∧ ∃ a b, newelref09_CheckPlan N w p k = k a b 0) := by
  rw [newelref09_CheckPlan_def]
  unfold newelref09_CheckPlan_m
  rw [Wk.rWorks_eq nf N (by omega)]
  unfold Wk.errW
  by_cases v : VW w
  rotate_left
  · rw [if_neg v]; exact .inl ⟨0, 0, 92, by decide, rfl⟩
  rw [if_pos v, show ((0 : Int) != 0) = false from rfl, cond_false]
  by_cases h : p.n = w.Jobs.n
  rotate_left
  · rw [Wk.neB h]; exact .inl ⟨0, 0, 1, by decide, rfl⟩
  rw [Wk.eqB' h, cond_false, Wk.reason_eq v h N (by omega)]
  by_cases hz : (jdg w p).1 = 0
  · right
    refine ⟨⟨nf, v, h, ?_⟩, 0, 0, ?_⟩
    · unfold Wk.jdg at hz
      cases hf : fnd (bad1 w p) w.Jobs.n 0 with
      | none => rfl
      | some i => rw [hf] at hz; simp at hz
    · rw [hz]; rfl
  · left
    have : ((jdg w p).1 != 0) = true := by simpa using hz
    exact ⟨_, _, 93, by decide, by rw [this]; rfl⟩

theorem need_l18 {R : Type} {N : Nat} {o : Nat} (ho : o < 4096) {w : Arr Int} (hw : Wy.needP o w 12) (a b c : Int) (s : api_Station) (x : newellaw08_Trip) (p : newellaw09_Planned) (l : Bool) (kr : Bool → Option R) (k2 : Unit → Option R) : ∀ (q i n : Nat), i + q = w.n → q < n →
    neweltop_TopDetour_l18 N n a b c (o : Int) (i : Int) s x p l w kr k2 = k2 () := by
  intro q
  induction q with
  | zero =>
    intro i n h1 h2
    obtain ⟨n, rfl⟩ : ∃ m, n = m + 1 := ⟨n - 1, by omega⟩
    unfold neweltop_TopDetour_l18 neweltop_TopDetour_b18
    simp only [Wy.ltF (show w.n ≤ i by omega), cond_false]
  | succ q ih =>
    intro i n h1 h2
    obtain ⟨n, rfl⟩ : ∃ m, n = m + 1 := ⟨n - 1, by omega⟩
    have hn := hw.1
    obtain ⟨e1, e2, e3⟩ := hw.2 i (by omega)
    unfold neweltop_TopDetour_l18 neweltop_TopDetour_b18
    have hu : IntKind.wrap IntKind.u64 (w.f i) = w.f i := by
      have := u64_nat (n := (w.f i).toNat) (by omega)
      have hc : (((w.f i).toNat : Nat) : Int) = w.f i := by omega
      rw [hc] at this
      exact this
    have c1 : ¬ (w.f i < 0) := by omega
    have hb : (w64 (↑(BitVec.toNat (BitVec.ofInt (IntKind.bits IntKind.i64) (Int.fdiv (o : Int) ((2 : Int) ^ min (Int.toNat (w.f i)) (IntKind.bits IntKind.i64))) &&& BitVec.ofInt (IntKind.bits IntKind.i64) (1 : Int))) : Int) == (1 : Int)) = false := by
      have := bit64 (a := (o : Int)) (by omega) (by omega) (i := (w.f i).toNat) (by omega)
      rw [Int.toNat_natCast, e3] at this
      rw [show w64 _ = _ from this]
      rfl
    simp only [Wy.ltT (show i < w.n by omega), nat_nonneg, Bool.and_self, cond_true, Int.toNat_natCast (n := i), w64_succ (show i < 1000000000000 by omega), hu, c1, decide_false, cond_false, hb]
    exact ih (i + 1) n (by omega) (by omega)

theorem nights {R : Type} {N : Nat} (hN : 20000 ≤ N) {s : api_Station} (v : Wy.VS s) {x : newellaw08_Trip} (ha : 0 ≤ x.From ∧ x.From < s.Places) (hb : 0 ≤ x.To ∧ x.To < s.Places) {w : newellaw09_Planned} (g : GoodP w.Works w.Starts) {d : Nat → Int} (hd : Wy.Fin (Wy.mpOf s 0 x.Help) x.To.toNat d) (kr : Bool → Option R) (k0 : Unit → Option R) : ∀ (q i n : Nat), i + q = w.Works.Until.toNat → q < n →
    neweltop_TopDetour_l8 N n (if d x.From.toNat < 0 then 0 else d x.From.toNat) (if d x.From.toNat < 0 then 3 else 0) (i : Int) s x w kr k0 = k0 () := by
  intro q
  have hu := g.v.u
  have hp := v.p
  have han : x.From.toNat < s.Places.toNat := by omega
  have hbn : x.To.toNat < s.Places.toNat := by omega
  induction q with
  | zero =>
    intro i n h1 h2
    obtain ⟨n, rfl⟩ : ∃ m, n = m + 1 := ⟨n - 1, by omega⟩
    unfold neweltop_TopDetour_l8 neweltop_TopDetour_b8
    have c : ¬ ((i : Int) < w.Works.Until) := by omega
    simp only [c, decide_false, cond_false]
  | succ q ih =>
    intro i n h1 h2
    obtain ⟨n, rfl⟩ : ∃ m, n = m + 1 := ⟨n - 1, by omega⟩
    have c : (i : Int) < w.Works.Until := by omega
    have ho : (ntA w.Works w.Starts (i : Int)).1 < 4096 := (Wk.nt_lt g.v w.Starts (i : Int) _ (Nat.le_refl _)).1
    have hout := fun k => out_good (R := R) (N := N) (by omega) g (x := (i : Int)) (by omega) k
    generalize (ntA w.Works w.Starts (i : Int)).1 = o at *
    obtain ⟨d1, f1, l1, w1, g1⟩ := Wy.way_eq (R := R) hN v ho x.Help ha hb
    obtain ⟨d2, f2, l2, w2, n2, g2⟩ := Wy.needed_eq (R := R) hN v ho x.Help ha hb
    have ih' := ih (i + 1) n (by omega) (by omega)
    have c1 : ¬ ((o : Int) < 0) := by omega
    have c2 : ¬ ((o : Int) ≥ 4096) := by omega
    have hl := fun (kr : Bool → Option R) k2 a b c => need_l18 (N := N) ho n2 a b c s x w l2 kr k2 w2.n 0 N (by omega) (by have := n2.1; omega)
    have same : d1 x.From.toNat < 0 ↔ d2 x.From.toNat < 0 := by
      constructor
      · intro h
        rcases Int.lt_or_le (d2 x.From.toNat) 0 with e | e
        · exact e
        · have := Wy.Fin.more (Wy.mpOk v o x.Help) f2 f1 rfl rfl rfl (fun _ _ _ => rfl) hbn (d2 x.From.toNat).toNat x.From.toNat han e (by omega)
          omega
      · intro h
        rcases Int.lt_or_le (d1 x.From.toNat) 0 with e | e
        · exact e
        · have := Wy.Fin.more (Wy.mpOk v o x.Help) f1 f2 rfl rfl rfl (fun _ _ _ => rfl) hbn (d1 x.From.toNat).toNat x.From.toNat han e (by omega)
          omega
    have more : 0 ≤ d1 x.From.toNat → 0 ≤ d x.From.toNat ∧ d x.From.toNat ≤ d1 x.From.toNat := fun e =>
      Wy.Fin.more (Wy.mpOk v o x.Help) f1 hd rfl rfl rfl (fun j u h0 => by
        show Wy.oth 0 x.Help (s.Passages.f j) (u : Int) = Wy.oth o x.Help (s.Passages.f j) (u : Int)
        have h0 : 0 ≤ Wy.oth o x.Help (s.Passages.f j) (u : Int) := h0
        unfold Wy.oth at h0 ⊢
        by_cases hop : Wy.openP o x.Help (s.Passages.f j)
        · have hop0 : Wy.openP 0 x.Help (s.Passages.f j) := by
            rcases hop with e | ⟨e, _⟩ | e
            · exact .inl e
            · exact .inr (.inl ⟨e, Nat.zero_testBit _⟩)
            · exact .inr (.inr e)
          rw [if_pos hop, if_pos hop0]
        · rw [if_neg hop] at h0; omega) hbn (d1 x.From.toNat).toNat x.From.toNat han e (by omega)
    unfold neweltop_TopDetour_l8 neweltop_TopDetour_b8
    simp only [c, decide_true, cond_true, hout, bne_self_eq_false, cond_false, c1, c2, decide_false, g1]
    by_cases h0 : d1 x.From.toNat < 0
    · rw [if_pos h0, g2, if_pos (same.1 h0)]
      have e3 : ((3 : Int) != 0) = true := rfl
      have e4 : ((3 : Int) == 0) = false := rfl
      simp only [bne_self_eq_false, cond_false, e3, e4, cond_true]
      refine (hl _ _ _ _ _).trans ?_
      rw [w64_succ (show i < 1000000000000 by omega)]
      exact ih'
    · rw [if_neg h0, g2, if_neg (fun h => h0 (same.2 h))]
      obtain ⟨m1, m2⟩ := more (by omega)
      rw [if_neg (show ¬ d x.From.toNat < 0 by omega), if_neg (show ¬ d x.From.toNat < 0 by omega)] at *
      have c3 : ¬ (d1 x.From.toNat < d x.From.toNat) := by omega
      simp only [bne_self_eq_false, cond_false, BEq.rfl, cond_true, c3, decide_false]
      refine (hl _ _ _ _ _).trans ?_
      rw [w64_succ (show i < 1000000000000 by omega)]
      exact ih'

theorem topDetour_true (s : api_Station) (x : newellaw08_Trip) (w : newellaw09_Planned) (hs : s.wf) (hx : x.wf) (hw : w.wf) : ∃ N, neweltop_TopDetour N s x w (fun q0 => okK (lget [.bool q0] 0, [])) = some () := by
  refine ⟨20000, ?_⟩
  have htr : okK (lget [SV.bool true] 0, []) = some () := rfl
  rw [neweltop_TopDetour_def]
  unfold neweltop_TopDetour_m
  simp only [neweltop_measures_eq, htr]
  refine Wk.viaFarW (by omega) (fun b hb => ?_)
  cases b
  rotate_left
  · rfl
  have nf := hb rfl
  rw [cond_false]
  by_cases h1 : (w.Starts.n : Int) > 10
  · simp only [h1, decide_true, cond_true]
  simp only [h1, decide_false, cond_false]
  refine (Wy.refChk (N := 20000) (by omega) s _).elim (fun h => h.trans rfl) (fun ⟨v, h⟩ => h.trans ?_)
  simp only [bne_self_eq_false, cond_false]
  by_cases h2 : x.From < 0
  · simp only [h2, decide_true, cond_true]
  by_cases h3 : x.From ≥ s.Places
  · simp only [h2, h3, decide_true, decide_false, cond_true, cond_false]
  by_cases h4 : x.To < 0
  · simp only [h2, h3, h4, decide_true, decide_false, cond_true, cond_false]
  by_cases h5 : x.To ≥ s.Places
  · simp only [h2, h3, h4, h5, decide_true, decide_false, cond_true, cond_false]
  simp only [h2, h3, h4, h5, decide_false, cond_false]
  refine (plan_cases (N := 20000) (by omega) nf w.Starts _).elim (fun ⟨a, b, c, hc, h⟩ => h.trans ?_) (fun ⟨g, a, b, h⟩ => h.trans ?_)
  · have : (c != 0) = true := by simpa using hc
    simp only [this, cond_true]
  simp only [bne_self_eq_false, cond_false]
  have ha : 0 ≤ x.From ∧ x.From < s.Places := by omega
  have hb' : 0 ≤ x.To ∧ x.To < s.Places := by omega
  obtain ⟨d, f, l, w1, gw⟩ := Wy.way_eq (R := Unit) (N := 20000) (by omega) v (o := 0) (by omega) x.Help ha hb'
  refine (gw _).trans ?_
  have hn := fun (kr : Bool → Option Unit) k0 => nights (N := 20000) (by omega) v ha hb' g f kr k0 w.Works.Until.toNat 0 20000 (by omega) (by have := g.v.u; omega)
  by_cases h0 : d x.From.toNat < 0
  · rw [if_pos h0]
    simp only [h0, if_true] at hn
    exact hn _ _
  · rw [if_neg h0]
    simp only [h0, if_false] at hn
    exact hn _ _
end
end
end Go.Proofs.Ytpillmoddoccfab
