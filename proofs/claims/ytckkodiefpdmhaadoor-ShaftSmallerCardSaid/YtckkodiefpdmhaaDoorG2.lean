import Derived.Test.YtckkodiefpdmhaaDoorG1
set_option maxRecDepth 100000
set_option maxHeartbeats 0
set_option linter.unusedVariables false
namespace Go.Proofs.YtckkodiefpdmhaaDoor
open Go.Sx
noncomputable section
def shaft_Move_m {R : Type} (N : Nat) (a240 : api_Shaft) (a241 : Arr3_int) (a242 : api_Pose) (a243 : Int) (k : api_Pose → Int → Option R) : Option R :=
  shaft_check N a240 a241 (fun r244 =>
  bif r244 != (0 : Int) then
   k (api_Pose.mk (Arr3_int.mk (0 : Int) (0 : Int) (0 : Int)) (0 : Int)) r244
  else
   shaft_begin N a240 a241 (fun r245 r246 r247 r248 r249 r250 r251 =>
   shaft_crate_fits N a242 r245 r246 r247 r248 r249 r250 r251 (fun r252 =>
   bif !r252 then
    k (api_Pose.mk (Arr3_int.mk (0 : Int) (0 : Int) (0 : Int)) (0 : Int)) (1 : Int)
   else
    bif decide (a243 < (0 : Int)) then
     k (api_Pose.mk (Arr3_int.mk (0 : Int) (0 : Int) (0 : Int)) (0 : Int)) (1 : Int)
    else
     bif decide (a243 > (8 : Int)) then
      k (api_Pose.mk (Arr3_int.mk (0 : Int) (0 : Int) (0 : Int)) (0 : Int)) (1 : Int)
     else
      shaft_crate_move N a242 a243 r245 r246 r247 r248 r249 r250 r251 (fun r288 r289 =>
      bif !r289 then
       k (api_Pose.mk (Arr3_int.mk (0 : Int) (0 : Int) (0 : Int)) (0 : Int)) (3 : Int)
      else
       k r288 (0 : Int)))))
noncomputable def shaft_Move {R : Type} : Nat → api_Shaft → Arr3_int → api_Pose → Int → (api_Pose → Int → Option R) → Option R := lock (@shaft_Move_m R)
theorem shaft_Move_def {R : Type} (N : Nat) (a240 : api_Shaft) (a241 : Arr3_int) (a242 : api_Pose) (a243 : Int) (k : api_Pose → Int → Option R) : shaft_Move N a240 a241 a242 a243 k = shaft_Move_m N a240 a241 a242 a243 k := by unfold shaft_Move; rw [lock_eq]
def shaft_Move_sp : Sp := ⟨[rAgg api_ShaftC, rAgg Arr3_intC, rAgg api_PoseC, rInt .i64], []⟩
theorem shaft_Move_sp_ok : shaft_Move_sp.Ok := ⟨(allCons (rAgg_ok api_ShaftC_ok api_ShaftC_len) (allCons (rAgg_ok Arr3_intC_ok Arr3_intC_len) (allCons (rAgg_ok api_PoseC_ok api_PoseC_len) (allCons (rInt_ok .i64) allNil)))), eNil⟩
def shaft_Move_rs : Sp := ⟨[rTup [rAgg api_PoseC, rInt .i64]], []⟩
theorem shaft_Move_rs_ok : shaft_Move_rs.Ok := ⟨(allCons (rTup_ok (allCons (rAgg_ok api_PoseC_ok api_PoseC_len) (allCons (rInt_ok .i64) allNil))) allNil), eNil⟩
def shaft_Move_run {R : Type} (N : Nat) (args : List SV) (T : Tab) (kf : SV × Tab → Option R) : Option R :=
  shaft_Move_m N (Cod.dec api_ShaftC (lget (toCs (lget args 0)))) (Cod.dec Arr3_intC (lget (toCs (lget args 1)))) (Cod.dec api_PoseC (lget (toCs (lget args 2)))) (toI (lget args 3)) (fun q0 q1 => kf (lget [.tup [.agg (Cod.enc api_PoseC q0), .int .i64 q1]] 0, []))
def shaft_Move_lp {R : Type} (N : Nat) : Lp R := fun body S k => Option.none
noncomputable def shaft_Move_go {R : Type} (N : Nat) (args : List SV) (T : Tab) (kf : SV × Tab → Option R) : Option R :=
  shaft_Move N (Cod.dec api_ShaftC (lget (toCs (lget args 0)))) (Cod.dec Arr3_intC (lget (toCs (lget args 1)))) (Cod.dec api_PoseC (lget (toCs (lget args 2)))) (toI (lget args 3)) (fun q0 q1 => kf (lget [.tup [.agg (Cod.enc api_PoseC q0), .int .i64 q1]] 0, []))
noncomputable def shaft_Move_cal {R : Type} (N : Nat) : Cal R := callM (shaft_crate_move_cal N) 26 0 shaft_Move_sp (shaft_Move_go N)
theorem shaft_Move_cal_ok {R : Type} (N : Nat) : CalOk E.P (shaft_Move_cal (R := R) N) :=
  callM_ok hE (shaft_crate_move_cal_ok N) (lp := shaft_Move_lp N) (jn := noJn) (keys := []) kNil (by kernel_rfl) (js := []) jNil (by kernel_rfl) shaft_Move_sp_ok shaft_Move_rs_ok (fun args T kf => Eq.trans (shaft_Move_def N (Cod.dec api_ShaftC (lget (toCs (lget args 0)))) (Cod.dec Arr3_intC (lget (toCs (lget args 1)))) (Cod.dec api_PoseC (lget (toCs (lget args 2)))) (toI (lget args 3)) (fun q0 q1 => kf (lget [.tup [.agg (Cod.enc api_PoseC q0), .int .i64 q1]] 0, []))) (by kernel_rfl : shaft_Move_run N args T kf = fnM E (shaft_crate_move_cal N) (shaft_Move_lp N) (noJn) 26 (shaft_Move_sp.vs args) (shaft_Move_sp.tab T) 0 (resK shaft_Move_rs kf)))
def newelref09_number_m {R : Type} (N : Nat) (a290 : api_Pose) (k : Int → Option R) : Option R :=
  k (w64 (w64 (w64 (w64 (w64 (w64 (api_Pose.Turn a290 * (8 : Int)) + Arr3_int.a0 (api_Pose.At a290)) * (8 : Int)) + Arr3_int.a1 (api_Pose.At a290)) * (8 : Int)) + Arr3_int.a2 (api_Pose.At a290)))
noncomputable def newelref09_number {R : Type} : Nat → api_Pose → (Int → Option R) → Option R := lock (@newelref09_number_m R)
theorem newelref09_number_def {R : Type} (N : Nat) (a290 : api_Pose) (k : Int → Option R) : newelref09_number N a290 k = newelref09_number_m N a290 k := by unfold newelref09_number; rw [lock_eq]
def newelref09_number_sp : Sp := ⟨[rAgg api_PoseC], []⟩
theorem newelref09_number_sp_ok : newelref09_number_sp.Ok := ⟨(allCons (rAgg_ok api_PoseC_ok api_PoseC_len) allNil), eNil⟩
def newelref09_number_rs : Sp := ⟨[rInt .i64], []⟩
theorem newelref09_number_rs_ok : newelref09_number_rs.Ok := ⟨(allCons (rInt_ok .i64) allNil), eNil⟩
def newelref09_number_run {R : Type} (N : Nat) (args : List SV) (T : Tab) (kf : SV × Tab → Option R) : Option R :=
  newelref09_number_m N (Cod.dec api_PoseC (lget (toCs (lget args 0)))) (fun q0 => kf (lget [.int .i64 q0] 0, []))
def newelref09_number_lp {R : Type} (N : Nat) : Lp R := fun body S k => Option.none
noncomputable def newelref09_number_go {R : Type} (N : Nat) (args : List SV) (T : Tab) (kf : SV × Tab → Option R) : Option R :=
  newelref09_number N (Cod.dec api_PoseC (lget (toCs (lget args 0)))) (fun q0 => kf (lget [.int .i64 q0] 0, []))
noncomputable def newelref09_number_cal {R : Type} (N : Nat) : Cal R := callM (shaft_Move_cal N) 72 0 newelref09_number_sp (newelref09_number_go N)
theorem newelref09_number_cal_ok {R : Type} (N : Nat) : CalOk E.P (newelref09_number_cal (R := R) N) :=
  callM_ok hE (shaft_Move_cal_ok N) (lp := newelref09_number_lp N) (jn := noJn) (keys := []) kNil (by kernel_rfl) (js := []) jNil (by kernel_rfl) newelref09_number_sp_ok newelref09_number_rs_ok (fun args T kf => Eq.trans (newelref09_number_def N (Cod.dec api_PoseC (lget (toCs (lget args 0)))) (fun q0 => kf (lget [.int .i64 q0] 0, []))) (by kernel_rfl : newelref09_number_run N args T kf = fnM E (shaft_Move_cal N) (newelref09_number_lp N) (noJn) 72 (newelref09_number_sp.vs args) (newelref09_number_sp.tab T) 0 (resK newelref09_number_rs kf)))
def newelref09_far_L3 : LoopSp := ⟨⟨[3, 4, 5, 7, 8], ⟨(dr 3 ((rPtr 0 0) :: (rPtr 1 0) :: (rPtr 2 0) :: (dr 1 ((rRow 3) :: (rInt .i64) :: (dr 69 []))))), [(0, eBlkC api_ShaftC), (1, eBlkC Arr3_intC), (2, eBlkC api_PoseC), (3, eRow intC)]⟩, 4⟩, [(some 0, ⟨[3, 4, 5, 7], ⟨(dr 3 ((rPtr 0 0) :: (rPtr 1 0) :: (rPtr 2 0) :: (dr 1 ((rRow 3) :: (dr 70 []))))), [(0, eBlkC api_ShaftC), (1, eBlkC Arr3_intC), (2, eBlkC api_PoseC), (3, eRow intC)]⟩, 4⟩)]⟩
theorem newelref09_far_L3_ok : newelref09_far_L3.Ok := ⟨⟨(drCons 3 (allCons (rPtr_ok 0 0) (allCons (rPtr_ok 1 0) (allCons (rPtr_ok 2 0) (drCons 1 (allCons (rRow_ok 3) (allCons (rInt_ok .i64) (drCons 69 allNil)))))))), (eCons (eBlkC_ok api_ShaftC_ok api_ShaftC_len) (eCons (eBlkC_ok Arr3_intC_ok Arr3_intC_len) (eCons (eBlkC_ok api_PoseC_ok api_PoseC_len) (eCons (eRow_ok intC_ok) eNil))))⟩, (xCons ⟨(drCons 3 (allCons (rPtr_ok 0 0) (allCons (rPtr_ok 1 0) (allCons (rPtr_ok 2 0) (drCons 1 (allCons (rRow_ok 3) (drCons 70 allNil))))))), (eCons (eBlkC_ok api_ShaftC_ok api_ShaftC_len) (eCons (eBlkC_ok Arr3_intC_ok Arr3_intC_len) (eCons (eBlkC_ok api_PoseC_ok api_PoseC_len) (eCons (eRow_ok intC_ok) eNil))))⟩ xNil)⟩
def newelref09_far_h3 (v305 : Int) (v306 : api_Shaft) (v307 : Arr3_int) (v308 : api_Pose) (v309 : Bool) (v310 : Arr Int) : St := ⟨(un 3 ((.ptr 0 0) :: (.ptr 1 0) :: (.ptr 2 0) :: (un 1 ((.row 3) :: (.int .i64 v305) :: (un 69 []))))), [(0, .blk (Cod.enc api_ShaftC v306)), (1, .blk (Cod.enc Arr3_intC v307)), (2, .blk (Cod.enc api_PoseC v308)), (3, rowE intC v309 v310)], 4⟩
def newelref09_far_x3_0 (v306 : api_Shaft) (v307 : Arr3_int) (v308 : api_Pose) (v309 : Bool) (q4 : Arr Int) : St := ⟨(un 3 ((.ptr 0 0) :: (.ptr 1 0) :: (.ptr 2 0) :: (un 1 ((.row 3) :: (un 70 []))))), [(0, .blk (Cod.enc api_ShaftC v306)), (1, .blk (Cod.enc Arr3_intC v307)), (2, .blk (Cod.enc api_PoseC v308)), (3, rowE intC v309 q4)], 4⟩
def newelref09_far_b3 {R : Type} (N : Nat) (rc : Int → api_Shaft → Arr3_int → api_Pose → Bool → Arr Int → Option R) (v305 : Int) (v306 : api_Shaft) (v307 : Arr3_int) (v308 : api_Pose) (v309 : Bool) (v310 : Arr Int) (k0 : Arr Int → Option R) : Option R :=
  bif decide (v305 < (↑(Arr.n v310) : Int)) then
   bif decide ((0 : Int) ≤ v305) && decide (v305 < (↑(Arr.n v310) : Int)) then
    rc (w64 (v305 + (1 : Int))) v306 v307 v308 v309 (lst intC (Arr.n v310) (setCs (Int.toNat v305) (0 : Nat) (Cod.cell intC (Arr.f v310)) [SV.int IntKind.i64 (-1 : Int)]))
   else
    Option.none
  else
   k0 v310
def newelref09_far_l3 {R : Type} (N : Nat) : Nat → Int → api_Shaft → Arr3_int → api_Pose → Bool → Arr Int → (Arr Int → Option R) → Option R
  | 0, _, _, _, _, _, _, _ => Option.none
  | n + 1, v305, v306, v307, v308, v309, v310, k0 => newelref09_far_b3 N (fun v305 v306 v307 v308 v309 v310 => newelref09_far_l3 N n v305 v306 v307 v308 v309 v310 k0) v305 v306 v307 v308 v309 v310 k0
def newelref09_far_L12 : LoopSp := ⟨⟨[3, 4, 7, 9, 10, 11], ⟨(dr 3 ((rPtr 0 0) :: (rPtr 1 0) :: (dr 2 ((rRow 2) :: (dr 1 ((rRow 3) :: (rInt .i64) :: (rInt .i64) :: (dr 66 []))))))), [(0, eBlkC api_ShaftC), (1, eBlkC Arr3_intC), (2, eRow intC), (3, eRow api_PoseC)]⟩, 4⟩, [(some 4, ⟨[3, 4, 7, 9, 10], ⟨(dr 3 ((rPtr 0 0) :: (rPtr 1 0) :: (dr 2 ((rRow 2) :: (dr 1 ((rRow 3) :: (rInt .i64) :: (dr 67 []))))))), [(0, eBlkC api_ShaftC), (1, eBlkC Arr3_intC), (2, eRow intC), (3, eRow api_PoseC)]⟩, 4⟩)]⟩
theorem newelref09_far_L12_ok : newelref09_far_L12.Ok := ⟨⟨(drCons 3 (allCons (rPtr_ok 0 0) (allCons (rPtr_ok 1 0) (drCons 2 (allCons (rRow_ok 2) (drCons 1 (allCons (rRow_ok 3) (allCons (rInt_ok .i64) (allCons (rInt_ok .i64) (drCons 66 allNil)))))))))), (eCons (eBlkC_ok api_ShaftC_ok api_ShaftC_len) (eCons (eBlkC_ok Arr3_intC_ok Arr3_intC_len) (eCons (eRow_ok intC_ok) (eCons (eRow_ok api_PoseC_ok) eNil))))⟩, (xCons ⟨(drCons 3 (allCons (rPtr_ok 0 0) (allCons (rPtr_ok 1 0) (drCons 2 (allCons (rRow_ok 2) (drCons 1 (allCons (rRow_ok 3) (allCons (rInt_ok .i64) (drCons 67 allNil))))))))), (eCons (eBlkC_ok api_ShaftC_ok api_ShaftC_len) (eCons (eBlkC_ok Arr3_intC_ok Arr3_intC_len) (eCons (eRow_ok intC_ok) (eCons (eRow_ok api_PoseC_ok) eNil))))⟩ xNil)⟩
def newelref09_far_h12 (v320 : Int) (v321 : Int) (v322 : api_Shaft) (v323 : Arr3_int) (v324 : Bool) (v325 : Arr Int) (v326 : Bool) (v327 : Arr api_Pose) : St := ⟨(un 3 ((.ptr 0 0) :: (.ptr 1 0) :: (un 2 ((.row 2) :: (un 1 ((.row 3) :: (.int .i64 v320) :: (.int .i64 v321) :: (un 66 []))))))), [(0, .blk (Cod.enc api_ShaftC v322)), (1, .blk (Cod.enc Arr3_intC v323)), (2, rowE intC v324 v325), (3, rowE api_PoseC v326 v327)], 4⟩
def newelref09_far_x12_4 (v320 : Int) (v322 : api_Shaft) (v323 : Arr3_int) (v324 : Bool) (q4 : Arr Int) (q5 : Bool) (q6 : Arr api_Pose) : St := ⟨(un 3 ((.ptr 0 0) :: (.ptr 1 0) :: (un 2 ((.row 2) :: (un 1 ((.row 3) :: (.int .i64 v320) :: (un 67 []))))))), [(0, .blk (Cod.enc api_ShaftC v322)), (1, .blk (Cod.enc Arr3_intC v323)), (2, rowE intC v324 q4), (3, rowE api_PoseC q5 q6)], 4⟩
def newelref09_far_b12 {R : Type} (N : Nat) (rc : Int → Int → api_Shaft → Arr3_int → Bool → Arr Int → Bool → Arr api_Pose → Option R) (v320 : Int) (v321 : Int) (v322 : api_Shaft) (v323 : Arr3_int) (v324 : Bool) (v325 : Arr Int) (v326 : Bool) (v327 : Arr api_Pose) (k4 : Arr Int → Bool → Arr api_Pose → Option R) : Option R :=
  bif decide (v321 < (9 : Int)) then
   bif decide ((0 : Int) ≤ v320) && decide (v320 < (↑(Arr.n v327) : Int)) then
    newelref09_moved N v322 v323 (Arr.f v327 (Int.toNat v320)) v321 (fun r328 r329 =>
    bif r329 then
     newelref09_number N r328 (fun r330 =>
     bif decide ((0 : Int) ≤ r330) && decide (r330 < (↑(Arr.n v325) : Int)) then
      bif decide (Arr.f v325 (Int.toNat r330) < (0 : Int)) then
       newelref09_number N r328 (fun r331 =>
       bif decide ((0 : Int) ≤ v320) && decide (v320 < (↑(Arr.n v327) : Int)) then
        newelref09_number N (Arr.f v327 (Int.toNat v320)) (fun r332 =>
        bif decide ((0 : Int) ≤ r332) && decide (r332 < (↑(Arr.n v325) : Int)) then
         bif decide ((0 : Int) ≤ r331) && decide (r331 < (↑(Arr.n v325) : Int)) then
          bif room (Arr.n v327 + (1 : Nat)) then
           rc v320 (w64 (v321 + (1 : Int))) v322 v323 v324 (lst intC (Arr.n v325) (setCs (Int.toNat r331) (0 : Nat) (Cod.cell intC (Arr.f v325)) [SV.int IntKind.i64 (w64 (Arr.f v325 (Int.toNat r332) + (1 : Int)))])) false (lst api_PoseC (Arr.n v327 + (1 : Nat)) (catC (Arr.n v327) (Cod.cell api_PoseC (Arr.f v327)) (litC [SV.int IntKind.i64 (0 : Int), SV.int IntKind.i64 (0 : Int), SV.int IntKind.i64 (0 : Int), SV.int IntKind.i64 (0 : Int)] [[SV.int IntKind.i64 (Arr3_int.a0 (api_Pose.At r328)), SV.int IntKind.i64 (Arr3_int.a1 (api_Pose.At r328)), SV.int IntKind.i64 (Arr3_int.a2 (api_Pose.At r328)), SV.int IntKind.i64 (api_Pose.Turn r328)]])))
          else
           Option.none
         else
          Option.none
        else
         Option.none)
       else
        Option.none)
      else
       rc v320 (w64 (v321 + (1 : Int))) v322 v323 v324 v325 v326 v327
     else
      Option.none)
    else
     rc v320 (w64 (v321 + (1 : Int))) v322 v323 v324 v325 v326 v327)
   else
    Option.none
  else
   k4 v325 v326 v327
def newelref09_far_l12 {R : Type} (N : Nat) : Nat → Int → Int → api_Shaft → Arr3_int → Bool → Arr Int → Bool → Arr api_Pose → (Arr Int → Bool → Arr api_Pose → Option R) → Option R
  | 0, _, _, _, _, _, _, _, _, _ => Option.none
  | n + 1, v320, v321, v322, v323, v324, v325, v326, v327, k4 => newelref09_far_b12 N (fun v320 v321 v322 v323 v324 v325 v326 v327 => newelref09_far_l12 N n v320 v321 v322 v323 v324 v325 v326 v327 k4) v320 v321 v322 v323 v324 v325 v326 v327 k4
def newelref09_far_L9 : LoopSp := ⟨⟨[3, 4, 7, 9, 10], ⟨(dr 3 ((rPtr 0 0) :: (rPtr 1 0) :: (dr 2 ((rRow 2) :: (dr 1 ((rRow 3) :: (rInt .i64) :: (dr 67 []))))))), [(0, eBlkC api_ShaftC), (1, eBlkC Arr3_intC), (2, eRow intC), (3, eRow api_PoseC)]⟩, 4⟩, [(some 2, ⟨[7], ⟨(dr 7 ((rRow 0) :: (dr 70 []))), [(0, eRow intC)]⟩, 1⟩)]⟩
theorem newelref09_far_L9_ok : newelref09_far_L9.Ok := ⟨⟨(drCons 3 (allCons (rPtr_ok 0 0) (allCons (rPtr_ok 1 0) (drCons 2 (allCons (rRow_ok 2) (drCons 1 (allCons (rRow_ok 3) (allCons (rInt_ok .i64) (drCons 67 allNil))))))))), (eCons (eBlkC_ok api_ShaftC_ok api_ShaftC_len) (eCons (eBlkC_ok Arr3_intC_ok Arr3_intC_len) (eCons (eRow_ok intC_ok) (eCons (eRow_ok api_PoseC_ok) eNil))))⟩, (xCons ⟨(drCons 7 (allCons (rRow_ok 0) (drCons 70 allNil))), (eCons (eRow_ok intC_ok) eNil)⟩ xNil)⟩
def newelref09_far_h9 (v313 : Int) (v314 : api_Shaft) (v315 : Arr3_int) (v316 : Bool) (v317 : Arr Int) (v318 : Bool) (v319 : Arr api_Pose) : St := ⟨(un 3 ((.ptr 0 0) :: (.ptr 1 0) :: (un 2 ((.row 2) :: (un 1 ((.row 3) :: (.int .i64 v313) :: (un 67 []))))))), [(0, .blk (Cod.enc api_ShaftC v314)), (1, .blk (Cod.enc Arr3_intC v315)), (2, rowE intC v316 v317), (3, rowE api_PoseC v318 v319)], 4⟩
def newelref09_far_x9_2 (v316 : Bool) (q1 : Arr Int) : St := ⟨(un 7 ((.row 0) :: (un 70 []))), [(0, rowE intC v316 q1)], 1⟩
def newelref09_far_b9 {R : Type} (N : Nat) (rc : Int → api_Shaft → Arr3_int → Bool → Arr Int → Bool → Arr api_Pose → Option R) (v313 : Int) (v314 : api_Shaft) (v315 : Arr3_int) (v316 : Bool) (v317 : Arr Int) (v318 : Bool) (v319 : Arr api_Pose) (k2 : Arr Int → Option R) : Option R :=
  bif decide (v313 < (↑(Arr.n v319) : Int)) then
   newelref09_far_l12 N N v313 (0 : Int) v314 v315 v316 v317 v318 v319 (fun r333 r334 r335 =>
    rc (w64 (v313 + (1 : Int))) v314 v315 v316 r333 r334 r335)
  else
   k2 v317
def newelref09_far_l9 {R : Type} (N : Nat) : Nat → Int → api_Shaft → Arr3_int → Bool → Arr Int → Bool → Arr api_Pose → (Arr Int → Option R) → Option R
  | 0, _, _, _, _, _, _, _, _ => Option.none
  | n + 1, v313, v314, v315, v316, v317, v318, v319, k2 => newelref09_far_b9 N (fun v313 v314 v315 v316 v317 v318 v319 => newelref09_far_l9 N n v313 v314 v315 v316 v317 v318 v319 k2) v313 v314 v315 v316 v317 v318 v319 k2
def newelref09_far_m {R : Type} (N : Nat) (a302 : api_Shaft) (a303 : Arr3_int) (a304 : api_Pose) (k : Bool → Arr Int → Option R) : Option R :=
  newelref09_far_l3 N N (0 : Int) a302 a303 a304 false (lst intC (3072 : Nat) (zeroC [SV.int IntKind.i64 (0 : Int)])) (fun r311 =>
   newelref09_number N a304 (fun r312 =>
   bif decide ((0 : Int) ≤ r312) && decide (r312 < (↑(Arr.n r311) : Int)) then
    newelref09_far_l9 N N (0 : Int) a302 a303 false (lst intC (Arr.n r311) (setCs (Int.toNat r312) (0 : Nat) (Cod.cell intC (Arr.f r311)) [SV.int IntKind.i64 (0 : Int)])) false (lst api_PoseC (1 : Nat) (litC [SV.int IntKind.i64 (0 : Int), SV.int IntKind.i64 (0 : Int), SV.int IntKind.i64 (0 : Int), SV.int IntKind.i64 (0 : Int)] [[SV.int IntKind.i64 (Arr3_int.a0 (api_Pose.At a304)), SV.int IntKind.i64 (Arr3_int.a1 (api_Pose.At a304)), SV.int IntKind.i64 (Arr3_int.a2 (api_Pose.At a304)), SV.int IntKind.i64 (api_Pose.Turn a304)]])) (fun r336 =>
     k false r336)
   else
    Option.none))
noncomputable def newelref09_far {R : Type} : Nat → api_Shaft → Arr3_int → api_Pose → (Bool → Arr Int → Option R) → Option R := lock (@newelref09_far_m R)
theorem newelref09_far_def {R : Type} (N : Nat) (a302 : api_Shaft) (a303 : Arr3_int) (a304 : api_Pose) (k : Bool → Arr Int → Option R) : newelref09_far N a302 a303 a304 k = newelref09_far_m N a302 a303 a304 k := by unfold newelref09_far; rw [lock_eq]
def newelref09_far_sp : Sp := ⟨[rAgg api_ShaftC, rAgg Arr3_intC, rAgg api_PoseC], []⟩
theorem newelref09_far_sp_ok : newelref09_far_sp.Ok := ⟨(allCons (rAgg_ok api_ShaftC_ok api_ShaftC_len) (allCons (rAgg_ok Arr3_intC_ok Arr3_intC_len) (allCons (rAgg_ok api_PoseC_ok api_PoseC_len) allNil))), eNil⟩
def newelref09_far_rs : Sp := ⟨[rRow 0], [(0, eRow intC)]⟩
theorem newelref09_far_rs_ok : newelref09_far_rs.Ok := ⟨(allCons (rRow_ok 0) allNil), (eCons (eRow_ok intC_ok) eNil)⟩
def newelref09_far_run {R : Type} (N : Nat) (args : List SV) (T : Tab) (kf : SV × Tab → Option R) : Option R :=
  newelref09_far_m N (Cod.dec api_ShaftC (lget (toCs (lget args 0)))) (Cod.dec Arr3_intC (lget (toCs (lget args 1)))) (Cod.dec api_PoseC (lget (toCs (lget args 2)))) (fun q0 q1 => kf (lget [.row 0] 0, [(0, rowE intC q0 q1)]))
def newelref09_far_d12 {R : Type} (N : Nat) (S0 : St) (k : Exit → St → Option R) : Option R :=
  newelref09_far_l12 N N (toI (lget S0.tmps 10)) (toI (lget S0.tmps 11)) (Cod.dec api_ShaftC (lget (entCs (entAt S0.tab 0)))) (Cod.dec Arr3_intC (lget (entCs (entAt S0.tab 1)))) (entNl (entAt S0.tab 2)) (lst intC (entN (entAt S0.tab 2)) (entC (entAt S0.tab 2))) (entNl (entAt S0.tab 3)) (lst api_PoseC (entN (entAt S0.tab 3)) (entC (entAt S0.tab 3))) (fun q4 q5 q6 => k (.exit 4) (newelref09_far_x12_4 (toI (lget S0.tmps 10)) (Cod.dec api_ShaftC (lget (entCs (entAt S0.tab 0)))) (Cod.dec Arr3_intC (lget (entCs (entAt S0.tab 1)))) (entNl (entAt S0.tab 2)) q4 q5 q6))
def newelref09_far_d9 {R : Type} (N : Nat) (S0 : St) (k : Exit → St → Option R) : Option R :=
  newelref09_far_l9 N N (toI (lget S0.tmps 10)) (Cod.dec api_ShaftC (lget (entCs (entAt S0.tab 0)))) (Cod.dec Arr3_intC (lget (entCs (entAt S0.tab 1)))) (entNl (entAt S0.tab 2)) (lst intC (entN (entAt S0.tab 2)) (entC (entAt S0.tab 2))) (entNl (entAt S0.tab 3)) (lst api_PoseC (entN (entAt S0.tab 3)) (entC (entAt S0.tab 3))) (fun q1 => k (.exit 2) (newelref09_far_x9_2 (entNl (entAt S0.tab 2)) q1))
def newelref09_far_d3 {R : Type} (N : Nat) (S0 : St) (k : Exit → St → Option R) : Option R :=
  newelref09_far_l3 N N (toI (lget S0.tmps 8)) (Cod.dec api_ShaftC (lget (entCs (entAt S0.tab 0)))) (Cod.dec Arr3_intC (lget (entCs (entAt S0.tab 1)))) (Cod.dec api_PoseC (lget (entCs (entAt S0.tab 2)))) (entNl (entAt S0.tab 3)) (lst intC (entN (entAt S0.tab 3)) (entC (entAt S0.tab 3))) (fun q4 => k (.exit 0) (newelref09_far_x3_0 (Cod.dec api_ShaftC (lget (entCs (entAt S0.tab 0)))) (Cod.dec Arr3_intC (lget (entCs (entAt S0.tab 1)))) (Cod.dec api_PoseC (lget (entCs (entAt S0.tab 2)))) (entNl (entAt S0.tab 3)) q4))
def newelref09_far_lp {R : Type} (N : Nat) : Lp R := fun body S k => bif (Go.Sx.keyOf body).getD 0 == 3 then (newelref09_far_L3.head.raw 0 S (fun S0 => newelref09_far_d3 N S0 k)) else bif (Go.Sx.keyOf body).getD 0 == 9 then (newelref09_far_L9.head.raw 0 S (fun S0 => newelref09_far_d9 N S0 k)) else bif (Go.Sx.keyOf body).getD 0 == 12 then (newelref09_far_L12.head.raw 0 S (fun S0 => newelref09_far_d12 N S0 k)) else Option.none
theorem newelref09_far_l3_eq {R : Type} (N : Nat) (k : Exit → St → Option R) (n : Nat) : ∀ (v0 : Int) (v1 : api_Shaft) (v2 : Arr3_int) (v3 : api_Pose) (v4 : Bool) (v5 : Arr Int), loopM E.Θ (newelref09_number_cal N) (newelref09_far_lp N) (noJn) 0 newelref09_far_L3 (bodyAt E 71 3) n (newelref09_far_h3 v0 v1 v2 v3 v4 v5) k = newelref09_far_l3 N n v0 v1 v2 v3 v4 v5 (fun q4 => k (.exit 0) (newelref09_far_x3_0 v1 v2 v3 v4 q4)) := by
  induction n with
  | zero => intro v0 v1 v2 v3 v4 v5; rfl
  | succ n ih =>
    intro v0 v1 v2 v3 v4 v5
    refine Eq.trans (b := newelref09_far_b3 N (fun v0 v1 v2 v3 v4 v5 => loopM E.Θ (newelref09_number_cal N) (newelref09_far_lp N) (noJn) 0 newelref09_far_L3 (bodyAt E 71 3) n (newelref09_far_h3 v0 v1 v2 v3 v4 v5) k) v0 v1 v2 v3 v4 v5 (fun q4 => k (.exit 0) (newelref09_far_x3_0 v1 v2 v3 v4 q4))) (by kernel_rfl) ?_
    have h : (fun (v0 : Int) (v1 : api_Shaft) (v2 : Arr3_int) (v3 : api_Pose) (v4 : Bool) (v5 : Arr Int) => loopM E.Θ (newelref09_number_cal N) (newelref09_far_lp N) (noJn) 0 newelref09_far_L3 (bodyAt E 71 3) n (newelref09_far_h3 v0 v1 v2 v3 v4 v5) k) = (fun (v0 : Int) (v1 : api_Shaft) (v2 : Arr3_int) (v3 : api_Pose) (v4 : Bool) (v5 : Arr Int) => newelref09_far_l3 N n v0 v1 v2 v3 v4 v5 (fun q4 => k (.exit 0) (newelref09_far_x3_0 v1 v2 v3 v4 q4))) := funext fun v0 => funext fun v1 => funext fun v2 => funext fun v3 => funext fun v4 => funext fun v5 => ih v0 v1 v2 v3 v4 v5
    rw [h]
    rfl
theorem newelref09_far_l9_eq {R : Type} (N : Nat) (k : Exit → St → Option R) (n : Nat) : ∀ (v0 : Int) (v1 : api_Shaft) (v2 : Arr3_int) (v3 : Bool) (v4 : Arr Int) (v5 : Bool) (v6 : Arr api_Pose), loopM E.Θ (newelref09_number_cal N) (newelref09_far_lp N) (noJn) 0 newelref09_far_L9 (bodyAt E 71 9) n (newelref09_far_h9 v0 v1 v2 v3 v4 v5 v6) k = newelref09_far_l9 N n v0 v1 v2 v3 v4 v5 v6 (fun q1 => k (.exit 2) (newelref09_far_x9_2 v3 q1)) := by
  induction n with
  | zero => intro v0 v1 v2 v3 v4 v5 v6; rfl
  | succ n ih =>
    intro v0 v1 v2 v3 v4 v5 v6
    refine Eq.trans (b := newelref09_far_b9 N (fun v0 v1 v2 v3 v4 v5 v6 => loopM E.Θ (newelref09_number_cal N) (newelref09_far_lp N) (noJn) 0 newelref09_far_L9 (bodyAt E 71 9) n (newelref09_far_h9 v0 v1 v2 v3 v4 v5 v6) k) v0 v1 v2 v3 v4 v5 v6 (fun q1 => k (.exit 2) (newelref09_far_x9_2 v3 q1))) (by kernel_rfl) ?_
    have h : (fun (v0 : Int) (v1 : api_Shaft) (v2 : Arr3_int) (v3 : Bool) (v4 : Arr Int) (v5 : Bool) (v6 : Arr api_Pose) => loopM E.Θ (newelref09_number_cal N) (newelref09_far_lp N) (noJn) 0 newelref09_far_L9 (bodyAt E 71 9) n (newelref09_far_h9 v0 v1 v2 v3 v4 v5 v6) k) = (fun (v0 : Int) (v1 : api_Shaft) (v2 : Arr3_int) (v3 : Bool) (v4 : Arr Int) (v5 : Bool) (v6 : Arr api_Pose) => newelref09_far_l9 N n v0 v1 v2 v3 v4 v5 v6 (fun q1 => k (.exit 2) (newelref09_far_x9_2 v3 q1))) := funext fun v0 => funext fun v1 => funext fun v2 => funext fun v3 => funext fun v4 => funext fun v5 => funext fun v6 => ih v0 v1 v2 v3 v4 v5 v6
    rw [h]
    rfl
theorem newelref09_far_l12_eq {R : Type} (N : Nat) (k : Exit → St → Option R) (n : Nat) : ∀ (v0 : Int) (v1 : Int) (v2 : api_Shaft) (v3 : Arr3_int) (v4 : Bool) (v5 : Arr Int) (v6 : Bool) (v7 : Arr api_Pose), loopM E.Θ (newelref09_number_cal N) (newelref09_far_lp N) (noJn) 0 newelref09_far_L12 (bodyAt E 71 12) n (newelref09_far_h12 v0 v1 v2 v3 v4 v5 v6 v7) k = newelref09_far_l12 N n v0 v1 v2 v3 v4 v5 v6 v7 (fun q4 q5 q6 => k (.exit 4) (newelref09_far_x12_4 v0 v2 v3 v4 q4 q5 q6)) := by
  induction n with
  | zero => intro v0 v1 v2 v3 v4 v5 v6 v7; rfl
  | succ n ih =>
    intro v0 v1 v2 v3 v4 v5 v6 v7
    refine Eq.trans (b := newelref09_far_b12 N (fun v0 v1 v2 v3 v4 v5 v6 v7 => loopM E.Θ (newelref09_number_cal N) (newelref09_far_lp N) (noJn) 0 newelref09_far_L12 (bodyAt E 71 12) n (newelref09_far_h12 v0 v1 v2 v3 v4 v5 v6 v7) k) v0 v1 v2 v3 v4 v5 v6 v7 (fun q4 q5 q6 => k (.exit 4) (newelref09_far_x12_4 v0 v2 v3 v4 q4 q5 q6))) (by kernel_rfl) ?_
    have h : (fun (v0 : Int) (v1 : Int) (v2 : api_Shaft) (v3 : Arr3_int) (v4 : Bool) (v5 : Arr Int) (v6 : Bool) (v7 : Arr api_Pose) => loopM E.Θ (newelref09_number_cal N) (newelref09_far_lp N) (noJn) 0 newelref09_far_L12 (bodyAt E 71 12) n (newelref09_far_h12 v0 v1 v2 v3 v4 v5 v6 v7) k) = (fun (v0 : Int) (v1 : Int) (v2 : api_Shaft) (v3 : Arr3_int) (v4 : Bool) (v5 : Arr Int) (v6 : Bool) (v7 : Arr api_Pose) => newelref09_far_l12 N n v0 v1 v2 v3 v4 v5 v6 v7 (fun q4 q5 q6 => k (.exit 4) (newelref09_far_x12_4 v0 v2 v3 v4 q4 q5 q6))) := funext fun v0 => funext fun v1 => funext fun v2 => funext fun v3 => funext fun v4 => funext fun v5 => funext fun v6 => funext fun v7 => ih v0 v1 v2 v3 v4 v5 v6 v7
    rw [h]
    rfl
theorem newelref09_far_k3 {R : Type} (N : Nat) : LpKey (R := R) E 71 0 (newelref09_far_lp N) 3 :=
  lpKey_of hE (newelref09_number_cal_ok N) (lp := newelref09_far_lp N) (jn := noJn) newelref09_far_L3_ok [] kNil (by kernel_rfl) [] jNil (by kernel_rfl) N fun S k =>
    Eq.trans (b := newelref09_far_L3.head.raw 0 S (fun S0 => newelref09_far_d3 N S0 k)) (by kernel_rfl) (congrArg (newelref09_far_L3.head.raw 0 S) (funext fun S0 => Eq.trans (newelref09_far_l3_eq N k N (toI (lget S0.tmps 8)) (Cod.dec api_ShaftC (lget (entCs (entAt S0.tab 0)))) (Cod.dec Arr3_intC (lget (entCs (entAt S0.tab 1)))) (Cod.dec api_PoseC (lget (entCs (entAt S0.tab 2)))) (entNl (entAt S0.tab 3)) (lst intC (entN (entAt S0.tab 3)) (entC (entAt S0.tab 3)))).symm (by kernel_rfl)))
theorem newelref09_far_k12 {R : Type} (N : Nat) : LpKey (R := R) E 71 0 (newelref09_far_lp N) 12 :=
  lpKey_of hE (newelref09_number_cal_ok N) (lp := newelref09_far_lp N) (jn := noJn) newelref09_far_L12_ok [] kNil (by kernel_rfl) [] jNil (by kernel_rfl) N fun S k =>
    Eq.trans (b := newelref09_far_L12.head.raw 0 S (fun S0 => newelref09_far_d12 N S0 k)) (by kernel_rfl) (congrArg (newelref09_far_L12.head.raw 0 S) (funext fun S0 => Eq.trans (newelref09_far_l12_eq N k N (toI (lget S0.tmps 10)) (toI (lget S0.tmps 11)) (Cod.dec api_ShaftC (lget (entCs (entAt S0.tab 0)))) (Cod.dec Arr3_intC (lget (entCs (entAt S0.tab 1)))) (entNl (entAt S0.tab 2)) (lst intC (entN (entAt S0.tab 2)) (entC (entAt S0.tab 2))) (entNl (entAt S0.tab 3)) (lst api_PoseC (entN (entAt S0.tab 3)) (entC (entAt S0.tab 3)))).symm (by kernel_rfl)))
theorem newelref09_far_k9 {R : Type} (N : Nat) : LpKey (R := R) E 71 0 (newelref09_far_lp N) 9 :=
  lpKey_of hE (newelref09_number_cal_ok N) (lp := newelref09_far_lp N) (jn := noJn) newelref09_far_L9_ok [12] (kCons (newelref09_far_k12 N) kNil) (by kernel_rfl) [] jNil (by kernel_rfl) N fun S k =>
    Eq.trans (b := newelref09_far_L9.head.raw 0 S (fun S0 => newelref09_far_d9 N S0 k)) (by kernel_rfl) (congrArg (newelref09_far_L9.head.raw 0 S) (funext fun S0 => Eq.trans (newelref09_far_l9_eq N k N (toI (lget S0.tmps 10)) (Cod.dec api_ShaftC (lget (entCs (entAt S0.tab 0)))) (Cod.dec Arr3_intC (lget (entCs (entAt S0.tab 1)))) (entNl (entAt S0.tab 2)) (lst intC (entN (entAt S0.tab 2)) (entC (entAt S0.tab 2))) (entNl (entAt S0.tab 3)) (lst api_PoseC (entN (entAt S0.tab 3)) (entC (entAt S0.tab 3)))).symm (by kernel_rfl)))
noncomputable def newelref09_far_go {R : Type} (N : Nat) (args : List SV) (T : Tab) (kf : SV × Tab → Option R) : Option R :=
  newelref09_far N (Cod.dec api_ShaftC (lget (toCs (lget args 0)))) (Cod.dec Arr3_intC (lget (toCs (lget args 1)))) (Cod.dec api_PoseC (lget (toCs (lget args 2)))) (fun q0 q1 => kf (lget [.row 0] 0, [(0, rowE intC q0 q1)]))
noncomputable def newelref09_far_cal {R : Type} (N : Nat) : Cal R := callM (newelref09_number_cal N) 71 0 newelref09_far_sp (newelref09_far_go N)
theorem newelref09_far_cal_ok {R : Type} (N : Nat) : CalOk E.P (newelref09_far_cal (R := R) N) :=
  callM_ok hE (newelref09_number_cal_ok N) (lp := newelref09_far_lp N) (jn := noJn) (keys := [3, 9, 12]) (kCons (newelref09_far_k3 N) (kCons (newelref09_far_k9 N) (kCons (newelref09_far_k12 N) kNil))) (by kernel_rfl) (js := []) jNil (by kernel_rfl) newelref09_far_sp_ok newelref09_far_rs_ok (fun args T kf => Eq.trans (newelref09_far_def N (Cod.dec api_ShaftC (lget (toCs (lget args 0)))) (Cod.dec Arr3_intC (lget (toCs (lget args 1)))) (Cod.dec api_PoseC (lget (toCs (lget args 2)))) (fun q0 q1 => kf (lget [.row 0] 0, [(0, rowE intC q0 q1)]))) (by kernel_rfl : newelref09_far_run N args T kf = fnM E (newelref09_number_cal N) (newelref09_far_lp N) (noJn) 71 (newelref09_far_sp.vs args) (newelref09_far_sp.tab T) 0 (resK newelref09_far_rs kf)))
def newelref09_carry_L8 : LoopSp := ⟨⟨[4, 5, 7, 10, 11, 12, 13], ⟨(dr 4 ((rPtr 0 0) :: (rPtr 1 0) :: (dr 1 ((rPtr 2 0) :: (dr 2 ((rRow 3) :: (rRow 4) :: (rPtr 5 0) :: (rInt .i64) :: (dr 50 []))))))), [(0, eBlkC api_ShaftC), (1, eBlkC Arr3_intC), (2, eBlkC api_PoseC), (3, eRow intC), (4, eRow intC), (5, eBlkC api_PoseC)]⟩, 6⟩, [(some 2, ⟨[4, 5, 7, 10, 11, 12], ⟨(dr 4 ((rPtr 0 0) :: (rPtr 1 0) :: (dr 1 ((rPtr 2 0) :: (dr 2 ((rRow 3) :: (rRow 4) :: (rPtr 5 0) :: (dr 51 []))))))), [(0, eBlkC api_ShaftC), (1, eBlkC Arr3_intC), (2, eBlkC api_PoseC), (3, eRow intC), (4, eRow intC), (5, eBlkC api_PoseC)]⟩, 6⟩)]⟩
theorem newelref09_carry_L8_ok : newelref09_carry_L8.Ok := ⟨⟨(drCons 4 (allCons (rPtr_ok 0 0) (allCons (rPtr_ok 1 0) (drCons 1 (allCons (rPtr_ok 2 0) (drCons 2 (allCons (rRow_ok 3) (allCons (rRow_ok 4) (allCons (rPtr_ok 5 0) (allCons (rInt_ok .i64) (drCons 50 allNil))))))))))), (eCons (eBlkC_ok api_ShaftC_ok api_ShaftC_len) (eCons (eBlkC_ok Arr3_intC_ok Arr3_intC_len) (eCons (eBlkC_ok api_PoseC_ok api_PoseC_len) (eCons (eRow_ok intC_ok) (eCons (eRow_ok intC_ok) (eCons (eBlkC_ok api_PoseC_ok api_PoseC_len) eNil))))))⟩, (xCons ⟨(drCons 4 (allCons (rPtr_ok 0 0) (allCons (rPtr_ok 1 0) (drCons 1 (allCons (rPtr_ok 2 0) (drCons 2 (allCons (rRow_ok 3) (allCons (rRow_ok 4) (allCons (rPtr_ok 5 0) (drCons 51 allNil)))))))))), (eCons (eBlkC_ok api_ShaftC_ok api_ShaftC_len) (eCons (eBlkC_ok Arr3_intC_ok Arr3_intC_len) (eCons (eBlkC_ok api_PoseC_ok api_PoseC_len) (eCons (eRow_ok intC_ok) (eCons (eRow_ok intC_ok) (eCons (eBlkC_ok api_PoseC_ok api_PoseC_len) eNil))))))⟩ xNil)⟩
def newelref09_carry_h8 (v348 : Int) (v349 : api_Shaft) (v350 : Arr3_int) (v351 : api_Pose) (v352 : Bool) (v353 : Arr Int) (v354 : Bool) (v355 : Arr Int) (v356 : api_Pose) : St := ⟨(un 4 ((.ptr 0 0) :: (.ptr 1 0) :: (un 1 ((.ptr 2 0) :: (un 2 ((.row 3) :: (.row 4) :: (.ptr 5 0) :: (.int .i64 v348) :: (un 50 []))))))), [(0, .blk (Cod.enc api_ShaftC v349)), (1, .blk (Cod.enc Arr3_intC v350)), (2, .blk (Cod.enc api_PoseC v351)), (3, rowE intC v352 v353), (4, rowE intC v354 v355), (5, .blk (Cod.enc api_PoseC v356))], 6⟩
def newelref09_carry_x8_2 (v349 : api_Shaft) (v350 : Arr3_int) (v351 : api_Pose) (v352 : Bool) (v353 : Arr Int) (q5 : Bool) (q6 : Arr Int) (q7 : api_Pose) : St := ⟨(un 4 ((.ptr 0 0) :: (.ptr 1 0) :: (un 1 ((.ptr 2 0) :: (un 2 ((.row 3) :: (.row 4) :: (.ptr 5 0) :: (un 51 []))))))), [(0, .blk (Cod.enc api_ShaftC v349)), (1, .blk (Cod.enc Arr3_intC v350)), (2, .blk (Cod.enc api_PoseC v351)), (3, rowE intC v352 v353), (4, rowE intC q5 q6), (5, .blk (Cod.enc api_PoseC q7))], 6⟩
def newelref09_carry_b8 {R : Type} (N : Nat) (rc : Int → api_Shaft → Arr3_int → api_Pose → Bool → Arr Int → Bool → Arr Int → api_Pose → Option R) (v348 : Int) (v349 : api_Shaft) (v350 : Arr3_int) (v351 : api_Pose) (v352 : Bool) (v353 : Arr Int) (v354 : Bool) (v355 : Arr Int) (v356 : api_Pose) (k2 : Bool → Arr Int → api_Pose → Option R) : Option R :=
  bif decide (v348 < (9 : Int)) then
   newelref09_moved N v349 v350 v356 v348 (fun r357 r358 =>
   bif r358 then
    newelref09_number N r357 (fun r359 =>
    bif decide ((0 : Int) ≤ r359) && decide (r359 < (↑(Arr.n v353) : Int)) then
     newelref09_number N v356 (fun r360 =>
     bif decide ((0 : Int) ≤ r360) && decide (r360 < (↑(Arr.n v353) : Int)) then
      bif Arr.f v353 (Int.toNat r359) == w64 (Arr.f v353 (Int.toNat r360) - (1 : Int)) then
       bif room (Arr.n v355 + (1 : Nat)) then
        k2 false (lst intC (Arr.n v355 + (1 : Nat)) (catC (Arr.n v355) (Cod.cell intC (Arr.f v355)) (litC [SV.int IntKind.i64 (0 : Int)] [[SV.int IntKind.i64 v348]]))) r357
       else
        Option.none
      else
       rc (w64 (v348 + (1 : Int))) v349 v350 v351 v352 v353 v354 v355 v356
     else
      Option.none)
    else
     Option.none)
   else
    rc (w64 (v348 + (1 : Int))) v349 v350 v351 v352 v353 v354 v355 v356)
  else
   k2 v354 v355 v356
def newelref09_carry_l8 {R : Type} (N : Nat) : Nat → Int → api_Shaft → Arr3_int → api_Pose → Bool → Arr Int → Bool → Arr Int → api_Pose → (Bool → Arr Int → api_Pose → Option R) → Option R
  | 0, _, _, _, _, _, _, _, _, _, _ => Option.none
  | n + 1, v348, v349, v350, v351, v352, v353, v354, v355, v356, k2 => newelref09_carry_b8 N (fun v348 v349 v350 v351 v352 v353 v354 v355 v356 => newelref09_carry_l8 N n v348 v349 v350 v351 v352 v353 v354 v355 v356 k2) v348 v349 v350 v351 v352 v353 v354 v355 v356 k2
def newelref09_carry_L6 : LoopSp := ⟨⟨[4, 5, 7, 10, 11, 12], ⟨(dr 4 ((rPtr 0 0) :: (rPtr 1 0) :: (dr 1 ((rPtr 2 0) :: (dr 2 ((rRow 3) :: (rRow 4) :: (rPtr 5 0) :: (dr 51 []))))))), [(0, eBlkC api_ShaftC), (1, eBlkC Arr3_intC), (2, eBlkC api_PoseC), (3, eRow intC), (4, eRow intC), (5, eBlkC api_PoseC)]⟩, 6⟩, [(some 0, ⟨[11], ⟨(dr 11 ((rRow 0) :: (dr 52 []))), [(0, eRow intC)]⟩, 1⟩)]⟩
theorem newelref09_carry_L6_ok : newelref09_carry_L6.Ok := ⟨⟨(drCons 4 (allCons (rPtr_ok 0 0) (allCons (rPtr_ok 1 0) (drCons 1 (allCons (rPtr_ok 2 0) (drCons 2 (allCons (rRow_ok 3) (allCons (rRow_ok 4) (allCons (rPtr_ok 5 0) (drCons 51 allNil)))))))))), (eCons (eBlkC_ok api_ShaftC_ok api_ShaftC_len) (eCons (eBlkC_ok Arr3_intC_ok Arr3_intC_len) (eCons (eBlkC_ok api_PoseC_ok api_PoseC_len) (eCons (eRow_ok intC_ok) (eCons (eRow_ok intC_ok) (eCons (eBlkC_ok api_PoseC_ok api_PoseC_len) eNil))))))⟩, (xCons ⟨(drCons 11 (allCons (rRow_ok 0) (drCons 52 allNil))), (eCons (eRow_ok intC_ok) eNil)⟩ xNil)⟩
def newelref09_carry_h6 (v340 : api_Shaft) (v341 : Arr3_int) (v342 : api_Pose) (v343 : Bool) (v344 : Arr Int) (v345 : Bool) (v346 : Arr Int) (v347 : api_Pose) : St := ⟨(un 4 ((.ptr 0 0) :: (.ptr 1 0) :: (un 1 ((.ptr 2 0) :: (un 2 ((.row 3) :: (.row 4) :: (.ptr 5 0) :: (un 51 []))))))), [(0, .blk (Cod.enc api_ShaftC v340)), (1, .blk (Cod.enc Arr3_intC v341)), (2, .blk (Cod.enc api_PoseC v342)), (3, rowE intC v343 v344), (4, rowE intC v345 v346), (5, .blk (Cod.enc api_PoseC v347))], 6⟩
def newelref09_carry_x6_0 (q0 : Bool) (q1 : Arr Int) : St := ⟨(un 11 ((.row 0) :: (un 52 []))), [(0, rowE intC q0 q1)], 1⟩
def newelref09_carry_b6 {R : Type} (N : Nat) (rc : api_Shaft → Arr3_int → api_Pose → Bool → Arr Int → Bool → Arr Int → api_Pose → Option R) (v340 : api_Shaft) (v341 : Arr3_int) (v342 : api_Pose) (v343 : Bool) (v344 : Arr Int) (v345 : Bool) (v346 : Arr Int) (v347 : api_Pose) (k0 : Bool → Arr Int → Option R) : Option R :=
  bif !(Arr3_int.a0 (api_Pose.At v347) == Arr3_int.a0 (api_Pose.At v342) && (Arr3_int.a1 (api_Pose.At v347) == Arr3_int.a1 (api_Pose.At v342) && (Arr3_int.a2 (api_Pose.At v347) == Arr3_int.a2 (api_Pose.At v342) && (api_Pose.Turn v347 == api_Pose.Turn v342 && true)))) then
   newelref09_carry_l8 N N (0 : Int) v340 v341 v342 v343 v344 v345 v346 v347 (fun r361 r362 r363 =>
    rc v340 v341 v342 v343 v344 r361 r362 r363)
  else
   k0 v345 v346
def newelref09_carry_l6 {R : Type} (N : Nat) : Nat → api_Shaft → Arr3_int → api_Pose → Bool → Arr Int → Bool → Arr Int → api_Pose → (Bool → Arr Int → Option R) → Option R
  | 0, _, _, _, _, _, _, _, _, _ => Option.none
  | n + 1, v340, v341, v342, v343, v344, v345, v346, v347, k0 => newelref09_carry_b6 N (fun v340 v341 v342 v343 v344 v345 v346 v347 => newelref09_carry_l6 N n v340 v341 v342 v343 v344 v345 v346 v347 k0) v340 v341 v342 v343 v344 v345 v346 v347 k0
def newelref09_carry_m {R : Type} (N : Nat) (a298 : api_Shaft) (a299 : Arr3_int) (a300 : api_Pose) (a301 : api_Pose) (k : Bool → Bool → Arr Int → Option R) : Option R :=
  newelref09_far N a298 a299 a301 (fun r337 r338 =>
  newelref09_number N a300 (fun r339 =>
  bif decide ((0 : Int) ≤ r339) && decide (r339 < (↑(Arr.n r338) : Int)) then
   bif decide (Arr.f r338 (Int.toNat r339) < (0 : Int)) then
    k false true (lst intC (0 : Nat) (zeroC [SV.int IntKind.i64 (0 : Int)]))
   else
    newelref09_carry_l6 N N a298 a299 a301 r337 r338 true (lst intC (0 : Nat) (zeroC [SV.int IntKind.i64 (0 : Int)])) a300 (fun r364 r365 =>
     k true r364 r365)
  else
   Option.none))
noncomputable def newelref09_carry {R : Type} : Nat → api_Shaft → Arr3_int → api_Pose → api_Pose → (Bool → Bool → Arr Int → Option R) → Option R := lock (@newelref09_carry_m R)
theorem newelref09_carry_def {R : Type} (N : Nat) (a298 : api_Shaft) (a299 : Arr3_int) (a300 : api_Pose) (a301 : api_Pose) (k : Bool → Bool → Arr Int → Option R) : newelref09_carry N a298 a299 a300 a301 k = newelref09_carry_m N a298 a299 a300 a301 k := by unfold newelref09_carry; rw [lock_eq]
def newelref09_carry_sp : Sp := ⟨[rAgg api_ShaftC, rAgg Arr3_intC, rAgg api_PoseC, rAgg api_PoseC], []⟩
theorem newelref09_carry_sp_ok : newelref09_carry_sp.Ok := ⟨(allCons (rAgg_ok api_ShaftC_ok api_ShaftC_len) (allCons (rAgg_ok Arr3_intC_ok Arr3_intC_len) (allCons (rAgg_ok api_PoseC_ok api_PoseC_len) (allCons (rAgg_ok api_PoseC_ok api_PoseC_len) allNil)))), eNil⟩
def newelref09_carry_rs : Sp := ⟨[rTup [rRow 0, rBool]], [(0, eRow intC)]⟩
theorem newelref09_carry_rs_ok : newelref09_carry_rs.Ok := ⟨(allCons (rTup_ok (allCons (rRow_ok 0) (allCons rBool_ok allNil))) allNil), (eCons (eRow_ok intC_ok) eNil)⟩
def newelref09_carry_run {R : Type} (N : Nat) (args : List SV) (T : Tab) (kf : SV × Tab → Option R) : Option R :=
  newelref09_carry_m N (Cod.dec api_ShaftC (lget (toCs (lget args 0)))) (Cod.dec Arr3_intC (lget (toCs (lget args 1)))) (Cod.dec api_PoseC (lget (toCs (lget args 2)))) (Cod.dec api_PoseC (lget (toCs (lget args 3)))) (fun q0 q1 q2 => kf (lget [.tup [.row 0, .bool q0]] 0, [(0, rowE intC q1 q2)]))
def newelref09_carry_d8 {R : Type} (N : Nat) (S0 : St) (k : Exit → St → Option R) : Option R :=
  newelref09_carry_l8 N N (toI (lget S0.tmps 13)) (Cod.dec api_ShaftC (lget (entCs (entAt S0.tab 0)))) (Cod.dec Arr3_intC (lget (entCs (entAt S0.tab 1)))) (Cod.dec api_PoseC (lget (entCs (entAt S0.tab 2)))) (entNl (entAt S0.tab 3)) (lst intC (entN (entAt S0.tab 3)) (entC (entAt S0.tab 3))) (entNl (entAt S0.tab 4)) (lst intC (entN (entAt S0.tab 4)) (entC (entAt S0.tab 4))) (Cod.dec api_PoseC (lget (entCs (entAt S0.tab 5)))) (fun q5 q6 q7 => k (.exit 2) (newelref09_carry_x8_2 (Cod.dec api_ShaftC (lget (entCs (entAt S0.tab 0)))) (Cod.dec Arr3_intC (lget (entCs (entAt S0.tab 1)))) (Cod.dec api_PoseC (lget (entCs (entAt S0.tab 2)))) (entNl (entAt S0.tab 3)) (lst intC (entN (entAt S0.tab 3)) (entC (entAt S0.tab 3))) q5 q6 q7))
def newelref09_carry_d6 {R : Type} (N : Nat) (S0 : St) (k : Exit → St → Option R) : Option R :=
  newelref09_carry_l6 N N (Cod.dec api_ShaftC (lget (entCs (entAt S0.tab 0)))) (Cod.dec Arr3_intC (lget (entCs (entAt S0.tab 1)))) (Cod.dec api_PoseC (lget (entCs (entAt S0.tab 2)))) (entNl (entAt S0.tab 3)) (lst intC (entN (entAt S0.tab 3)) (entC (entAt S0.tab 3))) (entNl (entAt S0.tab 4)) (lst intC (entN (entAt S0.tab 4)) (entC (entAt S0.tab 4))) (Cod.dec api_PoseC (lget (entCs (entAt S0.tab 5)))) (fun q0 q1 => k (.exit 0) (newelref09_carry_x6_0 q0 q1))
def newelref09_carry_lp {R : Type} (N : Nat) : Lp R := fun body S k => bif (Go.Sx.keyOf body).getD 0 == 6 then (newelref09_carry_L6.head.raw 0 S (fun S0 => newelref09_carry_d6 N S0 k)) else bif (Go.Sx.keyOf body).getD 0 == 8 then (newelref09_carry_L8.head.raw 0 S (fun S0 => newelref09_carry_d8 N S0 k)) else Option.none
theorem newelref09_carry_l6_eq {R : Type} (N : Nat) (k : Exit → St → Option R) (n : Nat) : ∀ (v0 : api_Shaft) (v1 : Arr3_int) (v2 : api_Pose) (v3 : Bool) (v4 : Arr Int) (v5 : Bool) (v6 : Arr Int) (v7 : api_Pose), loopM E.Θ (newelref09_far_cal N) (newelref09_carry_lp N) (noJn) 0 newelref09_carry_L6 (bodyAt E 49 6) n (newelref09_carry_h6 v0 v1 v2 v3 v4 v5 v6 v7) k = newelref09_carry_l6 N n v0 v1 v2 v3 v4 v5 v6 v7 (fun q0 q1 => k (.exit 0) (newelref09_carry_x6_0 q0 q1)) := by
  induction n with
  | zero => intro v0 v1 v2 v3 v4 v5 v6 v7; rfl
  | succ n ih =>
    intro v0 v1 v2 v3 v4 v5 v6 v7
    refine Eq.trans (b := newelref09_carry_b6 N (fun v0 v1 v2 v3 v4 v5 v6 v7 => loopM E.Θ (newelref09_far_cal N) (newelref09_carry_lp N) (noJn) 0 newelref09_carry_L6 (bodyAt E 49 6) n (newelref09_carry_h6 v0 v1 v2 v3 v4 v5 v6 v7) k) v0 v1 v2 v3 v4 v5 v6 v7 (fun q0 q1 => k (.exit 0) (newelref09_carry_x6_0 q0 q1))) (by kernel_rfl) ?_
    have h : (fun (v0 : api_Shaft) (v1 : Arr3_int) (v2 : api_Pose) (v3 : Bool) (v4 : Arr Int) (v5 : Bool) (v6 : Arr Int) (v7 : api_Pose) => loopM E.Θ (newelref09_far_cal N) (newelref09_carry_lp N) (noJn) 0 newelref09_carry_L6 (bodyAt E 49 6) n (newelref09_carry_h6 v0 v1 v2 v3 v4 v5 v6 v7) k) = (fun (v0 : api_Shaft) (v1 : Arr3_int) (v2 : api_Pose) (v3 : Bool) (v4 : Arr Int) (v5 : Bool) (v6 : Arr Int) (v7 : api_Pose) => newelref09_carry_l6 N n v0 v1 v2 v3 v4 v5 v6 v7 (fun q0 q1 => k (.exit 0) (newelref09_carry_x6_0 q0 q1))) := funext fun v0 => funext fun v1 => funext fun v2 => funext fun v3 => funext fun v4 => funext fun v5 => funext fun v6 => funext fun v7 => ih v0 v1 v2 v3 v4 v5 v6 v7
    rw [h]
    rfl
theorem newelref09_carry_l8_eq {R : Type} (N : Nat) (k : Exit → St → Option R) (n : Nat) : ∀ (v0 : Int) (v1 : api_Shaft) (v2 : Arr3_int) (v3 : api_Pose) (v4 : Bool) (v5 : Arr Int) (v6 : Bool) (v7 : Arr Int) (v8 : api_Pose), loopM E.Θ (newelref09_far_cal N) (newelref09_carry_lp N) (noJn) 0 newelref09_carry_L8 (bodyAt E 49 8) n (newelref09_carry_h8 v0 v1 v2 v3 v4 v5 v6 v7 v8) k = newelref09_carry_l8 N n v0 v1 v2 v3 v4 v5 v6 v7 v8 (fun q5 q6 q7 => k (.exit 2) (newelref09_carry_x8_2 v1 v2 v3 v4 v5 q5 q6 q7)) := by
  induction n with
  | zero => intro v0 v1 v2 v3 v4 v5 v6 v7 v8; rfl
  | succ n ih =>
    intro v0 v1 v2 v3 v4 v5 v6 v7 v8
    refine Eq.trans (b := newelref09_carry_b8 N (fun v0 v1 v2 v3 v4 v5 v6 v7 v8 => loopM E.Θ (newelref09_far_cal N) (newelref09_carry_lp N) (noJn) 0 newelref09_carry_L8 (bodyAt E 49 8) n (newelref09_carry_h8 v0 v1 v2 v3 v4 v5 v6 v7 v8) k) v0 v1 v2 v3 v4 v5 v6 v7 v8 (fun q5 q6 q7 => k (.exit 2) (newelref09_carry_x8_2 v1 v2 v3 v4 v5 q5 q6 q7))) (by kernel_rfl) ?_
    have h : (fun (v0 : Int) (v1 : api_Shaft) (v2 : Arr3_int) (v3 : api_Pose) (v4 : Bool) (v5 : Arr Int) (v6 : Bool) (v7 : Arr Int) (v8 : api_Pose) => loopM E.Θ (newelref09_far_cal N) (newelref09_carry_lp N) (noJn) 0 newelref09_carry_L8 (bodyAt E 49 8) n (newelref09_carry_h8 v0 v1 v2 v3 v4 v5 v6 v7 v8) k) = (fun (v0 : Int) (v1 : api_Shaft) (v2 : Arr3_int) (v3 : api_Pose) (v4 : Bool) (v5 : Arr Int) (v6 : Bool) (v7 : Arr Int) (v8 : api_Pose) => newelref09_carry_l8 N n v0 v1 v2 v3 v4 v5 v6 v7 v8 (fun q5 q6 q7 => k (.exit 2) (newelref09_carry_x8_2 v1 v2 v3 v4 v5 q5 q6 q7))) := funext fun v0 => funext fun v1 => funext fun v2 => funext fun v3 => funext fun v4 => funext fun v5 => funext fun v6 => funext fun v7 => funext fun v8 => ih v0 v1 v2 v3 v4 v5 v6 v7 v8
    rw [h]
    rfl
theorem newelref09_carry_k8 {R : Type} (N : Nat) : LpKey (R := R) E 49 0 (newelref09_carry_lp N) 8 :=
  lpKey_of hE (newelref09_far_cal_ok N) (lp := newelref09_carry_lp N) (jn := noJn) newelref09_carry_L8_ok [] kNil (by kernel_rfl) [] jNil (by kernel_rfl) N fun S k =>
    Eq.trans (b := newelref09_carry_L8.head.raw 0 S (fun S0 => newelref09_carry_d8 N S0 k)) (by kernel_rfl) (congrArg (newelref09_carry_L8.head.raw 0 S) (funext fun S0 => Eq.trans (newelref09_carry_l8_eq N k N (toI (lget S0.tmps 13)) (Cod.dec api_ShaftC (lget (entCs (entAt S0.tab 0)))) (Cod.dec Arr3_intC (lget (entCs (entAt S0.tab 1)))) (Cod.dec api_PoseC (lget (entCs (entAt S0.tab 2)))) (entNl (entAt S0.tab 3)) (lst intC (entN (entAt S0.tab 3)) (entC (entAt S0.tab 3))) (entNl (entAt S0.tab 4)) (lst intC (entN (entAt S0.tab 4)) (entC (entAt S0.tab 4))) (Cod.dec api_PoseC (lget (entCs (entAt S0.tab 5))))).symm (by kernel_rfl)))
theorem newelref09_carry_k6 {R : Type} (N : Nat) : LpKey (R := R) E 49 0 (newelref09_carry_lp N) 6 :=
  lpKey_of hE (newelref09_far_cal_ok N) (lp := newelref09_carry_lp N) (jn := noJn) newelref09_carry_L6_ok [8] (kCons (newelref09_carry_k8 N) kNil) (by kernel_rfl) [] jNil (by kernel_rfl) N fun S k =>
    Eq.trans (b := newelref09_carry_L6.head.raw 0 S (fun S0 => newelref09_carry_d6 N S0 k)) (by kernel_rfl) (congrArg (newelref09_carry_L6.head.raw 0 S) (funext fun S0 => Eq.trans (newelref09_carry_l6_eq N k N (Cod.dec api_ShaftC (lget (entCs (entAt S0.tab 0)))) (Cod.dec Arr3_intC (lget (entCs (entAt S0.tab 1)))) (Cod.dec api_PoseC (lget (entCs (entAt S0.tab 2)))) (entNl (entAt S0.tab 3)) (lst intC (entN (entAt S0.tab 3)) (entC (entAt S0.tab 3))) (entNl (entAt S0.tab 4)) (lst intC (entN (entAt S0.tab 4)) (entC (entAt S0.tab 4))) (Cod.dec api_PoseC (lget (entCs (entAt S0.tab 5))))).symm (by kernel_rfl)))
noncomputable def newelref09_carry_go {R : Type} (N : Nat) (args : List SV) (T : Tab) (kf : SV × Tab → Option R) : Option R :=
  newelref09_carry N (Cod.dec api_ShaftC (lget (toCs (lget args 0)))) (Cod.dec Arr3_intC (lget (toCs (lget args 1)))) (Cod.dec api_PoseC (lget (toCs (lget args 2)))) (Cod.dec api_PoseC (lget (toCs (lget args 3)))) (fun q0 q1 q2 => kf (lget [.tup [.row 0, .bool q0]] 0, [(0, rowE intC q1 q2)]))
noncomputable def newelref09_carry_cal {R : Type} (N : Nat) : Cal R := callM (newelref09_far_cal N) 49 0 newelref09_carry_sp (newelref09_carry_go N)
theorem newelref09_carry_cal_ok {R : Type} (N : Nat) : CalOk E.P (newelref09_carry_cal (R := R) N) :=
  callM_ok hE (newelref09_far_cal_ok N) (lp := newelref09_carry_lp N) (jn := noJn) (keys := [6, 8]) (kCons (newelref09_carry_k6 N) (kCons (newelref09_carry_k8 N) kNil)) (by kernel_rfl) (js := []) jNil (by kernel_rfl) newelref09_carry_sp_ok newelref09_carry_rs_ok (fun args T kf => Eq.trans (newelref09_carry_def N (Cod.dec api_ShaftC (lget (toCs (lget args 0)))) (Cod.dec Arr3_intC (lget (toCs (lget args 1)))) (Cod.dec api_PoseC (lget (toCs (lget args 2)))) (Cod.dec api_PoseC (lget (toCs (lget args 3)))) (fun q0 q1 q2 => kf (lget [.tup [.row 0, .bool q0]] 0, [(0, rowE intC q1 q2)]))) (by kernel_rfl : newelref09_carry_run N args T kf = fnM E (newelref09_far_cal N) (newelref09_carry_lp N) (noJn) 49 (newelref09_carry_sp.vs args) (newelref09_carry_sp.tab T) 0 (resK newelref09_carry_rs kf)))
def newelref09_Carry_m {R : Type} (N : Nat) (a291 : api_Shaft) (a292 : Arr3_int) (a293 : api_Pose) (a294 : api_Pose) (k : Int → Bool → Arr Int → Option R) : Option R :=
  newelref09_CheckCrate N a291 a292 (fun r295 =>
  bif r295 != (0 : Int) then
   k r295 true (lst intC (0 : Nat) (zeroC [SV.int IntKind.i64 (0 : Int)]))
  else
   newelref09_fits N a291 a292 a293 (fun r296 =>
   bif !r296 then
    k (1 : Int) true (lst intC (0 : Nat) (zeroC [SV.int IntKind.i64 (0 : Int)]))
   else
    newelref09_fits N a291 a292 a294 (fun r297 =>
    bif !r297 then
     k (1 : Int) true (lst intC (0 : Nat) (zeroC [SV.int IntKind.i64 (0 : Int)]))
    else
     newelref09_carry N a291 a292 a293 a294 (fun r366 r367 r368 =>
     bif !r366 then
      k (3 : Int) true (lst intC (0 : Nat) (zeroC [SV.int IntKind.i64 (0 : Int)]))
     else
      k (0 : Int) r367 r368))))
noncomputable def newelref09_Carry {R : Type} : Nat → api_Shaft → Arr3_int → api_Pose → api_Pose → (Int → Bool → Arr Int → Option R) → Option R := lock (@newelref09_Carry_m R)
theorem newelref09_Carry_def {R : Type} (N : Nat) (a291 : api_Shaft) (a292 : Arr3_int) (a293 : api_Pose) (a294 : api_Pose) (k : Int → Bool → Arr Int → Option R) : newelref09_Carry N a291 a292 a293 a294 k = newelref09_Carry_m N a291 a292 a293 a294 k := by unfold newelref09_Carry; rw [lock_eq]
def newelref09_Carry_sp : Sp := ⟨[rAgg api_ShaftC, rAgg Arr3_intC, rAgg api_PoseC, rAgg api_PoseC], []⟩
theorem newelref09_Carry_sp_ok : newelref09_Carry_sp.Ok := ⟨(allCons (rAgg_ok api_ShaftC_ok api_ShaftC_len) (allCons (rAgg_ok Arr3_intC_ok Arr3_intC_len) (allCons (rAgg_ok api_PoseC_ok api_PoseC_len) (allCons (rAgg_ok api_PoseC_ok api_PoseC_len) allNil)))), eNil⟩
def newelref09_Carry_rs : Sp := ⟨[rTup [rRow 0, rInt .i64]], [(0, eRow intC)]⟩
theorem newelref09_Carry_rs_ok : newelref09_Carry_rs.Ok := ⟨(allCons (rTup_ok (allCons (rRow_ok 0) (allCons (rInt_ok .i64) allNil))) allNil), (eCons (eRow_ok intC_ok) eNil)⟩
def newelref09_Carry_run {R : Type} (N : Nat) (args : List SV) (T : Tab) (kf : SV × Tab → Option R) : Option R :=
  newelref09_Carry_m N (Cod.dec api_ShaftC (lget (toCs (lget args 0)))) (Cod.dec Arr3_intC (lget (toCs (lget args 1)))) (Cod.dec api_PoseC (lget (toCs (lget args 2)))) (Cod.dec api_PoseC (lget (toCs (lget args 3)))) (fun q0 q1 q2 => kf (lget [.tup [.row 0, .int .i64 q0]] 0, [(0, rowE intC q1 q2)]))
def newelref09_Carry_lp {R : Type} (N : Nat) : Lp R := fun body S k => Option.none
noncomputable def newelref09_Carry_go {R : Type} (N : Nat) (args : List SV) (T : Tab) (kf : SV × Tab → Option R) : Option R :=
  newelref09_Carry N (Cod.dec api_ShaftC (lget (toCs (lget args 0)))) (Cod.dec Arr3_intC (lget (toCs (lget args 1)))) (Cod.dec api_PoseC (lget (toCs (lget args 2)))) (Cod.dec api_PoseC (lget (toCs (lget args 3)))) (fun q0 q1 q2 => kf (lget [.tup [.row 0, .int .i64 q0]] 0, [(0, rowE intC q1 q2)]))
noncomputable def newelref09_Carry_cal {R : Type} (N : Nat) : Cal R := callM (newelref09_carry_cal N) 18 0 newelref09_Carry_sp (newelref09_Carry_go N)
theorem newelref09_Carry_cal_ok {R : Type} (N : Nat) : CalOk E.P (newelref09_Carry_cal (R := R) N) :=
  callM_ok hE (newelref09_carry_cal_ok N) (lp := newelref09_Carry_lp N) (jn := noJn) (keys := []) kNil (by kernel_rfl) (js := []) jNil (by kernel_rfl) newelref09_Carry_sp_ok newelref09_Carry_rs_ok (fun args T kf => Eq.trans (newelref09_Carry_def N (Cod.dec api_ShaftC (lget (toCs (lget args 0)))) (Cod.dec Arr3_intC (lget (toCs (lget args 1)))) (Cod.dec api_PoseC (lget (toCs (lget args 2)))) (Cod.dec api_PoseC (lget (toCs (lget args 3)))) (fun q0 q1 q2 => kf (lget [.tup [.row 0, .int .i64 q0]] 0, [(0, rowE intC q1 q2)]))) (by kernel_rfl : newelref09_Carry_run N args T kf = fnM E (newelref09_carry_cal N) (newelref09_Carry_lp N) (noJn) 18 (newelref09_Carry_sp.vs args) (newelref09_Carry_sp.tab T) 0 (resK newelref09_Carry_rs kf)))
def slices_Reverse___int_int__L1 : LoopSp := ⟨⟨[0, 2, 3], ⟨((rRow 0) :: (dr 1 ((rInt .i64) :: (rInt .i64) :: (dr 24 [])))), [(0, eRow intC)]⟩, 1⟩, [(some 0, ⟨[], ⟨(dr 28 []), [(0, eRow intC)]⟩, 1⟩)]⟩
theorem slices_Reverse___int_int__L1_ok : slices_Reverse___int_int__L1.Ok := ⟨⟨(allCons (rRow_ok 0) (drCons 1 (allCons (rInt_ok .i64) (allCons (rInt_ok .i64) (drCons 24 allNil))))), (eCons (eRow_ok intC_ok) eNil)⟩, (xCons ⟨(drCons 28 allNil), (eCons (eRow_ok intC_ok) eNil)⟩ xNil)⟩
def slices_Reverse___int_int__h1 (v441 : Int) (v442 : Int) (v443 : Bool) (v444 : Arr Int) : St := ⟨((.row 0) :: (un 1 ((.int .i64 v441) :: (.int .i64 v442) :: (un 24 [])))), [(0, rowE intC v443 v444)], 1⟩
def slices_Reverse___int_int__x1_0 (v443 : Bool) (q1 : Arr Int) : St := ⟨(un 28 []), [(0, rowE intC v443 q1)], 1⟩
def slices_Reverse___int_int__b1 {R : Type} (N : Nat) (rc : Int → Int → Bool → Arr Int → Option R) (v441 : Int) (v442 : Int) (v443 : Bool) (v444 : Arr Int) (k0 : Arr Int → Option R) : Option R :=
  bif decide (v441 < v442) then
   bif decide ((0 : Int) ≤ v442) && decide (v442 < (↑(Arr.n v444) : Int)) then
    bif decide ((0 : Int) ≤ v441) && decide (v441 < (↑(Arr.n v444) : Int)) then
     bif decide ((0 : Int) ≤ v441) && decide (v441 < (↑(Arr.n v444) : Int)) then
      bif decide ((0 : Int) ≤ v442) && decide (v442 < (↑(Arr.n v444) : Int)) then
       rc (w64 (v441 + (1 : Int))) (w64 (v442 - (1 : Int))) v443 (lst intC (Arr.n v444) (setCs (Int.toNat v442) (0 : Nat) (setCs (Int.toNat v441) (0 : Nat) (Cod.cell intC (Arr.f v444)) [SV.int IntKind.i64 (Arr.f v444 (Int.toNat v442))]) [SV.int IntKind.i64 (Arr.f v444 (Int.toNat v441))]))
      else
       Option.none
     else
      Option.none
    else
     Option.none
   else
    Option.none
  else
   k0 v444
def slices_Reverse___int_int__l1 {R : Type} (N : Nat) : Nat → Int → Int → Bool → Arr Int → (Arr Int → Option R) → Option R
  | 0, _, _, _, _, _ => Option.none
  | n + 1, v441, v442, v443, v444, k0 => slices_Reverse___int_int__b1 N (fun v441 v442 v443 v444 => slices_Reverse___int_int__l1 N n v441 v442 v443 v444 k0) v441 v442 v443 v444 k0
def slices_Reverse___int_int__m {R : Type} (N : Nat) (a439 : Bool) (a440 : Arr Int) (k : Arr Int → Option R) : Option R :=
  slices_Reverse___int_int__l1 N N (0 : Int) (w64 ((↑(Arr.n a440) : Int) - (1 : Int))) a439 a440 (fun r445 =>
   k r445)
noncomputable def slices_Reverse___int_int_ {R : Type} : Nat → Bool → Arr Int → (Arr Int → Option R) → Option R := lock (@slices_Reverse___int_int__m R)
theorem slices_Reverse___int_int__def {R : Type} (N : Nat) (a439 : Bool) (a440 : Arr Int) (k : Arr Int → Option R) : slices_Reverse___int_int_ N a439 a440 k = slices_Reverse___int_int__m N a439 a440 k := by unfold slices_Reverse___int_int_; rw [lock_eq]
def slices_Reverse___int_int__sp : Sp := ⟨[rRow 0], [(0, eRow intC)]⟩
theorem slices_Reverse___int_int__sp_ok : slices_Reverse___int_int__sp.Ok := ⟨(allCons (rRow_ok 0) allNil), (eCons (eRow_ok intC_ok) eNil)⟩
def slices_Reverse___int_int__rs : Sp := ⟨[rTup []], [(0, eRow intC)]⟩
theorem slices_Reverse___int_int__rs_ok : slices_Reverse___int_int__rs.Ok := ⟨(allCons (rTup_ok allNil) allNil), (eCons (eRow_ok intC_ok) eNil)⟩
def slices_Reverse___int_int__run {R : Type} (N : Nat) (args : List SV) (T : Tab) (kf : SV × Tab → Option R) : Option R :=
  slices_Reverse___int_int__m N (entNl (entAt T 0)) (lst intC (entN (entAt T 0)) (entC (entAt T 0))) (fun q1 => kf (lget [.tup []] 0, [(0, rowE intC (entNl (entAt T 0)) q1)]))
def slices_Reverse___int_int__d1 {R : Type} (N : Nat) (S0 : St) (k : Exit → St → Option R) : Option R :=
  slices_Reverse___int_int__l1 N N (toI (lget S0.tmps 2)) (toI (lget S0.tmps 3)) (entNl (entAt S0.tab 0)) (lst intC (entN (entAt S0.tab 0)) (entC (entAt S0.tab 0))) (fun q1 => k (.exit 0) (slices_Reverse___int_int__x1_0 (entNl (entAt S0.tab 0)) q1))
def slices_Reverse___int_int__lp {R : Type} (N : Nat) : Lp R := fun body S k => bif (Go.Sx.keyOf body).getD 0 == 1 then (slices_Reverse___int_int__L1.head.raw 1 S (fun S0 => slices_Reverse___int_int__d1 N S0 k)) else Option.none
theorem slices_Reverse___int_int__l1_eq {R : Type} (N : Nat) (k : Exit → St → Option R) (n : Nat) : ∀ (v0 : Int) (v1 : Int) (v2 : Bool) (v3 : Arr Int), loopM E.Θ (newelref09_Carry_cal N) (slices_Reverse___int_int__lp N) (noJn) 1 slices_Reverse___int_int__L1 (bodyAt E 68 1) n (slices_Reverse___int_int__h1 v0 v1 v2 v3) k = slices_Reverse___int_int__l1 N n v0 v1 v2 v3 (fun q1 => k (.exit 0) (slices_Reverse___int_int__x1_0 v2 q1)) := by
  induction n with
  | zero => intro v0 v1 v2 v3; rfl
  | succ n ih =>
    intro v0 v1 v2 v3
    refine Eq.trans (b := slices_Reverse___int_int__b1 N (fun v0 v1 v2 v3 => loopM E.Θ (newelref09_Carry_cal N) (slices_Reverse___int_int__lp N) (noJn) 1 slices_Reverse___int_int__L1 (bodyAt E 68 1) n (slices_Reverse___int_int__h1 v0 v1 v2 v3) k) v0 v1 v2 v3 (fun q1 => k (.exit 0) (slices_Reverse___int_int__x1_0 v2 q1))) (by kernel_rfl) ?_
    have h : (fun (v0 : Int) (v1 : Int) (v2 : Bool) (v3 : Arr Int) => loopM E.Θ (newelref09_Carry_cal N) (slices_Reverse___int_int__lp N) (noJn) 1 slices_Reverse___int_int__L1 (bodyAt E 68 1) n (slices_Reverse___int_int__h1 v0 v1 v2 v3) k) = (fun (v0 : Int) (v1 : Int) (v2 : Bool) (v3 : Arr Int) => slices_Reverse___int_int__l1 N n v0 v1 v2 v3 (fun q1 => k (.exit 0) (slices_Reverse___int_int__x1_0 v2 q1))) := funext fun v0 => funext fun v1 => funext fun v2 => funext fun v3 => ih v0 v1 v2 v3
    rw [h]
    rfl
theorem slices_Reverse___int_int__k1 {R : Type} (N : Nat) : LpKey (R := R) E 68 1 (slices_Reverse___int_int__lp N) 1 :=
  lpKey_of hE (newelref09_Carry_cal_ok N) (lp := slices_Reverse___int_int__lp N) (jn := noJn) slices_Reverse___int_int__L1_ok [] kNil (by kernel_rfl) [] jNil (by kernel_rfl) N fun S k =>
    Eq.trans (b := slices_Reverse___int_int__L1.head.raw 1 S (fun S0 => slices_Reverse___int_int__d1 N S0 k)) (by kernel_rfl) (congrArg (slices_Reverse___int_int__L1.head.raw 1 S) (funext fun S0 => Eq.trans (slices_Reverse___int_int__l1_eq N k N (toI (lget S0.tmps 2)) (toI (lget S0.tmps 3)) (entNl (entAt S0.tab 0)) (lst intC (entN (entAt S0.tab 0)) (entC (entAt S0.tab 0)))).symm (by kernel_rfl)))
noncomputable def slices_Reverse___int_int__go {R : Type} (N : Nat) (args : List SV) (T : Tab) (kf : SV × Tab → Option R) : Option R :=
  slices_Reverse___int_int_ N (entNl (entAt T 0)) (lst intC (entN (entAt T 0)) (entC (entAt T 0))) (fun q1 => kf (lget [.tup []] 0, [(0, rowE intC (entNl (entAt T 0)) q1)]))
noncomputable def slices_Reverse___int_int__cal {R : Type} (N : Nat) : Cal R := callM (newelref09_Carry_cal N) 68 1 slices_Reverse___int_int__sp (slices_Reverse___int_int__go N)
theorem slices_Reverse___int_int__cal_ok {R : Type} (N : Nat) : CalOk E.P (slices_Reverse___int_int__cal (R := R) N) :=
  callM_ok hE (newelref09_Carry_cal_ok N) (lp := slices_Reverse___int_int__lp N) (jn := noJn) (keys := [1]) (kCons (slices_Reverse___int_int__k1 N) kNil) (by kernel_rfl) (js := []) jNil (by kernel_rfl) slices_Reverse___int_int__sp_ok slices_Reverse___int_int__rs_ok (fun args T kf => Eq.trans (slices_Reverse___int_int__def N (entNl (entAt T 0)) (lst intC (entN (entAt T 0)) (entC (entAt T 0))) (fun q1 => kf (lget [.tup []] 0, [(0, rowE intC (entNl (entAt T 0)) q1)]))) (by kernel_rfl : slices_Reverse___int_int__run N args T kf = fnM E (newelref09_Carry_cal N) (slices_Reverse___int_int__lp N) (noJn) 68 (slices_Reverse___int_int__sp.vs args) (slices_Reverse___int_int__sp.tab T) 1 (resK slices_Reverse___int_int__rs kf)))
def shaft_crate_carry_L7 : LoopSp := ⟨⟨[0, 4, 5, 8, 9, 10, 41], ⟨((rPtr 0 0) :: (dr 3 ((rPtr 2 0) :: (rPtr 3 0) :: (dr 2 ((rRow 4) :: (rRow 5) :: (rInt .i64) :: (dr 30 ((rInt .i64) :: (dr 63 [])))))))), [(0, eBlk [rInt .i64, rInt .i64, rInt .i64, rInt .i64, rInt .i64, rInt .i64, rRow 1]), (1, eMp true true Arr3_intC unitC), (2, eBlkC api_PoseC), (3, eBlkC api_PoseC), (4, eMp true true api_PoseC shaft_stepC), (5, eRow api_PoseC)]⟩, 6⟩, [(some 2, ⟨[0, 4, 5, 8, 9, 10], ⟨((rPtr 0 0) :: (dr 3 ((rPtr 2 0) :: (rPtr 3 0) :: (dr 2 ((rRow 4) :: (rRow 5) :: (rInt .i64) :: (dr 94 [])))))), [(0, eBlk [rInt .i64, rInt .i64, rInt .i64, rInt .i64, rInt .i64, rInt .i64, rRow 1]), (1, eMp true true Arr3_intC unitC), (2, eBlkC api_PoseC), (3, eBlkC api_PoseC), (4, eMp true true api_PoseC shaft_stepC), (5, eRow api_PoseC)]⟩, 6⟩)]⟩
theorem shaft_crate_carry_L7_ok : shaft_crate_carry_L7.Ok := ⟨⟨(allCons (rPtr_ok 0 0) (drCons 3 (allCons (rPtr_ok 2 0) (allCons (rPtr_ok 3 0) (drCons 2 (allCons (rRow_ok 4) (allCons (rRow_ok 5) (allCons (rInt_ok .i64) (drCons 30 (allCons (rInt_ok .i64) (drCons 63 allNil))))))))))), (eCons (eBlk_ok (allCons (rInt_ok .i64) (allCons (rInt_ok .i64) (allCons (rInt_ok .i64) (allCons (rInt_ok .i64) (allCons (rInt_ok .i64) (allCons (rInt_ok .i64) (allCons (rRow_ok 1) allNil)))))))) (eCons (eMp_ok Arr3_intC_flat unitC_flat) (eCons (eBlkC_ok api_PoseC_ok api_PoseC_len) (eCons (eBlkC_ok api_PoseC_ok api_PoseC_len) (eCons (eMp_ok api_PoseC_flat shaft_stepC_flat) (eCons (eRow_ok api_PoseC_ok) eNil))))))⟩, (xCons ⟨(allCons (rPtr_ok 0 0) (drCons 3 (allCons (rPtr_ok 2 0) (allCons (rPtr_ok 3 0) (drCons 2 (allCons (rRow_ok 4) (allCons (rRow_ok 5) (allCons (rInt_ok .i64) (drCons 94 allNil))))))))), (eCons (eBlk_ok (allCons (rInt_ok .i64) (allCons (rInt_ok .i64) (allCons (rInt_ok .i64) (allCons (rInt_ok .i64) (allCons (rInt_ok .i64) (allCons (rInt_ok .i64) (allCons (rRow_ok 1) allNil)))))))) (eCons (eMp_ok Arr3_intC_flat unitC_flat) (eCons (eBlkC_ok api_PoseC_ok api_PoseC_len) (eCons (eBlkC_ok api_PoseC_ok api_PoseC_len) (eCons (eMp_ok api_PoseC_flat shaft_stepC_flat) (eCons (eRow_ok api_PoseC_ok) eNil))))))⟩ xNil)⟩
def shaft_crate_carry_h7 (v405 : Int) (v406 : Int) (v407 : Int) (v408 : Int) (v409 : Int) (v410 : Int) (v411 : Int) (v412 : Int) (v413 : Mp Arr3_int Unit) (v414 : api_Pose) (v415 : api_Pose) (v416 : Mp api_Pose shaft_step) (v417 : Bool) (v418 : Arr api_Pose) : St := ⟨((.ptr 0 0) :: (un 3 ((.ptr 2 0) :: (.ptr 3 0) :: (un 2 ((.row 4) :: (.row 5) :: (.int .i64 v405) :: (un 30 ((.int .i64 v406) :: (un 63 [])))))))), [(0, .blk [.int .i64 v407, .int .i64 v408, .int .i64 v409, .int .i64 v410, .int .i64 v411, .int .i64 v412, .row 1]), (1, mpE true true Arr3_intC unitC v413), (2, .blk (Cod.enc api_PoseC v414)), (3, .blk (Cod.enc api_PoseC v415)), (4, mpE true true api_PoseC shaft_stepC v416), (5, rowE api_PoseC v417 v418)], 6⟩
def shaft_crate_carry_x7_2 (v405 : Int) (v407 : Int) (v408 : Int) (v409 : Int) (v410 : Int) (v411 : Int) (v412 : Int) (v413 : Mp Arr3_int Unit) (v414 : api_Pose) (v415 : api_Pose) (q10 : Mp api_Pose shaft_step) (q11 : Bool) (q12 : Arr api_Pose) : St := ⟨((.ptr 0 0) :: (un 3 ((.ptr 2 0) :: (.ptr 3 0) :: (un 2 ((.row 4) :: (.row 5) :: (.int .i64 v405) :: (un 94 [])))))), [(0, .blk [.int .i64 v407, .int .i64 v408, .int .i64 v409, .int .i64 v410, .int .i64 v411, .int .i64 v412, .row 1]), (1, mpE true true Arr3_intC unitC v413), (2, .blk (Cod.enc api_PoseC v414)), (3, .blk (Cod.enc api_PoseC v415)), (4, mpE true true api_PoseC shaft_stepC q10), (5, rowE api_PoseC q11 q12)], 6⟩
def shaft_crate_carry_b7 {R : Type} (N : Nat) (rc : Int → Int → Int → Int → Int → Int → Int → Int → Mp Arr3_int Unit → api_Pose → api_Pose → Mp api_Pose shaft_step → Bool → Arr api_Pose → Option R) (v405 : Int) (v406 : Int) (v407 : Int) (v408 : Int) (v409 : Int) (v410 : Int) (v411 : Int) (v412 : Int) (v413 : Mp Arr3_int Unit) (v414 : api_Pose) (v415 : api_Pose) (v416 : Mp api_Pose shaft_step) (v417 : Bool) (v418 : Arr api_Pose) (k2 : Mp api_Pose shaft_step → Bool → Arr api_Pose → Option R) : Option R :=
  bif decide (v406 < (9 : Int)) then
   bif decide ((0 : Int) ≤ v405) && decide (v405 < (↑(Arr.n v418) : Int)) then
    shaft_crate_move N (Arr.f v418 (Int.toNat v405)) v406 v407 v408 v409 v410 v411 v412 v413 (fun r419 r420 =>
    bif r420 then
     bif !Mp.has v416 (api_Pose.mk (Arr3_int.mk (Arr3_int.a0 (api_Pose.At r419)) (Arr3_int.a1 (api_Pose.At r419)) (Arr3_int.a2 (api_Pose.At r419))) (api_Pose.Turn r419)) then
      bif decide ((0 : Int) ≤ v405) && decide (v405 < (↑(Arr.n v418) : Int)) then
       bif room (Arr.n v418 + (1 : Nat)) then
        rc v405 (w64 (v406 + (1 : Int))) v407 v408 v409 v410 v411 v412 v413 v414 v415 (mpD api_PoseC shaft_stepC (putH [SV.int IntKind.i64 (Arr3_int.a0 (api_Pose.At r419)), SV.int IntKind.i64 (Arr3_int.a1 (api_Pose.At r419)), SV.int IntKind.i64 (Arr3_int.a2 (api_Pose.At r419)), SV.int IntKind.i64 (api_Pose.Turn r419)] (mpH api_PoseC v416)) (putG [SV.int IntKind.i64 (Arr3_int.a0 (api_Pose.At r419)), SV.int IntKind.i64 (Arr3_int.a1 (api_Pose.At r419)), SV.int IntKind.i64 (Arr3_int.a2 (api_Pose.At r419)), SV.int IntKind.i64 (api_Pose.Turn r419)] [SV.int IntKind.i64 (Arr3_int.a0 (api_Pose.At (Arr.f v418 (Int.toNat v405)))), SV.int IntKind.i64 (Arr3_int.a1 (api_Pose.At (Arr.f v418 (Int.toNat v405)))), SV.int IntKind.i64 (Arr3_int.a2 (api_Pose.At (Arr.f v418 (Int.toNat v405)))), SV.int IntKind.i64 (api_Pose.Turn (Arr.f v418 (Int.toNat v405))), SV.int IntKind.i64 v406] (mpG api_PoseC shaft_stepC v416))) false (lst api_PoseC (Arr.n v418 + (1 : Nat)) (catC (Arr.n v418) (Cod.cell api_PoseC (Arr.f v418)) (litC [SV.int IntKind.i64 (0 : Int), SV.int IntKind.i64 (0 : Int), SV.int IntKind.i64 (0 : Int), SV.int IntKind.i64 (0 : Int)] [[SV.int IntKind.i64 (Arr3_int.a0 (api_Pose.At r419)), SV.int IntKind.i64 (Arr3_int.a1 (api_Pose.At r419)), SV.int IntKind.i64 (Arr3_int.a2 (api_Pose.At r419)), SV.int IntKind.i64 (api_Pose.Turn r419)]])))
       else
        Option.none
      else
       Option.none
     else
      rc v405 (w64 (v406 + (1 : Int))) v407 v408 v409 v410 v411 v412 v413 v414 v415 v416 v417 v418
    else
     rc v405 (w64 (v406 + (1 : Int))) v407 v408 v409 v410 v411 v412 v413 v414 v415 v416 v417 v418)
   else
    Option.none
  else
   k2 v416 v417 v418
def shaft_crate_carry_l7 {R : Type} (N : Nat) : Nat → Int → Int → Int → Int → Int → Int → Int → Int → Mp Arr3_int Unit → api_Pose → api_Pose → Mp api_Pose shaft_step → Bool → Arr api_Pose → (Mp api_Pose shaft_step → Bool → Arr api_Pose → Option R) → Option R
  | 0, _, _, _, _, _, _, _, _, _, _, _, _, _, _, _ => Option.none
  | n + 1, v405, v406, v407, v408, v409, v410, v411, v412, v413, v414, v415, v416, v417, v418, k2 => shaft_crate_carry_b7 N (fun v405 v406 v407 v408 v409 v410 v411 v412 v413 v414 v415 v416 v417 v418 => shaft_crate_carry_l7 N n v405 v406 v407 v408 v409 v410 v411 v412 v413 v414 v415 v416 v417 v418 k2) v405 v406 v407 v408 v409 v410 v411 v412 v413 v414 v415 v416 v417 v418 k2
def shaft_crate_carry_L4 : LoopSp := ⟨⟨[0, 4, 5, 8, 9, 10], ⟨((rPtr 0 0) :: (dr 3 ((rPtr 2 0) :: (rPtr 3 0) :: (dr 2 ((rRow 4) :: (rRow 5) :: (rInt .i64) :: (dr 94 [])))))), [(0, eBlk [rInt .i64, rInt .i64, rInt .i64, rInt .i64, rInt .i64, rInt .i64, rRow 1]), (1, eMp true true Arr3_intC unitC), (2, eBlkC api_PoseC), (3, eBlkC api_PoseC), (4, eMp true true api_PoseC shaft_stepC), (5, eRow api_PoseC)]⟩, 6⟩, [(some 0, ⟨[4, 5, 8], ⟨(dr 4 ((rPtr 2 0) :: (rPtr 3 0) :: (dr 2 ((rRow 4) :: (dr 96 []))))), [(0, eBlk [rInt .i64, rInt .i64, rInt .i64, rInt .i64, rInt .i64, rInt .i64, rRow 1]), (1, eMp true true Arr3_intC unitC), (2, eBlkC api_PoseC), (3, eBlkC api_PoseC), (4, eMp true true api_PoseC shaft_stepC)]⟩, 5⟩)]⟩
theorem shaft_crate_carry_L4_ok : shaft_crate_carry_L4.Ok := ⟨⟨(allCons (rPtr_ok 0 0) (drCons 3 (allCons (rPtr_ok 2 0) (allCons (rPtr_ok 3 0) (drCons 2 (allCons (rRow_ok 4) (allCons (rRow_ok 5) (allCons (rInt_ok .i64) (drCons 94 allNil))))))))), (eCons (eBlk_ok (allCons (rInt_ok .i64) (allCons (rInt_ok .i64) (allCons (rInt_ok .i64) (allCons (rInt_ok .i64) (allCons (rInt_ok .i64) (allCons (rInt_ok .i64) (allCons (rRow_ok 1) allNil)))))))) (eCons (eMp_ok Arr3_intC_flat unitC_flat) (eCons (eBlkC_ok api_PoseC_ok api_PoseC_len) (eCons (eBlkC_ok api_PoseC_ok api_PoseC_len) (eCons (eMp_ok api_PoseC_flat shaft_stepC_flat) (eCons (eRow_ok api_PoseC_ok) eNil))))))⟩, (xCons ⟨(drCons 4 (allCons (rPtr_ok 2 0) (allCons (rPtr_ok 3 0) (drCons 2 (allCons (rRow_ok 4) (drCons 96 allNil)))))), (eCons (eBlk_ok (allCons (rInt_ok .i64) (allCons (rInt_ok .i64) (allCons (rInt_ok .i64) (allCons (rInt_ok .i64) (allCons (rInt_ok .i64) (allCons (rInt_ok .i64) (allCons (rRow_ok 1) allNil)))))))) (eCons (eMp_ok Arr3_intC_flat unitC_flat) (eCons (eBlkC_ok api_PoseC_ok api_PoseC_len) (eCons (eBlkC_ok api_PoseC_ok api_PoseC_len) (eCons (eMp_ok api_PoseC_flat shaft_stepC_flat) eNil)))))⟩ xNil)⟩
def shaft_crate_carry_h4 (v392 : Int) (v393 : Int) (v394 : Int) (v395 : Int) (v396 : Int) (v397 : Int) (v398 : Int) (v399 : Mp Arr3_int Unit) (v400 : api_Pose) (v401 : api_Pose) (v402 : Mp api_Pose shaft_step) (v403 : Bool) (v404 : Arr api_Pose) : St := ⟨((.ptr 0 0) :: (un 3 ((.ptr 2 0) :: (.ptr 3 0) :: (un 2 ((.row 4) :: (.row 5) :: (.int .i64 v392) :: (un 94 [])))))), [(0, .blk [.int .i64 v393, .int .i64 v394, .int .i64 v395, .int .i64 v396, .int .i64 v397, .int .i64 v398, .row 1]), (1, mpE true true Arr3_intC unitC v399), (2, .blk (Cod.enc api_PoseC v400)), (3, .blk (Cod.enc api_PoseC v401)), (4, mpE true true api_PoseC shaft_stepC v402), (5, rowE api_PoseC v403 v404)], 6⟩
def shaft_crate_carry_x4_0 (v393 : Int) (v394 : Int) (v395 : Int) (v396 : Int) (v397 : Int) (v398 : Int) (v399 : Mp Arr3_int Unit) (v400 : api_Pose) (v401 : api_Pose) (q9 : Mp api_Pose shaft_step) : St := ⟨(un 4 ((.ptr 2 0) :: (.ptr 3 0) :: (un 2 ((.row 4) :: (un 96 []))))), [(0, .blk [.int .i64 v393, .int .i64 v394, .int .i64 v395, .int .i64 v396, .int .i64 v397, .int .i64 v398, .row 1]), (1, mpE true true Arr3_intC unitC v399), (2, .blk (Cod.enc api_PoseC v400)), (3, .blk (Cod.enc api_PoseC v401)), (4, mpE true true api_PoseC shaft_stepC q9)], 5⟩
def shaft_crate_carry_b4 {R : Type} (N : Nat) (rc : Int → Int → Int → Int → Int → Int → Int → Mp Arr3_int Unit → api_Pose → api_Pose → Mp api_Pose shaft_step → Bool → Arr api_Pose → Option R) (v392 : Int) (v393 : Int) (v394 : Int) (v395 : Int) (v396 : Int) (v397 : Int) (v398 : Int) (v399 : Mp Arr3_int Unit) (v400 : api_Pose) (v401 : api_Pose) (v402 : Mp api_Pose shaft_step) (v403 : Bool) (v404 : Arr api_Pose) (k0 : Mp api_Pose shaft_step → Option R) : Option R :=
  bif decide (v392 < (↑(Arr.n v404) : Int)) then
   bif decide ((0 : Int) ≤ v392) && decide (v392 < (↑(Arr.n v404) : Int)) then
    bif !(Arr3_int.a0 (api_Pose.At (Arr.f v404 (Int.toNat v392))) == Arr3_int.a0 (api_Pose.At v401) && (Arr3_int.a1 (api_Pose.At (Arr.f v404 (Int.toNat v392))) == Arr3_int.a1 (api_Pose.At v401) && (Arr3_int.a2 (api_Pose.At (Arr.f v404 (Int.toNat v392))) == Arr3_int.a2 (api_Pose.At v401) && (api_Pose.Turn (Arr.f v404 (Int.toNat v392)) == api_Pose.Turn v401 && true)))) then
     shaft_crate_carry_l7 N N v392 (0 : Int) v393 v394 v395 v396 v397 v398 v399 v400 v401 v402 v403 v404 (fun r421 r422 r423 =>
      rc (w64 (v392 + (1 : Int))) v393 v394 v395 v396 v397 v398 v399 v400 v401 r421 r422 r423)
    else
     k0 v402
   else
    Option.none
  else
   k0 v402
def shaft_crate_carry_l4 {R : Type} (N : Nat) : Nat → Int → Int → Int → Int → Int → Int → Int → Mp Arr3_int Unit → api_Pose → api_Pose → Mp api_Pose shaft_step → Bool → Arr api_Pose → (Mp api_Pose shaft_step → Option R) → Option R
  | 0, _, _, _, _, _, _, _, _, _, _, _, _, _, _ => Option.none
  | n + 1, v392, v393, v394, v395, v396, v397, v398, v399, v400, v401, v402, v403, v404, k0 => shaft_crate_carry_b4 N (fun v392 v393 v394 v395 v396 v397 v398 v399 v400 v401 v402 v403 v404 => shaft_crate_carry_l4 N n v392 v393 v394 v395 v396 v397 v398 v399 v400 v401 v402 v403 v404 k0) v392 v393 v394 v395 v396 v397 v398 v399 v400 v401 v402 v403 v404 k0
def shaft_crate_carry_L20 : LoopSp := ⟨⟨[4, 8, 18, 19], ⟨(dr 4 ((rPtr 2 0) :: (dr 3 ((rRow 3) :: (dr 9 ((rRow 4) :: (rPtr 5 0) :: (dr 85 []))))))), [(0, eBlk [rInt .i64, rInt .i64, rInt .i64, rInt .i64, rInt .i64, rInt .i64, rRow 1]), (1, eMp true true Arr3_intC unitC), (2, eBlkC api_PoseC), (3, eMp true true api_PoseC shaft_stepC), (4, eRow intC), (5, eBlkC api_PoseC)]⟩, 6⟩, [(some 4, ⟨[18], ⟨(dr 18 ((rRow 2) :: (dr 86 []))), [(0, eBlk [rInt .i64, rInt .i64, rInt .i64, rInt .i64, rInt .i64, rInt .i64, rRow 1]), (1, eMp true true Arr3_intC unitC), (2, eRow intC)]⟩, 3⟩)]⟩
theorem shaft_crate_carry_L20_ok : shaft_crate_carry_L20.Ok := ⟨⟨(drCons 4 (allCons (rPtr_ok 2 0) (drCons 3 (allCons (rRow_ok 3) (drCons 9 (allCons (rRow_ok 4) (allCons (rPtr_ok 5 0) (drCons 85 allNil)))))))), (eCons (eBlk_ok (allCons (rInt_ok .i64) (allCons (rInt_ok .i64) (allCons (rInt_ok .i64) (allCons (rInt_ok .i64) (allCons (rInt_ok .i64) (allCons (rInt_ok .i64) (allCons (rRow_ok 1) allNil)))))))) (eCons (eMp_ok Arr3_intC_flat unitC_flat) (eCons (eBlkC_ok api_PoseC_ok api_PoseC_len) (eCons (eMp_ok api_PoseC_flat shaft_stepC_flat) (eCons (eRow_ok intC_ok) (eCons (eBlkC_ok api_PoseC_ok api_PoseC_len) eNil))))))⟩, (xCons ⟨(drCons 18 (allCons (rRow_ok 2) (drCons 86 allNil))), (eCons (eBlk_ok (allCons (rInt_ok .i64) (allCons (rInt_ok .i64) (allCons (rInt_ok .i64) (allCons (rInt_ok .i64) (allCons (rInt_ok .i64) (allCons (rInt_ok .i64) (allCons (rRow_ok 1) allNil)))))))) (eCons (eMp_ok Arr3_intC_flat unitC_flat) (eCons (eRow_ok intC_ok) eNil)))⟩ xNil)⟩
def shaft_crate_carry_h20 (v425 : Int) (v426 : Int) (v427 : Int) (v428 : Int) (v429 : Int) (v430 : Int) (v431 : Mp Arr3_int Unit) (v432 : api_Pose) (v433 : Mp api_Pose shaft_step) (v434 : Bool) (v435 : Arr Int) (v436 : api_Pose) : St := ⟨(un 4 ((.ptr 2 0) :: (un 3 ((.row 3) :: (un 9 ((.row 4) :: (.ptr 5 0) :: (un 85 []))))))), [(0, .blk [.int .i64 v425, .int .i64 v426, .int .i64 v427, .int .i64 v428, .int .i64 v429, .int .i64 v430, .row 1]), (1, mpE true true Arr3_intC unitC v431), (2, .blk (Cod.enc api_PoseC v432)), (3, mpE true true api_PoseC shaft_stepC v433), (4, rowE intC v434 v435), (5, .blk (Cod.enc api_PoseC v436))], 6⟩
def shaft_crate_carry_x20_4 (v425 : Int) (v426 : Int) (v427 : Int) (v428 : Int) (v429 : Int) (v430 : Int) (v431 : Mp Arr3_int Unit) (q7 : Bool) (q8 : Arr Int) : St := ⟨(un 18 ((.row 2) :: (un 86 []))), [(0, .blk [.int .i64 v425, .int .i64 v426, .int .i64 v427, .int .i64 v428, .int .i64 v429, .int .i64 v430, .row 1]), (1, mpE true true Arr3_intC unitC v431), (2, rowE intC q7 q8)], 3⟩
def shaft_crate_carry_b20 {R : Type} (N : Nat) (rc : Int → Int → Int → Int → Int → Int → Mp Arr3_int Unit → api_Pose → Mp api_Pose shaft_step → Bool → Arr Int → api_Pose → Option R) (v425 : Int) (v426 : Int) (v427 : Int) (v428 : Int) (v429 : Int) (v430 : Int) (v431 : Mp Arr3_int Unit) (v432 : api_Pose) (v433 : Mp api_Pose shaft_step) (v434 : Bool) (v435 : Arr Int) (v436 : api_Pose) (k4 : Bool → Arr Int → Option R) : Option R :=
  bif !(Arr3_int.a0 (api_Pose.At v436) == Arr3_int.a0 (api_Pose.At v432) && (Arr3_int.a1 (api_Pose.At v436) == Arr3_int.a1 (api_Pose.At v432) && (Arr3_int.a2 (api_Pose.At v436) == Arr3_int.a2 (api_Pose.At v432) && (api_Pose.Turn v436 == api_Pose.Turn v432 && true)))) then
   bif room (Arr.n v435 + (1 : Nat)) then
    rc v425 v426 v427 v428 v429 v430 v431 v432 v433 false (lst intC (Arr.n v435 + (1 : Nat)) (catC (Arr.n v435) (Cod.cell intC (Arr.f v435)) (litC [SV.int IntKind.i64 (0 : Int)] [[SV.int IntKind.i64 (shaft_step.f_move (Mp.get v433 (api_Pose.mk (Arr3_int.mk (Arr3_int.a0 (api_Pose.At v436)) (Arr3_int.a1 (api_Pose.At v436)) (Arr3_int.a2 (api_Pose.At v436))) (api_Pose.Turn v436))))]]))) (shaft_step.f_from (Mp.get v433 (api_Pose.mk (Arr3_int.mk (Arr3_int.a0 (api_Pose.At v436)) (Arr3_int.a1 (api_Pose.At v436)) (Arr3_int.a2 (api_Pose.At v436))) (api_Pose.Turn v436))))
   else
    Option.none
  else
   k4 v434 v435
def shaft_crate_carry_l20 {R : Type} (N : Nat) : Nat → Int → Int → Int → Int → Int → Int → Mp Arr3_int Unit → api_Pose → Mp api_Pose shaft_step → Bool → Arr Int → api_Pose → (Bool → Arr Int → Option R) → Option R
  | 0, _, _, _, _, _, _, _, _, _, _, _, _, _ => Option.none
  | n + 1, v425, v426, v427, v428, v429, v430, v431, v432, v433, v434, v435, v436, k4 => shaft_crate_carry_b20 N (fun v425 v426 v427 v428 v429 v430 v431 v432 v433 v434 v435 v436 => shaft_crate_carry_l20 N n v425 v426 v427 v428 v429 v430 v431 v432 v433 v434 v435 v436 k4) v425 v426 v427 v428 v429 v430 v431 v432 v433 v434 v435 v436 k4
def shaft_crate_carry_m {R : Type} (N : Nat) (a383 : api_Pose) (a384 : api_Pose) (a385 : Int) (a386 : Int) (a387 : Int) (a388 : Int) (a389 : Int) (a390 : Int) (a391 : Mp Arr3_int Unit) (k : Bool → Bool → Arr Int → Option R) : Option R :=
  shaft_crate_carry_l4 N N (0 : Int) a385 a386 a387 a388 a389 a390 a391 a383 a384 (mpD api_PoseC shaft_stepC (putH [SV.int IntKind.i64 (Arr3_int.a0 (api_Pose.At a383)), SV.int IntKind.i64 (Arr3_int.a1 (api_Pose.At a383)), SV.int IntKind.i64 (Arr3_int.a2 (api_Pose.At a383)), SV.int IntKind.i64 (api_Pose.Turn a383)] noH) (putG [SV.int IntKind.i64 (Arr3_int.a0 (api_Pose.At a383)), SV.int IntKind.i64 (Arr3_int.a1 (api_Pose.At a383)), SV.int IntKind.i64 (Arr3_int.a2 (api_Pose.At a383)), SV.int IntKind.i64 (api_Pose.Turn a383)] [SV.int IntKind.i64 (Arr3_int.a0 (api_Pose.At a383)), SV.int IntKind.i64 (Arr3_int.a1 (api_Pose.At a383)), SV.int IntKind.i64 (Arr3_int.a2 (api_Pose.At a383)), SV.int IntKind.i64 (api_Pose.Turn a383), SV.int IntKind.i64 (-1 : Int)] (noG (CK.cons (CK.int IntKind.i64) (CK.cons (CK.int IntKind.i64) (CK.cons (CK.int IntKind.i64) (CK.cons (CK.int IntKind.i64) (CK.cons (CK.int IntKind.i64) CK.nil)))))))) false (lst api_PoseC (1 : Nat) (litC [SV.int IntKind.i64 (0 : Int), SV.int IntKind.i64 (0 : Int), SV.int IntKind.i64 (0 : Int), SV.int IntKind.i64 (0 : Int)] [[SV.int IntKind.i64 (Arr3_int.a0 (api_Pose.At a383)), SV.int IntKind.i64 (Arr3_int.a1 (api_Pose.At a383)), SV.int IntKind.i64 (Arr3_int.a2 (api_Pose.At a383)), SV.int IntKind.i64 (api_Pose.Turn a383)]])) (fun r424 =>
   bif !Mp.has r424 (api_Pose.mk (Arr3_int.mk (Arr3_int.a0 (api_Pose.At a384)) (Arr3_int.a1 (api_Pose.At a384)) (Arr3_int.a2 (api_Pose.At a384))) (api_Pose.Turn a384)) then
    k false true (lst intC (0 : Nat) (zeroC [SV.int IntKind.i64 (0 : Int)]))
   else
    shaft_crate_carry_l20 N N a385 a386 a387 a388 a389 a390 a391 a383 r424 true (lst intC (0 : Nat) (zeroC [SV.int IntKind.i64 (0 : Int)])) a384 (fun r437 r438 =>
     slices_Reverse___int_int_ N r437 r438 (fun r446 =>
     k true r437 r446)))
noncomputable def shaft_crate_carry {R : Type} : Nat → api_Pose → api_Pose → Int → Int → Int → Int → Int → Int → Mp Arr3_int Unit → (Bool → Bool → Arr Int → Option R) → Option R := lock (@shaft_crate_carry_m R)
theorem shaft_crate_carry_def {R : Type} (N : Nat) (a383 : api_Pose) (a384 : api_Pose) (a385 : Int) (a386 : Int) (a387 : Int) (a388 : Int) (a389 : Int) (a390 : Int) (a391 : Mp Arr3_int Unit) (k : Bool → Bool → Arr Int → Option R) : shaft_crate_carry N a383 a384 a385 a386 a387 a388 a389 a390 a391 k = shaft_crate_carry_m N a383 a384 a385 a386 a387 a388 a389 a390 a391 k := by unfold shaft_crate_carry; rw [lock_eq]
def shaft_crate_carry_sp : Sp := ⟨[rPtr 0 0, rAgg api_PoseC, rAgg api_PoseC], [(0, eBlk [rInt .i64, rInt .i64, rInt .i64, rInt .i64, rInt .i64, rInt .i64, rRow 1]), (1, eMp true true Arr3_intC unitC)]⟩
theorem shaft_crate_carry_sp_ok : shaft_crate_carry_sp.Ok := ⟨(allCons (rPtr_ok 0 0) (allCons (rAgg_ok api_PoseC_ok api_PoseC_len) (allCons (rAgg_ok api_PoseC_ok api_PoseC_len) allNil))), (eCons (eBlk_ok (allCons (rInt_ok .i64) (allCons (rInt_ok .i64) (allCons (rInt_ok .i64) (allCons (rInt_ok .i64) (allCons (rInt_ok .i64) (allCons (rInt_ok .i64) (allCons (rRow_ok 1) allNil)))))))) (eCons (eMp_ok Arr3_intC_flat unitC_flat) eNil))⟩
def shaft_crate_carry_rs : Sp := ⟨[rTup [rRow 2, rBool]], [(0, eBlk [rInt .i64, rInt .i64, rInt .i64, rInt .i64, rInt .i64, rInt .i64, rRow 1]), (1, eMp true true Arr3_intC unitC), (2, eRow intC)]⟩
theorem shaft_crate_carry_rs_ok : shaft_crate_carry_rs.Ok := ⟨(allCons (rTup_ok (allCons (rRow_ok 2) (allCons rBool_ok allNil))) allNil), (eCons (eBlk_ok (allCons (rInt_ok .i64) (allCons (rInt_ok .i64) (allCons (rInt_ok .i64) (allCons (rInt_ok .i64) (allCons (rInt_ok .i64) (allCons (rInt_ok .i64) (allCons (rRow_ok 1) allNil)))))))) (eCons (eMp_ok Arr3_intC_flat unitC_flat) (eCons (eRow_ok intC_ok) eNil)))⟩
def shaft_crate_carry_run {R : Type} (N : Nat) (args : List SV) (T : Tab) (kf : SV × Tab → Option R) : Option R :=
  shaft_crate_carry_m N (Cod.dec api_PoseC (lget (toCs (lget args 1)))) (Cod.dec api_PoseC (lget (toCs (lget args 2)))) (toI (lget (entCs (entAt T 0)) 0)) (toI (lget (entCs (entAt T 0)) 1)) (toI (lget (entCs (entAt T 0)) 2)) (toI (lget (entCs (entAt T 0)) 3)) (toI (lget (entCs (entAt T 0)) 4)) (toI (lget (entCs (entAt T 0)) 5)) (mpD Arr3_intC unitC (entHs (entAt T 1)) (entGt (entAt T 1))) (fun q0 q8 q9 => kf (lget [.tup [.row 2, .bool q0]] 0, [(0, .blk [.int .i64 (toI (lget (entCs (entAt T 0)) 0)), .int .i64 (toI (lget (entCs (entAt T 0)) 1)), .int .i64 (toI (lget (entCs (entAt T 0)) 2)), .int .i64 (toI (lget (entCs (entAt T 0)) 3)), .int .i64 (toI (lget (entCs (entAt T 0)) 4)), .int .i64 (toI (lget (entCs (entAt T 0)) 5)), .row 1]), (1, mpE true true Arr3_intC unitC (mpD Arr3_intC unitC (entHs (entAt T 1)) (entGt (entAt T 1)))), (2, rowE intC q8 q9)]))
def shaft_crate_carry_d20 {R : Type} (N : Nat) (S0 : St) (k : Exit → St → Option R) : Option R :=
  shaft_crate_carry_l20 N N (toI (lget (entCs (entAt S0.tab 0)) 0)) (toI (lget (entCs (entAt S0.tab 0)) 1)) (toI (lget (entCs (entAt S0.tab 0)) 2)) (toI (lget (entCs (entAt S0.tab 0)) 3)) (toI (lget (entCs (entAt S0.tab 0)) 4)) (toI (lget (entCs (entAt S0.tab 0)) 5)) (mpD Arr3_intC unitC (entHs (entAt S0.tab 1)) (entGt (entAt S0.tab 1))) (Cod.dec api_PoseC (lget (entCs (entAt S0.tab 2)))) (mpD api_PoseC shaft_stepC (entHs (entAt S0.tab 3)) (entGt (entAt S0.tab 3))) (entNl (entAt S0.tab 4)) (lst intC (entN (entAt S0.tab 4)) (entC (entAt S0.tab 4))) (Cod.dec api_PoseC (lget (entCs (entAt S0.tab 5)))) (fun q7 q8 => k (.exit 4) (shaft_crate_carry_x20_4 (toI (lget (entCs (entAt S0.tab 0)) 0)) (toI (lget (entCs (entAt S0.tab 0)) 1)) (toI (lget (entCs (entAt S0.tab 0)) 2)) (toI (lget (entCs (entAt S0.tab 0)) 3)) (toI (lget (entCs (entAt S0.tab 0)) 4)) (toI (lget (entCs (entAt S0.tab 0)) 5)) (mpD Arr3_intC unitC (entHs (entAt S0.tab 1)) (entGt (entAt S0.tab 1))) q7 q8))
def shaft_crate_carry_d7 {R : Type} (N : Nat) (S0 : St) (k : Exit → St → Option R) : Option R :=
  shaft_crate_carry_l7 N N (toI (lget S0.tmps 10)) (toI (lget S0.tmps 41)) (toI (lget (entCs (entAt S0.tab 0)) 0)) (toI (lget (entCs (entAt S0.tab 0)) 1)) (toI (lget (entCs (entAt S0.tab 0)) 2)) (toI (lget (entCs (entAt S0.tab 0)) 3)) (toI (lget (entCs (entAt S0.tab 0)) 4)) (toI (lget (entCs (entAt S0.tab 0)) 5)) (mpD Arr3_intC unitC (entHs (entAt S0.tab 1)) (entGt (entAt S0.tab 1))) (Cod.dec api_PoseC (lget (entCs (entAt S0.tab 2)))) (Cod.dec api_PoseC (lget (entCs (entAt S0.tab 3)))) (mpD api_PoseC shaft_stepC (entHs (entAt S0.tab 4)) (entGt (entAt S0.tab 4))) (entNl (entAt S0.tab 5)) (lst api_PoseC (entN (entAt S0.tab 5)) (entC (entAt S0.tab 5))) (fun q10 q11 q12 => k (.exit 2) (shaft_crate_carry_x7_2 (toI (lget S0.tmps 10)) (toI (lget (entCs (entAt S0.tab 0)) 0)) (toI (lget (entCs (entAt S0.tab 0)) 1)) (toI (lget (entCs (entAt S0.tab 0)) 2)) (toI (lget (entCs (entAt S0.tab 0)) 3)) (toI (lget (entCs (entAt S0.tab 0)) 4)) (toI (lget (entCs (entAt S0.tab 0)) 5)) (mpD Arr3_intC unitC (entHs (entAt S0.tab 1)) (entGt (entAt S0.tab 1))) (Cod.dec api_PoseC (lget (entCs (entAt S0.tab 2)))) (Cod.dec api_PoseC (lget (entCs (entAt S0.tab 3)))) q10 q11 q12))
def shaft_crate_carry_d4 {R : Type} (N : Nat) (S0 : St) (k : Exit → St → Option R) : Option R :=
  shaft_crate_carry_l4 N N (toI (lget S0.tmps 10)) (toI (lget (entCs (entAt S0.tab 0)) 0)) (toI (lget (entCs (entAt S0.tab 0)) 1)) (toI (lget (entCs (entAt S0.tab 0)) 2)) (toI (lget (entCs (entAt S0.tab 0)) 3)) (toI (lget (entCs (entAt S0.tab 0)) 4)) (toI (lget (entCs (entAt S0.tab 0)) 5)) (mpD Arr3_intC unitC (entHs (entAt S0.tab 1)) (entGt (entAt S0.tab 1))) (Cod.dec api_PoseC (lget (entCs (entAt S0.tab 2)))) (Cod.dec api_PoseC (lget (entCs (entAt S0.tab 3)))) (mpD api_PoseC shaft_stepC (entHs (entAt S0.tab 4)) (entGt (entAt S0.tab 4))) (entNl (entAt S0.tab 5)) (lst api_PoseC (entN (entAt S0.tab 5)) (entC (entAt S0.tab 5))) (fun q9 => k (.exit 0) (shaft_crate_carry_x4_0 (toI (lget (entCs (entAt S0.tab 0)) 0)) (toI (lget (entCs (entAt S0.tab 0)) 1)) (toI (lget (entCs (entAt S0.tab 0)) 2)) (toI (lget (entCs (entAt S0.tab 0)) 3)) (toI (lget (entCs (entAt S0.tab 0)) 4)) (toI (lget (entCs (entAt S0.tab 0)) 5)) (mpD Arr3_intC unitC (entHs (entAt S0.tab 1)) (entGt (entAt S0.tab 1))) (Cod.dec api_PoseC (lget (entCs (entAt S0.tab 2)))) (Cod.dec api_PoseC (lget (entCs (entAt S0.tab 3)))) q9))
def shaft_crate_carry_lp {R : Type} (N : Nat) : Lp R := fun body S k => bif (Go.Sx.keyOf body).getD 0 == 4 then (shaft_crate_carry_L4.head.raw 2 S (fun S0 => shaft_crate_carry_d4 N S0 k)) else bif (Go.Sx.keyOf body).getD 0 == 7 then (shaft_crate_carry_L7.head.raw 2 S (fun S0 => shaft_crate_carry_d7 N S0 k)) else bif (Go.Sx.keyOf body).getD 0 == 20 then (shaft_crate_carry_L20.head.raw 2 S (fun S0 => shaft_crate_carry_d20 N S0 k)) else Option.none
theorem shaft_crate_carry_l4_eq {R : Type} (N : Nat) (k : Exit → St → Option R) (n : Nat) : ∀ (v0 : Int) (v1 : Int) (v2 : Int) (v3 : Int) (v4 : Int) (v5 : Int) (v6 : Int) (v7 : Mp Arr3_int Unit) (v8 : api_Pose) (v9 : api_Pose) (v10 : Mp api_Pose shaft_step) (v11 : Bool) (v12 : Arr api_Pose), loopM E.Θ (slices_Reverse___int_int__cal N) (shaft_crate_carry_lp N) (noJn) 2 shaft_crate_carry_L4 (bodyAt E 47 4) n (shaft_crate_carry_h4 v0 v1 v2 v3 v4 v5 v6 v7 v8 v9 v10 v11 v12) k = shaft_crate_carry_l4 N n v0 v1 v2 v3 v4 v5 v6 v7 v8 v9 v10 v11 v12 (fun q9 => k (.exit 0) (shaft_crate_carry_x4_0 v1 v2 v3 v4 v5 v6 v7 v8 v9 q9)) := by
  induction n with
  | zero => intro v0 v1 v2 v3 v4 v5 v6 v7 v8 v9 v10 v11 v12; rfl
  | succ n ih =>
    intro v0 v1 v2 v3 v4 v5 v6 v7 v8 v9 v10 v11 v12
    refine Eq.trans (b := shaft_crate_carry_b4 N (fun v0 v1 v2 v3 v4 v5 v6 v7 v8 v9 v10 v11 v12 => loopM E.Θ (slices_Reverse___int_int__cal N) (shaft_crate_carry_lp N) (noJn) 2 shaft_crate_carry_L4 (bodyAt E 47 4) n (shaft_crate_carry_h4 v0 v1 v2 v3 v4 v5 v6 v7 v8 v9 v10 v11 v12) k) v0 v1 v2 v3 v4 v5 v6 v7 v8 v9 v10 v11 v12 (fun q9 => k (.exit 0) (shaft_crate_carry_x4_0 v1 v2 v3 v4 v5 v6 v7 v8 v9 q9))) (by kernel_rfl) ?_
    have h : (fun (v0 : Int) (v1 : Int) (v2 : Int) (v3 : Int) (v4 : Int) (v5 : Int) (v6 : Int) (v7 : Mp Arr3_int Unit) (v8 : api_Pose) (v9 : api_Pose) (v10 : Mp api_Pose shaft_step) (v11 : Bool) (v12 : Arr api_Pose) => loopM E.Θ (slices_Reverse___int_int__cal N) (shaft_crate_carry_lp N) (noJn) 2 shaft_crate_carry_L4 (bodyAt E 47 4) n (shaft_crate_carry_h4 v0 v1 v2 v3 v4 v5 v6 v7 v8 v9 v10 v11 v12) k) = (fun (v0 : Int) (v1 : Int) (v2 : Int) (v3 : Int) (v4 : Int) (v5 : Int) (v6 : Int) (v7 : Mp Arr3_int Unit) (v8 : api_Pose) (v9 : api_Pose) (v10 : Mp api_Pose shaft_step) (v11 : Bool) (v12 : Arr api_Pose) => shaft_crate_carry_l4 N n v0 v1 v2 v3 v4 v5 v6 v7 v8 v9 v10 v11 v12 (fun q9 => k (.exit 0) (shaft_crate_carry_x4_0 v1 v2 v3 v4 v5 v6 v7 v8 v9 q9))) := funext fun v0 => funext fun v1 => funext fun v2 => funext fun v3 => funext fun v4 => funext fun v5 => funext fun v6 => funext fun v7 => funext fun v8 => funext fun v9 => funext fun v10 => funext fun v11 => funext fun v12 => ih v0 v1 v2 v3 v4 v5 v6 v7 v8 v9 v10 v11 v12
    rw [h]
    rfl
theorem shaft_crate_carry_l7_eq {R : Type} (N : Nat) (k : Exit → St → Option R) (n : Nat) : ∀ (v0 : Int) (v1 : Int) (v2 : Int) (v3 : Int) (v4 : Int) (v5 : Int) (v6 : Int) (v7 : Int) (v8 : Mp Arr3_int Unit) (v9 : api_Pose) (v10 : api_Pose) (v11 : Mp api_Pose shaft_step) (v12 : Bool) (v13 : Arr api_Pose), loopM E.Θ (slices_Reverse___int_int__cal N) (shaft_crate_carry_lp N) (noJn) 2 shaft_crate_carry_L7 (bodyAt E 47 7) n (shaft_crate_carry_h7 v0 v1 v2 v3 v4 v5 v6 v7 v8 v9 v10 v11 v12 v13) k = shaft_crate_carry_l7 N n v0 v1 v2 v3 v4 v5 v6 v7 v8 v9 v10 v11 v12 v13 (fun q10 q11 q12 => k (.exit 2) (shaft_crate_carry_x7_2 v0 v2 v3 v4 v5 v6 v7 v8 v9 v10 q10 q11 q12)) := by
  induction n with
  | zero => intro v0 v1 v2 v3 v4 v5 v6 v7 v8 v9 v10 v11 v12 v13; rfl
  | succ n ih =>
    intro v0 v1 v2 v3 v4 v5 v6 v7 v8 v9 v10 v11 v12 v13
    refine Eq.trans (b := shaft_crate_carry_b7 N (fun v0 v1 v2 v3 v4 v5 v6 v7 v8 v9 v10 v11 v12 v13 => loopM E.Θ (slices_Reverse___int_int__cal N) (shaft_crate_carry_lp N) (noJn) 2 shaft_crate_carry_L7 (bodyAt E 47 7) n (shaft_crate_carry_h7 v0 v1 v2 v3 v4 v5 v6 v7 v8 v9 v10 v11 v12 v13) k) v0 v1 v2 v3 v4 v5 v6 v7 v8 v9 v10 v11 v12 v13 (fun q10 q11 q12 => k (.exit 2) (shaft_crate_carry_x7_2 v0 v2 v3 v4 v5 v6 v7 v8 v9 v10 q10 q11 q12))) (by kernel_rfl) ?_
    have h : (fun (v0 : Int) (v1 : Int) (v2 : Int) (v3 : Int) (v4 : Int) (v5 : Int) (v6 : Int) (v7 : Int) (v8 : Mp Arr3_int Unit) (v9 : api_Pose) (v10 : api_Pose) (v11 : Mp api_Pose shaft_step) (v12 : Bool) (v13 : Arr api_Pose) => loopM E.Θ (slices_Reverse___int_int__cal N) (shaft_crate_carry_lp N) (noJn) 2 shaft_crate_carry_L7 (bodyAt E 47 7) n (shaft_crate_carry_h7 v0 v1 v2 v3 v4 v5 v6 v7 v8 v9 v10 v11 v12 v13) k) = (fun (v0 : Int) (v1 : Int) (v2 : Int) (v3 : Int) (v4 : Int) (v5 : Int) (v6 : Int) (v7 : Int) (v8 : Mp Arr3_int Unit) (v9 : api_Pose) (v10 : api_Pose) (v11 : Mp api_Pose shaft_step) (v12 : Bool) (v13 : Arr api_Pose) => shaft_crate_carry_l7 N n v0 v1 v2 v3 v4 v5 v6 v7 v8 v9 v10 v11 v12 v13 (fun q10 q11 q12 => k (.exit 2) (shaft_crate_carry_x7_2 v0 v2 v3 v4 v5 v6 v7 v8 v9 v10 q10 q11 q12))) := funext fun v0 => funext fun v1 => funext fun v2 => funext fun v3 => funext fun v4 => funext fun v5 => funext fun v6 => funext fun v7 => funext fun v8 => funext fun v9 => funext fun v10 => funext fun v11 => funext fun v12 => funext fun v13 => ih v0 v1 v2 v3 v4 v5 v6 v7 v8 v9 v10 v11 v12 v13
    rw [h]
    rfl
theorem shaft_crate_carry_l20_eq {R : Type} (N : Nat) (k : Exit → St → Option R) (n : Nat) : ∀ (v0 : Int) (v1 : Int) (v2 : Int) (v3 : Int) (v4 : Int) (v5 : Int) (v6 : Mp Arr3_int Unit) (v7 : api_Pose) (v8 : Mp api_Pose shaft_step) (v9 : Bool) (v10 : Arr Int) (v11 : api_Pose), loopM E.Θ (slices_Reverse___int_int__cal N) (shaft_crate_carry_lp N) (noJn) 2 shaft_crate_carry_L20 (bodyAt E 47 20) n (shaft_crate_carry_h20 v0 v1 v2 v3 v4 v5 v6 v7 v8 v9 v10 v11) k = shaft_crate_carry_l20 N n v0 v1 v2 v3 v4 v5 v6 v7 v8 v9 v10 v11 (fun q7 q8 => k (.exit 4) (shaft_crate_carry_x20_4 v0 v1 v2 v3 v4 v5 v6 q7 q8)) := by
  induction n with
  | zero => intro v0 v1 v2 v3 v4 v5 v6 v7 v8 v9 v10 v11; rfl
  | succ n ih =>
    intro v0 v1 v2 v3 v4 v5 v6 v7 v8 v9 v10 v11
    refine Eq.trans (b := shaft_crate_carry_b20 N (fun v0 v1 v2 v3 v4 v5 v6 v7 v8 v9 v10 v11 => loopM E.Θ (slices_Reverse___int_int__cal N) (shaft_crate_carry_lp N) (noJn) 2 shaft_crate_carry_L20 (bodyAt E 47 20) n (shaft_crate_carry_h20 v0 v1 v2 v3 v4 v5 v6 v7 v8 v9 v10 v11) k) v0 v1 v2 v3 v4 v5 v6 v7 v8 v9 v10 v11 (fun q7 q8 => k (.exit 4) (shaft_crate_carry_x20_4 v0 v1 v2 v3 v4 v5 v6 q7 q8))) (by kernel_rfl) ?_
    have h : (fun (v0 : Int) (v1 : Int) (v2 : Int) (v3 : Int) (v4 : Int) (v5 : Int) (v6 : Mp Arr3_int Unit) (v7 : api_Pose) (v8 : Mp api_Pose shaft_step) (v9 : Bool) (v10 : Arr Int) (v11 : api_Pose) => loopM E.Θ (slices_Reverse___int_int__cal N) (shaft_crate_carry_lp N) (noJn) 2 shaft_crate_carry_L20 (bodyAt E 47 20) n (shaft_crate_carry_h20 v0 v1 v2 v3 v4 v5 v6 v7 v8 v9 v10 v11) k) = (fun (v0 : Int) (v1 : Int) (v2 : Int) (v3 : Int) (v4 : Int) (v5 : Int) (v6 : Mp Arr3_int Unit) (v7 : api_Pose) (v8 : Mp api_Pose shaft_step) (v9 : Bool) (v10 : Arr Int) (v11 : api_Pose) => shaft_crate_carry_l20 N n v0 v1 v2 v3 v4 v5 v6 v7 v8 v9 v10 v11 (fun q7 q8 => k (.exit 4) (shaft_crate_carry_x20_4 v0 v1 v2 v3 v4 v5 v6 q7 q8))) := funext fun v0 => funext fun v1 => funext fun v2 => funext fun v3 => funext fun v4 => funext fun v5 => funext fun v6 => funext fun v7 => funext fun v8 => funext fun v9 => funext fun v10 => funext fun v11 => ih v0 v1 v2 v3 v4 v5 v6 v7 v8 v9 v10 v11
    rw [h]
    rfl
theorem shaft_crate_carry_k20 {R : Type} (N : Nat) : LpKey (R := R) E 47 2 (shaft_crate_carry_lp N) 20 :=
  lpKey_of hE (slices_Reverse___int_int__cal_ok N) (lp := shaft_crate_carry_lp N) (jn := noJn) shaft_crate_carry_L20_ok [] kNil (by kernel_rfl) [] jNil (by kernel_rfl) N fun S k =>
    Eq.trans (b := shaft_crate_carry_L20.head.raw 2 S (fun S0 => shaft_crate_carry_d20 N S0 k)) (by kernel_rfl) (congrArg (shaft_crate_carry_L20.head.raw 2 S) (funext fun S0 => Eq.trans (shaft_crate_carry_l20_eq N k N (toI (lget (entCs (entAt S0.tab 0)) 0)) (toI (lget (entCs (entAt S0.tab 0)) 1)) (toI (lget (entCs (entAt S0.tab 0)) 2)) (toI (lget (entCs (entAt S0.tab 0)) 3)) (toI (lget (entCs (entAt S0.tab 0)) 4)) (toI (lget (entCs (entAt S0.tab 0)) 5)) (mpD Arr3_intC unitC (entHs (entAt S0.tab 1)) (entGt (entAt S0.tab 1))) (Cod.dec api_PoseC (lget (entCs (entAt S0.tab 2)))) (mpD api_PoseC shaft_stepC (entHs (entAt S0.tab 3)) (entGt (entAt S0.tab 3))) (entNl (entAt S0.tab 4)) (lst intC (entN (entAt S0.tab 4)) (entC (entAt S0.tab 4))) (Cod.dec api_PoseC (lget (entCs (entAt S0.tab 5))))).symm (by kernel_rfl)))
theorem shaft_crate_carry_k7 {R : Type} (N : Nat) : LpKey (R := R) E 47 2 (shaft_crate_carry_lp N) 7 :=
  lpKey_of hE (slices_Reverse___int_int__cal_ok N) (lp := shaft_crate_carry_lp N) (jn := noJn) shaft_crate_carry_L7_ok [] kNil (by kernel_rfl) [] jNil (by kernel_rfl) N fun S k =>
    Eq.trans (b := shaft_crate_carry_L7.head.raw 2 S (fun S0 => shaft_crate_carry_d7 N S0 k)) (by kernel_rfl) (congrArg (shaft_crate_carry_L7.head.raw 2 S) (funext fun S0 => Eq.trans (shaft_crate_carry_l7_eq N k N (toI (lget S0.tmps 10)) (toI (lget S0.tmps 41)) (toI (lget (entCs (entAt S0.tab 0)) 0)) (toI (lget (entCs (entAt S0.tab 0)) 1)) (toI (lget (entCs (entAt S0.tab 0)) 2)) (toI (lget (entCs (entAt S0.tab 0)) 3)) (toI (lget (entCs (entAt S0.tab 0)) 4)) (toI (lget (entCs (entAt S0.tab 0)) 5)) (mpD Arr3_intC unitC (entHs (entAt S0.tab 1)) (entGt (entAt S0.tab 1))) (Cod.dec api_PoseC (lget (entCs (entAt S0.tab 2)))) (Cod.dec api_PoseC (lget (entCs (entAt S0.tab 3)))) (mpD api_PoseC shaft_stepC (entHs (entAt S0.tab 4)) (entGt (entAt S0.tab 4))) (entNl (entAt S0.tab 5)) (lst api_PoseC (entN (entAt S0.tab 5)) (entC (entAt S0.tab 5)))).symm (by kernel_rfl)))
theorem shaft_crate_carry_k4 {R : Type} (N : Nat) : LpKey (R := R) E 47 2 (shaft_crate_carry_lp N) 4 :=
  lpKey_of hE (slices_Reverse___int_int__cal_ok N) (lp := shaft_crate_carry_lp N) (jn := noJn) shaft_crate_carry_L4_ok [7] (kCons (shaft_crate_carry_k7 N) kNil) (by kernel_rfl) [] jNil (by kernel_rfl) N fun S k =>
    Eq.trans (b := shaft_crate_carry_L4.head.raw 2 S (fun S0 => shaft_crate_carry_d4 N S0 k)) (by kernel_rfl) (congrArg (shaft_crate_carry_L4.head.raw 2 S) (funext fun S0 => Eq.trans (shaft_crate_carry_l4_eq N k N (toI (lget S0.tmps 10)) (toI (lget (entCs (entAt S0.tab 0)) 0)) (toI (lget (entCs (entAt S0.tab 0)) 1)) (toI (lget (entCs (entAt S0.tab 0)) 2)) (toI (lget (entCs (entAt S0.tab 0)) 3)) (toI (lget (entCs (entAt S0.tab 0)) 4)) (toI (lget (entCs (entAt S0.tab 0)) 5)) (mpD Arr3_intC unitC (entHs (entAt S0.tab 1)) (entGt (entAt S0.tab 1))) (Cod.dec api_PoseC (lget (entCs (entAt S0.tab 2)))) (Cod.dec api_PoseC (lget (entCs (entAt S0.tab 3)))) (mpD api_PoseC shaft_stepC (entHs (entAt S0.tab 4)) (entGt (entAt S0.tab 4))) (entNl (entAt S0.tab 5)) (lst api_PoseC (entN (entAt S0.tab 5)) (entC (entAt S0.tab 5)))).symm (by kernel_rfl)))
noncomputable def shaft_crate_carry_go {R : Type} (N : Nat) (args : List SV) (T : Tab) (kf : SV × Tab → Option R) : Option R :=
  shaft_crate_carry N (Cod.dec api_PoseC (lget (toCs (lget args 1)))) (Cod.dec api_PoseC (lget (toCs (lget args 2)))) (toI (lget (entCs (entAt T 0)) 0)) (toI (lget (entCs (entAt T 0)) 1)) (toI (lget (entCs (entAt T 0)) 2)) (toI (lget (entCs (entAt T 0)) 3)) (toI (lget (entCs (entAt T 0)) 4)) (toI (lget (entCs (entAt T 0)) 5)) (mpD Arr3_intC unitC (entHs (entAt T 1)) (entGt (entAt T 1))) (fun q0 q8 q9 => kf (lget [.tup [.row 2, .bool q0]] 0, [(0, .blk [.int .i64 (toI (lget (entCs (entAt T 0)) 0)), .int .i64 (toI (lget (entCs (entAt T 0)) 1)), .int .i64 (toI (lget (entCs (entAt T 0)) 2)), .int .i64 (toI (lget (entCs (entAt T 0)) 3)), .int .i64 (toI (lget (entCs (entAt T 0)) 4)), .int .i64 (toI (lget (entCs (entAt T 0)) 5)), .row 1]), (1, mpE true true Arr3_intC unitC (mpD Arr3_intC unitC (entHs (entAt T 1)) (entGt (entAt T 1)))), (2, rowE intC q8 q9)]))
noncomputable def shaft_crate_carry_cal {R : Type} (N : Nat) : Cal R := callM (slices_Reverse___int_int__cal N) 47 2 shaft_crate_carry_sp (shaft_crate_carry_go N)
theorem shaft_crate_carry_cal_ok {R : Type} (N : Nat) : CalOk E.P (shaft_crate_carry_cal (R := R) N) :=
  callM_ok hE (slices_Reverse___int_int__cal_ok N) (lp := shaft_crate_carry_lp N) (jn := noJn) (keys := [4, 7, 20]) (kCons (shaft_crate_carry_k4 N) (kCons (shaft_crate_carry_k7 N) (kCons (shaft_crate_carry_k20 N) kNil))) (by kernel_rfl) (js := []) jNil (by kernel_rfl) shaft_crate_carry_sp_ok shaft_crate_carry_rs_ok (fun args T kf => Eq.trans (shaft_crate_carry_def N (Cod.dec api_PoseC (lget (toCs (lget args 1)))) (Cod.dec api_PoseC (lget (toCs (lget args 2)))) (toI (lget (entCs (entAt T 0)) 0)) (toI (lget (entCs (entAt T 0)) 1)) (toI (lget (entCs (entAt T 0)) 2)) (toI (lget (entCs (entAt T 0)) 3)) (toI (lget (entCs (entAt T 0)) 4)) (toI (lget (entCs (entAt T 0)) 5)) (mpD Arr3_intC unitC (entHs (entAt T 1)) (entGt (entAt T 1))) (fun q0 q8 q9 => kf (lget [.tup [.row 2, .bool q0]] 0, [(0, .blk [.int .i64 (toI (lget (entCs (entAt T 0)) 0)), .int .i64 (toI (lget (entCs (entAt T 0)) 1)), .int .i64 (toI (lget (entCs (entAt T 0)) 2)), .int .i64 (toI (lget (entCs (entAt T 0)) 3)), .int .i64 (toI (lget (entCs (entAt T 0)) 4)), .int .i64 (toI (lget (entCs (entAt T 0)) 5)), .row 1]), (1, mpE true true Arr3_intC unitC (mpD Arr3_intC unitC (entHs (entAt T 1)) (entGt (entAt T 1)))), (2, rowE intC q8 q9)]))) (by kernel_rfl : shaft_crate_carry_run N args T kf = fnM E (slices_Reverse___int_int__cal N) (shaft_crate_carry_lp N) (noJn) 47 (shaft_crate_carry_sp.vs args) (shaft_crate_carry_sp.tab T) 2 (resK shaft_crate_carry_rs kf)))
def shaft_Carry_m {R : Type} (N : Nat) (a369 : api_Shaft) (a370 : Arr3_int) (a371 : api_Pose) (a372 : api_Pose) (k : Int → Bool → Arr Int → Option R) : Option R :=
  shaft_check N a369 a370 (fun r373 =>
  bif r373 != (0 : Int) then
   k r373 true (lst intC (0 : Nat) (zeroC [SV.int IntKind.i64 (0 : Int)]))
  else
   shaft_begin N a369 a370 (fun r374 r375 r376 r377 r378 r379 r380 =>
   shaft_crate_fits N a371 r374 r375 r376 r377 r378 r379 r380 (fun r381 =>
   bif !r381 then
    k (1 : Int) true (lst intC (0 : Nat) (zeroC [SV.int IntKind.i64 (0 : Int)]))
   else
    shaft_crate_fits N a372 r374 r375 r376 r377 r378 r379 r380 (fun r382 =>
    bif !r382 then
     k (1 : Int) true (lst intC (0 : Nat) (zeroC [SV.int IntKind.i64 (0 : Int)]))
    else
     shaft_crate_carry N a371 a372 r374 r375 r376 r377 r378 r379 r380 (fun r447 r448 r449 =>
     bif !r447 then
      k (3 : Int) true (lst intC (0 : Nat) (zeroC [SV.int IntKind.i64 (0 : Int)]))
     else
      k (0 : Int) r448 r449)))))
noncomputable def shaft_Carry {R : Type} : Nat → api_Shaft → Arr3_int → api_Pose → api_Pose → (Int → Bool → Arr Int → Option R) → Option R := lock (@shaft_Carry_m R)
theorem shaft_Carry_def {R : Type} (N : Nat) (a369 : api_Shaft) (a370 : Arr3_int) (a371 : api_Pose) (a372 : api_Pose) (k : Int → Bool → Arr Int → Option R) : shaft_Carry N a369 a370 a371 a372 k = shaft_Carry_m N a369 a370 a371 a372 k := by unfold shaft_Carry; rw [lock_eq]
def shaft_Carry_sp : Sp := ⟨[rAgg api_ShaftC, rAgg Arr3_intC, rAgg api_PoseC, rAgg api_PoseC], []⟩
theorem shaft_Carry_sp_ok : shaft_Carry_sp.Ok := ⟨(allCons (rAgg_ok api_ShaftC_ok api_ShaftC_len) (allCons (rAgg_ok Arr3_intC_ok Arr3_intC_len) (allCons (rAgg_ok api_PoseC_ok api_PoseC_len) (allCons (rAgg_ok api_PoseC_ok api_PoseC_len) allNil)))), eNil⟩
def shaft_Carry_rs : Sp := ⟨[rTup [rRow 0, rInt .i64]], [(0, eRow intC)]⟩
theorem shaft_Carry_rs_ok : shaft_Carry_rs.Ok := ⟨(allCons (rTup_ok (allCons (rRow_ok 0) (allCons (rInt_ok .i64) allNil))) allNil), (eCons (eRow_ok intC_ok) eNil)⟩
def shaft_Carry_run {R : Type} (N : Nat) (args : List SV) (T : Tab) (kf : SV × Tab → Option R) : Option R :=
  shaft_Carry_m N (Cod.dec api_ShaftC (lget (toCs (lget args 0)))) (Cod.dec Arr3_intC (lget (toCs (lget args 1)))) (Cod.dec api_PoseC (lget (toCs (lget args 2)))) (Cod.dec api_PoseC (lget (toCs (lget args 3)))) (fun q0 q1 q2 => kf (lget [.tup [.row 0, .int .i64 q0]] 0, [(0, rowE intC q1 q2)]))
def shaft_Carry_lp {R : Type} (N : Nat) : Lp R := fun body S k => Option.none
noncomputable def shaft_Carry_go {R : Type} (N : Nat) (args : List SV) (T : Tab) (kf : SV × Tab → Option R) : Option R :=
  shaft_Carry N (Cod.dec api_ShaftC (lget (toCs (lget args 0)))) (Cod.dec Arr3_intC (lget (toCs (lget args 1)))) (Cod.dec api_PoseC (lget (toCs (lget args 2)))) (Cod.dec api_PoseC (lget (toCs (lget args 3)))) (fun q0 q1 q2 => kf (lget [.tup [.row 0, .int .i64 q0]] 0, [(0, rowE intC q1 q2)]))
noncomputable def shaft_Carry_cal {R : Type} (N : Nat) : Cal R := callM (shaft_crate_carry_cal N) 17 0 shaft_Carry_sp (shaft_Carry_go N)
theorem shaft_Carry_cal_ok {R : Type} (N : Nat) : CalOk E.P (shaft_Carry_cal (R := R) N) :=
  callM_ok hE (shaft_crate_carry_cal_ok N) (lp := shaft_Carry_lp N) (jn := noJn) (keys := []) kNil (by kernel_rfl) (js := []) jNil (by kernel_rfl) shaft_Carry_sp_ok shaft_Carry_rs_ok (fun args T kf => Eq.trans (shaft_Carry_def N (Cod.dec api_ShaftC (lget (toCs (lget args 0)))) (Cod.dec Arr3_intC (lget (toCs (lget args 1)))) (Cod.dec api_PoseC (lget (toCs (lget args 2)))) (Cod.dec api_PoseC (lget (toCs (lget args 3)))) (fun q0 q1 q2 => kf (lget [.tup [.row 0, .int .i64 q0]] 0, [(0, rowE intC q1 q2)]))) (by kernel_rfl : shaft_Carry_run N args T kf = fnM E (shaft_crate_carry_cal N) (shaft_Carry_lp N) (noJn) 17 (shaft_Carry_sp.vs args) (shaft_Carry_sp.tab T) 0 (resK shaft_Carry_rs kf)))
def newelref09_Largest_L7 : LoopSp := ⟨⟨[4, 5, 6, 7, 8, 13], ⟨(dr 4 ((rInt .i64) :: (rPtr 0 0) :: (rPtr 1 0) :: (rPtr 2 0) :: (rPtr 3 0) :: (dr 4 ((rInt .i64) :: (dr 52 []))))), [(0, eBlkC api_ShaftC), (1, eBlkC Arr3_intC), (2, eBlkC api_PoseC), (3, eBlkC api_PoseC)]⟩, 4⟩, [(Option.none, ⟨[10, 11], ⟨(dr 10 ((rInt .i64) :: (rInt .i64) :: (dr 54 []))), []⟩, 0⟩), (some 0, ⟨[], ⟨(dr 66 []), []⟩, 0⟩)]⟩
theorem newelref09_Largest_L7_ok : newelref09_Largest_L7.Ok := ⟨⟨(drCons 4 (allCons (rInt_ok .i64) (allCons (rPtr_ok 0 0) (allCons (rPtr_ok 1 0) (allCons (rPtr_ok 2 0) (allCons (rPtr_ok 3 0) (drCons 4 (allCons (rInt_ok .i64) (drCons 52 allNil))))))))), (eCons (eBlkC_ok api_ShaftC_ok api_ShaftC_len) (eCons (eBlkC_ok Arr3_intC_ok Arr3_intC_len) (eCons (eBlkC_ok api_PoseC_ok api_PoseC_len) (eCons (eBlkC_ok api_PoseC_ok api_PoseC_len) eNil))))⟩, (xCons ⟨(drCons 10 (allCons (rInt_ok .i64) (allCons (rInt_ok .i64) (drCons 54 allNil)))), eNil⟩ (xCons ⟨(drCons 66 allNil), eNil⟩ xNil))⟩
def newelref09_Largest_h7 (v459 : Int) (v460 : Int) (v461 : api_Shaft) (v462 : Arr3_int) (v463 : api_Pose) (v464 : api_Pose) : St := ⟨(un 4 ((.int .i64 v459) :: (.ptr 0 0) :: (.ptr 1 0) :: (.ptr 2 0) :: (.ptr 3 0) :: (un 4 ((.int .i64 v460) :: (un 52 []))))), [(0, .blk (Cod.enc api_ShaftC v461)), (1, .blk (Cod.enc Arr3_intC v462)), (2, .blk (Cod.enc api_PoseC v463)), (3, .blk (Cod.enc api_PoseC v464))], 4⟩
def newelref09_Largest_x7_r (q0 : Int) (q1 : Int) : St := ⟨(un 10 ((.int .i64 q0) :: (.int .i64 q1) :: (un 54 []))), [], 0⟩
def newelref09_Largest_x7_0  : St := ⟨(un 66 []), [], 0⟩
def newelref09_Largest_b7 {R : Type} (N : Nat) (rc : Int → Int → api_Shaft → Arr3_int → api_Pose → api_Pose → Option R) (v459 : Int) (v460 : Int) (v461 : api_Shaft) (v462 : Arr3_int) (v463 : api_Pose) (v464 : api_Pose) (kr : Int → Int → Option R) (k0 : Unit → Option R) : Option R :=
  bif decide (v460 ≥ (1 : Int)) then
   bif decide ((0 : Int) ≤ v459) && decide (v459 < (↑(3 : Nat) : Int)) then
    newelref09_fits N v461 (Arr3_int.mk (bif v459 == (↑(0 : Nat) : Int) then v460 else Arr3_int.a0 v462) (bif v459 == (↑((0 : Nat) + (1 : Nat)) : Int) then v460 else Arr3_int.a1 v462) (bif v459 == (↑((0 : Nat) + (1 : Nat) + (1 : Nat)) : Int) then v460 else Arr3_int.a2 v462)) v463 (fun r465 =>
    bif !r465 then
     rc v459 (w64 (v460 - (1 : Int))) v461 (Arr3_int.mk (bif v459 == (↑(0 : Nat) : Int) then v460 else Arr3_int.a0 v462) (bif v459 == (↑((0 : Nat) + (1 : Nat)) : Int) then v460 else Arr3_int.a1 v462) (bif v459 == (↑((0 : Nat) + (1 : Nat) + (1 : Nat)) : Int) then v460 else Arr3_int.a2 v462)) v463 v464
    else
     newelref09_fits N v461 (Arr3_int.mk (bif v459 == (↑(0 : Nat) : Int) then v460 else Arr3_int.a0 v462) (bif v459 == (↑((0 : Nat) + (1 : Nat)) : Int) then v460 else Arr3_int.a1 v462) (bif v459 == (↑((0 : Nat) + (1 : Nat) + (1 : Nat)) : Int) then v460 else Arr3_int.a2 v462)) v464 (fun r466 =>
     bif !r466 then
      rc v459 (w64 (v460 - (1 : Int))) v461 (Arr3_int.mk (bif v459 == (↑(0 : Nat) : Int) then v460 else Arr3_int.a0 v462) (bif v459 == (↑((0 : Nat) + (1 : Nat)) : Int) then v460 else Arr3_int.a1 v462) (bif v459 == (↑((0 : Nat) + (1 : Nat) + (1 : Nat)) : Int) then v460 else Arr3_int.a2 v462)) v463 v464
     else
      newelref09_carry N v461 (Arr3_int.mk (bif v459 == (↑(0 : Nat) : Int) then v460 else Arr3_int.a0 v462) (bif v459 == (↑((0 : Nat) + (1 : Nat)) : Int) then v460 else Arr3_int.a1 v462) (bif v459 == (↑((0 : Nat) + (1 : Nat) + (1 : Nat)) : Int) then v460 else Arr3_int.a2 v462)) v463 v464 (fun r467 r468 r469 =>
      bif r467 then
       kr v460 (0 : Int)
      else
       rc v459 (w64 (v460 - (1 : Int))) v461 (Arr3_int.mk (bif v459 == (↑(0 : Nat) : Int) then v460 else Arr3_int.a0 v462) (bif v459 == (↑((0 : Nat) + (1 : Nat)) : Int) then v460 else Arr3_int.a1 v462) (bif v459 == (↑((0 : Nat) + (1 : Nat) + (1 : Nat)) : Int) then v460 else Arr3_int.a2 v462)) v463 v464)))
   else
    Option.none
  else
   k0 ()
def newelref09_Largest_l7 {R : Type} (N : Nat) : Nat → Int → Int → api_Shaft → Arr3_int → api_Pose → api_Pose → (Int → Int → Option R) → (Unit → Option R) → Option R
  | 0, _, _, _, _, _, _, _, _ => Option.none
  | n + 1, v459, v460, v461, v462, v463, v464, kr, k0 => newelref09_Largest_b7 N (fun v459 v460 v461 v462 v463 v464 => newelref09_Largest_l7 N n v459 v460 v461 v462 v463 v464 kr k0) v459 v460 v461 v462 v463 v464 kr k0
def newelref09_Largest_m {R : Type} (N : Nat) (a450 : api_Shaft) (a451 : Arr3_int) (a452 : api_Pose) (a453 : api_Pose) (a454 : Int) (k : Int → Int → Option R) : Option R :=
  newelref09_CheckCrate N a450 a451 (fun r455 =>
  bif r455 != (0 : Int) then
   k (0 : Int) r455
  else
   newelref09_within N a454 (0 : Int) (2 : Int) (fun r456 =>
   bif !r456 then
    k (0 : Int) (1 : Int)
   else
    newelref09_within N (api_Pose.Turn a452) (0 : Int) (5 : Int) (fun r457 =>
    bif !r457 then
     k (0 : Int) (1 : Int)
    else
     newelref09_within N (api_Pose.Turn a453) (0 : Int) (5 : Int) (fun r458 =>
     bif !r458 then
      k (0 : Int) (1 : Int)
     else
      newelref09_Largest_l7 N N a454 (8 : Int) a450 a451 a452 a453 (fun r470 r471 =>
       k r470 r471) (fun (_ : Unit) =>
       k (0 : Int) (3 : Int))))))
noncomputable def newelref09_Largest {R : Type} : Nat → api_Shaft → Arr3_int → api_Pose → api_Pose → Int → (Int → Int → Option R) → Option R := lock (@newelref09_Largest_m R)
theorem newelref09_Largest_def {R : Type} (N : Nat) (a450 : api_Shaft) (a451 : Arr3_int) (a452 : api_Pose) (a453 : api_Pose) (a454 : Int) (k : Int → Int → Option R) : newelref09_Largest N a450 a451 a452 a453 a454 k = newelref09_Largest_m N a450 a451 a452 a453 a454 k := by unfold newelref09_Largest; rw [lock_eq]
def newelref09_Largest_sp : Sp := ⟨[rAgg api_ShaftC, rAgg Arr3_intC, rAgg api_PoseC, rAgg api_PoseC, rInt .i64], []⟩
theorem newelref09_Largest_sp_ok : newelref09_Largest_sp.Ok := ⟨(allCons (rAgg_ok api_ShaftC_ok api_ShaftC_len) (allCons (rAgg_ok Arr3_intC_ok Arr3_intC_len) (allCons (rAgg_ok api_PoseC_ok api_PoseC_len) (allCons (rAgg_ok api_PoseC_ok api_PoseC_len) (allCons (rInt_ok .i64) allNil))))), eNil⟩
def newelref09_Largest_rs : Sp := ⟨[rTup [rInt .i64, rInt .i64]], []⟩
theorem newelref09_Largest_rs_ok : newelref09_Largest_rs.Ok := ⟨(allCons (rTup_ok (allCons (rInt_ok .i64) (allCons (rInt_ok .i64) allNil))) allNil), eNil⟩
def newelref09_Largest_run {R : Type} (N : Nat) (args : List SV) (T : Tab) (kf : SV × Tab → Option R) : Option R :=
  newelref09_Largest_m N (Cod.dec api_ShaftC (lget (toCs (lget args 0)))) (Cod.dec Arr3_intC (lget (toCs (lget args 1)))) (Cod.dec api_PoseC (lget (toCs (lget args 2)))) (Cod.dec api_PoseC (lget (toCs (lget args 3)))) (toI (lget args 4)) (fun q0 q1 => kf (lget [.tup [.int .i64 q0, .int .i64 q1]] 0, []))
def newelref09_Largest_d7 {R : Type} (N : Nat) (S0 : St) (k : Exit → St → Option R) : Option R :=
  newelref09_Largest_l7 N N (toI (lget S0.tmps 4)) (toI (lget S0.tmps 13)) (Cod.dec api_ShaftC (lget (entCs (entAt S0.tab 0)))) (Cod.dec Arr3_intC (lget (entCs (entAt S0.tab 1)))) (Cod.dec api_PoseC (lget (entCs (entAt S0.tab 2)))) (Cod.dec api_PoseC (lget (entCs (entAt S0.tab 3)))) (fun q0 q1 => k .ret (newelref09_Largest_x7_r q0 q1)) (fun (_ : Unit) => k (.exit 0) (newelref09_Largest_x7_0 ))
def newelref09_Largest_lp {R : Type} (N : Nat) : Lp R := fun body S k => bif (Go.Sx.keyOf body).getD 0 == 7 then (newelref09_Largest_L7.head.raw 0 S (fun S0 => newelref09_Largest_d7 N S0 k)) else Option.none
theorem newelref09_Largest_l7_eq {R : Type} (N : Nat) (k : Exit → St → Option R) (n : Nat) : ∀ (v0 : Int) (v1 : Int) (v2 : api_Shaft) (v3 : Arr3_int) (v4 : api_Pose) (v5 : api_Pose), loopM E.Θ (shaft_Carry_cal N) (newelref09_Largest_lp N) (noJn) 0 newelref09_Largest_L7 (bodyAt E 36 7) n (newelref09_Largest_h7 v0 v1 v2 v3 v4 v5) k = newelref09_Largest_l7 N n v0 v1 v2 v3 v4 v5 (fun q0 q1 => k .ret (newelref09_Largest_x7_r q0 q1)) (fun (_ : Unit) => k (.exit 0) (newelref09_Largest_x7_0 )) := by
  induction n with
  | zero => intro v0 v1 v2 v3 v4 v5; rfl
  | succ n ih =>
    intro v0 v1 v2 v3 v4 v5
    refine Eq.trans (b := newelref09_Largest_b7 N (fun v0 v1 v2 v3 v4 v5 => loopM E.Θ (shaft_Carry_cal N) (newelref09_Largest_lp N) (noJn) 0 newelref09_Largest_L7 (bodyAt E 36 7) n (newelref09_Largest_h7 v0 v1 v2 v3 v4 v5) k) v0 v1 v2 v3 v4 v5 (fun q0 q1 => k .ret (newelref09_Largest_x7_r q0 q1)) (fun (_ : Unit) => k (.exit 0) (newelref09_Largest_x7_0 ))) (by kernel_rfl) ?_
    have h : (fun (v0 : Int) (v1 : Int) (v2 : api_Shaft) (v3 : Arr3_int) (v4 : api_Pose) (v5 : api_Pose) => loopM E.Θ (shaft_Carry_cal N) (newelref09_Largest_lp N) (noJn) 0 newelref09_Largest_L7 (bodyAt E 36 7) n (newelref09_Largest_h7 v0 v1 v2 v3 v4 v5) k) = (fun (v0 : Int) (v1 : Int) (v2 : api_Shaft) (v3 : Arr3_int) (v4 : api_Pose) (v5 : api_Pose) => newelref09_Largest_l7 N n v0 v1 v2 v3 v4 v5 (fun q0 q1 => k .ret (newelref09_Largest_x7_r q0 q1)) (fun (_ : Unit) => k (.exit 0) (newelref09_Largest_x7_0 ))) := funext fun v0 => funext fun v1 => funext fun v2 => funext fun v3 => funext fun v4 => funext fun v5 => ih v0 v1 v2 v3 v4 v5
    rw [h]
    rfl
theorem newelref09_Largest_k7 {R : Type} (N : Nat) : LpKey (R := R) E 36 0 (newelref09_Largest_lp N) 7 :=
  lpKey_of hE (shaft_Carry_cal_ok N) (lp := newelref09_Largest_lp N) (jn := noJn) newelref09_Largest_L7_ok [] kNil (by kernel_rfl) [] jNil (by kernel_rfl) N fun S k =>
    Eq.trans (b := newelref09_Largest_L7.head.raw 0 S (fun S0 => newelref09_Largest_d7 N S0 k)) (by kernel_rfl) (congrArg (newelref09_Largest_L7.head.raw 0 S) (funext fun S0 => Eq.trans (newelref09_Largest_l7_eq N k N (toI (lget S0.tmps 4)) (toI (lget S0.tmps 13)) (Cod.dec api_ShaftC (lget (entCs (entAt S0.tab 0)))) (Cod.dec Arr3_intC (lget (entCs (entAt S0.tab 1)))) (Cod.dec api_PoseC (lget (entCs (entAt S0.tab 2)))) (Cod.dec api_PoseC (lget (entCs (entAt S0.tab 3))))).symm (by kernel_rfl)))
noncomputable def newelref09_Largest_go {R : Type} (N : Nat) (args : List SV) (T : Tab) (kf : SV × Tab → Option R) : Option R :=
  newelref09_Largest N (Cod.dec api_ShaftC (lget (toCs (lget args 0)))) (Cod.dec Arr3_intC (lget (toCs (lget args 1)))) (Cod.dec api_PoseC (lget (toCs (lget args 2)))) (Cod.dec api_PoseC (lget (toCs (lget args 3)))) (toI (lget args 4)) (fun q0 q1 => kf (lget [.tup [.int .i64 q0, .int .i64 q1]] 0, []))
noncomputable def newelref09_Largest_cal {R : Type} (N : Nat) : Cal R := callM (shaft_Carry_cal N) 36 0 newelref09_Largest_sp (newelref09_Largest_go N)
theorem newelref09_Largest_cal_ok {R : Type} (N : Nat) : CalOk E.P (newelref09_Largest_cal (R := R) N) :=
  callM_ok hE (shaft_Carry_cal_ok N) (lp := newelref09_Largest_lp N) (jn := noJn) (keys := [7]) (kCons (newelref09_Largest_k7 N) kNil) (by kernel_rfl) (js := []) jNil (by kernel_rfl) newelref09_Largest_sp_ok newelref09_Largest_rs_ok (fun args T kf => Eq.trans (newelref09_Largest_def N (Cod.dec api_ShaftC (lget (toCs (lget args 0)))) (Cod.dec Arr3_intC (lget (toCs (lget args 1)))) (Cod.dec api_PoseC (lget (toCs (lget args 2)))) (Cod.dec api_PoseC (lget (toCs (lget args 3)))) (toI (lget args 4)) (fun q0 q1 => kf (lget [.tup [.int .i64 q0, .int .i64 q1]] 0, []))) (by kernel_rfl : newelref09_Largest_run N args T kf = fnM E (shaft_Carry_cal N) (newelref09_Largest_lp N) (noJn) 36 (newelref09_Largest_sp.vs args) (newelref09_Largest_sp.tab T) 0 (resK newelref09_Largest_rs kf)))
def shaft_Largest_1_m {R : Type} (N : Nat) (a478 : Int) (k : Bool → Option R) : Option R :=
  bif decide (a478 ≥ (0 : Int)) then
   k (decide (a478 < (6 : Int)))
  else
   k false
noncomputable def shaft_Largest_1 {R : Type} : Nat → Int → (Bool → Option R) → Option R := lock (@shaft_Largest_1_m R)
theorem shaft_Largest_1_def {R : Type} (N : Nat) (a478 : Int) (k : Bool → Option R) : shaft_Largest_1 N a478 k = shaft_Largest_1_m N a478 k := by unfold shaft_Largest_1; rw [lock_eq]
def shaft_Largest_1_sp : Sp := ⟨[rInt .i64], []⟩
theorem shaft_Largest_1_sp_ok : shaft_Largest_1_sp.Ok := ⟨(allCons (rInt_ok .i64) allNil), eNil⟩
def shaft_Largest_1_rs : Sp := ⟨[rBool], []⟩
theorem shaft_Largest_1_rs_ok : shaft_Largest_1_rs.Ok := ⟨(allCons rBool_ok allNil), eNil⟩
def shaft_Largest_1_run {R : Type} (N : Nat) (args : List SV) (T : Tab) (kf : SV × Tab → Option R) : Option R :=
  shaft_Largest_1_m N (toI (lget args 0)) (fun q0 => kf (lget [.bool q0] 0, []))
def shaft_Largest_1_lp {R : Type} (N : Nat) : Lp R := fun body S k => Option.none
noncomputable def shaft_Largest_1_go {R : Type} (N : Nat) (args : List SV) (T : Tab) (kf : SV × Tab → Option R) : Option R :=
  shaft_Largest_1 N (toI (lget args 0)) (fun q0 => kf (lget [.bool q0] 0, []))
noncomputable def shaft_Largest_1_cal {R : Type} (N : Nat) : Cal R := callM (newelref09_Largest_cal N) 62 0 shaft_Largest_1_sp (shaft_Largest_1_go N)
theorem shaft_Largest_1_cal_ok {R : Type} (N : Nat) : CalOk E.P (shaft_Largest_1_cal (R := R) N) :=
  callM_ok hE (newelref09_Largest_cal_ok N) (lp := shaft_Largest_1_lp N) (jn := noJn) (keys := []) kNil (by kernel_rfl) (js := []) jNil (by kernel_rfl) shaft_Largest_1_sp_ok shaft_Largest_1_rs_ok (fun args T kf => Eq.trans (shaft_Largest_1_def N (toI (lget args 0)) (fun q0 => kf (lget [.bool q0] 0, []))) (by kernel_rfl : shaft_Largest_1_run N args T kf = fnM E (newelref09_Largest_cal N) (shaft_Largest_1_lp N) (noJn) 62 (shaft_Largest_1_sp.vs args) (shaft_Largest_1_sp.tab T) 0 (resK shaft_Largest_1_rs kf)))
def shaft_Largest_L8 : LoopSp := ⟨⟨[4, 5, 6, 7, 8, 14], ⟨(dr 4 ((rInt .i64) :: (rPtr 0 0) :: (rPtr 1 0) :: (rPtr 2 0) :: (rPtr 3 0) :: (dr 5 ((rInt .i64) :: (dr 58 []))))), [(0, eBlkC api_ShaftC), (1, eBlkC Arr3_intC), (2, eBlkC api_PoseC), (3, eBlkC api_PoseC)]⟩, 4⟩, [(Option.none, ⟨[10, 11], ⟨(dr 10 ((rInt .i64) :: (rInt .i64) :: (dr 61 []))), []⟩, 0⟩), (some 0, ⟨[], ⟨(dr 73 []), []⟩, 0⟩)]⟩
theorem shaft_Largest_L8_ok : shaft_Largest_L8.Ok := ⟨⟨(drCons 4 (allCons (rInt_ok .i64) (allCons (rPtr_ok 0 0) (allCons (rPtr_ok 1 0) (allCons (rPtr_ok 2 0) (allCons (rPtr_ok 3 0) (drCons 5 (allCons (rInt_ok .i64) (drCons 58 allNil))))))))), (eCons (eBlkC_ok api_ShaftC_ok api_ShaftC_len) (eCons (eBlkC_ok Arr3_intC_ok Arr3_intC_len) (eCons (eBlkC_ok api_PoseC_ok api_PoseC_len) (eCons (eBlkC_ok api_PoseC_ok api_PoseC_len) eNil))))⟩, (xCons ⟨(drCons 10 (allCons (rInt_ok .i64) (allCons (rInt_ok .i64) (drCons 61 allNil)))), eNil⟩ (xCons ⟨(drCons 73 allNil), eNil⟩ xNil))⟩
def shaft_Largest_h8 (v481 : Int) (v482 : Int) (v483 : api_Shaft) (v484 : Arr3_int) (v485 : api_Pose) (v486 : api_Pose) : St := ⟨(un 4 ((.int .i64 v481) :: (.ptr 0 0) :: (.ptr 1 0) :: (.ptr 2 0) :: (.ptr 3 0) :: (un 5 ((.int .i64 v482) :: (un 58 []))))), [(0, .blk (Cod.enc api_ShaftC v483)), (1, .blk (Cod.enc Arr3_intC v484)), (2, .blk (Cod.enc api_PoseC v485)), (3, .blk (Cod.enc api_PoseC v486))], 4⟩
def shaft_Largest_x8_r (q0 : Int) (q1 : Int) : St := ⟨(un 10 ((.int .i64 q0) :: (.int .i64 q1) :: (un 61 []))), [], 0⟩
def shaft_Largest_x8_0  : St := ⟨(un 73 []), [], 0⟩
def shaft_Largest_b8 {R : Type} (N : Nat) (rc : Int → Int → api_Shaft → Arr3_int → api_Pose → api_Pose → Option R) (v481 : Int) (v482 : Int) (v483 : api_Shaft) (v484 : Arr3_int) (v485 : api_Pose) (v486 : api_Pose) (kr : Int → Int → Option R) (k0 : Unit → Option R) : Option R :=
  bif decide (v482 > (0 : Int)) then
   bif decide ((0 : Int) ≤ v481) && decide (v481 < (↑(3 : Nat) : Int)) then
    shaft_begin N v483 (Arr3_int.mk (bif v481 == (↑(0 : Nat) : Int) then v482 else Arr3_int.a0 v484) (bif v481 == (↑((0 : Nat) + (1 : Nat)) : Int) then v482 else Arr3_int.a1 v484) (bif v481 == (↑((0 : Nat) + (1 : Nat) + (1 : Nat)) : Int) then v482 else Arr3_int.a2 v484)) (fun r487 r488 r489 r490 r491 r492 r493 =>
    shaft_crate_fits N v485 r487 r488 r489 r490 r491 r492 r493 (fun r494 =>
    bif !r494 then
     rc v481 (w64 (v482 - (1 : Int))) v483 (Arr3_int.mk (bif v481 == (↑(0 : Nat) : Int) then v482 else Arr3_int.a0 v484) (bif v481 == (↑((0 : Nat) + (1 : Nat)) : Int) then v482 else Arr3_int.a1 v484) (bif v481 == (↑((0 : Nat) + (1 : Nat) + (1 : Nat)) : Int) then v482 else Arr3_int.a2 v484)) v485 v486
    else
     shaft_crate_fits N v486 r487 r488 r489 r490 r491 r492 r493 (fun r495 =>
     bif !r495 then
      rc v481 (w64 (v482 - (1 : Int))) v483 (Arr3_int.mk (bif v481 == (↑(0 : Nat) : Int) then v482 else Arr3_int.a0 v484) (bif v481 == (↑((0 : Nat) + (1 : Nat)) : Int) then v482 else Arr3_int.a1 v484) (bif v481 == (↑((0 : Nat) + (1 : Nat) + (1 : Nat)) : Int) then v482 else Arr3_int.a2 v484)) v485 v486
     else
      shaft_crate_carry N v485 v486 r487 r488 r489 r490 r491 r492 r493 (fun r496 r497 r498 =>
      bif r496 then
       kr v482 (0 : Int)
      else
       rc v481 (w64 (v482 - (1 : Int))) v483 (Arr3_int.mk (bif v481 == (↑(0 : Nat) : Int) then v482 else Arr3_int.a0 v484) (bif v481 == (↑((0 : Nat) + (1 : Nat)) : Int) then v482 else Arr3_int.a1 v484) (bif v481 == (↑((0 : Nat) + (1 : Nat) + (1 : Nat)) : Int) then v482 else Arr3_int.a2 v484)) v485 v486))))
   else
    Option.none
  else
   k0 ()
def shaft_Largest_l8 {R : Type} (N : Nat) : Nat → Int → Int → api_Shaft → Arr3_int → api_Pose → api_Pose → (Int → Int → Option R) → (Unit → Option R) → Option R
  | 0, _, _, _, _, _, _, _, _ => Option.none
  | n + 1, v481, v482, v483, v484, v485, v486, kr, k0 => shaft_Largest_b8 N (fun v481 v482 v483 v484 v485 v486 => shaft_Largest_l8 N n v481 v482 v483 v484 v485 v486 kr k0) v481 v482 v483 v484 v485 v486 kr k0
def shaft_Largest_m {R : Type} (N : Nat) (a472 : api_Shaft) (a473 : Arr3_int) (a474 : api_Pose) (a475 : api_Pose) (a476 : Int) (k : Int → Int → Option R) : Option R :=
  shaft_check N a472 a473 (fun r477 =>
  bif r477 != (0 : Int) then
   k (0 : Int) r477
  else
   bif decide (a476 < (0 : Int)) then
    k (0 : Int) (1 : Int)
   else
    bif decide (a476 > (2 : Int)) then
     k (0 : Int) (1 : Int)
    else
     shaft_Largest_1 N (api_Pose.Turn a474) (fun r479 =>
     bif !r479 then
      k (0 : Int) (1 : Int)
     else
      shaft_Largest_1 N (api_Pose.Turn a475) (fun r480 =>
      bif !r480 then
       k (0 : Int) (1 : Int)
      else
       shaft_Largest_l8 N N a476 (8 : Int) a472 a473 a474 a475 (fun r499 r500 =>
        k r499 r500) (fun (_ : Unit) =>
        k (0 : Int) (3 : Int)))))
noncomputable def shaft_Largest {R : Type} : Nat → api_Shaft → Arr3_int → api_Pose → api_Pose → Int → (Int → Int → Option R) → Option R := lock (@shaft_Largest_m R)
theorem shaft_Largest_def {R : Type} (N : Nat) (a472 : api_Shaft) (a473 : Arr3_int) (a474 : api_Pose) (a475 : api_Pose) (a476 : Int) (k : Int → Int → Option R) : shaft_Largest N a472 a473 a474 a475 a476 k = shaft_Largest_m N a472 a473 a474 a475 a476 k := by unfold shaft_Largest; rw [lock_eq]
def shaft_Largest_sp : Sp := ⟨[rAgg api_ShaftC, rAgg Arr3_intC, rAgg api_PoseC, rAgg api_PoseC, rInt .i64], []⟩
theorem shaft_Largest_sp_ok : shaft_Largest_sp.Ok := ⟨(allCons (rAgg_ok api_ShaftC_ok api_ShaftC_len) (allCons (rAgg_ok Arr3_intC_ok Arr3_intC_len) (allCons (rAgg_ok api_PoseC_ok api_PoseC_len) (allCons (rAgg_ok api_PoseC_ok api_PoseC_len) (allCons (rInt_ok .i64) allNil))))), eNil⟩
def shaft_Largest_rs : Sp := ⟨[rTup [rInt .i64, rInt .i64]], []⟩
theorem shaft_Largest_rs_ok : shaft_Largest_rs.Ok := ⟨(allCons (rTup_ok (allCons (rInt_ok .i64) (allCons (rInt_ok .i64) allNil))) allNil), eNil⟩
def shaft_Largest_run {R : Type} (N : Nat) (args : List SV) (T : Tab) (kf : SV × Tab → Option R) : Option R :=
  shaft_Largest_m N (Cod.dec api_ShaftC (lget (toCs (lget args 0)))) (Cod.dec Arr3_intC (lget (toCs (lget args 1)))) (Cod.dec api_PoseC (lget (toCs (lget args 2)))) (Cod.dec api_PoseC (lget (toCs (lget args 3)))) (toI (lget args 4)) (fun q0 q1 => kf (lget [.tup [.int .i64 q0, .int .i64 q1]] 0, []))
def shaft_Largest_d8 {R : Type} (N : Nat) (S0 : St) (k : Exit → St → Option R) : Option R :=
  shaft_Largest_l8 N N (toI (lget S0.tmps 4)) (toI (lget S0.tmps 14)) (Cod.dec api_ShaftC (lget (entCs (entAt S0.tab 0)))) (Cod.dec Arr3_intC (lget (entCs (entAt S0.tab 1)))) (Cod.dec api_PoseC (lget (entCs (entAt S0.tab 2)))) (Cod.dec api_PoseC (lget (entCs (entAt S0.tab 3)))) (fun q0 q1 => k .ret (shaft_Largest_x8_r q0 q1)) (fun (_ : Unit) => k (.exit 0) (shaft_Largest_x8_0 ))
def shaft_Largest_lp {R : Type} (N : Nat) : Lp R := fun body S k => bif (Go.Sx.keyOf body).getD 0 == 8 then (shaft_Largest_L8.head.raw 0 S (fun S0 => shaft_Largest_d8 N S0 k)) else Option.none
theorem shaft_Largest_l8_eq {R : Type} (N : Nat) (k : Exit → St → Option R) (n : Nat) : ∀ (v0 : Int) (v1 : Int) (v2 : api_Shaft) (v3 : Arr3_int) (v4 : api_Pose) (v5 : api_Pose), loopM E.Θ (shaft_Largest_1_cal N) (shaft_Largest_lp N) (noJn) 0 shaft_Largest_L8 (bodyAt E 35 8) n (shaft_Largest_h8 v0 v1 v2 v3 v4 v5) k = shaft_Largest_l8 N n v0 v1 v2 v3 v4 v5 (fun q0 q1 => k .ret (shaft_Largest_x8_r q0 q1)) (fun (_ : Unit) => k (.exit 0) (shaft_Largest_x8_0 )) := by
  induction n with
  | zero => intro v0 v1 v2 v3 v4 v5; rfl
  | succ n ih =>
    intro v0 v1 v2 v3 v4 v5
    refine Eq.trans (b := shaft_Largest_b8 N (fun v0 v1 v2 v3 v4 v5 => loopM E.Θ (shaft_Largest_1_cal N) (shaft_Largest_lp N) (noJn) 0 shaft_Largest_L8 (bodyAt E 35 8) n (shaft_Largest_h8 v0 v1 v2 v3 v4 v5) k) v0 v1 v2 v3 v4 v5 (fun q0 q1 => k .ret (shaft_Largest_x8_r q0 q1)) (fun (_ : Unit) => k (.exit 0) (shaft_Largest_x8_0 ))) (by kernel_rfl) ?_
    have h : (fun (v0 : Int) (v1 : Int) (v2 : api_Shaft) (v3 : Arr3_int) (v4 : api_Pose) (v5 : api_Pose) => loopM E.Θ (shaft_Largest_1_cal N) (shaft_Largest_lp N) (noJn) 0 shaft_Largest_L8 (bodyAt E 35 8) n (shaft_Largest_h8 v0 v1 v2 v3 v4 v5) k) = (fun (v0 : Int) (v1 : Int) (v2 : api_Shaft) (v3 : Arr3_int) (v4 : api_Pose) (v5 : api_Pose) => shaft_Largest_l8 N n v0 v1 v2 v3 v4 v5 (fun q0 q1 => k .ret (shaft_Largest_x8_r q0 q1)) (fun (_ : Unit) => k (.exit 0) (shaft_Largest_x8_0 ))) := funext fun v0 => funext fun v1 => funext fun v2 => funext fun v3 => funext fun v4 => funext fun v5 => ih v0 v1 v2 v3 v4 v5
    rw [h]
    rfl
theorem shaft_Largest_k8 {R : Type} (N : Nat) : LpKey (R := R) E 35 0 (shaft_Largest_lp N) 8 :=
  lpKey_of hE (shaft_Largest_1_cal_ok N) (lp := shaft_Largest_lp N) (jn := noJn) shaft_Largest_L8_ok [] kNil (by kernel_rfl) [] jNil (by kernel_rfl) N fun S k =>
    Eq.trans (b := shaft_Largest_L8.head.raw 0 S (fun S0 => shaft_Largest_d8 N S0 k)) (by kernel_rfl) (congrArg (shaft_Largest_L8.head.raw 0 S) (funext fun S0 => Eq.trans (shaft_Largest_l8_eq N k N (toI (lget S0.tmps 4)) (toI (lget S0.tmps 14)) (Cod.dec api_ShaftC (lget (entCs (entAt S0.tab 0)))) (Cod.dec Arr3_intC (lget (entCs (entAt S0.tab 1)))) (Cod.dec api_PoseC (lget (entCs (entAt S0.tab 2)))) (Cod.dec api_PoseC (lget (entCs (entAt S0.tab 3))))).symm (by kernel_rfl)))
noncomputable def shaft_Largest_go {R : Type} (N : Nat) (args : List SV) (T : Tab) (kf : SV × Tab → Option R) : Option R :=
  shaft_Largest N (Cod.dec api_ShaftC (lget (toCs (lget args 0)))) (Cod.dec Arr3_intC (lget (toCs (lget args 1)))) (Cod.dec api_PoseC (lget (toCs (lget args 2)))) (Cod.dec api_PoseC (lget (toCs (lget args 3)))) (toI (lget args 4)) (fun q0 q1 => kf (lget [.tup [.int .i64 q0, .int .i64 q1]] 0, []))
noncomputable def shaft_Largest_cal {R : Type} (N : Nat) : Cal R := callM (shaft_Largest_1_cal N) 35 0 shaft_Largest_sp (shaft_Largest_go N)
theorem shaft_Largest_cal_ok {R : Type} (N : Nat) : CalOk E.P (shaft_Largest_cal (R := R) N) :=
  callM_ok hE (shaft_Largest_1_cal_ok N) (lp := shaft_Largest_lp N) (jn := noJn) (keys := [8]) (kCons (shaft_Largest_k8 N) kNil) (by kernel_rfl) (js := []) jNil (by kernel_rfl) shaft_Largest_sp_ok shaft_Largest_rs_ok (fun args T kf => Eq.trans (shaft_Largest_def N (Cod.dec api_ShaftC (lget (toCs (lget args 0)))) (Cod.dec Arr3_intC (lget (toCs (lget args 1)))) (Cod.dec api_PoseC (lget (toCs (lget args 2)))) (Cod.dec api_PoseC (lget (toCs (lget args 3)))) (toI (lget args 4)) (fun q0 q1 => kf (lget [.tup [.int .i64 q0, .int .i64 q1]] 0, []))) (by kernel_rfl : shaft_Largest_run N args T kf = fnM E (shaft_Largest_1_cal N) (shaft_Largest_lp N) (noJn) 35 (shaft_Largest_sp.vs args) (shaft_Largest_sp.tab T) 0 (resK shaft_Largest_rs kf)))
def newellaw09_sameInts_L4 : LoopSp := ⟨⟨[0, 1, 5], ⟨((rSl intC) :: (rSl intC) :: (dr 3 ((rInt .i64) :: (dr 20 [])))), []⟩, 0⟩, [(Option.none, ⟨[4], ⟨(dr 4 ((rBool) :: (dr 21 []))), []⟩, 0⟩), (some 0, ⟨[], ⟨(dr 26 []), []⟩, 0⟩)]⟩
theorem newellaw09_sameInts_L4_ok : newellaw09_sameInts_L4.Ok := ⟨⟨(allCons (rSl_ok intC_ok) (allCons (rSl_ok intC_ok) (drCons 3 (allCons (rInt_ok .i64) (drCons 20 allNil))))), eNil⟩, (xCons ⟨(drCons 4 (allCons rBool_ok (drCons 21 allNil))), eNil⟩ (xCons ⟨(drCons 26 allNil), eNil⟩ xNil))⟩
def newellaw09_sameInts_h4 (v503 : Arr Int) (v504 : Arr Int) (v505 : Int) : St := ⟨((slC intC v503) :: (slC intC v504) :: (un 3 ((.int .i64 v505) :: (un 20 [])))), [], 0⟩
def newellaw09_sameInts_x4_r (q0 : Bool) : St := ⟨(un 4 ((.bool q0) :: (un 21 []))), [], 0⟩
def newellaw09_sameInts_x4_0  : St := ⟨(un 26 []), [], 0⟩
def newellaw09_sameInts_b4 {R : Type} (N : Nat) (rc : Arr Int → Arr Int → Int → Option R) (v503 : Arr Int) (v504 : Arr Int) (v505 : Int) (kr : Bool → Option R) (k0 : Unit → Option R) : Option R :=
  bif decide (v505 < (↑(Arr.n v503) : Int)) then
   bif decide ((0 : Int) ≤ v505) && decide (v505 < (↑(Arr.n v503) : Int)) then
    bif decide ((0 : Int) ≤ v505) && decide (v505 < (↑(Arr.n v504) : Int)) then
     bif Arr.f v503 (Int.toNat v505) != Arr.f v504 (Int.toNat v505) then
      kr false
     else
      rc v503 v504 (w64 (v505 + (1 : Int)))
    else
     Option.none
   else
    Option.none
  else
   k0 ()
def newellaw09_sameInts_l4 {R : Type} (N : Nat) : Nat → Arr Int → Arr Int → Int → (Bool → Option R) → (Unit → Option R) → Option R
  | 0, _, _, _, _, _ => Option.none
  | n + 1, v503, v504, v505, kr, k0 => newellaw09_sameInts_b4 N (fun v503 v504 v505 => newellaw09_sameInts_l4 N n v503 v504 v505 kr k0) v503 v504 v505 kr k0
def newellaw09_sameInts_m {R : Type} (N : Nat) (a501 : Arr Int) (a502 : Arr Int) (k : Bool → Option R) : Option R :=
  bif (↑(Arr.n a501) : Int) != (↑(Arr.n a502) : Int) then
   k false
  else
   newellaw09_sameInts_l4 N N a501 a502 (0 : Int) (fun r506 =>
    k r506) (fun (_ : Unit) =>
    k true)
noncomputable def newellaw09_sameInts {R : Type} : Nat → Arr Int → Arr Int → (Bool → Option R) → Option R := lock (@newellaw09_sameInts_m R)
theorem newellaw09_sameInts_def {R : Type} (N : Nat) (a501 : Arr Int) (a502 : Arr Int) (k : Bool → Option R) : newellaw09_sameInts N a501 a502 k = newellaw09_sameInts_m N a501 a502 k := by unfold newellaw09_sameInts; rw [lock_eq]
def newellaw09_sameInts_sp : Sp := ⟨[rSl intC, rSl intC], []⟩
theorem newellaw09_sameInts_sp_ok : newellaw09_sameInts_sp.Ok := ⟨(allCons (rSl_ok intC_ok) (allCons (rSl_ok intC_ok) allNil)), eNil⟩
def newellaw09_sameInts_rs : Sp := ⟨[rBool], []⟩
theorem newellaw09_sameInts_rs_ok : newellaw09_sameInts_rs.Ok := ⟨(allCons rBool_ok allNil), eNil⟩
def newellaw09_sameInts_run {R : Type} (N : Nat) (args : List SV) (T : Tab) (kf : SV × Tab → Option R) : Option R :=
  newellaw09_sameInts_m N (lstC intC (lget args 0)) (lstC intC (lget args 1)) (fun q0 => kf (lget [.bool q0] 0, []))
def newellaw09_sameInts_d4 {R : Type} (N : Nat) (S0 : St) (k : Exit → St → Option R) : Option R :=
  newellaw09_sameInts_l4 N N (lstC intC (lget S0.tmps 0)) (lstC intC (lget S0.tmps 1)) (toI (lget S0.tmps 5)) (fun q0 => k .ret (newellaw09_sameInts_x4_r q0)) (fun (_ : Unit) => k (.exit 0) (newellaw09_sameInts_x4_0 ))
def newellaw09_sameInts_lp {R : Type} (N : Nat) : Lp R := fun body S k => bif (Go.Sx.keyOf body).getD 0 == 4 then (newellaw09_sameInts_L4.head.raw 0 S (fun S0 => newellaw09_sameInts_d4 N S0 k)) else Option.none
theorem newellaw09_sameInts_l4_eq {R : Type} (N : Nat) (k : Exit → St → Option R) (n : Nat) : ∀ (v0 : Arr Int) (v1 : Arr Int) (v2 : Int), loopM E.Θ (shaft_Largest_cal N) (newellaw09_sameInts_lp N) (noJn) 0 newellaw09_sameInts_L4 (bodyAt E 19 4) n (newellaw09_sameInts_h4 v0 v1 v2) k = newellaw09_sameInts_l4 N n v0 v1 v2 (fun q0 => k .ret (newellaw09_sameInts_x4_r q0)) (fun (_ : Unit) => k (.exit 0) (newellaw09_sameInts_x4_0 )) := by
  induction n with
  | zero => intro v0 v1 v2; rfl
  | succ n ih =>
    intro v0 v1 v2
    refine Eq.trans (b := newellaw09_sameInts_b4 N (fun v0 v1 v2 => loopM E.Θ (shaft_Largest_cal N) (newellaw09_sameInts_lp N) (noJn) 0 newellaw09_sameInts_L4 (bodyAt E 19 4) n (newellaw09_sameInts_h4 v0 v1 v2) k) v0 v1 v2 (fun q0 => k .ret (newellaw09_sameInts_x4_r q0)) (fun (_ : Unit) => k (.exit 0) (newellaw09_sameInts_x4_0 ))) (by kernel_rfl) ?_
    have h : (fun (v0 : Arr Int) (v1 : Arr Int) (v2 : Int) => loopM E.Θ (shaft_Largest_cal N) (newellaw09_sameInts_lp N) (noJn) 0 newellaw09_sameInts_L4 (bodyAt E 19 4) n (newellaw09_sameInts_h4 v0 v1 v2) k) = (fun (v0 : Arr Int) (v1 : Arr Int) (v2 : Int) => newellaw09_sameInts_l4 N n v0 v1 v2 (fun q0 => k .ret (newellaw09_sameInts_x4_r q0)) (fun (_ : Unit) => k (.exit 0) (newellaw09_sameInts_x4_0 ))) := funext fun v0 => funext fun v1 => funext fun v2 => ih v0 v1 v2
    rw [h]
    rfl
theorem newellaw09_sameInts_k4 {R : Type} (N : Nat) : LpKey (R := R) E 19 0 (newellaw09_sameInts_lp N) 4 :=
  lpKey_of hE (shaft_Largest_cal_ok N) (lp := newellaw09_sameInts_lp N) (jn := noJn) newellaw09_sameInts_L4_ok [] kNil (by kernel_rfl) [] jNil (by kernel_rfl) N fun S k =>
    Eq.trans (b := newellaw09_sameInts_L4.head.raw 0 S (fun S0 => newellaw09_sameInts_d4 N S0 k)) (by kernel_rfl) (congrArg (newellaw09_sameInts_L4.head.raw 0 S) (funext fun S0 => Eq.trans (newellaw09_sameInts_l4_eq N k N (lstC intC (lget S0.tmps 0)) (lstC intC (lget S0.tmps 1)) (toI (lget S0.tmps 5))).symm (by kernel_rfl)))
noncomputable def newellaw09_sameInts_go {R : Type} (N : Nat) (args : List SV) (T : Tab) (kf : SV × Tab → Option R) : Option R :=
  newellaw09_sameInts N (lstC intC (lget args 0)) (lstC intC (lget args 1)) (fun q0 => kf (lget [.bool q0] 0, []))
noncomputable def newellaw09_sameInts_cal {R : Type} (N : Nat) : Cal R := callM (shaft_Largest_cal N) 19 0 newellaw09_sameInts_sp (newellaw09_sameInts_go N)
theorem newellaw09_sameInts_cal_ok {R : Type} (N : Nat) : CalOk E.P (newellaw09_sameInts_cal (R := R) N) :=
  callM_ok hE (shaft_Largest_cal_ok N) (lp := newellaw09_sameInts_lp N) (jn := noJn) (keys := [4]) (kCons (newellaw09_sameInts_k4 N) kNil) (by kernel_rfl) (js := []) jNil (by kernel_rfl) newellaw09_sameInts_sp_ok newellaw09_sameInts_rs_ok (fun args T kf => Eq.trans (newellaw09_sameInts_def N (lstC intC (lget args 0)) (lstC intC (lget args 1)) (fun q0 => kf (lget [.bool q0] 0, []))) (by kernel_rfl : newellaw09_sameInts_run N args T kf = fnM E (shaft_Largest_cal N) (newellaw09_sameInts_lp N) (noJn) 19 (newellaw09_sameInts_sp.vs args) (newellaw09_sameInts_sp.tab T) 0 (resK newellaw09_sameInts_rs kf)))
def newellaw09_Far_m {R : Type} (N : Nat) (a507 : api_Shaft) (k : Bool → Option R) : Option R :=
  k (decide ((↑(Arr.n (api_Shaft.Walls a507)) : Int) > (300 : Int)))
noncomputable def newellaw09_Far {R : Type} : Nat → api_Shaft → (Bool → Option R) → Option R := lock (@newellaw09_Far_m R)
theorem newellaw09_Far_def {R : Type} (N : Nat) (a507 : api_Shaft) (k : Bool → Option R) : newellaw09_Far N a507 k = newellaw09_Far_m N a507 k := by unfold newellaw09_Far; rw [lock_eq]
def newellaw09_Far_sp : Sp := ⟨[rAgg api_ShaftC], []⟩
theorem newellaw09_Far_sp_ok : newellaw09_Far_sp.Ok := ⟨(allCons (rAgg_ok api_ShaftC_ok api_ShaftC_len) allNil), eNil⟩
def newellaw09_Far_rs : Sp := ⟨[rBool], []⟩
theorem newellaw09_Far_rs_ok : newellaw09_Far_rs.Ok := ⟨(allCons rBool_ok allNil), eNil⟩
def newellaw09_Far_run {R : Type} (N : Nat) (args : List SV) (T : Tab) (kf : SV × Tab → Option R) : Option R :=
  newellaw09_Far_m N (Cod.dec api_ShaftC (lget (toCs (lget args 0)))) (fun q0 => kf (lget [.bool q0] 0, []))
def newellaw09_Far_lp {R : Type} (N : Nat) : Lp R := fun body S k => Option.none
noncomputable def newellaw09_Far_go {R : Type} (N : Nat) (args : List SV) (T : Tab) (kf : SV × Tab → Option R) : Option R :=
  newellaw09_Far N (Cod.dec api_ShaftC (lget (toCs (lget args 0)))) (fun q0 => kf (lget [.bool q0] 0, []))
noncomputable def newellaw09_Far_cal {R : Type} (N : Nat) : Cal R := callM (newellaw09_sameInts_cal N) 15 0 newellaw09_Far_sp (newellaw09_Far_go N)
theorem newellaw09_Far_cal_ok {R : Type} (N : Nat) : CalOk E.P (newellaw09_Far_cal (R := R) N) :=
  callM_ok hE (newellaw09_sameInts_cal_ok N) (lp := newellaw09_Far_lp N) (jn := noJn) (keys := []) kNil (by kernel_rfl) (js := []) jNil (by kernel_rfl) newellaw09_Far_sp_ok newellaw09_Far_rs_ok (fun args T kf => Eq.trans (newellaw09_Far_def N (Cod.dec api_ShaftC (lget (toCs (lget args 0)))) (fun q0 => kf (lget [.bool q0] 0, []))) (by kernel_rfl : newellaw09_Far_run N args T kf = fnM E (newellaw09_sameInts_cal N) (newellaw09_Far_lp N) (noJn) 15 (newellaw09_Far_sp.vs args) (newellaw09_Far_sp.tab T) 0 (resK newellaw09_Far_rs kf)))
def newellaw09_Example_m {R : Type} (N : Nat)  (k : Int → Int → Int → Int → Int → Int → Bool → Arr Arr3_int → Bool → Arr api_Job → Bool → Arr Int → Option R) : Option R :=
  k (3 : Int) (1 : Int) (5 : Int) (3 : Int) (2 : Int) (6 : Int) false (lst Arr3_intC (2 : Nat) (litC [SV.int IntKind.i64 (0 : Int), SV.int IntKind.i64 (0 : Int), SV.int IntKind.i64 (0 : Int)] [[SV.int IntKind.i64 (1 : Int), SV.int IntKind.i64 (0 : Int), SV.int IntKind.i64 (2 : Int)], [SV.int IntKind.i64 (2 : Int), SV.int IntKind.i64 (0 : Int), SV.int IntKind.i64 (2 : Int)]])) false (lst api_JobC (4 : Nat) (litC [SV.int IntKind.i64 (0 : Int), SV.int IntKind.i64 (0 : Int), SV.sl SK.nil (CK.cons (CK.int IntKind.i64) CK.nil) (1 : Nat) (0 : Nat) (zeroC [SV.int IntKind.i64 (0 : Int)])] [[SV.int IntKind.i64 (0 : Int), SV.int IntKind.i64 (2 : Int), SV.sl SK.nil (CK.cons (CK.int IntKind.i64) CK.nil) (1 : Nat) (0 : Nat) (zeroC [SV.int IntKind.i64 (0 : Int)])], [SV.int IntKind.i64 (1 : Int), SV.int IntKind.i64 (1 : Int), SV.sl SK.nil (CK.cons (CK.int IntKind.i64) CK.nil) (1 : Nat) (0 : Nat) (zeroC [SV.int IntKind.i64 (0 : Int)])], [SV.int IntKind.i64 (0 : Int), SV.int IntKind.i64 (1 : Int), SV.sl SK.any (CK.cons (CK.int IntKind.i64) CK.nil) (1 : Nat) (1 : Nat) (litC [SV.int IntKind.i64 (0 : Int)] [[SV.int IntKind.i64 (1 : Int)]])], [SV.int IntKind.i64 (2 : Int), SV.int IntKind.i64 (3 : Int), SV.sl SK.nil (CK.cons (CK.int IntKind.i64) CK.nil) (1 : Nat) (0 : Nat) (zeroC [SV.int IntKind.i64 (0 : Int)])]])) false (lst intC (1 : Nat) (litC [SV.int IntKind.i64 (0 : Int)] [[SV.int IntKind.i64 (3 : Int)]]))
noncomputable def newellaw09_Example {R : Type} : Nat → (Int → Int → Int → Int → Int → Int → Bool → Arr Arr3_int → Bool → Arr api_Job → Bool → Arr Int → Option R) → Option R := lock (@newellaw09_Example_m R)
theorem newellaw09_Example_def {R : Type} (N : Nat)  (k : Int → Int → Int → Int → Int → Int → Bool → Arr Arr3_int → Bool → Arr api_Job → Bool → Arr Int → Option R) : newellaw09_Example N  k = newellaw09_Example_m N  k := by unfold newellaw09_Example; rw [lock_eq]
def newellaw09_Example_sp : Sp := ⟨[], []⟩
theorem newellaw09_Example_sp_ok : newellaw09_Example_sp.Ok := ⟨allNil, eNil⟩
def newellaw09_Example_rs : Sp := ⟨[rTup [rAggs [rInt .i64, rInt .i64, rInt .i64, rRow 0], rAggs [rInt .i64, rRow 1, rRow 2, rInt .i64, rInt .i64]]], [(0, eRow Arr3_intC), (1, eRow api_JobC), (2, eRow intC)]⟩
theorem newellaw09_Example_rs_ok : newellaw09_Example_rs.Ok := ⟨(allCons (rTup_ok (allCons (rAggs_ok (allCons (rInt_ok .i64) (allCons (rInt_ok .i64) (allCons (rInt_ok .i64) (allCons (rRow_ok 0) allNil))))) (allCons (rAggs_ok (allCons (rInt_ok .i64) (allCons (rRow_ok 1) (allCons (rRow_ok 2) (allCons (rInt_ok .i64) (allCons (rInt_ok .i64) allNil)))))) allNil))) allNil), (eCons (eRow_ok Arr3_intC_ok) (eCons (eRow_ok api_JobC_ok) (eCons (eRow_ok intC_ok) eNil)))⟩
def newellaw09_Example_run {R : Type} (N : Nat) (args : List SV) (T : Tab) (kf : SV × Tab → Option R) : Option R :=
  newellaw09_Example_m N  (fun q0 q1 q2 q3 q4 q5 q6 q7 q8 q9 q10 q11 => kf (lget [.tup [.agg [.int .i64 q0, .int .i64 q1, .int .i64 q2, .row 0], .agg [.int .i64 q3, .row 1, .row 2, .int .i64 q4, .int .i64 q5]]] 0, [(0, rowE Arr3_intC q6 q7), (1, rowE api_JobC q8 q9), (2, rowE intC q10 q11)]))
def newellaw09_Example_lp {R : Type} (N : Nat) : Lp R := fun body S k => Option.none
noncomputable def newellaw09_Example_go {R : Type} (N : Nat) (args : List SV) (T : Tab) (kf : SV × Tab → Option R) : Option R :=
  newellaw09_Example N  (fun q0 q1 q2 q3 q4 q5 q6 q7 q8 q9 q10 q11 => kf (lget [.tup [.agg [.int .i64 q0, .int .i64 q1, .int .i64 q2, .row 0], .agg [.int .i64 q3, .row 1, .row 2, .int .i64 q4, .int .i64 q5]]] 0, [(0, rowE Arr3_intC q6 q7), (1, rowE api_JobC q8 q9), (2, rowE intC q10 q11)]))
noncomputable def newellaw09_Example_cal {R : Type} (N : Nat) : Cal R := callM (newellaw09_Far_cal N) 43 0 newellaw09_Example_sp (newellaw09_Example_go N)
theorem newellaw09_Example_cal_ok {R : Type} (N : Nat) : CalOk E.P (newellaw09_Example_cal (R := R) N) :=
  callM_ok hE (newellaw09_Far_cal_ok N) (lp := newellaw09_Example_lp N) (jn := noJn) (keys := []) kNil (by kernel_rfl) (js := []) jNil (by kernel_rfl) newellaw09_Example_sp_ok newellaw09_Example_rs_ok (fun args T kf => Eq.trans (newellaw09_Example_def N  (fun q0 q1 q2 q3 q4 q5 q6 q7 q8 q9 q10 q11 => kf (lget [.tup [.agg [.int .i64 q0, .int .i64 q1, .int .i64 q2, .row 0], .agg [.int .i64 q3, .row 1, .row 2, .int .i64 q4, .int .i64 q5]]] 0, [(0, rowE Arr3_intC q6 q7), (1, rowE api_JobC q8 q9), (2, rowE intC q10 q11)]))) (by kernel_rfl : newellaw09_Example_run N args T kf = fnM E (newellaw09_Far_cal N) (newellaw09_Example_lp N) (noJn) 43 (newellaw09_Example_sp.vs args) (newellaw09_Example_sp.tab T) 0 (resK newellaw09_Example_rs kf)))
def shaft_CheckWorks_1_m {R : Type} (N : Nat) (a536 : Int) (a537 : Int) (a538 : Int) (k : Bool → Option R) : Option R :=
  bif decide (a537 ≤ a536) then
   k (decide (a536 ≤ a538))
  else
   k false
noncomputable def shaft_CheckWorks_1 {R : Type} : Nat → Int → Int → Int → (Bool → Option R) → Option R := lock (@shaft_CheckWorks_1_m R)
theorem shaft_CheckWorks_1_def {R : Type} (N : Nat) (a536 : Int) (a537 : Int) (a538 : Int) (k : Bool → Option R) : shaft_CheckWorks_1 N a536 a537 a538 k = shaft_CheckWorks_1_m N a536 a537 a538 k := by unfold shaft_CheckWorks_1; rw [lock_eq]
def shaft_CheckWorks_1_sp : Sp := ⟨[rInt .i64, rInt .i64, rInt .i64], []⟩
theorem shaft_CheckWorks_1_sp_ok : shaft_CheckWorks_1_sp.Ok := ⟨(allCons (rInt_ok .i64) (allCons (rInt_ok .i64) (allCons (rInt_ok .i64) allNil))), eNil⟩
def shaft_CheckWorks_1_rs : Sp := ⟨[rBool], []⟩
theorem shaft_CheckWorks_1_rs_ok : shaft_CheckWorks_1_rs.Ok := ⟨(allCons rBool_ok allNil), eNil⟩
def shaft_CheckWorks_1_run {R : Type} (N : Nat) (args : List SV) (T : Tab) (kf : SV × Tab → Option R) : Option R :=
  shaft_CheckWorks_1_m N (toI (lget args 0)) (toI (lget args 1)) (toI (lget args 2)) (fun q0 => kf (lget [.bool q0] 0, []))
def shaft_CheckWorks_1_lp {R : Type} (N : Nat) : Lp R := fun body S k => Option.none
noncomputable def shaft_CheckWorks_1_go {R : Type} (N : Nat) (args : List SV) (T : Tab) (kf : SV × Tab → Option R) : Option R :=
  shaft_CheckWorks_1 N (toI (lget args 0)) (toI (lget args 1)) (toI (lget args 2)) (fun q0 => kf (lget [.bool q0] 0, []))
noncomputable def shaft_CheckWorks_1_cal {R : Type} (N : Nat) : Cal R := callM (newellaw09_Example_cal N) 64 0 shaft_CheckWorks_1_sp (shaft_CheckWorks_1_go N)
theorem shaft_CheckWorks_1_cal_ok {R : Type} (N : Nat) : CalOk E.P (shaft_CheckWorks_1_cal (R := R) N) :=
  callM_ok hE (newellaw09_Example_cal_ok N) (lp := shaft_CheckWorks_1_lp N) (jn := noJn) (keys := []) kNil (by kernel_rfl) (js := []) jNil (by kernel_rfl) shaft_CheckWorks_1_sp_ok shaft_CheckWorks_1_rs_ok (fun args T kf => Eq.trans (shaft_CheckWorks_1_def N (toI (lget args 0)) (toI (lget args 1)) (toI (lget args 2)) (fun q0 => kf (lget [.bool q0] 0, []))) (by kernel_rfl : shaft_CheckWorks_1_run N args T kf = fnM E (newellaw09_Example_cal N) (shaft_CheckWorks_1_lp N) (noJn) 64 (shaft_CheckWorks_1_sp.vs args) (shaft_CheckWorks_1_sp.tab T) 0 (resK shaft_CheckWorks_1_rs kf)))
def shaft_CheckWorks_2_m {R : Type} (N : Nat) (a581 : Int) (a582 : Int) (a583 : Arr api_Job) (a584 : Arr Int) (a585 : Int) (a586 : Int) (k : Bool → Option R) : Option R :=
  bif decide (a582 < (0 : Int)) then
   Option.none
  else
   shaft_CheckWorks_1 N a581 (1 : Int) (w64 (w64 ((1 : Int) * (2 : Int) ^ min (Int.toNat a582) (IntKind.bits IntKind.i64)) - (1 : Int))) (fun r587 =>
   k !r587)
noncomputable def shaft_CheckWorks_2 {R : Type} : Nat → Int → Int → Arr api_Job → Arr Int → Int → Int → (Bool → Option R) → Option R := lock (@shaft_CheckWorks_2_m R)
theorem shaft_CheckWorks_2_def {R : Type} (N : Nat) (a581 : Int) (a582 : Int) (a583 : Arr api_Job) (a584 : Arr Int) (a585 : Int) (a586 : Int) (k : Bool → Option R) : shaft_CheckWorks_2 N a581 a582 a583 a584 a585 a586 k = shaft_CheckWorks_2_m N a581 a582 a583 a584 a585 a586 k := by unfold shaft_CheckWorks_2; rw [lock_eq]
def shaft_CheckWorks_2_sp : Sp := ⟨[rInt .i64, rPtr 0 0, rPtr 1 0], [(0, eBlk [rFunc 64 0 []]), (1, eBlk [rInt .i64, rSl api_JobC, rSl intC, rInt .i64, rInt .i64])]⟩
theorem shaft_CheckWorks_2_sp_ok : shaft_CheckWorks_2_sp.Ok := ⟨(allCons (rInt_ok .i64) (allCons (rPtr_ok 0 0) (allCons (rPtr_ok 1 0) allNil))), (eCons (eBlk_ok (allCons (rFunc_ok 64 0 allNil) allNil)) (eCons (eBlk_ok (allCons (rInt_ok .i64) (allCons (rSl_ok api_JobC_ok) (allCons (rSl_ok intC_ok) (allCons (rInt_ok .i64) (allCons (rInt_ok .i64) allNil)))))) eNil))⟩
def shaft_CheckWorks_2_rs : Sp := ⟨[rBool], [(0, eBlk [rFunc 64 0 []]), (1, eBlk [rInt .i64, rSl api_JobC, rSl intC, rInt .i64, rInt .i64])]⟩
theorem shaft_CheckWorks_2_rs_ok : shaft_CheckWorks_2_rs.Ok := ⟨(allCons rBool_ok allNil), (eCons (eBlk_ok (allCons (rFunc_ok 64 0 allNil) allNil)) (eCons (eBlk_ok (allCons (rInt_ok .i64) (allCons (rSl_ok api_JobC_ok) (allCons (rSl_ok intC_ok) (allCons (rInt_ok .i64) (allCons (rInt_ok .i64) allNil)))))) eNil))⟩
def shaft_CheckWorks_2_run {R : Type} (N : Nat) (args : List SV) (T : Tab) (kf : SV × Tab → Option R) : Option R :=
  shaft_CheckWorks_2_m N (toI (lget args 0)) (toI (lget (entCs (entAt T 1)) 0)) (lstC api_JobC (lget (entCs (entAt T 1)) 1)) (lstC intC (lget (entCs (entAt T 1)) 2)) (toI (lget (entCs (entAt T 1)) 3)) (toI (lget (entCs (entAt T 1)) 4)) (fun q0 => kf (lget [.bool q0] 0, [(0, .blk [.func 64 0 []]), (1, .blk [.int .i64 (toI (lget (entCs (entAt T 1)) 0)), slC api_JobC (lstC api_JobC (lget (entCs (entAt T 1)) 1)), slC intC (lstC intC (lget (entCs (entAt T 1)) 2)), .int .i64 (toI (lget (entCs (entAt T 1)) 3)), .int .i64 (toI (lget (entCs (entAt T 1)) 4))])]))
def shaft_CheckWorks_2_lp {R : Type} (N : Nat) : Lp R := fun body S k => Option.none
noncomputable def shaft_CheckWorks_2_go {R : Type} (N : Nat) (args : List SV) (T : Tab) (kf : SV × Tab → Option R) : Option R :=
  shaft_CheckWorks_2 N (toI (lget args 0)) (toI (lget (entCs (entAt T 1)) 0)) (lstC api_JobC (lget (entCs (entAt T 1)) 1)) (lstC intC (lget (entCs (entAt T 1)) 2)) (toI (lget (entCs (entAt T 1)) 3)) (toI (lget (entCs (entAt T 1)) 4)) (fun q0 => kf (lget [.bool q0] 0, [(0, .blk [.func 64 0 []]), (1, .blk [.int .i64 (toI (lget (entCs (entAt T 1)) 0)), slC api_JobC (lstC api_JobC (lget (entCs (entAt T 1)) 1)), slC intC (lstC intC (lget (entCs (entAt T 1)) 2)), .int .i64 (toI (lget (entCs (entAt T 1)) 3)), .int .i64 (toI (lget (entCs (entAt T 1)) 4))])]))
noncomputable def shaft_CheckWorks_2_cal {R : Type} (N : Nat) : Cal R := callM (shaft_CheckWorks_1_cal N) 65 2 shaft_CheckWorks_2_sp (shaft_CheckWorks_2_go N)
theorem shaft_CheckWorks_2_cal_ok {R : Type} (N : Nat) : CalOk E.P (shaft_CheckWorks_2_cal (R := R) N) :=
  callM_ok hE (shaft_CheckWorks_1_cal_ok N) (lp := shaft_CheckWorks_2_lp N) (jn := noJn) (keys := []) kNil (by kernel_rfl) (js := []) jNil (by kernel_rfl) shaft_CheckWorks_2_sp_ok shaft_CheckWorks_2_rs_ok (fun args T kf => Eq.trans (shaft_CheckWorks_2_def N (toI (lget args 0)) (toI (lget (entCs (entAt T 1)) 0)) (lstC api_JobC (lget (entCs (entAt T 1)) 1)) (lstC intC (lget (entCs (entAt T 1)) 2)) (toI (lget (entCs (entAt T 1)) 3)) (toI (lget (entCs (entAt T 1)) 4)) (fun q0 => kf (lget [.bool q0] 0, [(0, .blk [.func 64 0 []]), (1, .blk [.int .i64 (toI (lget (entCs (entAt T 1)) 0)), slC api_JobC (lstC api_JobC (lget (entCs (entAt T 1)) 1)), slC intC (lstC intC (lget (entCs (entAt T 1)) 2)), .int .i64 (toI (lget (entCs (entAt T 1)) 3)), .int .i64 (toI (lget (entCs (entAt T 1)) 4))])]))) (by kernel_rfl : shaft_CheckWorks_2_run N args T kf = fnM E (shaft_CheckWorks_1_cal N) (shaft_CheckWorks_2_lp N) (noJn) 65 (shaft_CheckWorks_2_sp.vs args) (shaft_CheckWorks_2_sp.tab T) 2 (resK shaft_CheckWorks_2_rs kf)))
def slices_IndexFunc___int_int__L2 : LoopSp := ⟨⟨[0, 1, 7, 8], ⟨((rSl intC) :: (rFunc 65 0 [rPtr 0 0, rPtr 1 0]) :: (dr 5 ((rInt .i64) :: (rInt .i64) :: (dr 10 [])))), [(0, eBlk [rFunc 64 0 []]), (1, eBlk [rInt .i64, rSl api_JobC, rSl intC, rInt .i64, rInt .i64])]⟩, 2⟩, [(Option.none, ⟨[4], ⟨(dr 4 ((rInt .i64) :: (dr 14 []))), [(0, eBlk [rFunc 64 0 []]), (1, eBlk [rInt .i64, rSl api_JobC, rSl intC, rInt .i64, rInt .i64])]⟩, 2⟩), (some 0, ⟨[], ⟨(dr 19 []), [(0, eBlk [rFunc 64 0 []]), (1, eBlk [rInt .i64, rSl api_JobC, rSl intC, rInt .i64, rInt .i64])]⟩, 2⟩)]⟩
theorem slices_IndexFunc___int_int__L2_ok : slices_IndexFunc___int_int__L2.Ok := ⟨⟨(allCons (rSl_ok intC_ok) (allCons (rFunc_ok 65 0 (allCons (rPtr_ok 0 0) (allCons (rPtr_ok 1 0) allNil))) (drCons 5 (allCons (rInt_ok .i64) (allCons (rInt_ok .i64) (drCons 10 allNil)))))), (eCons (eBlk_ok (allCons (rFunc_ok 64 0 allNil) allNil)) (eCons (eBlk_ok (allCons (rInt_ok .i64) (allCons (rSl_ok api_JobC_ok) (allCons (rSl_ok intC_ok) (allCons (rInt_ok .i64) (allCons (rInt_ok .i64) allNil)))))) eNil))⟩, (xCons ⟨(drCons 4 (allCons (rInt_ok .i64) (drCons 14 allNil))), (eCons (eBlk_ok (allCons (rFunc_ok 64 0 allNil) allNil)) (eCons (eBlk_ok (allCons (rInt_ok .i64) (allCons (rSl_ok api_JobC_ok) (allCons (rSl_ok intC_ok) (allCons (rInt_ok .i64) (allCons (rInt_ok .i64) allNil)))))) eNil))⟩ (xCons ⟨(drCons 19 allNil), (eCons (eBlk_ok (allCons (rFunc_ok 64 0 allNil) allNil)) (eCons (eBlk_ok (allCons (rInt_ok .i64) (allCons (rSl_ok api_JobC_ok) (allCons (rSl_ok intC_ok) (allCons (rInt_ok .i64) (allCons (rInt_ok .i64) allNil)))))) eNil))⟩ xNil))⟩
def slices_IndexFunc___int_int__h2 (v573 : Arr Int) (v574 : Int) (v575 : Int) (v576 : Int) (v577 : Arr api_Job) (v578 : Arr Int) (v579 : Int) (v580 : Int) : St := ⟨((slC intC v573) :: (.func 65 0 [.ptr 0 0, .ptr 1 0]) :: (un 5 ((.int .i64 v574) :: (.int .i64 v575) :: (un 10 [])))), [(0, .blk [.func 64 0 []]), (1, .blk [.int .i64 v576, slC api_JobC v577, slC intC v578, .int .i64 v579, .int .i64 v580])], 2⟩
def slices_IndexFunc___int_int__x2_r (v576 : Int) (v577 : Arr api_Job) (v578 : Arr Int) (v579 : Int) (v580 : Int) (q0 : Int) : St := ⟨(un 4 ((.int .i64 q0) :: (un 14 []))), [(0, .blk [.func 64 0 []]), (1, .blk [.int .i64 v576, slC api_JobC v577, slC intC v578, .int .i64 v579, .int .i64 v580])], 2⟩
def slices_IndexFunc___int_int__x2_0 (v576 : Int) (v577 : Arr api_Job) (v578 : Arr Int) (v579 : Int) (v580 : Int) : St := ⟨(un 19 []), [(0, .blk [.func 64 0 []]), (1, .blk [.int .i64 v576, slC api_JobC v577, slC intC v578, .int .i64 v579, .int .i64 v580])], 2⟩
def slices_IndexFunc___int_int__b2 {R : Type} (N : Nat) (rc : Arr Int → Int → Int → Int → Arr api_Job → Arr Int → Int → Int → Option R) (v573 : Arr Int) (v574 : Int) (v575 : Int) (v576 : Int) (v577 : Arr api_Job) (v578 : Arr Int) (v579 : Int) (v580 : Int) (kr : Int → Option R) (k0 : Unit → Option R) : Option R :=
  bif decide (v575 < v574) then
   bif decide ((0 : Int) ≤ v575) && decide (v575 < (↑(Arr.n v573) : Int)) then
    shaft_CheckWorks_2 N (Arr.f v573 (Int.toNat v575)) v576 v577 v578 v579 v580 (fun r588 =>
    bif r588 then
     kr v575
    else
     rc v573 v574 (w64 (v575 + (1 : Int))) v576 v577 v578 v579 v580)
   else
    Option.none
  else
   k0 ()
def slices_IndexFunc___int_int__l2 {R : Type} (N : Nat) : Nat → Arr Int → Int → Int → Int → Arr api_Job → Arr Int → Int → Int → (Int → Option R) → (Unit → Option R) → Option R
  | 0, _, _, _, _, _, _, _, _, _, _ => Option.none
  | n + 1, v573, v574, v575, v576, v577, v578, v579, v580, kr, k0 => slices_IndexFunc___int_int__b2 N (fun v573 v574 v575 v576 v577 v578 v579 v580 => slices_IndexFunc___int_int__l2 N n v573 v574 v575 v576 v577 v578 v579 v580 kr k0) v573 v574 v575 v576 v577 v578 v579 v580 kr k0
def slices_IndexFunc___int_int__m {R : Type} (N : Nat) (a567 : Arr Int) (a568 : Int) (a569 : Arr api_Job) (a570 : Arr Int) (a571 : Int) (a572 : Int) (k : Int → Option R) : Option R :=
  slices_IndexFunc___int_int__l2 N N a567 ((↑(Arr.n a567) : Int)) (0 : Int) a568 a569 a570 a571 a572 (fun r589 =>
   k r589) (fun (_ : Unit) =>
   k (-1 : Int))
noncomputable def slices_IndexFunc___int_int_ {R : Type} : Nat → Arr Int → Int → Arr api_Job → Arr Int → Int → Int → (Int → Option R) → Option R := lock (@slices_IndexFunc___int_int__m R)
theorem slices_IndexFunc___int_int__def {R : Type} (N : Nat) (a567 : Arr Int) (a568 : Int) (a569 : Arr api_Job) (a570 : Arr Int) (a571 : Int) (a572 : Int) (k : Int → Option R) : slices_IndexFunc___int_int_ N a567 a568 a569 a570 a571 a572 k = slices_IndexFunc___int_int__m N a567 a568 a569 a570 a571 a572 k := by unfold slices_IndexFunc___int_int_; rw [lock_eq]
def slices_IndexFunc___int_int__sp : Sp := ⟨[rSl intC, rFunc 65 0 [rPtr 0 0, rPtr 1 0]], [(0, eBlk [rFunc 64 0 []]), (1, eBlk [rInt .i64, rSl api_JobC, rSl intC, rInt .i64, rInt .i64])]⟩
theorem slices_IndexFunc___int_int__sp_ok : slices_IndexFunc___int_int__sp.Ok := ⟨(allCons (rSl_ok intC_ok) (allCons (rFunc_ok 65 0 (allCons (rPtr_ok 0 0) (allCons (rPtr_ok 1 0) allNil))) allNil)), (eCons (eBlk_ok (allCons (rFunc_ok 64 0 allNil) allNil)) (eCons (eBlk_ok (allCons (rInt_ok .i64) (allCons (rSl_ok api_JobC_ok) (allCons (rSl_ok intC_ok) (allCons (rInt_ok .i64) (allCons (rInt_ok .i64) allNil)))))) eNil))⟩
def slices_IndexFunc___int_int__rs : Sp := ⟨[rInt .i64], [(0, eBlk [rFunc 64 0 []]), (1, eBlk [rInt .i64, rSl api_JobC, rSl intC, rInt .i64, rInt .i64])]⟩
theorem slices_IndexFunc___int_int__rs_ok : slices_IndexFunc___int_int__rs.Ok := ⟨(allCons (rInt_ok .i64) allNil), (eCons (eBlk_ok (allCons (rFunc_ok 64 0 allNil) allNil)) (eCons (eBlk_ok (allCons (rInt_ok .i64) (allCons (rSl_ok api_JobC_ok) (allCons (rSl_ok intC_ok) (allCons (rInt_ok .i64) (allCons (rInt_ok .i64) allNil)))))) eNil))⟩
def slices_IndexFunc___int_int__run {R : Type} (N : Nat) (args : List SV) (T : Tab) (kf : SV × Tab → Option R) : Option R :=
  slices_IndexFunc___int_int__m N (lstC intC (lget args 0)) (toI (lget (entCs (entAt T 1)) 0)) (lstC api_JobC (lget (entCs (entAt T 1)) 1)) (lstC intC (lget (entCs (entAt T 1)) 2)) (toI (lget (entCs (entAt T 1)) 3)) (toI (lget (entCs (entAt T 1)) 4)) (fun q0 => kf (lget [.int .i64 q0] 0, [(0, .blk [.func 64 0 []]), (1, .blk [.int .i64 (toI (lget (entCs (entAt T 1)) 0)), slC api_JobC (lstC api_JobC (lget (entCs (entAt T 1)) 1)), slC intC (lstC intC (lget (entCs (entAt T 1)) 2)), .int .i64 (toI (lget (entCs (entAt T 1)) 3)), .int .i64 (toI (lget (entCs (entAt T 1)) 4))])]))
def slices_IndexFunc___int_int__d2 {R : Type} (N : Nat) (S0 : St) (k : Exit → St → Option R) : Option R :=
  slices_IndexFunc___int_int__l2 N N (lstC intC (lget S0.tmps 0)) (toI (lget S0.tmps 7)) (toI (lget S0.tmps 8)) (toI (lget (entCs (entAt S0.tab 1)) 0)) (lstC api_JobC (lget (entCs (entAt S0.tab 1)) 1)) (lstC intC (lget (entCs (entAt S0.tab 1)) 2)) (toI (lget (entCs (entAt S0.tab 1)) 3)) (toI (lget (entCs (entAt S0.tab 1)) 4)) (fun q0 => k .ret (slices_IndexFunc___int_int__x2_r (toI (lget (entCs (entAt S0.tab 1)) 0)) (lstC api_JobC (lget (entCs (entAt S0.tab 1)) 1)) (lstC intC (lget (entCs (entAt S0.tab 1)) 2)) (toI (lget (entCs (entAt S0.tab 1)) 3)) (toI (lget (entCs (entAt S0.tab 1)) 4)) q0)) (fun (_ : Unit) => k (.exit 0) (slices_IndexFunc___int_int__x2_0 (toI (lget (entCs (entAt S0.tab 1)) 0)) (lstC api_JobC (lget (entCs (entAt S0.tab 1)) 1)) (lstC intC (lget (entCs (entAt S0.tab 1)) 2)) (toI (lget (entCs (entAt S0.tab 1)) 3)) (toI (lget (entCs (entAt S0.tab 1)) 4))))
def slices_IndexFunc___int_int__lp {R : Type} (N : Nat) : Lp R := fun body S k => bif (Go.Sx.keyOf body).getD 0 == 2 then (slices_IndexFunc___int_int__L2.head.raw 2 S (fun S0 => slices_IndexFunc___int_int__d2 N S0 k)) else Option.none
theorem slices_IndexFunc___int_int__l2_eq {R : Type} (N : Nat) (k : Exit → St → Option R) (n : Nat) : ∀ (v0 : Arr Int) (v1 : Int) (v2 : Int) (v3 : Int) (v4 : Arr api_Job) (v5 : Arr Int) (v6 : Int) (v7 : Int), loopM E.Θ (shaft_CheckWorks_2_cal N) (slices_IndexFunc___int_int__lp N) (noJn) 2 slices_IndexFunc___int_int__L2 (bodyAt E 78 2) n (slices_IndexFunc___int_int__h2 v0 v1 v2 v3 v4 v5 v6 v7) k = slices_IndexFunc___int_int__l2 N n v0 v1 v2 v3 v4 v5 v6 v7 (fun q0 => k .ret (slices_IndexFunc___int_int__x2_r v3 v4 v5 v6 v7 q0)) (fun (_ : Unit) => k (.exit 0) (slices_IndexFunc___int_int__x2_0 v3 v4 v5 v6 v7)) := by
  induction n with
  | zero => intro v0 v1 v2 v3 v4 v5 v6 v7; rfl
  | succ n ih =>
    intro v0 v1 v2 v3 v4 v5 v6 v7
    refine Eq.trans (b := slices_IndexFunc___int_int__b2 N (fun v0 v1 v2 v3 v4 v5 v6 v7 => loopM E.Θ (shaft_CheckWorks_2_cal N) (slices_IndexFunc___int_int__lp N) (noJn) 2 slices_IndexFunc___int_int__L2 (bodyAt E 78 2) n (slices_IndexFunc___int_int__h2 v0 v1 v2 v3 v4 v5 v6 v7) k) v0 v1 v2 v3 v4 v5 v6 v7 (fun q0 => k .ret (slices_IndexFunc___int_int__x2_r v3 v4 v5 v6 v7 q0)) (fun (_ : Unit) => k (.exit 0) (slices_IndexFunc___int_int__x2_0 v3 v4 v5 v6 v7))) (by kernel_rfl) ?_
    have h : (fun (v0 : Arr Int) (v1 : Int) (v2 : Int) (v3 : Int) (v4 : Arr api_Job) (v5 : Arr Int) (v6 : Int) (v7 : Int) => loopM E.Θ (shaft_CheckWorks_2_cal N) (slices_IndexFunc___int_int__lp N) (noJn) 2 slices_IndexFunc___int_int__L2 (bodyAt E 78 2) n (slices_IndexFunc___int_int__h2 v0 v1 v2 v3 v4 v5 v6 v7) k) = (fun (v0 : Arr Int) (v1 : Int) (v2 : Int) (v3 : Int) (v4 : Arr api_Job) (v5 : Arr Int) (v6 : Int) (v7 : Int) => slices_IndexFunc___int_int__l2 N n v0 v1 v2 v3 v4 v5 v6 v7 (fun q0 => k .ret (slices_IndexFunc___int_int__x2_r v3 v4 v5 v6 v7 q0)) (fun (_ : Unit) => k (.exit 0) (slices_IndexFunc___int_int__x2_0 v3 v4 v5 v6 v7))) := funext fun v0 => funext fun v1 => funext fun v2 => funext fun v3 => funext fun v4 => funext fun v5 => funext fun v6 => funext fun v7 => ih v0 v1 v2 v3 v4 v5 v6 v7
    rw [h]
    rfl
theorem slices_IndexFunc___int_int__k2 {R : Type} (N : Nat) : LpKey (R := R) E 78 2 (slices_IndexFunc___int_int__lp N) 2 :=
  lpKey_of hE (shaft_CheckWorks_2_cal_ok N) (lp := slices_IndexFunc___int_int__lp N) (jn := noJn) slices_IndexFunc___int_int__L2_ok [] kNil (by kernel_rfl) [] jNil (by kernel_rfl) N fun S k =>
    Eq.trans (b := slices_IndexFunc___int_int__L2.head.raw 2 S (fun S0 => slices_IndexFunc___int_int__d2 N S0 k)) (by kernel_rfl) (congrArg (slices_IndexFunc___int_int__L2.head.raw 2 S) (funext fun S0 => Eq.trans (slices_IndexFunc___int_int__l2_eq N k N (lstC intC (lget S0.tmps 0)) (toI (lget S0.tmps 7)) (toI (lget S0.tmps 8)) (toI (lget (entCs (entAt S0.tab 1)) 0)) (lstC api_JobC (lget (entCs (entAt S0.tab 1)) 1)) (lstC intC (lget (entCs (entAt S0.tab 1)) 2)) (toI (lget (entCs (entAt S0.tab 1)) 3)) (toI (lget (entCs (entAt S0.tab 1)) 4))).symm (by kernel_rfl)))
noncomputable def slices_IndexFunc___int_int__go {R : Type} (N : Nat) (args : List SV) (T : Tab) (kf : SV × Tab → Option R) : Option R :=
  slices_IndexFunc___int_int_ N (lstC intC (lget args 0)) (toI (lget (entCs (entAt T 1)) 0)) (lstC api_JobC (lget (entCs (entAt T 1)) 1)) (lstC intC (lget (entCs (entAt T 1)) 2)) (toI (lget (entCs (entAt T 1)) 3)) (toI (lget (entCs (entAt T 1)) 4)) (fun q0 => kf (lget [.int .i64 q0] 0, [(0, .blk [.func 64 0 []]), (1, .blk [.int .i64 (toI (lget (entCs (entAt T 1)) 0)), slC api_JobC (lstC api_JobC (lget (entCs (entAt T 1)) 1)), slC intC (lstC intC (lget (entCs (entAt T 1)) 2)), .int .i64 (toI (lget (entCs (entAt T 1)) 3)), .int .i64 (toI (lget (entCs (entAt T 1)) 4))])]))
noncomputable def slices_IndexFunc___int_int__cal {R : Type} (N : Nat) : Cal R := callM (shaft_CheckWorks_2_cal N) 78 2 slices_IndexFunc___int_int__sp (slices_IndexFunc___int_int__go N)
theorem slices_IndexFunc___int_int__cal_ok {R : Type} (N : Nat) : CalOk E.P (slices_IndexFunc___int_int__cal (R := R) N) :=
  callM_ok hE (shaft_CheckWorks_2_cal_ok N) (lp := slices_IndexFunc___int_int__lp N) (jn := noJn) (keys := [2]) (kCons (slices_IndexFunc___int_int__k2 N) kNil) (by kernel_rfl) (js := []) jNil (by kernel_rfl) slices_IndexFunc___int_int__sp_ok slices_IndexFunc___int_int__rs_ok (fun args T kf => Eq.trans (slices_IndexFunc___int_int__def N (lstC intC (lget args 0)) (toI (lget (entCs (entAt T 1)) 0)) (lstC api_JobC (lget (entCs (entAt T 1)) 1)) (lstC intC (lget (entCs (entAt T 1)) 2)) (toI (lget (entCs (entAt T 1)) 3)) (toI (lget (entCs (entAt T 1)) 4)) (fun q0 => kf (lget [.int .i64 q0] 0, [(0, .blk [.func 64 0 []]), (1, .blk [.int .i64 (toI (lget (entCs (entAt T 1)) 0)), slC api_JobC (lstC api_JobC (lget (entCs (entAt T 1)) 1)), slC intC (lstC intC (lget (entCs (entAt T 1)) 2)), .int .i64 (toI (lget (entCs (entAt T 1)) 3)), .int .i64 (toI (lget (entCs (entAt T 1)) 4))])]))) (by kernel_rfl : slices_IndexFunc___int_int__run N args T kf = fnM E (shaft_CheckWorks_2_cal N) (slices_IndexFunc___int_int__lp N) (noJn) 78 (slices_IndexFunc___int_int__sp.vs args) (slices_IndexFunc___int_int__sp.tab T) 2 (resK slices_IndexFunc___int_int__rs kf)))
def slices_ContainsFunc___int_int__m {R : Type} (N : Nat) (a561 : Arr Int) (a562 : Int) (a563 : Arr api_Job) (a564 : Arr Int) (a565 : Int) (a566 : Int) (k : Bool → Option R) : Option R :=
  slices_IndexFunc___int_int_ N a561 a562 a563 a564 a565 a566 (fun r590 =>
  k (decide (r590 ≥ (0 : Int))))
noncomputable def slices_ContainsFunc___int_int_ {R : Type} : Nat → Arr Int → Int → Arr api_Job → Arr Int → Int → Int → (Bool → Option R) → Option R := lock (@slices_ContainsFunc___int_int__m R)
theorem slices_ContainsFunc___int_int__def {R : Type} (N : Nat) (a561 : Arr Int) (a562 : Int) (a563 : Arr api_Job) (a564 : Arr Int) (a565 : Int) (a566 : Int) (k : Bool → Option R) : slices_ContainsFunc___int_int_ N a561 a562 a563 a564 a565 a566 k = slices_ContainsFunc___int_int__m N a561 a562 a563 a564 a565 a566 k := by unfold slices_ContainsFunc___int_int_; rw [lock_eq]
def slices_ContainsFunc___int_int__sp : Sp := ⟨[rSl intC, rFunc 65 0 [rPtr 0 0, rPtr 1 0]], [(0, eBlk [rFunc 64 0 []]), (1, eBlk [rInt .i64, rSl api_JobC, rSl intC, rInt .i64, rInt .i64])]⟩
theorem slices_ContainsFunc___int_int__sp_ok : slices_ContainsFunc___int_int__sp.Ok := ⟨(allCons (rSl_ok intC_ok) (allCons (rFunc_ok 65 0 (allCons (rPtr_ok 0 0) (allCons (rPtr_ok 1 0) allNil))) allNil)), (eCons (eBlk_ok (allCons (rFunc_ok 64 0 allNil) allNil)) (eCons (eBlk_ok (allCons (rInt_ok .i64) (allCons (rSl_ok api_JobC_ok) (allCons (rSl_ok intC_ok) (allCons (rInt_ok .i64) (allCons (rInt_ok .i64) allNil)))))) eNil))⟩
def slices_ContainsFunc___int_int__rs : Sp := ⟨[rBool], [(0, eBlk [rFunc 64 0 []]), (1, eBlk [rInt .i64, rSl api_JobC, rSl intC, rInt .i64, rInt .i64])]⟩
theorem slices_ContainsFunc___int_int__rs_ok : slices_ContainsFunc___int_int__rs.Ok := ⟨(allCons rBool_ok allNil), (eCons (eBlk_ok (allCons (rFunc_ok 64 0 allNil) allNil)) (eCons (eBlk_ok (allCons (rInt_ok .i64) (allCons (rSl_ok api_JobC_ok) (allCons (rSl_ok intC_ok) (allCons (rInt_ok .i64) (allCons (rInt_ok .i64) allNil)))))) eNil))⟩
def slices_ContainsFunc___int_int__run {R : Type} (N : Nat) (args : List SV) (T : Tab) (kf : SV × Tab → Option R) : Option R :=
  slices_ContainsFunc___int_int__m N (lstC intC (lget args 0)) (toI (lget (entCs (entAt T 1)) 0)) (lstC api_JobC (lget (entCs (entAt T 1)) 1)) (lstC intC (lget (entCs (entAt T 1)) 2)) (toI (lget (entCs (entAt T 1)) 3)) (toI (lget (entCs (entAt T 1)) 4)) (fun q0 => kf (lget [.bool q0] 0, [(0, .blk [.func 64 0 []]), (1, .blk [.int .i64 (toI (lget (entCs (entAt T 1)) 0)), slC api_JobC (lstC api_JobC (lget (entCs (entAt T 1)) 1)), slC intC (lstC intC (lget (entCs (entAt T 1)) 2)), .int .i64 (toI (lget (entCs (entAt T 1)) 3)), .int .i64 (toI (lget (entCs (entAt T 1)) 4))])]))
def slices_ContainsFunc___int_int__lp {R : Type} (N : Nat) : Lp R := fun body S k => Option.none
noncomputable def slices_ContainsFunc___int_int__go {R : Type} (N : Nat) (args : List SV) (T : Tab) (kf : SV × Tab → Option R) : Option R :=
  slices_ContainsFunc___int_int_ N (lstC intC (lget args 0)) (toI (lget (entCs (entAt T 1)) 0)) (lstC api_JobC (lget (entCs (entAt T 1)) 1)) (lstC intC (lget (entCs (entAt T 1)) 2)) (toI (lget (entCs (entAt T 1)) 3)) (toI (lget (entCs (entAt T 1)) 4)) (fun q0 => kf (lget [.bool q0] 0, [(0, .blk [.func 64 0 []]), (1, .blk [.int .i64 (toI (lget (entCs (entAt T 1)) 0)), slC api_JobC (lstC api_JobC (lget (entCs (entAt T 1)) 1)), slC intC (lstC intC (lget (entCs (entAt T 1)) 2)), .int .i64 (toI (lget (entCs (entAt T 1)) 3)), .int .i64 (toI (lget (entCs (entAt T 1)) 4))])]))
noncomputable def slices_ContainsFunc___int_int__cal {R : Type} (N : Nat) : Cal R := callM (slices_IndexFunc___int_int__cal N) 57 2 slices_ContainsFunc___int_int__sp (slices_ContainsFunc___int_int__go N)
theorem slices_ContainsFunc___int_int__cal_ok {R : Type} (N : Nat) : CalOk E.P (slices_ContainsFunc___int_int__cal (R := R) N) :=
  callM_ok hE (slices_IndexFunc___int_int__cal_ok N) (lp := slices_ContainsFunc___int_int__lp N) (jn := noJn) (keys := []) kNil (by kernel_rfl) (js := []) jNil (by kernel_rfl) slices_ContainsFunc___int_int__sp_ok slices_ContainsFunc___int_int__rs_ok (fun args T kf => Eq.trans (slices_ContainsFunc___int_int__def N (lstC intC (lget args 0)) (toI (lget (entCs (entAt T 1)) 0)) (lstC api_JobC (lget (entCs (entAt T 1)) 1)) (lstC intC (lget (entCs (entAt T 1)) 2)) (toI (lget (entCs (entAt T 1)) 3)) (toI (lget (entCs (entAt T 1)) 4)) (fun q0 => kf (lget [.bool q0] 0, [(0, .blk [.func 64 0 []]), (1, .blk [.int .i64 (toI (lget (entCs (entAt T 1)) 0)), slC api_JobC (lstC api_JobC (lget (entCs (entAt T 1)) 1)), slC intC (lstC intC (lget (entCs (entAt T 1)) 2)), .int .i64 (toI (lget (entCs (entAt T 1)) 3)), .int .i64 (toI (lget (entCs (entAt T 1)) 4))])]))) (by kernel_rfl : slices_ContainsFunc___int_int__run N args T kf = fnM E (slices_IndexFunc___int_int__cal N) (slices_ContainsFunc___int_int__lp N) (noJn) 57 (slices_ContainsFunc___int_int__sp.vs args) (slices_ContainsFunc___int_int__sp.tab T) 2 (resK slices_ContainsFunc___int_int__rs kf)))
def shaft_CheckWorks_L11 : LoopSp := ⟨⟨[1, 3, 4, 6, 43, 44, 45, 66, 67, 68], ⟨(dr 1 ((rPtr 0 0) :: (dr 1 ((rPtr 1 0) :: (rInt .i64) :: (dr 1 ((rInt .i64) :: (dr 36 ((rSl api_JobC) :: (rInt .i64) :: (rInt .i64) :: (dr 20 ((rSl intC) :: (rInt .i64) :: (rInt .i64) :: (dr 18 []))))))))))), [(0, eBlkC api_WorksC), (1, eBlk [rFunc 64 0 []])]⟩, 2⟩, [(Option.none, ⟨[2], ⟨(dr 2 ((rInt .i64) :: (dr 84 []))), []⟩, 0⟩), (some 2, ⟨[1, 3, 43, 44, 45], ⟨(dr 1 ((rPtr 0 0) :: (dr 1 ((rPtr 1 0) :: (dr 39 ((rSl api_JobC) :: (rInt .i64) :: (rInt .i64) :: (dr 41 []))))))), [(0, eBlkC api_WorksC), (1, eBlk [rFunc 64 0 []])]⟩, 2⟩)]⟩
theorem shaft_CheckWorks_L11_ok : shaft_CheckWorks_L11.Ok := ⟨⟨(drCons 1 (allCons (rPtr_ok 0 0) (drCons 1 (allCons (rPtr_ok 1 0) (allCons (rInt_ok .i64) (drCons 1 (allCons (rInt_ok .i64) (drCons 36 (allCons (rSl_ok api_JobC_ok) (allCons (rInt_ok .i64) (allCons (rInt_ok .i64) (drCons 20 (allCons (rSl_ok intC_ok) (allCons (rInt_ok .i64) (allCons (rInt_ok .i64) (drCons 18 allNil)))))))))))))))), (eCons (eBlkC_ok api_WorksC_ok api_WorksC_len) (eCons (eBlk_ok (allCons (rFunc_ok 64 0 allNil) allNil)) eNil))⟩, (xCons ⟨(drCons 2 (allCons (rInt_ok .i64) (drCons 84 allNil))), eNil⟩ (xCons ⟨(drCons 1 (allCons (rPtr_ok 0 0) (drCons 1 (allCons (rPtr_ok 1 0) (drCons 39 (allCons (rSl_ok api_JobC_ok) (allCons (rInt_ok .i64) (allCons (rInt_ok .i64) (drCons 41 allNil))))))))), (eCons (eBlkC_ok api_WorksC_ok api_WorksC_len) (eCons (eBlk_ok (allCons (rFunc_ok 64 0 allNil) allNil)) eNil))⟩ xNil))⟩
def shaft_CheckWorks_h11 (v549 : Int) (v550 : Int) (v551 : Arr api_Job) (v552 : Int) (v553 : Int) (v554 : Arr Int) (v555 : Int) (v556 : Int) (v557 : api_Works) : St := ⟨(un 1 ((.ptr 0 0) :: (un 1 ((.ptr 1 0) :: (.int .i64 v549) :: (un 1 ((.int .i64 v550) :: (un 36 ((slC api_JobC v551) :: (.int .i64 v552) :: (.int .i64 v553) :: (un 20 ((slC intC v554) :: (.int .i64 v555) :: (.int .i64 v556) :: (un 18 []))))))))))), [(0, .blk (Cod.enc api_WorksC v557)), (1, .blk [.func 64 0 []])], 2⟩
def shaft_CheckWorks_x11_r (q0 : Int) : St := ⟨(un 2 ((.int .i64 q0) :: (un 84 []))), [], 0⟩
def shaft_CheckWorks_x11_2 (v551 : Arr api_Job) (v552 : Int) (v553 : Int) (v557 : api_Works) : St := ⟨(un 1 ((.ptr 0 0) :: (un 1 ((.ptr 1 0) :: (un 39 ((slC api_JobC v551) :: (.int .i64 v552) :: (.int .i64 v553) :: (un 41 []))))))), [(0, .blk (Cod.enc api_WorksC v557)), (1, .blk [.func 64 0 []])], 2⟩
def shaft_CheckWorks_b11 {R : Type} (N : Nat) (rc : Int → Int → Arr api_Job → Int → Int → Arr Int → Int → Int → api_Works → Option R) (v549 : Int) (v550 : Int) (v551 : Arr api_Job) (v552 : Int) (v553 : Int) (v554 : Arr Int) (v555 : Int) (v556 : Int) (v557 : api_Works) (kr : Int → Option R) (k2 : Unit → Option R) : Option R :=
  bif decide (v556 < v555) then
   bif decide ((0 : Int) ≤ v556) && decide (v556 < (↑(Arr.n v554) : Int)) then
    shaft_CheckWorks_1 N (Arr.f v554 (Int.toNat v556)) v550 (w64 (v549 - (1 : Int))) (fun r558 =>
    bif !r558 then
     kr (92 : Int)
    else
     rc v549 (w64 (Arr.f v554 (Int.toNat v556) + (1 : Int))) v551 v552 v553 v554 v555 (w64 (v556 + (1 : Int))) v557)
   else
    Option.none
  else
   k2 ()
def shaft_CheckWorks_l11 {R : Type} (N : Nat) : Nat → Int → Int → Arr api_Job → Int → Int → Arr Int → Int → Int → api_Works → (Int → Option R) → (Unit → Option R) → Option R
  | 0, _, _, _, _, _, _, _, _, _, _, _ => Option.none
  | n + 1, v549, v550, v551, v552, v553, v554, v555, v556, v557, kr, k2 => shaft_CheckWorks_b11 N (fun v549 v550 v551 v552 v553 v554 v555 v556 v557 => shaft_CheckWorks_l11 N n v549 v550 v551 v552 v553 v554 v555 v556 v557 kr k2) v549 v550 v551 v552 v553 v554 v555 v556 v557 kr k2
def shaft_CheckWorks_L5 : LoopSp := ⟨⟨[1, 3, 43, 44, 45], ⟨(dr 1 ((rPtr 0 0) :: (dr 1 ((rPtr 1 0) :: (dr 39 ((rSl api_JobC) :: (rInt .i64) :: (rInt .i64) :: (dr 41 []))))))), [(0, eBlkC api_WorksC), (1, eBlk [rFunc 64 0 []])]⟩, 2⟩, [(Option.none, ⟨[2], ⟨(dr 2 ((rInt .i64) :: (dr 84 []))), []⟩, 0⟩), (some 0, ⟨[1, 3], ⟨(dr 1 ((rPtr 0 0) :: (dr 1 ((rPtr 1 0) :: (dr 83 []))))), [(0, eBlkC api_WorksC), (1, eBlk [rFunc 64 0 []])]⟩, 2⟩)]⟩
theorem shaft_CheckWorks_L5_ok : shaft_CheckWorks_L5.Ok := ⟨⟨(drCons 1 (allCons (rPtr_ok 0 0) (drCons 1 (allCons (rPtr_ok 1 0) (drCons 39 (allCons (rSl_ok api_JobC_ok) (allCons (rInt_ok .i64) (allCons (rInt_ok .i64) (drCons 41 allNil))))))))), (eCons (eBlkC_ok api_WorksC_ok api_WorksC_len) (eCons (eBlk_ok (allCons (rFunc_ok 64 0 allNil) allNil)) eNil))⟩, (xCons ⟨(drCons 2 (allCons (rInt_ok .i64) (drCons 84 allNil))), eNil⟩ (xCons ⟨(drCons 1 (allCons (rPtr_ok 0 0) (drCons 1 (allCons (rPtr_ok 1 0) (drCons 83 allNil))))), (eCons (eBlkC_ok api_WorksC_ok api_WorksC_len) (eCons (eBlk_ok (allCons (rFunc_ok 64 0 allNil) allNil)) eNil))⟩ xNil))⟩
def shaft_CheckWorks_h5 (v543 : Arr api_Job) (v544 : Int) (v545 : Int) (v546 : api_Works) : St := ⟨(un 1 ((.ptr 0 0) :: (un 1 ((.ptr 1 0) :: (un 39 ((slC api_JobC v543) :: (.int .i64 v544) :: (.int .i64 v545) :: (un 41 []))))))), [(0, .blk (Cod.enc api_WorksC v546)), (1, .blk [.func 64 0 []])], 2⟩
def shaft_CheckWorks_x5_r (q0 : Int) : St := ⟨(un 2 ((.int .i64 q0) :: (un 84 []))), [], 0⟩
def shaft_CheckWorks_x5_0 (v546 : api_Works) : St := ⟨(un 1 ((.ptr 0 0) :: (un 1 ((.ptr 1 0) :: (un 83 []))))), [(0, .blk (Cod.enc api_WorksC v546)), (1, .blk [.func 64 0 []])], 2⟩
def shaft_CheckWorks_b5 {R : Type} (N : Nat) (rc : Arr api_Job → Int → Int → api_Works → Option R) (v543 : Arr api_Job) (v544 : Int) (v545 : Int) (v546 : api_Works) (kr : Int → Option R) (k0 : Unit → Option R) : Option R :=
  bif decide (v545 < v544) then
   bif decide ((0 : Int) ≤ v545) && decide (v545 < (↑(Arr.n v543) : Int)) then
    shaft_CheckWorks_1 N (api_Job.Machine (Arr.f v543 (Int.toNat v545))) (0 : Int) (w64 (api_Works.Machines v546 - (1 : Int))) (fun r547 =>
    bif !r547 then
     kr (92 : Int)
    else
     shaft_CheckWorks_1 N (api_Job.Nights (Arr.f v543 (Int.toNat v545))) (1 : Int) (24 : Int) (fun r548 =>
     bif !r548 then
      kr (92 : Int)
     else
      shaft_CheckWorks_l11 N N v545 (0 : Int) v543 v544 v545 (api_Job.After (Arr.f v543 (Int.toNat v545))) ((↑(Arr.n (api_Job.After (Arr.f v543 (Int.toNat v545)))) : Int)) (0 : Int) v546 (fun r559 =>
       kr r559) (fun (_ : Unit) =>
       rc v543 v544 (w64 (v545 + (1 : Int))) v546)))
   else
    Option.none
  else
   k0 ()
def shaft_CheckWorks_l5 {R : Type} (N : Nat) : Nat → Arr api_Job → Int → Int → api_Works → (Int → Option R) → (Unit → Option R) → Option R
  | 0, _, _, _, _, _, _ => Option.none
  | n + 1, v543, v544, v545, v546, kr, k0 => shaft_CheckWorks_b5 N (fun v543 v544 v545 v546 => shaft_CheckWorks_l5 N n v543 v544 v545 v546 kr k0) v543 v544 v545 v546 kr k0
def shaft_CheckWorks_m {R : Type} (N : Nat) (a535 : api_Works) (k : Int → Option R) : Option R :=
  shaft_CheckWorks_1 N (api_Works.Machines a535) (1 : Int) (12 : Int) (fun r539 =>
  bif !r539 then
   k (92 : Int)
  else
   shaft_CheckWorks_1 N ((↑(Arr.n (api_Works.Jobs a535)) : Int)) (1 : Int) (6 : Int) (fun r540 =>
   bif !r540 then
    k (92 : Int)
   else
    bif decide ((↑(Arr.n (api_Works.Never a535)) : Int) > (20 : Int)) then
     k (92 : Int)
    else
     shaft_CheckWorks_1 N (api_Works.Crews a535) (1 : Int) (6 : Int) (fun r541 =>
     bif !r541 then
      k (92 : Int)
     else
      shaft_CheckWorks_1 N (api_Works.Until a535) (1 : Int) (24 : Int) (fun r542 =>
      bif !r542 then
       k (92 : Int)
      else
       shaft_CheckWorks_l5 N N (api_Works.Jobs a535) ((↑(Arr.n (api_Works.Jobs a535)) : Int)) (0 : Int) a535 (fun r560 =>
        k r560) (fun (_ : Unit) =>
        slices_ContainsFunc___int_int_ N (api_Works.Never a535) (api_Works.Machines a535) (api_Works.Jobs a535) (api_Works.Never a535) (api_Works.Crews a535) (api_Works.Until a535) (fun r591 =>
        bif r591 then
         k (92 : Int)
        else
         k (0 : Int)))))))
noncomputable def shaft_CheckWorks {R : Type} : Nat → api_Works → (Int → Option R) → Option R := lock (@shaft_CheckWorks_m R)
theorem shaft_CheckWorks_def {R : Type} (N : Nat) (a535 : api_Works) (k : Int → Option R) : shaft_CheckWorks N a535 k = shaft_CheckWorks_m N a535 k := by unfold shaft_CheckWorks; rw [lock_eq]
def shaft_CheckWorks_sp : Sp := ⟨[rAgg api_WorksC], []⟩
theorem shaft_CheckWorks_sp_ok : shaft_CheckWorks_sp.Ok := ⟨(allCons (rAgg_ok api_WorksC_ok api_WorksC_len) allNil), eNil⟩
def shaft_CheckWorks_rs : Sp := ⟨[rInt .i64], []⟩
theorem shaft_CheckWorks_rs_ok : shaft_CheckWorks_rs.Ok := ⟨(allCons (rInt_ok .i64) allNil), eNil⟩
def shaft_CheckWorks_run {R : Type} (N : Nat) (args : List SV) (T : Tab) (kf : SV × Tab → Option R) : Option R :=
  shaft_CheckWorks_m N (Cod.dec api_WorksC (lget (toCs (lget args 0)))) (fun q0 => kf (lget [.int .i64 q0] 0, []))
def shaft_CheckWorks_d11 {R : Type} (N : Nat) (S0 : St) (k : Exit → St → Option R) : Option R :=
  shaft_CheckWorks_l11 N N (toI (lget S0.tmps 4)) (toI (lget S0.tmps 6)) (lstC api_JobC (lget S0.tmps 43)) (toI (lget S0.tmps 44)) (toI (lget S0.tmps 45)) (lstC intC (lget S0.tmps 66)) (toI (lget S0.tmps 67)) (toI (lget S0.tmps 68)) (Cod.dec api_WorksC (lget (entCs (entAt S0.tab 0)))) (fun q0 => k .ret (shaft_CheckWorks_x11_r q0)) (fun (_ : Unit) => k (.exit 2) (shaft_CheckWorks_x11_2 (lstC api_JobC (lget S0.tmps 43)) (toI (lget S0.tmps 44)) (toI (lget S0.tmps 45)) (Cod.dec api_WorksC (lget (entCs (entAt S0.tab 0))))))
def shaft_CheckWorks_d5 {R : Type} (N : Nat) (S0 : St) (k : Exit → St → Option R) : Option R :=
  shaft_CheckWorks_l5 N N (lstC api_JobC (lget S0.tmps 43)) (toI (lget S0.tmps 44)) (toI (lget S0.tmps 45)) (Cod.dec api_WorksC (lget (entCs (entAt S0.tab 0)))) (fun q0 => k .ret (shaft_CheckWorks_x5_r q0)) (fun (_ : Unit) => k (.exit 0) (shaft_CheckWorks_x5_0 (Cod.dec api_WorksC (lget (entCs (entAt S0.tab 0))))))
def shaft_CheckWorks_lp {R : Type} (N : Nat) : Lp R := fun body S k => bif (Go.Sx.keyOf body).getD 0 == 5 then (shaft_CheckWorks_L5.head.raw 0 S (fun S0 => shaft_CheckWorks_d5 N S0 k)) else bif (Go.Sx.keyOf body).getD 0 == 11 then (shaft_CheckWorks_L11.head.raw 0 S (fun S0 => shaft_CheckWorks_d11 N S0 k)) else Option.none
theorem shaft_CheckWorks_l5_eq {R : Type} (N : Nat) (k : Exit → St → Option R) (n : Nat) : ∀ (v0 : Arr api_Job) (v1 : Int) (v2 : Int) (v3 : api_Works), loopM E.Θ (slices_ContainsFunc___int_int__cal N) (shaft_CheckWorks_lp N) (noJn) 0 shaft_CheckWorks_L5 (bodyAt E 41 5) n (shaft_CheckWorks_h5 v0 v1 v2 v3) k = shaft_CheckWorks_l5 N n v0 v1 v2 v3 (fun q0 => k .ret (shaft_CheckWorks_x5_r q0)) (fun (_ : Unit) => k (.exit 0) (shaft_CheckWorks_x5_0 v3)) := by
  induction n with
  | zero => intro v0 v1 v2 v3; rfl
  | succ n ih =>
    intro v0 v1 v2 v3
    refine Eq.trans (b := shaft_CheckWorks_b5 N (fun v0 v1 v2 v3 => loopM E.Θ (slices_ContainsFunc___int_int__cal N) (shaft_CheckWorks_lp N) (noJn) 0 shaft_CheckWorks_L5 (bodyAt E 41 5) n (shaft_CheckWorks_h5 v0 v1 v2 v3) k) v0 v1 v2 v3 (fun q0 => k .ret (shaft_CheckWorks_x5_r q0)) (fun (_ : Unit) => k (.exit 0) (shaft_CheckWorks_x5_0 v3))) (by kernel_rfl) ?_
    have h : (fun (v0 : Arr api_Job) (v1 : Int) (v2 : Int) (v3 : api_Works) => loopM E.Θ (slices_ContainsFunc___int_int__cal N) (shaft_CheckWorks_lp N) (noJn) 0 shaft_CheckWorks_L5 (bodyAt E 41 5) n (shaft_CheckWorks_h5 v0 v1 v2 v3) k) = (fun (v0 : Arr api_Job) (v1 : Int) (v2 : Int) (v3 : api_Works) => shaft_CheckWorks_l5 N n v0 v1 v2 v3 (fun q0 => k .ret (shaft_CheckWorks_x5_r q0)) (fun (_ : Unit) => k (.exit 0) (shaft_CheckWorks_x5_0 v3))) := funext fun v0 => funext fun v1 => funext fun v2 => funext fun v3 => ih v0 v1 v2 v3
    rw [h]
    rfl
theorem shaft_CheckWorks_l11_eq {R : Type} (N : Nat) (k : Exit → St → Option R) (n : Nat) : ∀ (v0 : Int) (v1 : Int) (v2 : Arr api_Job) (v3 : Int) (v4 : Int) (v5 : Arr Int) (v6 : Int) (v7 : Int) (v8 : api_Works), loopM E.Θ (slices_ContainsFunc___int_int__cal N) (shaft_CheckWorks_lp N) (noJn) 0 shaft_CheckWorks_L11 (bodyAt E 41 11) n (shaft_CheckWorks_h11 v0 v1 v2 v3 v4 v5 v6 v7 v8) k = shaft_CheckWorks_l11 N n v0 v1 v2 v3 v4 v5 v6 v7 v8 (fun q0 => k .ret (shaft_CheckWorks_x11_r q0)) (fun (_ : Unit) => k (.exit 2) (shaft_CheckWorks_x11_2 v2 v3 v4 v8)) := by
  induction n with
  | zero => intro v0 v1 v2 v3 v4 v5 v6 v7 v8; rfl
  | succ n ih =>
    intro v0 v1 v2 v3 v4 v5 v6 v7 v8
    refine Eq.trans (b := shaft_CheckWorks_b11 N (fun v0 v1 v2 v3 v4 v5 v6 v7 v8 => loopM E.Θ (slices_ContainsFunc___int_int__cal N) (shaft_CheckWorks_lp N) (noJn) 0 shaft_CheckWorks_L11 (bodyAt E 41 11) n (shaft_CheckWorks_h11 v0 v1 v2 v3 v4 v5 v6 v7 v8) k) v0 v1 v2 v3 v4 v5 v6 v7 v8 (fun q0 => k .ret (shaft_CheckWorks_x11_r q0)) (fun (_ : Unit) => k (.exit 2) (shaft_CheckWorks_x11_2 v2 v3 v4 v8))) (by kernel_rfl) ?_
    have h : (fun (v0 : Int) (v1 : Int) (v2 : Arr api_Job) (v3 : Int) (v4 : Int) (v5 : Arr Int) (v6 : Int) (v7 : Int) (v8 : api_Works) => loopM E.Θ (slices_ContainsFunc___int_int__cal N) (shaft_CheckWorks_lp N) (noJn) 0 shaft_CheckWorks_L11 (bodyAt E 41 11) n (shaft_CheckWorks_h11 v0 v1 v2 v3 v4 v5 v6 v7 v8) k) = (fun (v0 : Int) (v1 : Int) (v2 : Arr api_Job) (v3 : Int) (v4 : Int) (v5 : Arr Int) (v6 : Int) (v7 : Int) (v8 : api_Works) => shaft_CheckWorks_l11 N n v0 v1 v2 v3 v4 v5 v6 v7 v8 (fun q0 => k .ret (shaft_CheckWorks_x11_r q0)) (fun (_ : Unit) => k (.exit 2) (shaft_CheckWorks_x11_2 v2 v3 v4 v8))) := funext fun v0 => funext fun v1 => funext fun v2 => funext fun v3 => funext fun v4 => funext fun v5 => funext fun v6 => funext fun v7 => funext fun v8 => ih v0 v1 v2 v3 v4 v5 v6 v7 v8
    rw [h]
    rfl
theorem shaft_CheckWorks_k11 {R : Type} (N : Nat) : LpKey (R := R) E 41 0 (shaft_CheckWorks_lp N) 11 :=
  lpKey_of hE (slices_ContainsFunc___int_int__cal_ok N) (lp := shaft_CheckWorks_lp N) (jn := noJn) shaft_CheckWorks_L11_ok [] kNil (by kernel_rfl) [] jNil (by kernel_rfl) N fun S k =>
    Eq.trans (b := shaft_CheckWorks_L11.head.raw 0 S (fun S0 => shaft_CheckWorks_d11 N S0 k)) (by kernel_rfl) (congrArg (shaft_CheckWorks_L11.head.raw 0 S) (funext fun S0 => Eq.trans (shaft_CheckWorks_l11_eq N k N (toI (lget S0.tmps 4)) (toI (lget S0.tmps 6)) (lstC api_JobC (lget S0.tmps 43)) (toI (lget S0.tmps 44)) (toI (lget S0.tmps 45)) (lstC intC (lget S0.tmps 66)) (toI (lget S0.tmps 67)) (toI (lget S0.tmps 68)) (Cod.dec api_WorksC (lget (entCs (entAt S0.tab 0))))).symm (by kernel_rfl)))
theorem shaft_CheckWorks_k5 {R : Type} (N : Nat) : LpKey (R := R) E 41 0 (shaft_CheckWorks_lp N) 5 :=
  lpKey_of hE (slices_ContainsFunc___int_int__cal_ok N) (lp := shaft_CheckWorks_lp N) (jn := noJn) shaft_CheckWorks_L5_ok [11] (kCons (shaft_CheckWorks_k11 N) kNil) (by kernel_rfl) [] jNil (by kernel_rfl) N fun S k =>
    Eq.trans (b := shaft_CheckWorks_L5.head.raw 0 S (fun S0 => shaft_CheckWorks_d5 N S0 k)) (by kernel_rfl) (congrArg (shaft_CheckWorks_L5.head.raw 0 S) (funext fun S0 => Eq.trans (shaft_CheckWorks_l5_eq N k N (lstC api_JobC (lget S0.tmps 43)) (toI (lget S0.tmps 44)) (toI (lget S0.tmps 45)) (Cod.dec api_WorksC (lget (entCs (entAt S0.tab 0))))).symm (by kernel_rfl)))
noncomputable def shaft_CheckWorks_go {R : Type} (N : Nat) (args : List SV) (T : Tab) (kf : SV × Tab → Option R) : Option R :=
  shaft_CheckWorks N (Cod.dec api_WorksC (lget (toCs (lget args 0)))) (fun q0 => kf (lget [.int .i64 q0] 0, []))
noncomputable def shaft_CheckWorks_cal {R : Type} (N : Nat) : Cal R := callM (slices_ContainsFunc___int_int__cal N) 41 0 shaft_CheckWorks_sp (shaft_CheckWorks_go N)
theorem shaft_CheckWorks_cal_ok {R : Type} (N : Nat) : CalOk E.P (shaft_CheckWorks_cal (R := R) N) :=
  callM_ok hE (slices_ContainsFunc___int_int__cal_ok N) (lp := shaft_CheckWorks_lp N) (jn := noJn) (keys := [5, 11]) (kCons (shaft_CheckWorks_k5 N) (kCons (shaft_CheckWorks_k11 N) kNil)) (by kernel_rfl) (js := []) jNil (by kernel_rfl) shaft_CheckWorks_sp_ok shaft_CheckWorks_rs_ok (fun args T kf => Eq.trans (shaft_CheckWorks_def N (Cod.dec api_WorksC (lget (toCs (lget args 0)))) (fun q0 => kf (lget [.int .i64 q0] 0, []))) (by kernel_rfl : shaft_CheckWorks_run N args T kf = fnM E (slices_ContainsFunc___int_int__cal N) (shaft_CheckWorks_lp N) (noJn) 41 (shaft_CheckWorks_sp.vs args) (shaft_CheckWorks_sp.tab T) 0 (resK shaft_CheckWorks_rs kf)))
end
end Go.Proofs.YtckkodiefpdmhaaDoor
