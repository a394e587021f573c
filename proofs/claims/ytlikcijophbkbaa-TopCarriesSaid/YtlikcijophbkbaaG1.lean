import Derived.Test.YtlikcijophbkbaaCod
import Derived.Test.YtlikcijophbkbaaSxRun
set_option maxRecDepth 100000
set_option maxHeartbeats 0
set_option linter.unusedVariables false
namespace Go.Proofs.Ytlikcijophbkbaa
open Go.Sx
noncomputable section
def newelref06_within_m {R : Type} (N : Nat) (a0 : Int) (a1 : Int) (a2 : Int) (k : Bool → Option R) : Option R :=
  bif decide (a0 ≥ a1) then
   k (decide (a0 ≤ a2))
  else
   k false
noncomputable def newelref06_within {R : Type} : Nat → Int → Int → Int → (Bool → Option R) → Option R := lock (@newelref06_within_m R)
theorem newelref06_within_def {R : Type} (N : Nat) (a0 : Int) (a1 : Int) (a2 : Int) (k : Bool → Option R) : newelref06_within N a0 a1 a2 k = newelref06_within_m N a0 a1 a2 k := by unfold newelref06_within; rw [lock_eq]
def newelref06_within_sp : Sp := ⟨[rInt .i64, rInt .i64, rInt .i64], []⟩
theorem newelref06_within_sp_ok : newelref06_within_sp.Ok := ⟨(allCons (rInt_ok .i64) (allCons (rInt_ok .i64) (allCons (rInt_ok .i64) allNil))), eNil⟩
def newelref06_within_rs : Sp := ⟨[rBool], []⟩
theorem newelref06_within_rs_ok : newelref06_within_rs.Ok := ⟨(allCons rBool_ok allNil), eNil⟩
def newelref06_within_run {R : Type} (N : Nat) (args : List SV) (T : Tab) (kf : SV × Tab → Option R) : Option R :=
  newelref06_within_m N (toI (lget args 0)) (toI (lget args 1)) (toI (lget args 2)) (fun q0 => kf (lget [.bool q0] 0, []))
def newelref06_within_lp {R : Type} (N : Nat) : Lp R := fun body S k => Option.none
noncomputable def newelref06_within_go {R : Type} (N : Nat) (args : List SV) (T : Tab) (kf : SV × Tab → Option R) : Option R :=
  newelref06_within N (toI (lget args 0)) (toI (lget args 1)) (toI (lget args 2)) (fun q0 => kf (lget [.bool q0] 0, []))
noncomputable def newelref06_within_cal {R : Type} (N : Nat) : Cal R := callM (noCal E) 25 0 newelref06_within_sp (newelref06_within_go N)
theorem newelref06_within_cal_ok {R : Type} (N : Nat) : CalOk E.P (newelref06_within_cal (R := R) N) :=
  callM_ok hE (noCal_ok E) (lp := newelref06_within_lp N) (jn := noJn) (keys := []) kNil (by kernel_rfl) (js := []) jNil (by kernel_rfl) newelref06_within_sp_ok newelref06_within_rs_ok (fun args T kf => Eq.trans (newelref06_within_def N (toI (lget args 0)) (toI (lget args 1)) (toI (lget args 2)) (fun q0 => kf (lget [.bool q0] 0, []))) (by kernel_rfl : newelref06_within_run N args T kf = fnM E (noCal E) (newelref06_within_lp N) (noJn) 25 (newelref06_within_sp.vs args) (newelref06_within_sp.tab T) 0 (resK newelref06_within_rs kf)))
def newelref06_spanned_m {R : Type} (N : Nat) (a3 : api_Span) (a4 : Int) (a5 : Int) (k : Bool → Option R) : Option R :=
  bif decide (api_Span.Low a3 ≥ a4) then
   bif decide (api_Span.Low a3 ≤ api_Span.High a3) then
    k (decide (api_Span.High a3 ≤ a5))
   else
    k false
  else
   k false
noncomputable def newelref06_spanned {R : Type} : Nat → api_Span → Int → Int → (Bool → Option R) → Option R := lock (@newelref06_spanned_m R)
theorem newelref06_spanned_def {R : Type} (N : Nat) (a3 : api_Span) (a4 : Int) (a5 : Int) (k : Bool → Option R) : newelref06_spanned N a3 a4 a5 k = newelref06_spanned_m N a3 a4 a5 k := by unfold newelref06_spanned; rw [lock_eq]
def newelref06_spanned_sp : Sp := ⟨[rAgg api_SpanC, rInt .i64, rInt .i64], []⟩
theorem newelref06_spanned_sp_ok : newelref06_spanned_sp.Ok := ⟨(allCons (rAgg_ok api_SpanC_ok api_SpanC_len) (allCons (rInt_ok .i64) (allCons (rInt_ok .i64) allNil))), eNil⟩
def newelref06_spanned_rs : Sp := ⟨[rBool], []⟩
theorem newelref06_spanned_rs_ok : newelref06_spanned_rs.Ok := ⟨(allCons rBool_ok allNil), eNil⟩
def newelref06_spanned_run {R : Type} (N : Nat) (args : List SV) (T : Tab) (kf : SV × Tab → Option R) : Option R :=
  newelref06_spanned_m N (Cod.dec api_SpanC (lget (toCs (lget args 0)))) (toI (lget args 1)) (toI (lget args 2)) (fun q0 => kf (lget [.bool q0] 0, []))
def newelref06_spanned_lp {R : Type} (N : Nat) : Lp R := fun body S k => Option.none
noncomputable def newelref06_spanned_go {R : Type} (N : Nat) (args : List SV) (T : Tab) (kf : SV × Tab → Option R) : Option R :=
  newelref06_spanned N (Cod.dec api_SpanC (lget (toCs (lget args 0)))) (toI (lget args 1)) (toI (lget args 2)) (fun q0 => kf (lget [.bool q0] 0, []))
noncomputable def newelref06_spanned_cal {R : Type} (N : Nat) : Cal R := callM (newelref06_within_cal N) 26 0 newelref06_spanned_sp (newelref06_spanned_go N)
theorem newelref06_spanned_cal_ok {R : Type} (N : Nat) : CalOk E.P (newelref06_spanned_cal (R := R) N) :=
  callM_ok hE (newelref06_within_cal_ok N) (lp := newelref06_spanned_lp N) (jn := noJn) (keys := []) kNil (by kernel_rfl) (js := []) jNil (by kernel_rfl) newelref06_spanned_sp_ok newelref06_spanned_rs_ok (fun args T kf => Eq.trans (newelref06_spanned_def N (Cod.dec api_SpanC (lget (toCs (lget args 0)))) (toI (lget args 1)) (toI (lget args 2)) (fun q0 => kf (lget [.bool q0] 0, []))) (by kernel_rfl : newelref06_spanned_run N args T kf = fnM E (newelref06_within_cal N) (newelref06_spanned_lp N) (noJn) 26 (newelref06_spanned_sp.vs args) (newelref06_spanned_sp.tab T) 0 (resK newelref06_spanned_rs kf)))
def newelref06_Check_L5 : LoopSp := ⟨⟨[1, 3, 4], ⟨(dr 1 ((rPtr 0 0) :: (dr 1 ((rInt .i64) :: (rInt .i64) :: (dr 183 []))))), [(0, eBlkC api_HallC)]⟩, 1⟩, [(Option.none, ⟨[2], ⟨(dr 2 ((rInt .i64) :: (dr 185 []))), []⟩, 0⟩), (some 0, ⟨[1, 3], ⟨(dr 1 ((rPtr 0 0) :: (dr 1 ((rInt .i64) :: (dr 184 []))))), [(0, eBlkC api_HallC)]⟩, 1⟩)]⟩
theorem newelref06_Check_L5_ok : newelref06_Check_L5.Ok := ⟨⟨(drCons 1 (allCons (rPtr_ok 0 0) (drCons 1 (allCons (rInt_ok .i64) (allCons (rInt_ok .i64) (drCons 183 allNil)))))), (eCons (eBlkC_ok api_HallC_ok api_HallC_len) eNil)⟩, (xCons ⟨(drCons 2 (allCons (rInt_ok .i64) (drCons 185 allNil))), eNil⟩ (xCons ⟨(drCons 1 (allCons (rPtr_ok 0 0) (drCons 1 (allCons (rInt_ok .i64) (drCons 184 allNil))))), (eCons (eBlkC_ok api_HallC_ok api_HallC_len) eNil)⟩ xNil))⟩
def newelref06_Check_h5 (v9 : Int) (v10 : Int) (v11 : api_Hall) : St := ⟨(un 1 ((.ptr 0 0) :: (un 1 ((.int .i64 v9) :: (.int .i64 v10) :: (un 183 []))))), [(0, .blk (Cod.enc api_HallC v11))], 1⟩
def newelref06_Check_x5_r (q0 : Int) : St := ⟨(un 2 ((.int .i64 q0) :: (un 185 []))), [], 0⟩
def newelref06_Check_x5_0 (v9 : Int) (v11 : api_Hall) : St := ⟨(un 1 ((.ptr 0 0) :: (un 1 ((.int .i64 v9) :: (un 184 []))))), [(0, .blk (Cod.enc api_HallC v11))], 1⟩
def newelref06_Check_b5 {R : Type} (N : Nat) (rc : Int → Int → api_Hall → Option R) (v9 : Int) (v10 : Int) (v11 : api_Hall) (kr : Int → Option R) (k0 : Unit → Option R) : Option R :=
  bif decide (v10 < v9) then
   bif decide ((0 : Int) ≤ v10) && decide (v10 < (↑(Arr.n (api_Hall.Combs v11)) : Int)) then
    newelref06_within N (api_Comb.Rate (Arr.f (api_Hall.Combs v11) (Int.toNat v10))) (0 : Int) (1000 : Int) (fun r12 =>
    bif !r12 then
     kr (60 : Int)
    else
     newelref06_within N (api_Comb.Limit (Arr.f (api_Hall.Combs v11) (Int.toNat v10))) (0 : Int) (100000 : Int) (fun r13 =>
     bif !r13 then
      kr (60 : Int)
     else
      bif api_Comb.Next (Arr.f (api_Hall.Combs v11) (Int.toNat v10)) != (-1 : Int) then
       newelref06_within N (api_Comb.Next (Arr.f (api_Hall.Combs v11) (Int.toNat v10))) (w64 (v10 + (1 : Int))) (w64 (v9 - (1 : Int))) (fun r14 =>
       bif !r14 then
        kr (60 : Int)
       else
        newelref06_spanned N (api_Comb.Walk (Arr.f (api_Hall.Combs v11) (Int.toNat v10))) (1 : Int) (20 : Int) (fun r15 =>
        bif !r15 then
         kr (60 : Int)
        else
         rc v9 (w64 (v10 + (1 : Int))) v11))
      else
       newelref06_spanned N (api_Comb.Walk (Arr.f (api_Hall.Combs v11) (Int.toNat v10))) (1 : Int) (20 : Int) (fun r16 =>
       bif !r16 then
        kr (60 : Int)
       else
        rc v9 (w64 (v10 + (1 : Int))) v11)))
   else
    Option.none
  else
   k0 ()
def newelref06_Check_l5 {R : Type} (N : Nat) : Nat → Int → Int → api_Hall → (Int → Option R) → (Unit → Option R) → Option R
  | 0, _, _, _, _, _ => Option.none
  | n + 1, v9, v10, v11, kr, k0 => newelref06_Check_b5 N (fun v9 v10 v11 => newelref06_Check_l5 N n v9 v10 v11 kr k0) v9 v10 v11 kr k0
def newelref06_Check_L18 : LoopSp := ⟨⟨[1, 3, 6, 7, 8, 9], ⟨(dr 1 ((rPtr 0 0) :: (dr 1 ((rInt .i64) :: (dr 2 ((rInt .i64) :: (rPtr 1 0) :: (rInt .i64) :: (rInt .i64) :: (dr 178 []))))))), [(0, eBlkC api_HallC), (1, eBlkC api_TrainC)]⟩, 2⟩, [(Option.none, ⟨[2], ⟨(dr 2 ((rInt .i64) :: (dr 185 []))), []⟩, 0⟩), (some 4, ⟨[1, 3, 6], ⟨(dr 1 ((rPtr 0 0) :: (dr 1 ((rInt .i64) :: (dr 2 ((rInt .i64) :: (dr 181 []))))))), [(0, eBlkC api_HallC)]⟩, 1⟩)]⟩
theorem newelref06_Check_L18_ok : newelref06_Check_L18.Ok := ⟨⟨(drCons 1 (allCons (rPtr_ok 0 0) (drCons 1 (allCons (rInt_ok .i64) (drCons 2 (allCons (rInt_ok .i64) (allCons (rPtr_ok 1 0) (allCons (rInt_ok .i64) (allCons (rInt_ok .i64) (drCons 178 allNil)))))))))), (eCons (eBlkC_ok api_HallC_ok api_HallC_len) (eCons (eBlkC_ok api_TrainC_ok api_TrainC_len) eNil))⟩, (xCons ⟨(drCons 2 (allCons (rInt_ok .i64) (drCons 185 allNil))), eNil⟩ (xCons ⟨(drCons 1 (allCons (rPtr_ok 0 0) (drCons 1 (allCons (rInt_ok .i64) (drCons 2 (allCons (rInt_ok .i64) (drCons 181 allNil))))))), (eCons (eBlkC_ok api_HallC_ok api_HallC_len) eNil)⟩ xNil))⟩
def newelref06_Check_h18 (v22 : Int) (v23 : Int) (v24 : Int) (v25 : Int) (v26 : api_Hall) (v27 : api_Train) : St := ⟨(un 1 ((.ptr 0 0) :: (un 1 ((.int .i64 v22) :: (un 2 ((.int .i64 v23) :: (.ptr 1 0) :: (.int .i64 v24) :: (.int .i64 v25) :: (un 178 []))))))), [(0, .blk (Cod.enc api_HallC v26)), (1, .blk (Cod.enc api_TrainC v27))], 2⟩
def newelref06_Check_x18_r (q0 : Int) : St := ⟨(un 2 ((.int .i64 q0) :: (un 185 []))), [], 0⟩
def newelref06_Check_x18_4 (v22 : Int) (v23 : Int) (v26 : api_Hall) : St := ⟨(un 1 ((.ptr 0 0) :: (un 1 ((.int .i64 v22) :: (un 2 ((.int .i64 v23) :: (un 181 []))))))), [(0, .blk (Cod.enc api_HallC v26))], 1⟩
def newelref06_Check_b18 {R : Type} (N : Nat) (rc : Int → Int → Int → Int → api_Hall → api_Train → Option R) (v22 : Int) (v23 : Int) (v24 : Int) (v25 : Int) (v26 : api_Hall) (v27 : api_Train) (kr : Int → Option R) (k4 : Unit → Option R) : Option R :=
  bif decide (v25 < (↑(Arr.n (api_Train.Crowds v27)) : Int)) then
   bif decide ((0 : Int) ≤ v25) && decide (v25 < (↑(Arr.n (api_Train.Crowds v27)) : Int)) then
    newelref06_within N (api_Crowd.Comb (Arr.f (api_Train.Crowds v27) (Int.toNat v25))) (w64 (v24 + (1 : Int))) (w64 (v22 - (1 : Int))) (fun r28 =>
    bif !r28 then
     kr (60 : Int)
    else
     bif decide ((0 : Int) ≤ v25) && decide (v25 < (↑(Arr.n (api_Train.Crowds v27)) : Int)) then
      newelref06_spanned N (api_Crowd.People (Arr.f (api_Train.Crowds v27) (Int.toNat v25))) (0 : Int) (1000 : Int) (fun r29 =>
      bif !r29 then
       kr (60 : Int)
      else
       bif decide ((0 : Int) ≤ v25) && decide (v25 < (↑(Arr.n (api_Train.Crowds v27)) : Int)) then
        rc v22 v23 (api_Crowd.Comb (Arr.f (api_Train.Crowds v27) (Int.toNat v25))) (w64 (v25 + (1 : Int))) v26 v27
       else
        Option.none)
     else
      Option.none)
   else
    Option.none
  else
   k4 ()
def newelref06_Check_l18 {R : Type} (N : Nat) : Nat → Int → Int → Int → Int → api_Hall → api_Train → (Int → Option R) → (Unit → Option R) → Option R
  | 0, _, _, _, _, _, _, _, _ => Option.none
  | n + 1, v22, v23, v24, v25, v26, v27, kr, k4 => newelref06_Check_b18 N (fun v22 v23 v24 v25 v26 v27 => newelref06_Check_l18 N n v22 v23 v24 v25 v26 v27 kr k4) v22 v23 v24 v25 v26 v27 kr k4
def newelref06_Check_L11 : LoopSp := ⟨⟨[1, 3, 6], ⟨(dr 1 ((rPtr 0 0) :: (dr 1 ((rInt .i64) :: (dr 2 ((rInt .i64) :: (dr 181 []))))))), [(0, eBlkC api_HallC)]⟩, 1⟩, [(Option.none, ⟨[2], ⟨(dr 2 ((rInt .i64) :: (dr 185 []))), []⟩, 0⟩), (some 2, ⟨[1, 3], ⟨(dr 1 ((rPtr 0 0) :: (dr 1 ((rInt .i64) :: (dr 184 []))))), [(0, eBlkC api_HallC)]⟩, 1⟩)]⟩
theorem newelref06_Check_L11_ok : newelref06_Check_L11.Ok := ⟨⟨(drCons 1 (allCons (rPtr_ok 0 0) (drCons 1 (allCons (rInt_ok .i64) (drCons 2 (allCons (rInt_ok .i64) (drCons 181 allNil))))))), (eCons (eBlkC_ok api_HallC_ok api_HallC_len) eNil)⟩, (xCons ⟨(drCons 2 (allCons (rInt_ok .i64) (drCons 185 allNil))), eNil⟩ (xCons ⟨(drCons 1 (allCons (rPtr_ok 0 0) (drCons 1 (allCons (rInt_ok .i64) (drCons 184 allNil))))), (eCons (eBlkC_ok api_HallC_ok api_HallC_len) eNil)⟩ xNil))⟩
def newelref06_Check_h11 (v18 : Int) (v19 : Int) (v20 : api_Hall) : St := ⟨(un 1 ((.ptr 0 0) :: (un 1 ((.int .i64 v18) :: (un 2 ((.int .i64 v19) :: (un 181 []))))))), [(0, .blk (Cod.enc api_HallC v20))], 1⟩
def newelref06_Check_x11_r (q0 : Int) : St := ⟨(un 2 ((.int .i64 q0) :: (un 185 []))), [], 0⟩
def newelref06_Check_x11_2 (v18 : Int) (v20 : api_Hall) : St := ⟨(un 1 ((.ptr 0 0) :: (un 1 ((.int .i64 v18) :: (un 184 []))))), [(0, .blk (Cod.enc api_HallC v20))], 1⟩
def newelref06_Check_b11 {R : Type} (N : Nat) (rc : Int → Int → api_Hall → Option R) (v18 : Int) (v19 : Int) (v20 : api_Hall) (kr : Int → Option R) (k2 : Unit → Option R) : Option R :=
  bif decide (v19 < (↑(Arr.n (api_Hall.Trains v20)) : Int)) then
   bif decide ((0 : Int) ≤ v19) && decide (v19 < (↑(Arr.n (api_Hall.Trains v20)) : Int)) then
    newelref06_spanned N (api_Train.At (Arr.f (api_Hall.Trains v20) (Int.toNat v19))) (0 : Int) (w64 (api_Hall.Until v20 - (1 : Int))) (fun r21 =>
    bif !r21 then
     kr (60 : Int)
    else
     bif decide ((↑(Arr.n (api_Train.Crowds (Arr.f (api_Hall.Trains v20) (Int.toNat v19)))) : Int) > (4 : Int)) then
      kr (60 : Int)
     else
      newelref06_Check_l18 N N v18 v19 (-1 : Int) (0 : Int) v20 (Arr.f (api_Hall.Trains v20) (Int.toNat v19)) (fun r30 =>
       kr r30) (fun (_ : Unit) =>
       rc v18 (w64 (v19 + (1 : Int))) v20))
   else
    Option.none
  else
   k2 ()
def newelref06_Check_l11 {R : Type} (N : Nat) : Nat → Int → Int → api_Hall → (Int → Option R) → (Unit → Option R) → Option R
  | 0, _, _, _, _, _ => Option.none
  | n + 1, v18, v19, v20, kr, k2 => newelref06_Check_b11 N (fun v18 v19 v20 => newelref06_Check_l11 N n v18 v19 v20 kr k2) v18 v19 v20 kr k2
def newelref06_Check_L24 : LoopSp := ⟨⟨[1, 3, 10], ⟨(dr 1 ((rPtr 0 0) :: (dr 1 ((rInt .i64) :: (dr 6 ((rInt .i64) :: (dr 177 []))))))), [(0, eBlkC api_HallC)]⟩, 1⟩, [(Option.none, ⟨[2], ⟨(dr 2 ((rInt .i64) :: (dr 185 []))), []⟩, 0⟩), (some 6, ⟨[], ⟨(dr 188 []), []⟩, 0⟩)]⟩
theorem newelref06_Check_L24_ok : newelref06_Check_L24.Ok := ⟨⟨(drCons 1 (allCons (rPtr_ok 0 0) (drCons 1 (allCons (rInt_ok .i64) (drCons 6 (allCons (rInt_ok .i64) (drCons 177 allNil))))))), (eCons (eBlkC_ok api_HallC_ok api_HallC_len) eNil)⟩, (xCons ⟨(drCons 2 (allCons (rInt_ok .i64) (drCons 185 allNil))), eNil⟩ (xCons ⟨(drCons 188 allNil), eNil⟩ xNil))⟩
def newelref06_Check_h24 (v32 : Int) (v33 : Int) (v34 : api_Hall) : St := ⟨(un 1 ((.ptr 0 0) :: (un 1 ((.int .i64 v32) :: (un 6 ((.int .i64 v33) :: (un 177 []))))))), [(0, .blk (Cod.enc api_HallC v34))], 1⟩
def newelref06_Check_x24_r (q0 : Int) : St := ⟨(un 2 ((.int .i64 q0) :: (un 185 []))), [], 0⟩
def newelref06_Check_x24_6  : St := ⟨(un 188 []), [], 0⟩
def newelref06_Check_b24 {R : Type} (N : Nat) (rc : Int → Int → api_Hall → Option R) (v32 : Int) (v33 : Int) (v34 : api_Hall) (kr : Int → Option R) (k6 : Unit → Option R) : Option R :=
  bif decide (v33 < (↑(Arr.n (api_Hall.Shifts v34)) : Int)) then
   bif decide ((0 : Int) ≤ v33) && decide (v33 < (↑(Arr.n (api_Hall.Shifts v34)) : Int)) then
    newelref06_within N (api_Shift.At (Arr.f (api_Hall.Shifts v34) (Int.toNat v33))) (0 : Int) (w64 (api_Hall.Until v34 - (1 : Int))) (fun r35 =>
    bif !r35 then
     kr (60 : Int)
    else
     newelref06_within N (api_Shift.Comb (Arr.f (api_Hall.Shifts v34) (Int.toNat v33))) (0 : Int) (w64 (v32 - (1 : Int))) (fun r36 =>
     bif !r36 then
      kr (60 : Int)
     else
      newelref06_within N (api_Shift.Rate (Arr.f (api_Hall.Shifts v34) (Int.toNat v33))) (0 : Int) (1000 : Int) (fun r37 =>
      bif !r37 then
       kr (60 : Int)
      else
       bif decide (v33 > (0 : Int)) then
        bif decide ((0 : Int) ≤ w64 (v33 - (1 : Int))) && decide (w64 (v33 - (1 : Int)) < (↑(Arr.n (api_Hall.Shifts v34)) : Int)) then
         bif decide (api_Shift.At (Arr.f (api_Hall.Shifts v34) (Int.toNat v33)) < api_Shift.At (Arr.f (api_Hall.Shifts v34) (Int.toNat (w64 (v33 - (1 : Int)))))) then
          kr (60 : Int)
         else
          rc v32 (w64 (v33 + (1 : Int))) v34
        else
         Option.none
       else
        rc v32 (w64 (v33 + (1 : Int))) v34)))
   else
    Option.none
  else
   k6 ()
def newelref06_Check_l24 {R : Type} (N : Nat) : Nat → Int → Int → api_Hall → (Int → Option R) → (Unit → Option R) → Option R
  | 0, _, _, _, _, _ => Option.none
  | n + 1, v32, v33, v34, kr, k6 => newelref06_Check_b24 N (fun v32 v33 v34 => newelref06_Check_l24 N n v32 v33 v34 kr k6) v32 v33 v34 kr k6
def newelref06_Check_m {R : Type} (N : Nat) (a6 : api_Hall) (k : Int → Option R) : Option R :=
  newelref06_within N (api_Hall.Until a6) (1 : Int) (100 : Int) (fun r7 =>
  bif !r7 then
   k (60 : Int)
  else
   newelref06_within N ((↑(Arr.n (api_Hall.Combs a6)) : Int)) (1 : Int) (8 : Int) (fun r8 =>
   bif !r8 then
    k (60 : Int)
   else
    bif decide ((↑(Arr.n (api_Hall.Trains a6)) : Int) > (12 : Int)) then
     k (60 : Int)
    else
     bif decide ((↑(Arr.n (api_Hall.Shifts a6)) : Int) > (20 : Int)) then
      k (60 : Int)
     else
      newelref06_Check_l5 N N ((↑(Arr.n (api_Hall.Combs a6)) : Int)) (0 : Int) a6 (fun r17 =>
       k r17) (fun (_ : Unit) =>
       newelref06_Check_l11 N N ((↑(Arr.n (api_Hall.Combs a6)) : Int)) (0 : Int) a6 (fun r31 =>
        k r31) (fun (_ : Unit) =>
        newelref06_Check_l24 N N ((↑(Arr.n (api_Hall.Combs a6)) : Int)) (0 : Int) a6 (fun r38 =>
         k r38) (fun (_ : Unit) =>
         k (0 : Int))))))
noncomputable def newelref06_Check {R : Type} : Nat → api_Hall → (Int → Option R) → Option R := lock (@newelref06_Check_m R)
theorem newelref06_Check_def {R : Type} (N : Nat) (a6 : api_Hall) (k : Int → Option R) : newelref06_Check N a6 k = newelref06_Check_m N a6 k := by unfold newelref06_Check; rw [lock_eq]
def newelref06_Check_sp : Sp := ⟨[rAgg api_HallC], []⟩
theorem newelref06_Check_sp_ok : newelref06_Check_sp.Ok := ⟨(allCons (rAgg_ok api_HallC_ok api_HallC_len) allNil), eNil⟩
def newelref06_Check_rs : Sp := ⟨[rInt .i64], []⟩
theorem newelref06_Check_rs_ok : newelref06_Check_rs.Ok := ⟨(allCons (rInt_ok .i64) allNil), eNil⟩
def newelref06_Check_run {R : Type} (N : Nat) (args : List SV) (T : Tab) (kf : SV × Tab → Option R) : Option R :=
  newelref06_Check_m N (Cod.dec api_HallC (lget (toCs (lget args 0)))) (fun q0 => kf (lget [.int .i64 q0] 0, []))
def newelref06_Check_d24 {R : Type} (N : Nat) (S0 : St) (k : Exit → St → Option R) : Option R :=
  newelref06_Check_l24 N N (toI (lget S0.tmps 3)) (toI (lget S0.tmps 10)) (Cod.dec api_HallC (lget (entCs (entAt S0.tab 0)))) (fun q0 => k .ret (newelref06_Check_x24_r q0)) (fun (_ : Unit) => k (.exit 6) (newelref06_Check_x24_6 ))
def newelref06_Check_d18 {R : Type} (N : Nat) (S0 : St) (k : Exit → St → Option R) : Option R :=
  newelref06_Check_l18 N N (toI (lget S0.tmps 3)) (toI (lget S0.tmps 6)) (toI (lget S0.tmps 8)) (toI (lget S0.tmps 9)) (Cod.dec api_HallC (lget (entCs (entAt S0.tab 0)))) (Cod.dec api_TrainC (lget (entCs (entAt S0.tab 1)))) (fun q0 => k .ret (newelref06_Check_x18_r q0)) (fun (_ : Unit) => k (.exit 4) (newelref06_Check_x18_4 (toI (lget S0.tmps 3)) (toI (lget S0.tmps 6)) (Cod.dec api_HallC (lget (entCs (entAt S0.tab 0))))))
def newelref06_Check_d11 {R : Type} (N : Nat) (S0 : St) (k : Exit → St → Option R) : Option R :=
  newelref06_Check_l11 N N (toI (lget S0.tmps 3)) (toI (lget S0.tmps 6)) (Cod.dec api_HallC (lget (entCs (entAt S0.tab 0)))) (fun q0 => k .ret (newelref06_Check_x11_r q0)) (fun (_ : Unit) => k (.exit 2) (newelref06_Check_x11_2 (toI (lget S0.tmps 3)) (Cod.dec api_HallC (lget (entCs (entAt S0.tab 0))))))
def newelref06_Check_d5 {R : Type} (N : Nat) (S0 : St) (k : Exit → St → Option R) : Option R :=
  newelref06_Check_l5 N N (toI (lget S0.tmps 3)) (toI (lget S0.tmps 4)) (Cod.dec api_HallC (lget (entCs (entAt S0.tab 0)))) (fun q0 => k .ret (newelref06_Check_x5_r q0)) (fun (_ : Unit) => k (.exit 0) (newelref06_Check_x5_0 (toI (lget S0.tmps 3)) (Cod.dec api_HallC (lget (entCs (entAt S0.tab 0))))))
def newelref06_Check_lp {R : Type} (N : Nat) : Lp R := fun body S k => bif (Go.Sx.keyOf body).getD 0 == 5 then (newelref06_Check_L5.head.raw 0 S (fun S0 => newelref06_Check_d5 N S0 k)) else bif (Go.Sx.keyOf body).getD 0 == 11 then (newelref06_Check_L11.head.raw 0 S (fun S0 => newelref06_Check_d11 N S0 k)) else bif (Go.Sx.keyOf body).getD 0 == 18 then (newelref06_Check_L18.head.raw 0 S (fun S0 => newelref06_Check_d18 N S0 k)) else bif (Go.Sx.keyOf body).getD 0 == 24 then (newelref06_Check_L24.head.raw 0 S (fun S0 => newelref06_Check_d24 N S0 k)) else Option.none
theorem newelref06_Check_l5_eq {R : Type} (N : Nat) (k : Exit → St → Option R) (n : Nat) : ∀ (v0 : Int) (v1 : Int) (v2 : api_Hall), loopM E.Θ (newelref06_spanned_cal N) (newelref06_Check_lp N) (noJn) 0 newelref06_Check_L5 (bodyAt E 8 5) n (newelref06_Check_h5 v0 v1 v2) k = newelref06_Check_l5 N n v0 v1 v2 (fun q0 => k .ret (newelref06_Check_x5_r q0)) (fun (_ : Unit) => k (.exit 0) (newelref06_Check_x5_0 v0 v2)) := by
  induction n with
  | zero => intro v0 v1 v2; rfl
  | succ n ih =>
    intro v0 v1 v2
    refine Eq.trans (b := newelref06_Check_b5 N (fun v0 v1 v2 => loopM E.Θ (newelref06_spanned_cal N) (newelref06_Check_lp N) (noJn) 0 newelref06_Check_L5 (bodyAt E 8 5) n (newelref06_Check_h5 v0 v1 v2) k) v0 v1 v2 (fun q0 => k .ret (newelref06_Check_x5_r q0)) (fun (_ : Unit) => k (.exit 0) (newelref06_Check_x5_0 v0 v2))) (by kernel_rfl) ?_
    have h : (fun (v0 : Int) (v1 : Int) (v2 : api_Hall) => loopM E.Θ (newelref06_spanned_cal N) (newelref06_Check_lp N) (noJn) 0 newelref06_Check_L5 (bodyAt E 8 5) n (newelref06_Check_h5 v0 v1 v2) k) = (fun (v0 : Int) (v1 : Int) (v2 : api_Hall) => newelref06_Check_l5 N n v0 v1 v2 (fun q0 => k .ret (newelref06_Check_x5_r q0)) (fun (_ : Unit) => k (.exit 0) (newelref06_Check_x5_0 v0 v2))) := funext fun v0 => funext fun v1 => funext fun v2 => ih v0 v1 v2
    rw [h]
    rfl
theorem newelref06_Check_l11_eq {R : Type} (N : Nat) (k : Exit → St → Option R) (n : Nat) : ∀ (v0 : Int) (v1 : Int) (v2 : api_Hall), loopM E.Θ (newelref06_spanned_cal N) (newelref06_Check_lp N) (noJn) 0 newelref06_Check_L11 (bodyAt E 8 11) n (newelref06_Check_h11 v0 v1 v2) k = newelref06_Check_l11 N n v0 v1 v2 (fun q0 => k .ret (newelref06_Check_x11_r q0)) (fun (_ : Unit) => k (.exit 2) (newelref06_Check_x11_2 v0 v2)) := by
  induction n with
  | zero => intro v0 v1 v2; rfl
  | succ n ih =>
    intro v0 v1 v2
    refine Eq.trans (b := newelref06_Check_b11 N (fun v0 v1 v2 => loopM E.Θ (newelref06_spanned_cal N) (newelref06_Check_lp N) (noJn) 0 newelref06_Check_L11 (bodyAt E 8 11) n (newelref06_Check_h11 v0 v1 v2) k) v0 v1 v2 (fun q0 => k .ret (newelref06_Check_x11_r q0)) (fun (_ : Unit) => k (.exit 2) (newelref06_Check_x11_2 v0 v2))) (by kernel_rfl) ?_
    have h : (fun (v0 : Int) (v1 : Int) (v2 : api_Hall) => loopM E.Θ (newelref06_spanned_cal N) (newelref06_Check_lp N) (noJn) 0 newelref06_Check_L11 (bodyAt E 8 11) n (newelref06_Check_h11 v0 v1 v2) k) = (fun (v0 : Int) (v1 : Int) (v2 : api_Hall) => newelref06_Check_l11 N n v0 v1 v2 (fun q0 => k .ret (newelref06_Check_x11_r q0)) (fun (_ : Unit) => k (.exit 2) (newelref06_Check_x11_2 v0 v2))) := funext fun v0 => funext fun v1 => funext fun v2 => ih v0 v1 v2
    rw [h]
    rfl
theorem newelref06_Check_l18_eq {R : Type} (N : Nat) (k : Exit → St → Option R) (n : Nat) : ∀ (v0 : Int) (v1 : Int) (v2 : Int) (v3 : Int) (v4 : api_Hall) (v5 : api_Train), loopM E.Θ (newelref06_spanned_cal N) (newelref06_Check_lp N) (noJn) 0 newelref06_Check_L18 (bodyAt E 8 18) n (newelref06_Check_h18 v0 v1 v2 v3 v4 v5) k = newelref06_Check_l18 N n v0 v1 v2 v3 v4 v5 (fun q0 => k .ret (newelref06_Check_x18_r q0)) (fun (_ : Unit) => k (.exit 4) (newelref06_Check_x18_4 v0 v1 v4)) := by
  induction n with
  | zero => intro v0 v1 v2 v3 v4 v5; rfl
  | succ n ih =>
    intro v0 v1 v2 v3 v4 v5
    refine Eq.trans (b := newelref06_Check_b18 N (fun v0 v1 v2 v3 v4 v5 => loopM E.Θ (newelref06_spanned_cal N) (newelref06_Check_lp N) (noJn) 0 newelref06_Check_L18 (bodyAt E 8 18) n (newelref06_Check_h18 v0 v1 v2 v3 v4 v5) k) v0 v1 v2 v3 v4 v5 (fun q0 => k .ret (newelref06_Check_x18_r q0)) (fun (_ : Unit) => k (.exit 4) (newelref06_Check_x18_4 v0 v1 v4))) (by kernel_rfl) ?_
    have h : (fun (v0 : Int) (v1 : Int) (v2 : Int) (v3 : Int) (v4 : api_Hall) (v5 : api_Train) => loopM E.Θ (newelref06_spanned_cal N) (newelref06_Check_lp N) (noJn) 0 newelref06_Check_L18 (bodyAt E 8 18) n (newelref06_Check_h18 v0 v1 v2 v3 v4 v5) k) = (fun (v0 : Int) (v1 : Int) (v2 : Int) (v3 : Int) (v4 : api_Hall) (v5 : api_Train) => newelref06_Check_l18 N n v0 v1 v2 v3 v4 v5 (fun q0 => k .ret (newelref06_Check_x18_r q0)) (fun (_ : Unit) => k (.exit 4) (newelref06_Check_x18_4 v0 v1 v4))) := funext fun v0 => funext fun v1 => funext fun v2 => funext fun v3 => funext fun v4 => funext fun v5 => ih v0 v1 v2 v3 v4 v5
    rw [h]
    rfl
theorem newelref06_Check_l24_eq {R : Type} (N : Nat) (k : Exit → St → Option R) (n : Nat) : ∀ (v0 : Int) (v1 : Int) (v2 : api_Hall), loopM E.Θ (newelref06_spanned_cal N) (newelref06_Check_lp N) (noJn) 0 newelref06_Check_L24 (bodyAt E 8 24) n (newelref06_Check_h24 v0 v1 v2) k = newelref06_Check_l24 N n v0 v1 v2 (fun q0 => k .ret (newelref06_Check_x24_r q0)) (fun (_ : Unit) => k (.exit 6) (newelref06_Check_x24_6 )) := by
  induction n with
  | zero => intro v0 v1 v2; rfl
  | succ n ih =>
    intro v0 v1 v2
    refine Eq.trans (b := newelref06_Check_b24 N (fun v0 v1 v2 => loopM E.Θ (newelref06_spanned_cal N) (newelref06_Check_lp N) (noJn) 0 newelref06_Check_L24 (bodyAt E 8 24) n (newelref06_Check_h24 v0 v1 v2) k) v0 v1 v2 (fun q0 => k .ret (newelref06_Check_x24_r q0)) (fun (_ : Unit) => k (.exit 6) (newelref06_Check_x24_6 ))) (by kernel_rfl) ?_
    have h : (fun (v0 : Int) (v1 : Int) (v2 : api_Hall) => loopM E.Θ (newelref06_spanned_cal N) (newelref06_Check_lp N) (noJn) 0 newelref06_Check_L24 (bodyAt E 8 24) n (newelref06_Check_h24 v0 v1 v2) k) = (fun (v0 : Int) (v1 : Int) (v2 : api_Hall) => newelref06_Check_l24 N n v0 v1 v2 (fun q0 => k .ret (newelref06_Check_x24_r q0)) (fun (_ : Unit) => k (.exit 6) (newelref06_Check_x24_6 ))) := funext fun v0 => funext fun v1 => funext fun v2 => ih v0 v1 v2
    rw [h]
    rfl
theorem newelref06_Check_k24 {R : Type} (N : Nat) : LpKey (R := R) E 8 0 (newelref06_Check_lp N) 24 :=
  lpKey_of hE (newelref06_spanned_cal_ok N) (lp := newelref06_Check_lp N) (jn := noJn) newelref06_Check_L24_ok [] kNil (by kernel_rfl) [] jNil (by kernel_rfl) N fun S k =>
    Eq.trans (b := newelref06_Check_L24.head.raw 0 S (fun S0 => newelref06_Check_d24 N S0 k)) (by kernel_rfl) (congrArg (newelref06_Check_L24.head.raw 0 S) (funext fun S0 => Eq.trans (newelref06_Check_l24_eq N k N (toI (lget S0.tmps 3)) (toI (lget S0.tmps 10)) (Cod.dec api_HallC (lget (entCs (entAt S0.tab 0))))).symm (by kernel_rfl)))
theorem newelref06_Check_k5 {R : Type} (N : Nat) : LpKey (R := R) E 8 0 (newelref06_Check_lp N) 5 :=
  lpKey_of hE (newelref06_spanned_cal_ok N) (lp := newelref06_Check_lp N) (jn := noJn) newelref06_Check_L5_ok [] kNil (by kernel_rfl) [] jNil (by kernel_rfl) N fun S k =>
    Eq.trans (b := newelref06_Check_L5.head.raw 0 S (fun S0 => newelref06_Check_d5 N S0 k)) (by kernel_rfl) (congrArg (newelref06_Check_L5.head.raw 0 S) (funext fun S0 => Eq.trans (newelref06_Check_l5_eq N k N (toI (lget S0.tmps 3)) (toI (lget S0.tmps 4)) (Cod.dec api_HallC (lget (entCs (entAt S0.tab 0))))).symm (by kernel_rfl)))
theorem newelref06_Check_k18 {R : Type} (N : Nat) : LpKey (R := R) E 8 0 (newelref06_Check_lp N) 18 :=
  lpKey_of hE (newelref06_spanned_cal_ok N) (lp := newelref06_Check_lp N) (jn := noJn) newelref06_Check_L18_ok [] kNil (by kernel_rfl) [] jNil (by kernel_rfl) N fun S k =>
    Eq.trans (b := newelref06_Check_L18.head.raw 0 S (fun S0 => newelref06_Check_d18 N S0 k)) (by kernel_rfl) (congrArg (newelref06_Check_L18.head.raw 0 S) (funext fun S0 => Eq.trans (newelref06_Check_l18_eq N k N (toI (lget S0.tmps 3)) (toI (lget S0.tmps 6)) (toI (lget S0.tmps 8)) (toI (lget S0.tmps 9)) (Cod.dec api_HallC (lget (entCs (entAt S0.tab 0)))) (Cod.dec api_TrainC (lget (entCs (entAt S0.tab 1))))).symm (by kernel_rfl)))
theorem newelref06_Check_k11 {R : Type} (N : Nat) : LpKey (R := R) E 8 0 (newelref06_Check_lp N) 11 :=
  lpKey_of hE (newelref06_spanned_cal_ok N) (lp := newelref06_Check_lp N) (jn := noJn) newelref06_Check_L11_ok [18] (kCons (newelref06_Check_k18 N) kNil) (by kernel_rfl) [] jNil (by kernel_rfl) N fun S k =>
    Eq.trans (b := newelref06_Check_L11.head.raw 0 S (fun S0 => newelref06_Check_d11 N S0 k)) (by kernel_rfl) (congrArg (newelref06_Check_L11.head.raw 0 S) (funext fun S0 => Eq.trans (newelref06_Check_l11_eq N k N (toI (lget S0.tmps 3)) (toI (lget S0.tmps 6)) (Cod.dec api_HallC (lget (entCs (entAt S0.tab 0))))).symm (by kernel_rfl)))
noncomputable def newelref06_Check_go {R : Type} (N : Nat) (args : List SV) (T : Tab) (kf : SV × Tab → Option R) : Option R :=
  newelref06_Check N (Cod.dec api_HallC (lget (toCs (lget args 0)))) (fun q0 => kf (lget [.int .i64 q0] 0, []))
noncomputable def newelref06_Check_cal {R : Type} (N : Nat) : Cal R := callM (newelref06_spanned_cal N) 8 0 newelref06_Check_sp (newelref06_Check_go N)
theorem newelref06_Check_cal_ok {R : Type} (N : Nat) : CalOk E.P (newelref06_Check_cal (R := R) N) :=
  callM_ok hE (newelref06_spanned_cal_ok N) (lp := newelref06_Check_lp N) (jn := noJn) (keys := [5, 11, 18, 24]) (kCons (newelref06_Check_k5 N) (kCons (newelref06_Check_k11 N) (kCons (newelref06_Check_k18 N) (kCons (newelref06_Check_k24 N) kNil)))) (by kernel_rfl) (js := []) jNil (by kernel_rfl) newelref06_Check_sp_ok newelref06_Check_rs_ok (fun args T kf => Eq.trans (newelref06_Check_def N (Cod.dec api_HallC (lget (toCs (lget args 0)))) (fun q0 => kf (lget [.int .i64 q0] 0, []))) (by kernel_rfl : newelref06_Check_run N args T kf = fnM E (newelref06_spanned_cal N) (newelref06_Check_lp N) (noJn) 8 (newelref06_Check_sp.vs args) (newelref06_Check_sp.tab T) 0 (resK newelref06_Check_rs kf)))
def newelref06_Fits_L10 : LoopSp := ⟨⟨[2, 3, 5, 6, 7], ⟨(dr 2 ((rPtr 0 0) :: (rPtr 1 0) :: (dr 1 ((rInt .i64) :: (rPtr 2 0) :: (rInt .i64) :: (dr 144 []))))), [(0, eBlkC api_HallC), (1, eBlkC api_DayC), (2, eBlkC api_TrainC)]⟩, 3⟩, [(Option.none, ⟨[4], ⟨(dr 4 ((rBool) :: (dr 147 []))), []⟩, 0⟩), (some 2, ⟨[2, 3, 5], ⟨(dr 2 ((rPtr 0 0) :: (rPtr 1 0) :: (dr 1 ((rInt .i64) :: (dr 146 []))))), [(0, eBlkC api_HallC), (1, eBlkC api_DayC)]⟩, 2⟩)]⟩
theorem newelref06_Fits_L10_ok : newelref06_Fits_L10.Ok := ⟨⟨(drCons 2 (allCons (rPtr_ok 0 0) (allCons (rPtr_ok 1 0) (drCons 1 (allCons (rInt_ok .i64) (allCons (rPtr_ok 2 0) (allCons (rInt_ok .i64) (drCons 144 allNil)))))))), (eCons (eBlkC_ok api_HallC_ok api_HallC_len) (eCons (eBlkC_ok api_DayC_ok api_DayC_len) (eCons (eBlkC_ok api_TrainC_ok api_TrainC_len) eNil)))⟩, (xCons ⟨(drCons 4 (allCons rBool_ok (drCons 147 allNil))), eNil⟩ (xCons ⟨(drCons 2 (allCons (rPtr_ok 0 0) (allCons (rPtr_ok 1 0) (drCons 1 (allCons (rInt_ok .i64) (drCons 146 allNil)))))), (eCons (eBlkC_ok api_HallC_ok api_HallC_len) (eCons (eBlkC_ok api_DayC_ok api_DayC_len) eNil))⟩ xNil))⟩
def newelref06_Fits_h10 (v45 : Int) (v46 : Int) (v47 : api_Hall) (v48 : api_Day) (v49 : api_Train) : St := ⟨(un 2 ((.ptr 0 0) :: (.ptr 1 0) :: (un 1 ((.int .i64 v45) :: (.ptr 2 0) :: (.int .i64 v46) :: (un 144 []))))), [(0, .blk (Cod.enc api_HallC v47)), (1, .blk (Cod.enc api_DayC v48)), (2, .blk (Cod.enc api_TrainC v49))], 3⟩
def newelref06_Fits_x10_r (q0 : Bool) : St := ⟨(un 4 ((.bool q0) :: (un 147 []))), [], 0⟩
def newelref06_Fits_x10_2 (v45 : Int) (v47 : api_Hall) (v48 : api_Day) : St := ⟨(un 2 ((.ptr 0 0) :: (.ptr 1 0) :: (un 1 ((.int .i64 v45) :: (un 146 []))))), [(0, .blk (Cod.enc api_HallC v47)), (1, .blk (Cod.enc api_DayC v48))], 2⟩
def newelref06_Fits_b10 {R : Type} (N : Nat) (rc : Int → Int → api_Hall → api_Day → api_Train → Option R) (v45 : Int) (v46 : Int) (v47 : api_Hall) (v48 : api_Day) (v49 : api_Train) (kr : Bool → Option R) (k2 : Unit → Option R) : Option R :=
  bif decide (v46 < (↑(Arr.n (api_Train.Crowds v49)) : Int)) then
   bif decide ((0 : Int) ≤ v45) && decide (v45 < (↑(Arr.n (api_Day.People v48)) : Int)) then
    bif decide ((0 : Int) ≤ v46) && decide (v46 < (↑(Arr.n (Arr.f (api_Day.People v48) (Int.toNat v45))) : Int)) then
     bif decide ((0 : Int) ≤ v46) && decide (v46 < (↑(Arr.n (api_Train.Crowds v49)) : Int)) then
      bif decide ((0 : Int) ≤ v46) && decide (v46 < (↑(Arr.n (api_Train.Crowds v49)) : Int)) then
       newelref06_within N (Arr.f (Arr.f (api_Day.People v48) (Int.toNat v45)) (Int.toNat v46)) (api_Span.Low (api_Crowd.People (Arr.f (api_Train.Crowds v49) (Int.toNat v46)))) (api_Span.High (api_Crowd.People (Arr.f (api_Train.Crowds v49) (Int.toNat v46)))) (fun r50 =>
       bif !r50 then
        kr false
       else
        rc v45 (w64 (v46 + (1 : Int))) v47 v48 v49)
      else
       Option.none
     else
      Option.none
    else
     Option.none
   else
    Option.none
  else
   k2 ()
def newelref06_Fits_l10 {R : Type} (N : Nat) : Nat → Int → Int → api_Hall → api_Day → api_Train → (Bool → Option R) → (Unit → Option R) → Option R
  | 0, _, _, _, _, _, _, _ => Option.none
  | n + 1, v45, v46, v47, v48, v49, kr, k2 => newelref06_Fits_b10 N (fun v45 v46 v47 v48 v49 => newelref06_Fits_l10 N n v45 v46 v47 v48 v49 kr k2) v45 v46 v47 v48 v49 kr k2
def newelref06_Fits_L4 : LoopSp := ⟨⟨[2, 3, 5], ⟨(dr 2 ((rPtr 0 0) :: (rPtr 1 0) :: (dr 1 ((rInt .i64) :: (dr 146 []))))), [(0, eBlkC api_HallC), (1, eBlkC api_DayC)]⟩, 2⟩, [(Option.none, ⟨[4], ⟨(dr 4 ((rBool) :: (dr 147 []))), []⟩, 0⟩), (some 0, ⟨[2, 3], ⟨(dr 2 ((rPtr 0 0) :: (rPtr 1 0) :: (dr 148 []))), [(0, eBlkC api_HallC), (1, eBlkC api_DayC)]⟩, 2⟩)]⟩
theorem newelref06_Fits_L4_ok : newelref06_Fits_L4.Ok := ⟨⟨(drCons 2 (allCons (rPtr_ok 0 0) (allCons (rPtr_ok 1 0) (drCons 1 (allCons (rInt_ok .i64) (drCons 146 allNil)))))), (eCons (eBlkC_ok api_HallC_ok api_HallC_len) (eCons (eBlkC_ok api_DayC_ok api_DayC_len) eNil))⟩, (xCons ⟨(drCons 4 (allCons rBool_ok (drCons 147 allNil))), eNil⟩ (xCons ⟨(drCons 2 (allCons (rPtr_ok 0 0) (allCons (rPtr_ok 1 0) (drCons 148 allNil)))), (eCons (eBlkC_ok api_HallC_ok api_HallC_len) (eCons (eBlkC_ok api_DayC_ok api_DayC_len) eNil))⟩ xNil))⟩
def newelref06_Fits_h4 (v41 : Int) (v42 : api_Hall) (v43 : api_Day) : St := ⟨(un 2 ((.ptr 0 0) :: (.ptr 1 0) :: (un 1 ((.int .i64 v41) :: (un 146 []))))), [(0, .blk (Cod.enc api_HallC v42)), (1, .blk (Cod.enc api_DayC v43))], 2⟩
def newelref06_Fits_x4_r (q0 : Bool) : St := ⟨(un 4 ((.bool q0) :: (un 147 []))), [], 0⟩
def newelref06_Fits_x4_0 (v42 : api_Hall) (v43 : api_Day) : St := ⟨(un 2 ((.ptr 0 0) :: (.ptr 1 0) :: (un 148 []))), [(0, .blk (Cod.enc api_HallC v42)), (1, .blk (Cod.enc api_DayC v43))], 2⟩
def newelref06_Fits_b4 {R : Type} (N : Nat) (rc : Int → api_Hall → api_Day → Option R) (v41 : Int) (v42 : api_Hall) (v43 : api_Day) (kr : Bool → Option R) (k0 : Unit → Option R) : Option R :=
  bif decide (v41 < (↑(Arr.n (api_Hall.Trains v42)) : Int)) then
   bif decide ((0 : Int) ≤ v41) && decide (v41 < (↑(Arr.n (api_Hall.Trains v42)) : Int)) then
    bif decide ((0 : Int) ≤ v41) && decide (v41 < (↑(Arr.n (api_Day.At v43)) : Int)) then
     newelref06_within N (Arr.f (api_Day.At v43) (Int.toNat v41)) (api_Span.Low (api_Train.At (Arr.f (api_Hall.Trains v42) (Int.toNat v41)))) (api_Span.High (api_Train.At (Arr.f (api_Hall.Trains v42) (Int.toNat v41)))) (fun r44 =>
     bif !r44 then
      kr false
     else
      bif decide ((0 : Int) ≤ v41) && decide (v41 < (↑(Arr.n (api_Day.People v43)) : Int)) then
       bif (↑(Arr.n (Arr.f (api_Day.People v43) (Int.toNat v41))) : Int) != (↑(Arr.n (api_Train.Crowds (Arr.f (api_Hall.Trains v42) (Int.toNat v41)))) : Int) then
        kr false
       else
        newelref06_Fits_l10 N N v41 (0 : Int) v42 v43 (Arr.f (api_Hall.Trains v42) (Int.toNat v41)) (fun r51 =>
         kr r51) (fun (_ : Unit) =>
         rc (w64 (v41 + (1 : Int))) v42 v43)
      else
       Option.none)
    else
     Option.none
   else
    Option.none
  else
   k0 ()
def newelref06_Fits_l4 {R : Type} (N : Nat) : Nat → Int → api_Hall → api_Day → (Bool → Option R) → (Unit → Option R) → Option R
  | 0, _, _, _, _, _ => Option.none
  | n + 1, v41, v42, v43, kr, k0 => newelref06_Fits_b4 N (fun v41 v42 v43 => newelref06_Fits_l4 N n v41 v42 v43 kr k0) v41 v42 v43 kr k0
def newelref06_Fits_L20 : LoopSp := ⟨⟨[2, 3, 8, 9], ⟨(dr 2 ((rPtr 0 0) :: (rPtr 1 0) :: (dr 4 ((rInt .i64) :: (rInt .i64) :: (dr 142 []))))), [(0, eBlkC api_HallC), (1, eBlkC api_DayC)]⟩, 2⟩, [(Option.none, ⟨[4], ⟨(dr 4 ((rBool) :: (dr 147 []))), []⟩, 0⟩), (some 6, ⟨[2, 3, 8], ⟨(dr 2 ((rPtr 0 0) :: (rPtr 1 0) :: (dr 4 ((rInt .i64) :: (dr 143 []))))), [(0, eBlkC api_HallC), (1, eBlkC api_DayC)]⟩, 2⟩)]⟩
theorem newelref06_Fits_L20_ok : newelref06_Fits_L20.Ok := ⟨⟨(drCons 2 (allCons (rPtr_ok 0 0) (allCons (rPtr_ok 1 0) (drCons 4 (allCons (rInt_ok .i64) (allCons (rInt_ok .i64) (drCons 142 allNil))))))), (eCons (eBlkC_ok api_HallC_ok api_HallC_len) (eCons (eBlkC_ok api_DayC_ok api_DayC_len) eNil))⟩, (xCons ⟨(drCons 4 (allCons rBool_ok (drCons 147 allNil))), eNil⟩ (xCons ⟨(drCons 2 (allCons (rPtr_ok 0 0) (allCons (rPtr_ok 1 0) (drCons 4 (allCons (rInt_ok .i64) (drCons 143 allNil)))))), (eCons (eBlkC_ok api_HallC_ok api_HallC_len) (eCons (eBlkC_ok api_DayC_ok api_DayC_len) eNil))⟩ xNil))⟩
def newelref06_Fits_h20 (v57 : Int) (v58 : Int) (v59 : api_Hall) (v60 : api_Day) : St := ⟨(un 2 ((.ptr 0 0) :: (.ptr 1 0) :: (un 4 ((.int .i64 v57) :: (.int .i64 v58) :: (un 142 []))))), [(0, .blk (Cod.enc api_HallC v59)), (1, .blk (Cod.enc api_DayC v60))], 2⟩
def newelref06_Fits_x20_r (q0 : Bool) : St := ⟨(un 4 ((.bool q0) :: (un 147 []))), [], 0⟩
def newelref06_Fits_x20_6 (v57 : Int) (v59 : api_Hall) (v60 : api_Day) : St := ⟨(un 2 ((.ptr 0 0) :: (.ptr 1 0) :: (un 4 ((.int .i64 v57) :: (un 143 []))))), [(0, .blk (Cod.enc api_HallC v59)), (1, .blk (Cod.enc api_DayC v60))], 2⟩
def newelref06_Fits_b20 {R : Type} (N : Nat) (rc : Int → Int → api_Hall → api_Day → Option R) (v57 : Int) (v58 : Int) (v59 : api_Hall) (v60 : api_Day) (kr : Bool → Option R) (k6 : Unit → Option R) : Option R :=
  bif decide ((0 : Int) ≤ v57) && decide (v57 < (↑(Arr.n (api_Day.Walks v60)) : Int)) then
   bif decide (v58 < (↑(Arr.n (Arr.f (api_Day.Walks v60) (Int.toNat v57))) : Int)) then
    bif decide ((0 : Int) ≤ v57) && decide (v57 < (↑(Arr.n (api_Day.Walks v60)) : Int)) then
     bif decide ((0 : Int) ≤ v58) && decide (v58 < (↑(Arr.n (Arr.f (api_Day.Walks v60) (Int.toNat v57))) : Int)) then
      bif decide ((0 : Int) ≤ v57) && decide (v57 < (↑(Arr.n (api_Hall.Combs v59)) : Int)) then
       bif decide ((0 : Int) ≤ v57) && decide (v57 < (↑(Arr.n (api_Hall.Combs v59)) : Int)) then
        newelref06_within N (Arr.f (Arr.f (api_Day.Walks v60) (Int.toNat v57)) (Int.toNat v58)) (api_Span.Low (api_Comb.Walk (Arr.f (api_Hall.Combs v59) (Int.toNat v57)))) (api_Span.High (api_Comb.Walk (Arr.f (api_Hall.Combs v59) (Int.toNat v57)))) (fun r61 =>
        bif !r61 then
         kr false
        else
         rc v57 (w64 (v58 + (1 : Int))) v59 v60)
       else
        Option.none
      else
       Option.none
     else
      Option.none
    else
     Option.none
   else
    k6 ()
  else
   Option.none
def newelref06_Fits_l20 {R : Type} (N : Nat) : Nat → Int → Int → api_Hall → api_Day → (Bool → Option R) → (Unit → Option R) → Option R
  | 0, _, _, _, _, _, _ => Option.none
  | n + 1, v57, v58, v59, v60, kr, k6 => newelref06_Fits_b20 N (fun v57 v58 v59 v60 => newelref06_Fits_l20 N n v57 v58 v59 v60 kr k6) v57 v58 v59 v60 kr k6
def newelref06_Fits_L15 : LoopSp := ⟨⟨[2, 3, 8], ⟨(dr 2 ((rPtr 0 0) :: (rPtr 1 0) :: (dr 4 ((rInt .i64) :: (dr 143 []))))), [(0, eBlkC api_HallC), (1, eBlkC api_DayC)]⟩, 2⟩, [(Option.none, ⟨[4], ⟨(dr 4 ((rBool) :: (dr 147 []))), []⟩, 0⟩), (some 4, ⟨[], ⟨(dr 152 []), []⟩, 0⟩)]⟩
theorem newelref06_Fits_L15_ok : newelref06_Fits_L15.Ok := ⟨⟨(drCons 2 (allCons (rPtr_ok 0 0) (allCons (rPtr_ok 1 0) (drCons 4 (allCons (rInt_ok .i64) (drCons 143 allNil)))))), (eCons (eBlkC_ok api_HallC_ok api_HallC_len) (eCons (eBlkC_ok api_DayC_ok api_DayC_len) eNil))⟩, (xCons ⟨(drCons 4 (allCons rBool_ok (drCons 147 allNil))), eNil⟩ (xCons ⟨(drCons 152 allNil), eNil⟩ xNil))⟩
def newelref06_Fits_h15 (v53 : Int) (v54 : api_Hall) (v55 : api_Day) : St := ⟨(un 2 ((.ptr 0 0) :: (.ptr 1 0) :: (un 4 ((.int .i64 v53) :: (un 143 []))))), [(0, .blk (Cod.enc api_HallC v54)), (1, .blk (Cod.enc api_DayC v55))], 2⟩
def newelref06_Fits_x15_r (q0 : Bool) : St := ⟨(un 4 ((.bool q0) :: (un 147 []))), [], 0⟩
def newelref06_Fits_x15_4  : St := ⟨(un 152 []), [], 0⟩
def newelref06_Fits_b15 {R : Type} (N : Nat) (rc : Int → api_Hall → api_Day → Option R) (v53 : Int) (v54 : api_Hall) (v55 : api_Day) (kr : Bool → Option R) (k4 : Unit → Option R) : Option R :=
  bif decide (v53 < (↑(Arr.n (api_Hall.Combs v54)) : Int)) then
   bif decide ((0 : Int) ≤ v53) && decide (v53 < (↑(Arr.n (api_Day.Walks v55)) : Int)) then
    newelref06_within N ((↑(Arr.n (Arr.f (api_Day.Walks v55) (Int.toNat v53))) : Int)) (1 : Int) (20 : Int) (fun r56 =>
    bif !r56 then
     kr false
    else
     newelref06_Fits_l20 N N v53 (0 : Int) v54 v55 (fun r62 =>
      kr r62) (fun (_ : Unit) =>
      rc (w64 (v53 + (1 : Int))) v54 v55))
   else
    Option.none
  else
   k4 ()
def newelref06_Fits_l15 {R : Type} (N : Nat) : Nat → Int → api_Hall → api_Day → (Bool → Option R) → (Unit → Option R) → Option R
  | 0, _, _, _, _, _ => Option.none
  | n + 1, v53, v54, v55, kr, k4 => newelref06_Fits_b15 N (fun v53 v54 v55 => newelref06_Fits_l15 N n v53 v54 v55 kr k4) v53 v54 v55 kr k4
def newelref06_Fits_m {R : Type} (N : Nat) (a39 : api_Hall) (a40 : api_Day) (k : Bool → Option R) : Option R :=
  bif (↑(Arr.n (api_Day.At a40)) : Int) != (↑(Arr.n (api_Hall.Trains a39)) : Int) then
   k false
  else
   bif (↑(Arr.n (api_Day.People a40)) : Int) != (↑(Arr.n (api_Hall.Trains a39)) : Int) then
    k false
   else
    bif (↑(Arr.n (api_Day.Walks a40)) : Int) != (↑(Arr.n (api_Hall.Combs a39)) : Int) then
     k false
    else
     newelref06_Fits_l4 N N (0 : Int) a39 a40 (fun r52 =>
      k r52) (fun (_ : Unit) =>
      newelref06_Fits_l15 N N (0 : Int) a39 a40 (fun r63 =>
       k r63) (fun (_ : Unit) =>
       k true))
noncomputable def newelref06_Fits {R : Type} : Nat → api_Hall → api_Day → (Bool → Option R) → Option R := lock (@newelref06_Fits_m R)
theorem newelref06_Fits_def {R : Type} (N : Nat) (a39 : api_Hall) (a40 : api_Day) (k : Bool → Option R) : newelref06_Fits N a39 a40 k = newelref06_Fits_m N a39 a40 k := by unfold newelref06_Fits; rw [lock_eq]
def newelref06_Fits_sp : Sp := ⟨[rAgg api_HallC, rAgg api_DayC], []⟩
theorem newelref06_Fits_sp_ok : newelref06_Fits_sp.Ok := ⟨(allCons (rAgg_ok api_HallC_ok api_HallC_len) (allCons (rAgg_ok api_DayC_ok api_DayC_len) allNil)), eNil⟩
def newelref06_Fits_rs : Sp := ⟨[rBool], []⟩
theorem newelref06_Fits_rs_ok : newelref06_Fits_rs.Ok := ⟨(allCons rBool_ok allNil), eNil⟩
def newelref06_Fits_run {R : Type} (N : Nat) (args : List SV) (T : Tab) (kf : SV × Tab → Option R) : Option R :=
  newelref06_Fits_m N (Cod.dec api_HallC (lget (toCs (lget args 0)))) (Cod.dec api_DayC (lget (toCs (lget args 1)))) (fun q0 => kf (lget [.bool q0] 0, []))
def newelref06_Fits_d20 {R : Type} (N : Nat) (S0 : St) (k : Exit → St → Option R) : Option R :=
  newelref06_Fits_l20 N N (toI (lget S0.tmps 8)) (toI (lget S0.tmps 9)) (Cod.dec api_HallC (lget (entCs (entAt S0.tab 0)))) (Cod.dec api_DayC (lget (entCs (entAt S0.tab 1)))) (fun q0 => k .ret (newelref06_Fits_x20_r q0)) (fun (_ : Unit) => k (.exit 6) (newelref06_Fits_x20_6 (toI (lget S0.tmps 8)) (Cod.dec api_HallC (lget (entCs (entAt S0.tab 0)))) (Cod.dec api_DayC (lget (entCs (entAt S0.tab 1))))))
def newelref06_Fits_d15 {R : Type} (N : Nat) (S0 : St) (k : Exit → St → Option R) : Option R :=
  newelref06_Fits_l15 N N (toI (lget S0.tmps 8)) (Cod.dec api_HallC (lget (entCs (entAt S0.tab 0)))) (Cod.dec api_DayC (lget (entCs (entAt S0.tab 1)))) (fun q0 => k .ret (newelref06_Fits_x15_r q0)) (fun (_ : Unit) => k (.exit 4) (newelref06_Fits_x15_4 ))
def newelref06_Fits_d10 {R : Type} (N : Nat) (S0 : St) (k : Exit → St → Option R) : Option R :=
  newelref06_Fits_l10 N N (toI (lget S0.tmps 5)) (toI (lget S0.tmps 7)) (Cod.dec api_HallC (lget (entCs (entAt S0.tab 0)))) (Cod.dec api_DayC (lget (entCs (entAt S0.tab 1)))) (Cod.dec api_TrainC (lget (entCs (entAt S0.tab 2)))) (fun q0 => k .ret (newelref06_Fits_x10_r q0)) (fun (_ : Unit) => k (.exit 2) (newelref06_Fits_x10_2 (toI (lget S0.tmps 5)) (Cod.dec api_HallC (lget (entCs (entAt S0.tab 0)))) (Cod.dec api_DayC (lget (entCs (entAt S0.tab 1))))))
def newelref06_Fits_d4 {R : Type} (N : Nat) (S0 : St) (k : Exit → St → Option R) : Option R :=
  newelref06_Fits_l4 N N (toI (lget S0.tmps 5)) (Cod.dec api_HallC (lget (entCs (entAt S0.tab 0)))) (Cod.dec api_DayC (lget (entCs (entAt S0.tab 1)))) (fun q0 => k .ret (newelref06_Fits_x4_r q0)) (fun (_ : Unit) => k (.exit 0) (newelref06_Fits_x4_0 (Cod.dec api_HallC (lget (entCs (entAt S0.tab 0)))) (Cod.dec api_DayC (lget (entCs (entAt S0.tab 1))))))
def newelref06_Fits_lp {R : Type} (N : Nat) : Lp R := fun body S k => bif (Go.Sx.keyOf body).getD 0 == 4 then (newelref06_Fits_L4.head.raw 0 S (fun S0 => newelref06_Fits_d4 N S0 k)) else bif (Go.Sx.keyOf body).getD 0 == 10 then (newelref06_Fits_L10.head.raw 0 S (fun S0 => newelref06_Fits_d10 N S0 k)) else bif (Go.Sx.keyOf body).getD 0 == 15 then (newelref06_Fits_L15.head.raw 0 S (fun S0 => newelref06_Fits_d15 N S0 k)) else bif (Go.Sx.keyOf body).getD 0 == 20 then (newelref06_Fits_L20.head.raw 0 S (fun S0 => newelref06_Fits_d20 N S0 k)) else Option.none
theorem newelref06_Fits_l4_eq {R : Type} (N : Nat) (k : Exit → St → Option R) (n : Nat) : ∀ (v0 : Int) (v1 : api_Hall) (v2 : api_Day), loopM E.Θ (newelref06_Check_cal N) (newelref06_Fits_lp N) (noJn) 0 newelref06_Fits_L4 (bodyAt E 9 4) n (newelref06_Fits_h4 v0 v1 v2) k = newelref06_Fits_l4 N n v0 v1 v2 (fun q0 => k .ret (newelref06_Fits_x4_r q0)) (fun (_ : Unit) => k (.exit 0) (newelref06_Fits_x4_0 v1 v2)) := by
  induction n with
  | zero => intro v0 v1 v2; rfl
  | succ n ih =>
    intro v0 v1 v2
    refine Eq.trans (b := newelref06_Fits_b4 N (fun v0 v1 v2 => loopM E.Θ (newelref06_Check_cal N) (newelref06_Fits_lp N) (noJn) 0 newelref06_Fits_L4 (bodyAt E 9 4) n (newelref06_Fits_h4 v0 v1 v2) k) v0 v1 v2 (fun q0 => k .ret (newelref06_Fits_x4_r q0)) (fun (_ : Unit) => k (.exit 0) (newelref06_Fits_x4_0 v1 v2))) (by kernel_rfl) ?_
    have h : (fun (v0 : Int) (v1 : api_Hall) (v2 : api_Day) => loopM E.Θ (newelref06_Check_cal N) (newelref06_Fits_lp N) (noJn) 0 newelref06_Fits_L4 (bodyAt E 9 4) n (newelref06_Fits_h4 v0 v1 v2) k) = (fun (v0 : Int) (v1 : api_Hall) (v2 : api_Day) => newelref06_Fits_l4 N n v0 v1 v2 (fun q0 => k .ret (newelref06_Fits_x4_r q0)) (fun (_ : Unit) => k (.exit 0) (newelref06_Fits_x4_0 v1 v2))) := funext fun v0 => funext fun v1 => funext fun v2 => ih v0 v1 v2
    rw [h]
    rfl
theorem newelref06_Fits_l10_eq {R : Type} (N : Nat) (k : Exit → St → Option R) (n : Nat) : ∀ (v0 : Int) (v1 : Int) (v2 : api_Hall) (v3 : api_Day) (v4 : api_Train), loopM E.Θ (newelref06_Check_cal N) (newelref06_Fits_lp N) (noJn) 0 newelref06_Fits_L10 (bodyAt E 9 10) n (newelref06_Fits_h10 v0 v1 v2 v3 v4) k = newelref06_Fits_l10 N n v0 v1 v2 v3 v4 (fun q0 => k .ret (newelref06_Fits_x10_r q0)) (fun (_ : Unit) => k (.exit 2) (newelref06_Fits_x10_2 v0 v2 v3)) := by
  induction n with
  | zero => intro v0 v1 v2 v3 v4; rfl
  | succ n ih =>
    intro v0 v1 v2 v3 v4
    refine Eq.trans (b := newelref06_Fits_b10 N (fun v0 v1 v2 v3 v4 => loopM E.Θ (newelref06_Check_cal N) (newelref06_Fits_lp N) (noJn) 0 newelref06_Fits_L10 (bodyAt E 9 10) n (newelref06_Fits_h10 v0 v1 v2 v3 v4) k) v0 v1 v2 v3 v4 (fun q0 => k .ret (newelref06_Fits_x10_r q0)) (fun (_ : Unit) => k (.exit 2) (newelref06_Fits_x10_2 v0 v2 v3))) (by kernel_rfl) ?_
    have h : (fun (v0 : Int) (v1 : Int) (v2 : api_Hall) (v3 : api_Day) (v4 : api_Train) => loopM E.Θ (newelref06_Check_cal N) (newelref06_Fits_lp N) (noJn) 0 newelref06_Fits_L10 (bodyAt E 9 10) n (newelref06_Fits_h10 v0 v1 v2 v3 v4) k) = (fun (v0 : Int) (v1 : Int) (v2 : api_Hall) (v3 : api_Day) (v4 : api_Train) => newelref06_Fits_l10 N n v0 v1 v2 v3 v4 (fun q0 => k .ret (newelref06_Fits_x10_r q0)) (fun (_ : Unit) => k (.exit 2) (newelref06_Fits_x10_2 v0 v2 v3))) := funext fun v0 => funext fun v1 => funext fun v2 => funext fun v3 => funext fun v4 => ih v0 v1 v2 v3 v4
    rw [h]
    rfl
theorem newelref06_Fits_l15_eq {R : Type} (N : Nat) (k : Exit → St → Option R) (n : Nat) : ∀ (v0 : Int) (v1 : api_Hall) (v2 : api_Day), loopM E.Θ (newelref06_Check_cal N) (newelref06_Fits_lp N) (noJn) 0 newelref06_Fits_L15 (bodyAt E 9 15) n (newelref06_Fits_h15 v0 v1 v2) k = newelref06_Fits_l15 N n v0 v1 v2 (fun q0 => k .ret (newelref06_Fits_x15_r q0)) (fun (_ : Unit) => k (.exit 4) (newelref06_Fits_x15_4 )) := by
  induction n with
  | zero => intro v0 v1 v2; rfl
  | succ n ih =>
    intro v0 v1 v2
    refine Eq.trans (b := newelref06_Fits_b15 N (fun v0 v1 v2 => loopM E.Θ (newelref06_Check_cal N) (newelref06_Fits_lp N) (noJn) 0 newelref06_Fits_L15 (bodyAt E 9 15) n (newelref06_Fits_h15 v0 v1 v2) k) v0 v1 v2 (fun q0 => k .ret (newelref06_Fits_x15_r q0)) (fun (_ : Unit) => k (.exit 4) (newelref06_Fits_x15_4 ))) (by kernel_rfl) ?_
    have h : (fun (v0 : Int) (v1 : api_Hall) (v2 : api_Day) => loopM E.Θ (newelref06_Check_cal N) (newelref06_Fits_lp N) (noJn) 0 newelref06_Fits_L15 (bodyAt E 9 15) n (newelref06_Fits_h15 v0 v1 v2) k) = (fun (v0 : Int) (v1 : api_Hall) (v2 : api_Day) => newelref06_Fits_l15 N n v0 v1 v2 (fun q0 => k .ret (newelref06_Fits_x15_r q0)) (fun (_ : Unit) => k (.exit 4) (newelref06_Fits_x15_4 ))) := funext fun v0 => funext fun v1 => funext fun v2 => ih v0 v1 v2
    rw [h]
    rfl
theorem newelref06_Fits_l20_eq {R : Type} (N : Nat) (k : Exit → St → Option R) (n : Nat) : ∀ (v0 : Int) (v1 : Int) (v2 : api_Hall) (v3 : api_Day), loopM E.Θ (newelref06_Check_cal N) (newelref06_Fits_lp N) (noJn) 0 newelref06_Fits_L20 (bodyAt E 9 20) n (newelref06_Fits_h20 v0 v1 v2 v3) k = newelref06_Fits_l20 N n v0 v1 v2 v3 (fun q0 => k .ret (newelref06_Fits_x20_r q0)) (fun (_ : Unit) => k (.exit 6) (newelref06_Fits_x20_6 v0 v2 v3)) := by
  induction n with
  | zero => intro v0 v1 v2 v3; rfl
  | succ n ih =>
    intro v0 v1 v2 v3
    refine Eq.trans (b := newelref06_Fits_b20 N (fun v0 v1 v2 v3 => loopM E.Θ (newelref06_Check_cal N) (newelref06_Fits_lp N) (noJn) 0 newelref06_Fits_L20 (bodyAt E 9 20) n (newelref06_Fits_h20 v0 v1 v2 v3) k) v0 v1 v2 v3 (fun q0 => k .ret (newelref06_Fits_x20_r q0)) (fun (_ : Unit) => k (.exit 6) (newelref06_Fits_x20_6 v0 v2 v3))) (by kernel_rfl) ?_
    have h : (fun (v0 : Int) (v1 : Int) (v2 : api_Hall) (v3 : api_Day) => loopM E.Θ (newelref06_Check_cal N) (newelref06_Fits_lp N) (noJn) 0 newelref06_Fits_L20 (bodyAt E 9 20) n (newelref06_Fits_h20 v0 v1 v2 v3) k) = (fun (v0 : Int) (v1 : Int) (v2 : api_Hall) (v3 : api_Day) => newelref06_Fits_l20 N n v0 v1 v2 v3 (fun q0 => k .ret (newelref06_Fits_x20_r q0)) (fun (_ : Unit) => k (.exit 6) (newelref06_Fits_x20_6 v0 v2 v3))) := funext fun v0 => funext fun v1 => funext fun v2 => funext fun v3 => ih v0 v1 v2 v3
    rw [h]
    rfl
theorem newelref06_Fits_k20 {R : Type} (N : Nat) : LpKey (R := R) E 9 0 (newelref06_Fits_lp N) 20 :=
  lpKey_of hE (newelref06_Check_cal_ok N) (lp := newelref06_Fits_lp N) (jn := noJn) newelref06_Fits_L20_ok [] kNil (by kernel_rfl) [] jNil (by kernel_rfl) N fun S k =>
    Eq.trans (b := newelref06_Fits_L20.head.raw 0 S (fun S0 => newelref06_Fits_d20 N S0 k)) (by kernel_rfl) (congrArg (newelref06_Fits_L20.head.raw 0 S) (funext fun S0 => Eq.trans (newelref06_Fits_l20_eq N k N (toI (lget S0.tmps 8)) (toI (lget S0.tmps 9)) (Cod.dec api_HallC (lget (entCs (entAt S0.tab 0)))) (Cod.dec api_DayC (lget (entCs (entAt S0.tab 1))))).symm (by kernel_rfl)))
theorem newelref06_Fits_k10 {R : Type} (N : Nat) : LpKey (R := R) E 9 0 (newelref06_Fits_lp N) 10 :=
  lpKey_of hE (newelref06_Check_cal_ok N) (lp := newelref06_Fits_lp N) (jn := noJn) newelref06_Fits_L10_ok [] kNil (by kernel_rfl) [] jNil (by kernel_rfl) N fun S k =>
    Eq.trans (b := newelref06_Fits_L10.head.raw 0 S (fun S0 => newelref06_Fits_d10 N S0 k)) (by kernel_rfl) (congrArg (newelref06_Fits_L10.head.raw 0 S) (funext fun S0 => Eq.trans (newelref06_Fits_l10_eq N k N (toI (lget S0.tmps 5)) (toI (lget S0.tmps 7)) (Cod.dec api_HallC (lget (entCs (entAt S0.tab 0)))) (Cod.dec api_DayC (lget (entCs (entAt S0.tab 1)))) (Cod.dec api_TrainC (lget (entCs (entAt S0.tab 2))))).symm (by kernel_rfl)))
theorem newelref06_Fits_k15 {R : Type} (N : Nat) : LpKey (R := R) E 9 0 (newelref06_Fits_lp N) 15 :=
  lpKey_of hE (newelref06_Check_cal_ok N) (lp := newelref06_Fits_lp N) (jn := noJn) newelref06_Fits_L15_ok [20] (kCons (newelref06_Fits_k20 N) kNil) (by kernel_rfl) [] jNil (by kernel_rfl) N fun S k =>
    Eq.trans (b := newelref06_Fits_L15.head.raw 0 S (fun S0 => newelref06_Fits_d15 N S0 k)) (by kernel_rfl) (congrArg (newelref06_Fits_L15.head.raw 0 S) (funext fun S0 => Eq.trans (newelref06_Fits_l15_eq N k N (toI (lget S0.tmps 8)) (Cod.dec api_HallC (lget (entCs (entAt S0.tab 0)))) (Cod.dec api_DayC (lget (entCs (entAt S0.tab 1))))).symm (by kernel_rfl)))
theorem newelref06_Fits_k4 {R : Type} (N : Nat) : LpKey (R := R) E 9 0 (newelref06_Fits_lp N) 4 :=
  lpKey_of hE (newelref06_Check_cal_ok N) (lp := newelref06_Fits_lp N) (jn := noJn) newelref06_Fits_L4_ok [10] (kCons (newelref06_Fits_k10 N) kNil) (by kernel_rfl) [] jNil (by kernel_rfl) N fun S k =>
    Eq.trans (b := newelref06_Fits_L4.head.raw 0 S (fun S0 => newelref06_Fits_d4 N S0 k)) (by kernel_rfl) (congrArg (newelref06_Fits_L4.head.raw 0 S) (funext fun S0 => Eq.trans (newelref06_Fits_l4_eq N k N (toI (lget S0.tmps 5)) (Cod.dec api_HallC (lget (entCs (entAt S0.tab 0)))) (Cod.dec api_DayC (lget (entCs (entAt S0.tab 1))))).symm (by kernel_rfl)))
noncomputable def newelref06_Fits_go {R : Type} (N : Nat) (args : List SV) (T : Tab) (kf : SV × Tab → Option R) : Option R :=
  newelref06_Fits N (Cod.dec api_HallC (lget (toCs (lget args 0)))) (Cod.dec api_DayC (lget (toCs (lget args 1)))) (fun q0 => kf (lget [.bool q0] 0, []))
noncomputable def newelref06_Fits_cal {R : Type} (N : Nat) : Cal R := callM (newelref06_Check_cal N) 9 0 newelref06_Fits_sp (newelref06_Fits_go N)
theorem newelref06_Fits_cal_ok {R : Type} (N : Nat) : CalOk E.P (newelref06_Fits_cal (R := R) N) :=
  callM_ok hE (newelref06_Check_cal_ok N) (lp := newelref06_Fits_lp N) (jn := noJn) (keys := [4, 10, 15, 20]) (kCons (newelref06_Fits_k4 N) (kCons (newelref06_Fits_k10 N) (kCons (newelref06_Fits_k15 N) (kCons (newelref06_Fits_k20 N) kNil)))) (by kernel_rfl) (js := []) jNil (by kernel_rfl) newelref06_Fits_sp_ok newelref06_Fits_rs_ok (fun args T kf => Eq.trans (newelref06_Fits_def N (Cod.dec api_HallC (lget (toCs (lget args 0)))) (Cod.dec api_DayC (lget (toCs (lget args 1)))) (fun q0 => kf (lget [.bool q0] 0, []))) (by kernel_rfl : newelref06_Fits_run N args T kf = fnM E (newelref06_Check_cal N) (newelref06_Fits_lp N) (noJn) 9 (newelref06_Fits_sp.vs args) (newelref06_Fits_sp.tab T) 0 (resK newelref06_Fits_rs kf)))
def halls_in_m {R : Type} (N : Nat) (a64 : Int) (a65 : api_Span) (k : Bool → Option R) : Option R :=
  bif decide (api_Span.Low a65 ≤ a64) then
   k (decide (a64 ≤ api_Span.High a65))
  else
   k false
noncomputable def halls_in {R : Type} : Nat → Int → api_Span → (Bool → Option R) → Option R := lock (@halls_in_m R)
theorem halls_in_def {R : Type} (N : Nat) (a64 : Int) (a65 : api_Span) (k : Bool → Option R) : halls_in N a64 a65 k = halls_in_m N a64 a65 k := by unfold halls_in; rw [lock_eq]
def halls_in_sp : Sp := ⟨[rInt .i64, rAgg api_SpanC], []⟩
theorem halls_in_sp_ok : halls_in_sp.Ok := ⟨(allCons (rInt_ok .i64) (allCons (rAgg_ok api_SpanC_ok api_SpanC_len) allNil)), eNil⟩
def halls_in_rs : Sp := ⟨[rBool], []⟩
theorem halls_in_rs_ok : halls_in_rs.Ok := ⟨(allCons rBool_ok allNil), eNil⟩
def halls_in_run {R : Type} (N : Nat) (args : List SV) (T : Tab) (kf : SV × Tab → Option R) : Option R :=
  halls_in_m N (toI (lget args 0)) (Cod.dec api_SpanC (lget (toCs (lget args 1)))) (fun q0 => kf (lget [.bool q0] 0, []))
def halls_in_lp {R : Type} (N : Nat) : Lp R := fun body S k => Option.none
noncomputable def halls_in_go {R : Type} (N : Nat) (args : List SV) (T : Tab) (kf : SV × Tab → Option R) : Option R :=
  halls_in N (toI (lget args 0)) (Cod.dec api_SpanC (lget (toCs (lget args 1)))) (fun q0 => kf (lget [.bool q0] 0, []))
noncomputable def halls_in_cal {R : Type} (N : Nat) : Cal R := callM (newelref06_Fits_cal N) 61 0 halls_in_sp (halls_in_go N)
theorem halls_in_cal_ok {R : Type} (N : Nat) : CalOk E.P (halls_in_cal (R := R) N) :=
  callM_ok hE (newelref06_Fits_cal_ok N) (lp := halls_in_lp N) (jn := noJn) (keys := []) kNil (by kernel_rfl) (js := []) jNil (by kernel_rfl) halls_in_sp_ok halls_in_rs_ok (fun args T kf => Eq.trans (halls_in_def N (toI (lget args 0)) (Cod.dec api_SpanC (lget (toCs (lget args 1)))) (fun q0 => kf (lget [.bool q0] 0, []))) (by kernel_rfl : halls_in_run N args T kf = fnM E (newelref06_Fits_cal N) (halls_in_lp N) (noJn) 61 (halls_in_sp.vs args) (halls_in_sp.tab T) 0 (resK halls_in_rs kf)))
def halls_span_m {R : Type} (N : Nat) (a66 : api_Span) (a67 : Int) (a68 : Int) (k : Bool → Option R) : Option R :=
  bif decide (a67 ≤ api_Span.Low a66) then
   bif decide (api_Span.Low a66 ≤ api_Span.High a66) then
    k (decide (api_Span.High a66 ≤ a68))
   else
    k false
  else
   k false
noncomputable def halls_span {R : Type} : Nat → api_Span → Int → Int → (Bool → Option R) → Option R := lock (@halls_span_m R)
theorem halls_span_def {R : Type} (N : Nat) (a66 : api_Span) (a67 : Int) (a68 : Int) (k : Bool → Option R) : halls_span N a66 a67 a68 k = halls_span_m N a66 a67 a68 k := by unfold halls_span; rw [lock_eq]
def halls_span_sp : Sp := ⟨[rAgg api_SpanC, rInt .i64, rInt .i64], []⟩
theorem halls_span_sp_ok : halls_span_sp.Ok := ⟨(allCons (rAgg_ok api_SpanC_ok api_SpanC_len) (allCons (rInt_ok .i64) (allCons (rInt_ok .i64) allNil))), eNil⟩
def halls_span_rs : Sp := ⟨[rBool], []⟩
theorem halls_span_rs_ok : halls_span_rs.Ok := ⟨(allCons rBool_ok allNil), eNil⟩
def halls_span_run {R : Type} (N : Nat) (args : List SV) (T : Tab) (kf : SV × Tab → Option R) : Option R :=
  halls_span_m N (Cod.dec api_SpanC (lget (toCs (lget args 0)))) (toI (lget args 1)) (toI (lget args 2)) (fun q0 => kf (lget [.bool q0] 0, []))
def halls_span_lp {R : Type} (N : Nat) : Lp R := fun body S k => Option.none
noncomputable def halls_span_go {R : Type} (N : Nat) (args : List SV) (T : Tab) (kf : SV × Tab → Option R) : Option R :=
  halls_span N (Cod.dec api_SpanC (lget (toCs (lget args 0)))) (toI (lget args 1)) (toI (lget args 2)) (fun q0 => kf (lget [.bool q0] 0, []))
noncomputable def halls_span_cal {R : Type} (N : Nat) : Cal R := callM (halls_in_cal N) 76 0 halls_span_sp (halls_span_go N)
theorem halls_span_cal_ok {R : Type} (N : Nat) : CalOk E.P (halls_span_cal (R := R) N) :=
  callM_ok hE (halls_in_cal_ok N) (lp := halls_span_lp N) (jn := noJn) (keys := []) kNil (by kernel_rfl) (js := []) jNil (by kernel_rfl) halls_span_sp_ok halls_span_rs_ok (fun args T kf => Eq.trans (halls_span_def N (Cod.dec api_SpanC (lget (toCs (lget args 0)))) (toI (lget args 1)) (toI (lget args 2)) (fun q0 => kf (lget [.bool q0] 0, []))) (by kernel_rfl : halls_span_run N args T kf = fnM E (halls_in_cal N) (halls_span_lp N) (noJn) 76 (halls_span_sp.vs args) (halls_span_sp.tab T) 0 (resK halls_span_rs kf)))
def halls_isComb_m {R : Type} (N : Nat) (a69 : api_Hall) (a70 : Int) (k : Bool → Option R) : Option R :=
  bif decide ((0 : Int) ≤ a70) && decide (a70 < (↑(Arr.n (api_Hall.Combs a69)) : Int)) then
   halls_in N (api_Comb.Rate (Arr.f (api_Hall.Combs a69) (Int.toNat a70))) (api_Span.mk (0 : Int) (1000 : Int)) (fun r71 =>
   bif r71 then
    halls_in N (api_Comb.Limit (Arr.f (api_Hall.Combs a69) (Int.toNat a70))) (api_Span.mk (0 : Int) (100000 : Int)) (fun r72 =>
    bif r72 then
     bif api_Comb.Next (Arr.f (api_Hall.Combs a69) (Int.toNat a70)) == (-1 : Int) then
      halls_span N (api_Comb.Walk (Arr.f (api_Hall.Combs a69) (Int.toNat a70))) (1 : Int) (20 : Int) (fun r73 =>
      k r73)
     else
      bif decide (api_Comb.Next (Arr.f (api_Hall.Combs a69) (Int.toNat a70)) > a70) then
       bif decide (api_Comb.Next (Arr.f (api_Hall.Combs a69) (Int.toNat a70)) < (↑(Arr.n (api_Hall.Combs a69)) : Int)) then
        halls_span N (api_Comb.Walk (Arr.f (api_Hall.Combs a69) (Int.toNat a70))) (1 : Int) (20 : Int) (fun r74 =>
        k r74)
       else
        k false
      else
       k false
    else
     k false)
   else
    k false)
  else
   Option.none
noncomputable def halls_isComb {R : Type} : Nat → api_Hall → Int → (Bool → Option R) → Option R := lock (@halls_isComb_m R)
theorem halls_isComb_def {R : Type} (N : Nat) (a69 : api_Hall) (a70 : Int) (k : Bool → Option R) : halls_isComb N a69 a70 k = halls_isComb_m N a69 a70 k := by unfold halls_isComb; rw [lock_eq]
def halls_isComb_sp : Sp := ⟨[rAgg api_HallC, rInt .i64], []⟩
theorem halls_isComb_sp_ok : halls_isComb_sp.Ok := ⟨(allCons (rAgg_ok api_HallC_ok api_HallC_len) (allCons (rInt_ok .i64) allNil)), eNil⟩
def halls_isComb_rs : Sp := ⟨[rBool], []⟩
theorem halls_isComb_rs_ok : halls_isComb_rs.Ok := ⟨(allCons rBool_ok allNil), eNil⟩
def halls_isComb_run {R : Type} (N : Nat) (args : List SV) (T : Tab) (kf : SV × Tab → Option R) : Option R :=
  halls_isComb_m N (Cod.dec api_HallC (lget (toCs (lget args 0)))) (toI (lget args 1)) (fun q0 => kf (lget [.bool q0] 0, []))
def halls_isComb_lp {R : Type} (N : Nat) : Lp R := fun body S k => Option.none
noncomputable def halls_isComb_go {R : Type} (N : Nat) (args : List SV) (T : Tab) (kf : SV × Tab → Option R) : Option R :=
  halls_isComb N (Cod.dec api_HallC (lget (toCs (lget args 0)))) (toI (lget args 1)) (fun q0 => kf (lget [.bool q0] 0, []))
noncomputable def halls_isComb_cal {R : Type} (N : Nat) : Cal R := callM (halls_span_cal N) 57 0 halls_isComb_sp (halls_isComb_go N)
theorem halls_isComb_cal_ok {R : Type} (N : Nat) : CalOk E.P (halls_isComb_cal (R := R) N) :=
  callM_ok hE (halls_span_cal_ok N) (lp := halls_isComb_lp N) (jn := noJn) (keys := []) kNil (by kernel_rfl) (js := []) jNil (by kernel_rfl) halls_isComb_sp_ok halls_isComb_rs_ok (fun args T kf => Eq.trans (halls_isComb_def N (Cod.dec api_HallC (lget (toCs (lget args 0)))) (toI (lget args 1)) (fun q0 => kf (lget [.bool q0] 0, []))) (by kernel_rfl : halls_isComb_run N args T kf = fnM E (halls_span_cal N) (halls_isComb_lp N) (noJn) 57 (halls_isComb_sp.vs args) (halls_isComb_sp.tab T) 0 (resK halls_isComb_rs kf)))
def halls_isTrain_L3 : LoopSp := ⟨⟨[2, 3, 5, 9, 10, 11], ⟨(dr 2 ((rPtr 0 0) :: (rPtr 1 0) :: (dr 1 ((rInt .i64) :: (dr 3 ((rSl api_CrowdC) :: (rInt .i64) :: (rInt .i64) :: (dr 36 []))))))), [(0, eBlkC api_HallC), (1, eBlkC api_TrainC)]⟩, 2⟩, [(Option.none, ⟨[4], ⟨(dr 4 ((rBool) :: (dr 43 []))), []⟩, 0⟩), (some 0, ⟨[2, 3], ⟨(dr 2 ((rPtr 0 0) :: (rPtr 1 0) :: (dr 44 []))), [(0, eBlkC api_HallC), (1, eBlkC api_TrainC)]⟩, 2⟩)]⟩
theorem halls_isTrain_L3_ok : halls_isTrain_L3.Ok := ⟨⟨(drCons 2 (allCons (rPtr_ok 0 0) (allCons (rPtr_ok 1 0) (drCons 1 (allCons (rInt_ok .i64) (drCons 3 (allCons (rSl_ok api_CrowdC_ok) (allCons (rInt_ok .i64) (allCons (rInt_ok .i64) (drCons 36 allNil)))))))))), (eCons (eBlkC_ok api_HallC_ok api_HallC_len) (eCons (eBlkC_ok api_TrainC_ok api_TrainC_len) eNil))⟩, (xCons ⟨(drCons 4 (allCons rBool_ok (drCons 43 allNil))), eNil⟩ (xCons ⟨(drCons 2 (allCons (rPtr_ok 0 0) (allCons (rPtr_ok 1 0) (drCons 44 allNil)))), (eCons (eBlkC_ok api_HallC_ok api_HallC_len) (eCons (eBlkC_ok api_TrainC_ok api_TrainC_len) eNil))⟩ xNil))⟩
def halls_isTrain_h3 (v77 : Int) (v78 : Arr api_Crowd) (v79 : Int) (v80 : Int) (v81 : api_Hall) (v82 : api_Train) : St := ⟨(un 2 ((.ptr 0 0) :: (.ptr 1 0) :: (un 1 ((.int .i64 v77) :: (un 3 ((slC api_CrowdC v78) :: (.int .i64 v79) :: (.int .i64 v80) :: (un 36 []))))))), [(0, .blk (Cod.enc api_HallC v81)), (1, .blk (Cod.enc api_TrainC v82))], 2⟩
def halls_isTrain_x3_r (q0 : Bool) : St := ⟨(un 4 ((.bool q0) :: (un 43 []))), [], 0⟩
def halls_isTrain_x3_0 (v81 : api_Hall) (v82 : api_Train) : St := ⟨(un 2 ((.ptr 0 0) :: (.ptr 1 0) :: (un 44 []))), [(0, .blk (Cod.enc api_HallC v81)), (1, .blk (Cod.enc api_TrainC v82))], 2⟩
def halls_isTrain_b3 {R : Type} (N : Nat) (rc : Int → Arr api_Crowd → Int → Int → api_Hall → api_Train → Option R) (v77 : Int) (v78 : Arr api_Crowd) (v79 : Int) (v80 : Int) (v81 : api_Hall) (v82 : api_Train) (kr : Bool → Option R) (k0 : Unit → Option R) : Option R :=
  bif decide (v80 < v79) then
   bif decide ((0 : Int) ≤ v80) && decide (v80 < (↑(Arr.n v78) : Int)) then
    bif decide (api_Crowd.Comb (Arr.f v78 (Int.toNat v80)) ≤ v77) then
     kr false
    else
     bif decide (api_Crowd.Comb (Arr.f v78 (Int.toNat v80)) ≥ (↑(Arr.n (api_Hall.Combs v81)) : Int)) then
      kr false
     else
      halls_span N (api_Crowd.People (Arr.f v78 (Int.toNat v80))) (0 : Int) (1000 : Int) (fun r83 =>
      bif !r83 then
       kr false
      else
       rc (api_Crowd.Comb (Arr.f v78 (Int.toNat v80))) v78 v79 (w64 (v80 + (1 : Int))) v81 v82)
   else
    Option.none
  else
   k0 ()
def halls_isTrain_l3 {R : Type} (N : Nat) : Nat → Int → Arr api_Crowd → Int → Int → api_Hall → api_Train → (Bool → Option R) → (Unit → Option R) → Option R
  | 0, _, _, _, _, _, _, _, _ => Option.none
  | n + 1, v77, v78, v79, v80, v81, v82, kr, k0 => halls_isTrain_b3 N (fun v77 v78 v79 v80 v81 v82 => halls_isTrain_l3 N n v77 v78 v79 v80 v81 v82 kr k0) v77 v78 v79 v80 v81 v82 kr k0
def halls_isTrain_m {R : Type} (N : Nat) (a75 : api_Hall) (a76 : api_Train) (k : Bool → Option R) : Option R :=
  halls_isTrain_l3 N N (-1 : Int) (api_Train.Crowds a76) ((↑(Arr.n (api_Train.Crowds a76)) : Int)) (0 : Int) a75 a76 (fun r84 =>
   k r84) (fun (_ : Unit) =>
   halls_span N (api_Train.At a76) (0 : Int) (w64 (api_Hall.Until a75 - (1 : Int))) (fun r85 =>
   bif r85 then
    k (decide ((↑(Arr.n (api_Train.Crowds a76)) : Int) ≤ (4 : Int)))
   else
    k false))
noncomputable def halls_isTrain {R : Type} : Nat → api_Hall → api_Train → (Bool → Option R) → Option R := lock (@halls_isTrain_m R)
theorem halls_isTrain_def {R : Type} (N : Nat) (a75 : api_Hall) (a76 : api_Train) (k : Bool → Option R) : halls_isTrain N a75 a76 k = halls_isTrain_m N a75 a76 k := by unfold halls_isTrain; rw [lock_eq]
def halls_isTrain_sp : Sp := ⟨[rAgg api_HallC, rAgg api_TrainC], []⟩
theorem halls_isTrain_sp_ok : halls_isTrain_sp.Ok := ⟨(allCons (rAgg_ok api_HallC_ok api_HallC_len) (allCons (rAgg_ok api_TrainC_ok api_TrainC_len) allNil)), eNil⟩
def halls_isTrain_rs : Sp := ⟨[rBool], []⟩
theorem halls_isTrain_rs_ok : halls_isTrain_rs.Ok := ⟨(allCons rBool_ok allNil), eNil⟩
def halls_isTrain_run {R : Type} (N : Nat) (args : List SV) (T : Tab) (kf : SV × Tab → Option R) : Option R :=
  halls_isTrain_m N (Cod.dec api_HallC (lget (toCs (lget args 0)))) (Cod.dec api_TrainC (lget (toCs (lget args 1)))) (fun q0 => kf (lget [.bool q0] 0, []))
def halls_isTrain_d3 {R : Type} (N : Nat) (S0 : St) (k : Exit → St → Option R) : Option R :=
  halls_isTrain_l3 N N (toI (lget S0.tmps 5)) (lstC api_CrowdC (lget S0.tmps 9)) (toI (lget S0.tmps 10)) (toI (lget S0.tmps 11)) (Cod.dec api_HallC (lget (entCs (entAt S0.tab 0)))) (Cod.dec api_TrainC (lget (entCs (entAt S0.tab 1)))) (fun q0 => k .ret (halls_isTrain_x3_r q0)) (fun (_ : Unit) => k (.exit 0) (halls_isTrain_x3_0 (Cod.dec api_HallC (lget (entCs (entAt S0.tab 0)))) (Cod.dec api_TrainC (lget (entCs (entAt S0.tab 1))))))
def halls_isTrain_lp {R : Type} (N : Nat) : Lp R := fun body S k => bif (Go.Sx.keyOf body).getD 0 == 3 then (halls_isTrain_L3.head.raw 0 S (fun S0 => halls_isTrain_d3 N S0 k)) else Option.none
theorem halls_isTrain_l3_eq {R : Type} (N : Nat) (k : Exit → St → Option R) (n : Nat) : ∀ (v0 : Int) (v1 : Arr api_Crowd) (v2 : Int) (v3 : Int) (v4 : api_Hall) (v5 : api_Train), loopM E.Θ (halls_isComb_cal N) (halls_isTrain_lp N) (noJn) 0 halls_isTrain_L3 (bodyAt E 60 3) n (halls_isTrain_h3 v0 v1 v2 v3 v4 v5) k = halls_isTrain_l3 N n v0 v1 v2 v3 v4 v5 (fun q0 => k .ret (halls_isTrain_x3_r q0)) (fun (_ : Unit) => k (.exit 0) (halls_isTrain_x3_0 v4 v5)) := by
  induction n with
  | zero => intro v0 v1 v2 v3 v4 v5; rfl
  | succ n ih =>
    intro v0 v1 v2 v3 v4 v5
    refine Eq.trans (b := halls_isTrain_b3 N (fun v0 v1 v2 v3 v4 v5 => loopM E.Θ (halls_isComb_cal N) (halls_isTrain_lp N) (noJn) 0 halls_isTrain_L3 (bodyAt E 60 3) n (halls_isTrain_h3 v0 v1 v2 v3 v4 v5) k) v0 v1 v2 v3 v4 v5 (fun q0 => k .ret (halls_isTrain_x3_r q0)) (fun (_ : Unit) => k (.exit 0) (halls_isTrain_x3_0 v4 v5))) (by kernel_rfl) ?_
    have h : (fun (v0 : Int) (v1 : Arr api_Crowd) (v2 : Int) (v3 : Int) (v4 : api_Hall) (v5 : api_Train) => loopM E.Θ (halls_isComb_cal N) (halls_isTrain_lp N) (noJn) 0 halls_isTrain_L3 (bodyAt E 60 3) n (halls_isTrain_h3 v0 v1 v2 v3 v4 v5) k) = (fun (v0 : Int) (v1 : Arr api_Crowd) (v2 : Int) (v3 : Int) (v4 : api_Hall) (v5 : api_Train) => halls_isTrain_l3 N n v0 v1 v2 v3 v4 v5 (fun q0 => k .ret (halls_isTrain_x3_r q0)) (fun (_ : Unit) => k (.exit 0) (halls_isTrain_x3_0 v4 v5))) := funext fun v0 => funext fun v1 => funext fun v2 => funext fun v3 => funext fun v4 => funext fun v5 => ih v0 v1 v2 v3 v4 v5
    rw [h]
    rfl
theorem halls_isTrain_k3 {R : Type} (N : Nat) : LpKey (R := R) E 60 0 (halls_isTrain_lp N) 3 :=
  lpKey_of hE (halls_isComb_cal_ok N) (lp := halls_isTrain_lp N) (jn := noJn) halls_isTrain_L3_ok [] kNil (by kernel_rfl) [] jNil (by kernel_rfl) N fun S k =>
    Eq.trans (b := halls_isTrain_L3.head.raw 0 S (fun S0 => halls_isTrain_d3 N S0 k)) (by kernel_rfl) (congrArg (halls_isTrain_L3.head.raw 0 S) (funext fun S0 => Eq.trans (halls_isTrain_l3_eq N k N (toI (lget S0.tmps 5)) (lstC api_CrowdC (lget S0.tmps 9)) (toI (lget S0.tmps 10)) (toI (lget S0.tmps 11)) (Cod.dec api_HallC (lget (entCs (entAt S0.tab 0)))) (Cod.dec api_TrainC (lget (entCs (entAt S0.tab 1))))).symm (by kernel_rfl)))
noncomputable def halls_isTrain_go {R : Type} (N : Nat) (args : List SV) (T : Tab) (kf : SV × Tab → Option R) : Option R :=
  halls_isTrain N (Cod.dec api_HallC (lget (toCs (lget args 0)))) (Cod.dec api_TrainC (lget (toCs (lget args 1)))) (fun q0 => kf (lget [.bool q0] 0, []))
noncomputable def halls_isTrain_cal {R : Type} (N : Nat) : Cal R := callM (halls_isComb_cal N) 60 0 halls_isTrain_sp (halls_isTrain_go N)
theorem halls_isTrain_cal_ok {R : Type} (N : Nat) : CalOk E.P (halls_isTrain_cal (R := R) N) :=
  callM_ok hE (halls_isComb_cal_ok N) (lp := halls_isTrain_lp N) (jn := noJn) (keys := [3]) (kCons (halls_isTrain_k3 N) kNil) (by kernel_rfl) (js := []) jNil (by kernel_rfl) halls_isTrain_sp_ok halls_isTrain_rs_ok (fun args T kf => Eq.trans (halls_isTrain_def N (Cod.dec api_HallC (lget (toCs (lget args 0)))) (Cod.dec api_TrainC (lget (toCs (lget args 1)))) (fun q0 => kf (lget [.bool q0] 0, []))) (by kernel_rfl : halls_isTrain_run N args T kf = fnM E (halls_isComb_cal N) (halls_isTrain_lp N) (noJn) 60 (halls_isTrain_sp.vs args) (halls_isTrain_sp.tab T) 0 (resK halls_isTrain_rs kf)))
def halls_Check_1_m {R : Type} (N : Nat) (a100 : api_Train) (a101 : api_Hall) (k : Bool → Option R) : Option R :=
  halls_isTrain N a101 a100 (fun r102 =>
  k (!r102))
noncomputable def halls_Check_1 {R : Type} : Nat → api_Train → api_Hall → (Bool → Option R) → Option R := lock (@halls_Check_1_m R)
theorem halls_Check_1_def {R : Type} (N : Nat) (a100 : api_Train) (a101 : api_Hall) (k : Bool → Option R) : halls_Check_1 N a100 a101 k = halls_Check_1_m N a100 a101 k := by unfold halls_Check_1; rw [lock_eq]
def halls_Check_1_sp : Sp := ⟨[rAgg api_TrainC, rPtr 0 0], [(0, eBlkC api_HallC)]⟩
theorem halls_Check_1_sp_ok : halls_Check_1_sp.Ok := ⟨(allCons (rAgg_ok api_TrainC_ok api_TrainC_len) (allCons (rPtr_ok 0 0) allNil)), (eCons (eBlkC_ok api_HallC_ok api_HallC_len) eNil)⟩
def halls_Check_1_rs : Sp := ⟨[rBool], [(0, eBlkC api_HallC)]⟩
theorem halls_Check_1_rs_ok : halls_Check_1_rs.Ok := ⟨(allCons rBool_ok allNil), (eCons (eBlkC_ok api_HallC_ok api_HallC_len) eNil)⟩
def halls_Check_1_run {R : Type} (N : Nat) (args : List SV) (T : Tab) (kf : SV × Tab → Option R) : Option R :=
  halls_Check_1_m N (Cod.dec api_TrainC (lget (toCs (lget args 0)))) (Cod.dec api_HallC (lget (entCs (entAt T 0)))) (fun q0 => kf (lget [.bool q0] 0, [(0, .blk (Cod.enc api_HallC (Cod.dec api_HallC (lget (entCs (entAt T 0))))))]))
def halls_Check_1_lp {R : Type} (N : Nat) : Lp R := fun body S k => Option.none
noncomputable def halls_Check_1_go {R : Type} (N : Nat) (args : List SV) (T : Tab) (kf : SV × Tab → Option R) : Option R :=
  halls_Check_1 N (Cod.dec api_TrainC (lget (toCs (lget args 0)))) (Cod.dec api_HallC (lget (entCs (entAt T 0)))) (fun q0 => kf (lget [.bool q0] 0, [(0, .blk (Cod.enc api_HallC (Cod.dec api_HallC (lget (entCs (entAt T 0))))))]))
noncomputable def halls_Check_1_cal {R : Type} (N : Nat) : Cal R := callM (halls_isTrain_cal N) 59 1 halls_Check_1_sp (halls_Check_1_go N)
theorem halls_Check_1_cal_ok {R : Type} (N : Nat) : CalOk E.P (halls_Check_1_cal (R := R) N) :=
  callM_ok hE (halls_isTrain_cal_ok N) (lp := halls_Check_1_lp N) (jn := noJn) (keys := []) kNil (by kernel_rfl) (js := []) jNil (by kernel_rfl) halls_Check_1_sp_ok halls_Check_1_rs_ok (fun args T kf => Eq.trans (halls_Check_1_def N (Cod.dec api_TrainC (lget (toCs (lget args 0)))) (Cod.dec api_HallC (lget (entCs (entAt T 0)))) (fun q0 => kf (lget [.bool q0] 0, [(0, .blk (Cod.enc api_HallC (Cod.dec api_HallC (lget (entCs (entAt T 0))))))]))) (by kernel_rfl : halls_Check_1_run N args T kf = fnM E (halls_isTrain_cal N) (halls_Check_1_lp N) (noJn) 59 (halls_Check_1_sp.vs args) (halls_Check_1_sp.tab T) 1 (resK halls_Check_1_rs kf)))
def slices_IndexFunc___api_Train_api_Train__L2 : LoopSp := ⟨⟨[0, 1, 7, 8], ⟨((rSl api_TrainC) :: (rFunc 59 0 [rPtr 0 0]) :: (dr 5 ((rInt .i64) :: (rInt .i64) :: (dr 10 [])))), [(0, eBlkC api_HallC)]⟩, 1⟩, [(Option.none, ⟨[4], ⟨(dr 4 ((rInt .i64) :: (dr 14 []))), [(0, eBlkC api_HallC)]⟩, 1⟩), (some 0, ⟨[], ⟨(dr 19 []), [(0, eBlkC api_HallC)]⟩, 1⟩)]⟩
theorem slices_IndexFunc___api_Train_api_Train__L2_ok : slices_IndexFunc___api_Train_api_Train__L2.Ok := ⟨⟨(allCons (rSl_ok api_TrainC_ok) (allCons (rFunc_ok 59 0 (allCons (rPtr_ok 0 0) allNil)) (drCons 5 (allCons (rInt_ok .i64) (allCons (rInt_ok .i64) (drCons 10 allNil)))))), (eCons (eBlkC_ok api_HallC_ok api_HallC_len) eNil)⟩, (xCons ⟨(drCons 4 (allCons (rInt_ok .i64) (drCons 14 allNil))), (eCons (eBlkC_ok api_HallC_ok api_HallC_len) eNil)⟩ (xCons ⟨(drCons 19 allNil), (eCons (eBlkC_ok api_HallC_ok api_HallC_len) eNil)⟩ xNil))⟩
def slices_IndexFunc___api_Train_api_Train__h2 (v96 : Arr api_Train) (v97 : Int) (v98 : Int) (v99 : api_Hall) : St := ⟨((slC api_TrainC v96) :: (.func 59 0 [.ptr 0 0]) :: (un 5 ((.int .i64 v97) :: (.int .i64 v98) :: (un 10 [])))), [(0, .blk (Cod.enc api_HallC v99))], 1⟩
def slices_IndexFunc___api_Train_api_Train__x2_r (v99 : api_Hall) (q0 : Int) : St := ⟨(un 4 ((.int .i64 q0) :: (un 14 []))), [(0, .blk (Cod.enc api_HallC v99))], 1⟩
def slices_IndexFunc___api_Train_api_Train__x2_0 (v99 : api_Hall) : St := ⟨(un 19 []), [(0, .blk (Cod.enc api_HallC v99))], 1⟩
def slices_IndexFunc___api_Train_api_Train__b2 {R : Type} (N : Nat) (rc : Arr api_Train → Int → Int → api_Hall → Option R) (v96 : Arr api_Train) (v97 : Int) (v98 : Int) (v99 : api_Hall) (kr : Int → Option R) (k0 : Unit → Option R) : Option R :=
  bif decide (v98 < v97) then
   bif decide ((0 : Int) ≤ v98) && decide (v98 < (↑(Arr.n v96) : Int)) then
    halls_Check_1 N (Arr.f v96 (Int.toNat v98)) v99 (fun r103 =>
    bif r103 then
     kr v98
    else
     rc v96 v97 (w64 (v98 + (1 : Int))) v99)
   else
    Option.none
  else
   k0 ()
def slices_IndexFunc___api_Train_api_Train__l2 {R : Type} (N : Nat) : Nat → Arr api_Train → Int → Int → api_Hall → (Int → Option R) → (Unit → Option R) → Option R
  | 0, _, _, _, _, _, _ => Option.none
  | n + 1, v96, v97, v98, v99, kr, k0 => slices_IndexFunc___api_Train_api_Train__b2 N (fun v96 v97 v98 v99 => slices_IndexFunc___api_Train_api_Train__l2 N n v96 v97 v98 v99 kr k0) v96 v97 v98 v99 kr k0
def slices_IndexFunc___api_Train_api_Train__m {R : Type} (N : Nat) (a94 : Arr api_Train) (a95 : api_Hall) (k : Int → Option R) : Option R :=
  slices_IndexFunc___api_Train_api_Train__l2 N N a94 ((↑(Arr.n a94) : Int)) (0 : Int) a95 (fun r104 =>
   k r104) (fun (_ : Unit) =>
   k (-1 : Int))
noncomputable def slices_IndexFunc___api_Train_api_Train_ {R : Type} : Nat → Arr api_Train → api_Hall → (Int → Option R) → Option R := lock (@slices_IndexFunc___api_Train_api_Train__m R)
theorem slices_IndexFunc___api_Train_api_Train__def {R : Type} (N : Nat) (a94 : Arr api_Train) (a95 : api_Hall) (k : Int → Option R) : slices_IndexFunc___api_Train_api_Train_ N a94 a95 k = slices_IndexFunc___api_Train_api_Train__m N a94 a95 k := by unfold slices_IndexFunc___api_Train_api_Train_; rw [lock_eq]
def slices_IndexFunc___api_Train_api_Train__sp : Sp := ⟨[rSl api_TrainC, rFunc 59 0 [rPtr 0 0]], [(0, eBlkC api_HallC)]⟩
theorem slices_IndexFunc___api_Train_api_Train__sp_ok : slices_IndexFunc___api_Train_api_Train__sp.Ok := ⟨(allCons (rSl_ok api_TrainC_ok) (allCons (rFunc_ok 59 0 (allCons (rPtr_ok 0 0) allNil)) allNil)), (eCons (eBlkC_ok api_HallC_ok api_HallC_len) eNil)⟩
def slices_IndexFunc___api_Train_api_Train__rs : Sp := ⟨[rInt .i64], [(0, eBlkC api_HallC)]⟩
theorem slices_IndexFunc___api_Train_api_Train__rs_ok : slices_IndexFunc___api_Train_api_Train__rs.Ok := ⟨(allCons (rInt_ok .i64) allNil), (eCons (eBlkC_ok api_HallC_ok api_HallC_len) eNil)⟩
def slices_IndexFunc___api_Train_api_Train__run {R : Type} (N : Nat) (args : List SV) (T : Tab) (kf : SV × Tab → Option R) : Option R :=
  slices_IndexFunc___api_Train_api_Train__m N (lstC api_TrainC (lget args 0)) (Cod.dec api_HallC (lget (entCs (entAt T 0)))) (fun q0 => kf (lget [.int .i64 q0] 0, [(0, .blk (Cod.enc api_HallC (Cod.dec api_HallC (lget (entCs (entAt T 0))))))]))
def slices_IndexFunc___api_Train_api_Train__d2 {R : Type} (N : Nat) (S0 : St) (k : Exit → St → Option R) : Option R :=
  slices_IndexFunc___api_Train_api_Train__l2 N N (lstC api_TrainC (lget S0.tmps 0)) (toI (lget S0.tmps 7)) (toI (lget S0.tmps 8)) (Cod.dec api_HallC (lget (entCs (entAt S0.tab 0)))) (fun q0 => k .ret (slices_IndexFunc___api_Train_api_Train__x2_r (Cod.dec api_HallC (lget (entCs (entAt S0.tab 0)))) q0)) (fun (_ : Unit) => k (.exit 0) (slices_IndexFunc___api_Train_api_Train__x2_0 (Cod.dec api_HallC (lget (entCs (entAt S0.tab 0))))))
def slices_IndexFunc___api_Train_api_Train__lp {R : Type} (N : Nat) : Lp R := fun body S k => bif (Go.Sx.keyOf body).getD 0 == 2 then (slices_IndexFunc___api_Train_api_Train__L2.head.raw 1 S (fun S0 => slices_IndexFunc___api_Train_api_Train__d2 N S0 k)) else Option.none
theorem slices_IndexFunc___api_Train_api_Train__l2_eq {R : Type} (N : Nat) (k : Exit → St → Option R) (n : Nat) : ∀ (v0 : Arr api_Train) (v1 : Int) (v2 : Int) (v3 : api_Hall), loopM E.Θ (halls_Check_1_cal N) (slices_IndexFunc___api_Train_api_Train__lp N) (noJn) 1 slices_IndexFunc___api_Train_api_Train__L2 (bodyAt E 77 2) n (slices_IndexFunc___api_Train_api_Train__h2 v0 v1 v2 v3) k = slices_IndexFunc___api_Train_api_Train__l2 N n v0 v1 v2 v3 (fun q0 => k .ret (slices_IndexFunc___api_Train_api_Train__x2_r v3 q0)) (fun (_ : Unit) => k (.exit 0) (slices_IndexFunc___api_Train_api_Train__x2_0 v3)) := by
  induction n with
  | zero => intro v0 v1 v2 v3; rfl
  | succ n ih =>
    intro v0 v1 v2 v3
    refine Eq.trans (b := slices_IndexFunc___api_Train_api_Train__b2 N (fun v0 v1 v2 v3 => loopM E.Θ (halls_Check_1_cal N) (slices_IndexFunc___api_Train_api_Train__lp N) (noJn) 1 slices_IndexFunc___api_Train_api_Train__L2 (bodyAt E 77 2) n (slices_IndexFunc___api_Train_api_Train__h2 v0 v1 v2 v3) k) v0 v1 v2 v3 (fun q0 => k .ret (slices_IndexFunc___api_Train_api_Train__x2_r v3 q0)) (fun (_ : Unit) => k (.exit 0) (slices_IndexFunc___api_Train_api_Train__x2_0 v3))) (by kernel_rfl) ?_
    have h : (fun (v0 : Arr api_Train) (v1 : Int) (v2 : Int) (v3 : api_Hall) => loopM E.Θ (halls_Check_1_cal N) (slices_IndexFunc___api_Train_api_Train__lp N) (noJn) 1 slices_IndexFunc___api_Train_api_Train__L2 (bodyAt E 77 2) n (slices_IndexFunc___api_Train_api_Train__h2 v0 v1 v2 v3) k) = (fun (v0 : Arr api_Train) (v1 : Int) (v2 : Int) (v3 : api_Hall) => slices_IndexFunc___api_Train_api_Train__l2 N n v0 v1 v2 v3 (fun q0 => k .ret (slices_IndexFunc___api_Train_api_Train__x2_r v3 q0)) (fun (_ : Unit) => k (.exit 0) (slices_IndexFunc___api_Train_api_Train__x2_0 v3))) := funext fun v0 => funext fun v1 => funext fun v2 => funext fun v3 => ih v0 v1 v2 v3
    rw [h]
    rfl
theorem slices_IndexFunc___api_Train_api_Train__k2 {R : Type} (N : Nat) : LpKey (R := R) E 77 1 (slices_IndexFunc___api_Train_api_Train__lp N) 2 :=
  lpKey_of hE (halls_Check_1_cal_ok N) (lp := slices_IndexFunc___api_Train_api_Train__lp N) (jn := noJn) slices_IndexFunc___api_Train_api_Train__L2_ok [] kNil (by kernel_rfl) [] jNil (by kernel_rfl) N fun S k =>
    Eq.trans (b := slices_IndexFunc___api_Train_api_Train__L2.head.raw 1 S (fun S0 => slices_IndexFunc___api_Train_api_Train__d2 N S0 k)) (by kernel_rfl) (congrArg (slices_IndexFunc___api_Train_api_Train__L2.head.raw 1 S) (funext fun S0 => Eq.trans (slices_IndexFunc___api_Train_api_Train__l2_eq N k N (lstC api_TrainC (lget S0.tmps 0)) (toI (lget S0.tmps 7)) (toI (lget S0.tmps 8)) (Cod.dec api_HallC (lget (entCs (entAt S0.tab 0))))).symm (by kernel_rfl)))
noncomputable def slices_IndexFunc___api_Train_api_Train__go {R : Type} (N : Nat) (args : List SV) (T : Tab) (kf : SV × Tab → Option R) : Option R :=
  slices_IndexFunc___api_Train_api_Train_ N (lstC api_TrainC (lget args 0)) (Cod.dec api_HallC (lget (entCs (entAt T 0)))) (fun q0 => kf (lget [.int .i64 q0] 0, [(0, .blk (Cod.enc api_HallC (Cod.dec api_HallC (lget (entCs (entAt T 0))))))]))
noncomputable def slices_IndexFunc___api_Train_api_Train__cal {R : Type} (N : Nat) : Cal R := callM (halls_Check_1_cal N) 77 1 slices_IndexFunc___api_Train_api_Train__sp (slices_IndexFunc___api_Train_api_Train__go N)
theorem slices_IndexFunc___api_Train_api_Train__cal_ok {R : Type} (N : Nat) : CalOk E.P (slices_IndexFunc___api_Train_api_Train__cal (R := R) N) :=
  callM_ok hE (halls_Check_1_cal_ok N) (lp := slices_IndexFunc___api_Train_api_Train__lp N) (jn := noJn) (keys := [2]) (kCons (slices_IndexFunc___api_Train_api_Train__k2 N) kNil) (by kernel_rfl) (js := []) jNil (by kernel_rfl) slices_IndexFunc___api_Train_api_Train__sp_ok slices_IndexFunc___api_Train_api_Train__rs_ok (fun args T kf => Eq.trans (slices_IndexFunc___api_Train_api_Train__def N (lstC api_TrainC (lget args 0)) (Cod.dec api_HallC (lget (entCs (entAt T 0)))) (fun q0 => kf (lget [.int .i64 q0] 0, [(0, .blk (Cod.enc api_HallC (Cod.dec api_HallC (lget (entCs (entAt T 0))))))]))) (by kernel_rfl : slices_IndexFunc___api_Train_api_Train__run N args T kf = fnM E (halls_Check_1_cal N) (slices_IndexFunc___api_Train_api_Train__lp N) (noJn) 77 (slices_IndexFunc___api_Train_api_Train__sp.vs args) (slices_IndexFunc___api_Train_api_Train__sp.tab T) 1 (resK slices_IndexFunc___api_Train_api_Train__rs kf)))
def slices_ContainsFunc___api_Train_api_Train__m {R : Type} (N : Nat) (a92 : Arr api_Train) (a93 : api_Hall) (k : Bool → Option R) : Option R :=
  slices_IndexFunc___api_Train_api_Train_ N a92 a93 (fun r105 =>
  k (decide (r105 ≥ (0 : Int))))
noncomputable def slices_ContainsFunc___api_Train_api_Train_ {R : Type} : Nat → Arr api_Train → api_Hall → (Bool → Option R) → Option R := lock (@slices_ContainsFunc___api_Train_api_Train__m R)
theorem slices_ContainsFunc___api_Train_api_Train__def {R : Type} (N : Nat) (a92 : Arr api_Train) (a93 : api_Hall) (k : Bool → Option R) : slices_ContainsFunc___api_Train_api_Train_ N a92 a93 k = slices_ContainsFunc___api_Train_api_Train__m N a92 a93 k := by unfold slices_ContainsFunc___api_Train_api_Train_; rw [lock_eq]
def slices_ContainsFunc___api_Train_api_Train__sp : Sp := ⟨[rSl api_TrainC, rFunc 59 0 [rPtr 0 0]], [(0, eBlkC api_HallC)]⟩
theorem slices_ContainsFunc___api_Train_api_Train__sp_ok : slices_ContainsFunc___api_Train_api_Train__sp.Ok := ⟨(allCons (rSl_ok api_TrainC_ok) (allCons (rFunc_ok 59 0 (allCons (rPtr_ok 0 0) allNil)) allNil)), (eCons (eBlkC_ok api_HallC_ok api_HallC_len) eNil)⟩
def slices_ContainsFunc___api_Train_api_Train__rs : Sp := ⟨[rBool], [(0, eBlkC api_HallC)]⟩
theorem slices_ContainsFunc___api_Train_api_Train__rs_ok : slices_ContainsFunc___api_Train_api_Train__rs.Ok := ⟨(allCons rBool_ok allNil), (eCons (eBlkC_ok api_HallC_ok api_HallC_len) eNil)⟩
def slices_ContainsFunc___api_Train_api_Train__run {R : Type} (N : Nat) (args : List SV) (T : Tab) (kf : SV × Tab → Option R) : Option R :=
  slices_ContainsFunc___api_Train_api_Train__m N (lstC api_TrainC (lget args 0)) (Cod.dec api_HallC (lget (entCs (entAt T 0)))) (fun q0 => kf (lget [.bool q0] 0, [(0, .blk (Cod.enc api_HallC (Cod.dec api_HallC (lget (entCs (entAt T 0))))))]))
def slices_ContainsFunc___api_Train_api_Train__lp {R : Type} (N : Nat) : Lp R := fun body S k => Option.none
noncomputable def slices_ContainsFunc___api_Train_api_Train__go {R : Type} (N : Nat) (args : List SV) (T : Tab) (kf : SV × Tab → Option R) : Option R :=
  slices_ContainsFunc___api_Train_api_Train_ N (lstC api_TrainC (lget args 0)) (Cod.dec api_HallC (lget (entCs (entAt T 0)))) (fun q0 => kf (lget [.bool q0] 0, [(0, .blk (Cod.enc api_HallC (Cod.dec api_HallC (lget (entCs (entAt T 0))))))]))
noncomputable def slices_ContainsFunc___api_Train_api_Train__cal {R : Type} (N : Nat) : Cal R := callM (slices_IndexFunc___api_Train_api_Train__cal N) 58 1 slices_ContainsFunc___api_Train_api_Train__sp (slices_ContainsFunc___api_Train_api_Train__go N)
theorem slices_ContainsFunc___api_Train_api_Train__cal_ok {R : Type} (N : Nat) : CalOk E.P (slices_ContainsFunc___api_Train_api_Train__cal (R := R) N) :=
  callM_ok hE (slices_IndexFunc___api_Train_api_Train__cal_ok N) (lp := slices_ContainsFunc___api_Train_api_Train__lp N) (jn := noJn) (keys := []) kNil (by kernel_rfl) (js := []) jNil (by kernel_rfl) slices_ContainsFunc___api_Train_api_Train__sp_ok slices_ContainsFunc___api_Train_api_Train__rs_ok (fun args T kf => Eq.trans (slices_ContainsFunc___api_Train_api_Train__def N (lstC api_TrainC (lget args 0)) (Cod.dec api_HallC (lget (entCs (entAt T 0)))) (fun q0 => kf (lget [.bool q0] 0, [(0, .blk (Cod.enc api_HallC (Cod.dec api_HallC (lget (entCs (entAt T 0))))))]))) (by kernel_rfl : slices_ContainsFunc___api_Train_api_Train__run N args T kf = fnM E (slices_IndexFunc___api_Train_api_Train__cal N) (slices_ContainsFunc___api_Train_api_Train__lp N) (noJn) 58 (slices_ContainsFunc___api_Train_api_Train__sp.vs args) (slices_ContainsFunc___api_Train_api_Train__sp.tab T) 1 (resK slices_ContainsFunc___api_Train_api_Train__rs kf)))
def halls_Check_L4 : LoopSp := ⟨⟨[1, 40, 41], ⟨(dr 1 ((rPtr 0 0) :: (dr 38 ((rInt .i64) :: (rInt .i64) :: (dr 66 []))))), [(0, eBlkC api_HallC)]⟩, 1⟩, [(Option.none, ⟨[2], ⟨(dr 2 ((rInt .i64) :: (dr 105 []))), []⟩, 0⟩), (some 0, ⟨[1], ⟨(dr 1 ((rPtr 0 0) :: (dr 106 []))), [(0, eBlkC api_HallC)]⟩, 1⟩)]⟩
theorem halls_Check_L4_ok : halls_Check_L4.Ok := ⟨⟨(drCons 1 (allCons (rPtr_ok 0 0) (drCons 38 (allCons (rInt_ok .i64) (allCons (rInt_ok .i64) (drCons 66 allNil)))))), (eCons (eBlkC_ok api_HallC_ok api_HallC_len) eNil)⟩, (xCons ⟨(drCons 2 (allCons (rInt_ok .i64) (drCons 105 allNil))), eNil⟩ (xCons ⟨(drCons 1 (allCons (rPtr_ok 0 0) (drCons 106 allNil))), (eCons (eBlkC_ok api_HallC_ok api_HallC_len) eNil)⟩ xNil))⟩
def halls_Check_h4 (v87 : Int) (v88 : Int) (v89 : api_Hall) : St := ⟨(un 1 ((.ptr 0 0) :: (un 38 ((.int .i64 v87) :: (.int .i64 v88) :: (un 66 []))))), [(0, .blk (Cod.enc api_HallC v89))], 1⟩
def halls_Check_x4_r (q0 : Int) : St := ⟨(un 2 ((.int .i64 q0) :: (un 105 []))), [], 0⟩
def halls_Check_x4_0 (v89 : api_Hall) : St := ⟨(un 1 ((.ptr 0 0) :: (un 106 []))), [(0, .blk (Cod.enc api_HallC v89))], 1⟩
def halls_Check_b4 {R : Type} (N : Nat) (rc : Int → Int → api_Hall → Option R) (v87 : Int) (v88 : Int) (v89 : api_Hall) (kr : Int → Option R) (k0 : Unit → Option R) : Option R :=
  bif decide (v88 < v87) then
   halls_isComb N v89 v88 (fun r90 =>
   bif !r90 then
    kr (60 : Int)
   else
    rc v87 (w64 (v88 + (1 : Int))) v89)
  else
   k0 ()
def halls_Check_l4 {R : Type} (N : Nat) : Nat → Int → Int → api_Hall → (Int → Option R) → (Unit → Option R) → Option R
  | 0, _, _, _, _, _ => Option.none
  | n + 1, v87, v88, v89, kr, k0 => halls_Check_b4 N (fun v87 v88 v89 => halls_Check_l4 N n v87 v88 v89 kr k0) v87 v88 v89 kr k0
def halls_Check_L12 : LoopSp := ⟨⟨[1, 54, 55, 56], ⟨(dr 1 ((rPtr 0 0) :: (dr 52 ((rSl api_ShiftC) :: (rInt .i64) :: (rInt .i64) :: (dr 51 []))))), [(0, eBlkC api_HallC)]⟩, 1⟩, [(Option.none, ⟨[2], ⟨(dr 2 ((rInt .i64) :: (dr 105 []))), []⟩, 0⟩), (some 2, ⟨[], ⟨(dr 108 []), []⟩, 0⟩)]⟩
theorem halls_Check_L12_ok : halls_Check_L12.Ok := ⟨⟨(drCons 1 (allCons (rPtr_ok 0 0) (drCons 52 (allCons (rSl_ok api_ShiftC_ok) (allCons (rInt_ok .i64) (allCons (rInt_ok .i64) (drCons 51 allNil))))))), (eCons (eBlkC_ok api_HallC_ok api_HallC_len) eNil)⟩, (xCons ⟨(drCons 2 (allCons (rInt_ok .i64) (drCons 105 allNil))), eNil⟩ (xCons ⟨(drCons 108 allNil), eNil⟩ xNil))⟩
def halls_Check_h12 (v107 : Arr api_Shift) (v108 : Int) (v109 : Int) (v110 : api_Hall) : St := ⟨(un 1 ((.ptr 0 0) :: (un 52 ((slC api_ShiftC v107) :: (.int .i64 v108) :: (.int .i64 v109) :: (un 51 []))))), [(0, .blk (Cod.enc api_HallC v110))], 1⟩
def halls_Check_x12_r (q0 : Int) : St := ⟨(un 2 ((.int .i64 q0) :: (un 105 []))), [], 0⟩
def halls_Check_x12_2  : St := ⟨(un 108 []), [], 0⟩
def halls_Check_b12 {R : Type} (N : Nat) (rc : Arr api_Shift → Int → Int → api_Hall → Option R) (v107 : Arr api_Shift) (v108 : Int) (v109 : Int) (v110 : api_Hall) (kr : Int → Option R) (k2 : Unit → Option R) : Option R :=
  bif decide (v109 < v108) then
   bif decide ((0 : Int) ≤ v109) && decide (v109 < (↑(Arr.n v107) : Int)) then
    bif decide (api_Shift.At (Arr.f v107 (Int.toNat v109)) < (0 : Int)) then
     kr (60 : Int)
    else
     bif decide (api_Shift.At (Arr.f v107 (Int.toNat v109)) ≥ api_Hall.Until v110) then
      kr (60 : Int)
     else
      bif decide (v109 > (0 : Int)) then
       bif decide ((0 : Int) ≤ w64 (v109 - (1 : Int))) && decide (w64 (v109 - (1 : Int)) < (↑(Arr.n (api_Hall.Shifts v110)) : Int)) then
        bif decide (api_Shift.At (Arr.f v107 (Int.toNat v109)) < api_Shift.At (Arr.f (api_Hall.Shifts v110) (Int.toNat (w64 (v109 - (1 : Int)))))) then
         kr (60 : Int)
        else
         bif decide (api_Shift.Comb (Arr.f v107 (Int.toNat v109)) < (0 : Int)) then
          kr (60 : Int)
         else
          bif decide (api_Shift.Comb (Arr.f v107 (Int.toNat v109)) ≥ (↑(Arr.n (api_Hall.Combs v110)) : Int)) then
           kr (60 : Int)
          else
           halls_in N (api_Shift.Rate (Arr.f v107 (Int.toNat v109))) (api_Span.mk (0 : Int) (1000 : Int)) (fun r111 =>
           bif !r111 then
            kr (60 : Int)
           else
            rc v107 v108 (w64 (v109 + (1 : Int))) v110)
       else
        Option.none
      else
       bif decide (api_Shift.Comb (Arr.f v107 (Int.toNat v109)) < (0 : Int)) then
        kr (60 : Int)
       else
        bif decide (api_Shift.Comb (Arr.f v107 (Int.toNat v109)) ≥ (↑(Arr.n (api_Hall.Combs v110)) : Int)) then
         kr (60 : Int)
        else
         halls_in N (api_Shift.Rate (Arr.f v107 (Int.toNat v109))) (api_Span.mk (0 : Int) (1000 : Int)) (fun r112 =>
         bif !r112 then
          kr (60 : Int)
         else
          rc v107 v108 (w64 (v109 + (1 : Int))) v110)
   else
    Option.none
  else
   k2 ()
def halls_Check_l12 {R : Type} (N : Nat) : Nat → Arr api_Shift → Int → Int → api_Hall → (Int → Option R) → (Unit → Option R) → Option R
  | 0, _, _, _, _, _, _ => Option.none
  | n + 1, v107, v108, v109, v110, kr, k2 => halls_Check_b12 N (fun v107 v108 v109 v110 => halls_Check_l12 N n v107 v108 v109 v110 kr k2) v107 v108 v109 v110 kr k2
def halls_Check_m {R : Type} (N : Nat) (a86 : api_Hall) (k : Int → Option R) : Option R :=
  bif decide (api_Hall.Until a86 < (1 : Int)) then
   k (60 : Int)
  else
   bif decide (api_Hall.Until a86 > (100 : Int)) then
    k (60 : Int)
   else
    bif decide ((↑(Arr.n (api_Hall.Combs a86)) : Int) < (1 : Int)) then
     k (60 : Int)
    else
     bif decide ((↑(Arr.n (api_Hall.Combs a86)) : Int) > (8 : Int)) then
      k (60 : Int)
     else
      bif decide ((↑(Arr.n (api_Hall.Trains a86)) : Int) > (12 : Int)) then
       k (60 : Int)
      else
       bif decide ((↑(Arr.n (api_Hall.Shifts a86)) : Int) > (20 : Int)) then
        k (60 : Int)
       else
        halls_Check_l4 N N ((↑(Arr.n (api_Hall.Combs a86)) : Int)) (0 : Int) a86 (fun r91 =>
         k r91) (fun (_ : Unit) =>
         slices_ContainsFunc___api_Train_api_Train_ N (api_Hall.Trains a86) a86 (fun r106 =>
         bif r106 then
          k (60 : Int)
         else
          halls_Check_l12 N N (api_Hall.Shifts a86) ((↑(Arr.n (api_Hall.Shifts a86)) : Int)) (0 : Int) a86 (fun r113 =>
           k r113) (fun (_ : Unit) =>
           k (0 : Int))))
noncomputable def halls_Check {R : Type} : Nat → api_Hall → (Int → Option R) → Option R := lock (@halls_Check_m R)
theorem halls_Check_def {R : Type} (N : Nat) (a86 : api_Hall) (k : Int → Option R) : halls_Check N a86 k = halls_Check_m N a86 k := by unfold halls_Check; rw [lock_eq]
def halls_Check_sp : Sp := ⟨[rAgg api_HallC], []⟩
theorem halls_Check_sp_ok : halls_Check_sp.Ok := ⟨(allCons (rAgg_ok api_HallC_ok api_HallC_len) allNil), eNil⟩
def halls_Check_rs : Sp := ⟨[rInt .i64], []⟩
theorem halls_Check_rs_ok : halls_Check_rs.Ok := ⟨(allCons (rInt_ok .i64) allNil), eNil⟩
def halls_Check_run {R : Type} (N : Nat) (args : List SV) (T : Tab) (kf : SV × Tab → Option R) : Option R :=
  halls_Check_m N (Cod.dec api_HallC (lget (toCs (lget args 0)))) (fun q0 => kf (lget [.int .i64 q0] 0, []))
def halls_Check_d12 {R : Type} (N : Nat) (S0 : St) (k : Exit → St → Option R) : Option R :=
  halls_Check_l12 N N (lstC api_ShiftC (lget S0.tmps 54)) (toI (lget S0.tmps 55)) (toI (lget S0.tmps 56)) (Cod.dec api_HallC (lget (entCs (entAt S0.tab 0)))) (fun q0 => k .ret (halls_Check_x12_r q0)) (fun (_ : Unit) => k (.exit 2) (halls_Check_x12_2 ))
def halls_Check_d4 {R : Type} (N : Nat) (S0 : St) (k : Exit → St → Option R) : Option R :=
  halls_Check_l4 N N (toI (lget S0.tmps 40)) (toI (lget S0.tmps 41)) (Cod.dec api_HallC (lget (entCs (entAt S0.tab 0)))) (fun q0 => k .ret (halls_Check_x4_r q0)) (fun (_ : Unit) => k (.exit 0) (halls_Check_x4_0 (Cod.dec api_HallC (lget (entCs (entAt S0.tab 0))))))
def halls_Check_lp {R : Type} (N : Nat) : Lp R := fun body S k => bif (Go.Sx.keyOf body).getD 0 == 4 then (halls_Check_L4.head.raw 0 S (fun S0 => halls_Check_d4 N S0 k)) else bif (Go.Sx.keyOf body).getD 0 == 12 then (halls_Check_L12.head.raw 0 S (fun S0 => halls_Check_d12 N S0 k)) else Option.none
theorem halls_Check_l4_eq {R : Type} (N : Nat) (k : Exit → St → Option R) (n : Nat) : ∀ (v0 : Int) (v1 : Int) (v2 : api_Hall), loopM E.Θ (slices_ContainsFunc___api_Train_api_Train__cal N) (halls_Check_lp N) (noJn) 0 halls_Check_L4 (bodyAt E 32 4) n (halls_Check_h4 v0 v1 v2) k = halls_Check_l4 N n v0 v1 v2 (fun q0 => k .ret (halls_Check_x4_r q0)) (fun (_ : Unit) => k (.exit 0) (halls_Check_x4_0 v2)) := by
  induction n with
  | zero => intro v0 v1 v2; rfl
  | succ n ih =>
    intro v0 v1 v2
    refine Eq.trans (b := halls_Check_b4 N (fun v0 v1 v2 => loopM E.Θ (slices_ContainsFunc___api_Train_api_Train__cal N) (halls_Check_lp N) (noJn) 0 halls_Check_L4 (bodyAt E 32 4) n (halls_Check_h4 v0 v1 v2) k) v0 v1 v2 (fun q0 => k .ret (halls_Check_x4_r q0)) (fun (_ : Unit) => k (.exit 0) (halls_Check_x4_0 v2))) (by kernel_rfl) ?_
    have h : (fun (v0 : Int) (v1 : Int) (v2 : api_Hall) => loopM E.Θ (slices_ContainsFunc___api_Train_api_Train__cal N) (halls_Check_lp N) (noJn) 0 halls_Check_L4 (bodyAt E 32 4) n (halls_Check_h4 v0 v1 v2) k) = (fun (v0 : Int) (v1 : Int) (v2 : api_Hall) => halls_Check_l4 N n v0 v1 v2 (fun q0 => k .ret (halls_Check_x4_r q0)) (fun (_ : Unit) => k (.exit 0) (halls_Check_x4_0 v2))) := funext fun v0 => funext fun v1 => funext fun v2 => ih v0 v1 v2
    rw [h]
    rfl
theorem halls_Check_l12_eq {R : Type} (N : Nat) (k : Exit → St → Option R) (n : Nat) : ∀ (v0 : Arr api_Shift) (v1 : Int) (v2 : Int) (v3 : api_Hall), loopM E.Θ (slices_ContainsFunc___api_Train_api_Train__cal N) (halls_Check_lp N) (noJn) 0 halls_Check_L12 (bodyAt E 32 12) n (halls_Check_h12 v0 v1 v2 v3) k = halls_Check_l12 N n v0 v1 v2 v3 (fun q0 => k .ret (halls_Check_x12_r q0)) (fun (_ : Unit) => k (.exit 2) (halls_Check_x12_2 )) := by
  induction n with
  | zero => intro v0 v1 v2 v3; rfl
  | succ n ih =>
    intro v0 v1 v2 v3
    refine Eq.trans (b := halls_Check_b12 N (fun v0 v1 v2 v3 => loopM E.Θ (slices_ContainsFunc___api_Train_api_Train__cal N) (halls_Check_lp N) (noJn) 0 halls_Check_L12 (bodyAt E 32 12) n (halls_Check_h12 v0 v1 v2 v3) k) v0 v1 v2 v3 (fun q0 => k .ret (halls_Check_x12_r q0)) (fun (_ : Unit) => k (.exit 2) (halls_Check_x12_2 ))) (by kernel_rfl) ?_
    have h : (fun (v0 : Arr api_Shift) (v1 : Int) (v2 : Int) (v3 : api_Hall) => loopM E.Θ (slices_ContainsFunc___api_Train_api_Train__cal N) (halls_Check_lp N) (noJn) 0 halls_Check_L12 (bodyAt E 32 12) n (halls_Check_h12 v0 v1 v2 v3) k) = (fun (v0 : Arr api_Shift) (v1 : Int) (v2 : Int) (v3 : api_Hall) => halls_Check_l12 N n v0 v1 v2 v3 (fun q0 => k .ret (halls_Check_x12_r q0)) (fun (_ : Unit) => k (.exit 2) (halls_Check_x12_2 ))) := funext fun v0 => funext fun v1 => funext fun v2 => funext fun v3 => ih v0 v1 v2 v3
    rw [h]
    rfl
theorem halls_Check_k12 {R : Type} (N : Nat) : LpKey (R := R) E 32 0 (halls_Check_lp N) 12 :=
  lpKey_of hE (slices_ContainsFunc___api_Train_api_Train__cal_ok N) (lp := halls_Check_lp N) (jn := noJn) halls_Check_L12_ok [] kNil (by kernel_rfl) [] jNil (by kernel_rfl) N fun S k =>
    Eq.trans (b := halls_Check_L12.head.raw 0 S (fun S0 => halls_Check_d12 N S0 k)) (by kernel_rfl) (congrArg (halls_Check_L12.head.raw 0 S) (funext fun S0 => Eq.trans (halls_Check_l12_eq N k N (lstC api_ShiftC (lget S0.tmps 54)) (toI (lget S0.tmps 55)) (toI (lget S0.tmps 56)) (Cod.dec api_HallC (lget (entCs (entAt S0.tab 0))))).symm (by kernel_rfl)))
theorem halls_Check_k4 {R : Type} (N : Nat) : LpKey (R := R) E 32 0 (halls_Check_lp N) 4 :=
  lpKey_of hE (slices_ContainsFunc___api_Train_api_Train__cal_ok N) (lp := halls_Check_lp N) (jn := noJn) halls_Check_L4_ok [] kNil (by kernel_rfl) [] jNil (by kernel_rfl) N fun S k =>
    Eq.trans (b := halls_Check_L4.head.raw 0 S (fun S0 => halls_Check_d4 N S0 k)) (by kernel_rfl) (congrArg (halls_Check_L4.head.raw 0 S) (funext fun S0 => Eq.trans (halls_Check_l4_eq N k N (toI (lget S0.tmps 40)) (toI (lget S0.tmps 41)) (Cod.dec api_HallC (lget (entCs (entAt S0.tab 0))))).symm (by kernel_rfl)))
noncomputable def halls_Check_go {R : Type} (N : Nat) (args : List SV) (T : Tab) (kf : SV × Tab → Option R) : Option R :=
  halls_Check N (Cod.dec api_HallC (lget (toCs (lget args 0)))) (fun q0 => kf (lget [.int .i64 q0] 0, []))
noncomputable def halls_Check_cal {R : Type} (N : Nat) : Cal R := callM (slices_ContainsFunc___api_Train_api_Train__cal N) 32 0 halls_Check_sp (halls_Check_go N)
theorem halls_Check_cal_ok {R : Type} (N : Nat) : CalOk E.P (halls_Check_cal (R := R) N) :=
  callM_ok hE (slices_ContainsFunc___api_Train_api_Train__cal_ok N) (lp := halls_Check_lp N) (jn := noJn) (keys := [4, 12]) (kCons (halls_Check_k4 N) (kCons (halls_Check_k12 N) kNil)) (by kernel_rfl) (js := []) jNil (by kernel_rfl) halls_Check_sp_ok halls_Check_rs_ok (fun args T kf => Eq.trans (halls_Check_def N (Cod.dec api_HallC (lget (toCs (lget args 0)))) (fun q0 => kf (lget [.int .i64 q0] 0, []))) (by kernel_rfl : halls_Check_run N args T kf = fnM E (slices_ContainsFunc___api_Train_api_Train__cal N) (halls_Check_lp N) (noJn) 32 (halls_Check_sp.vs args) (halls_Check_sp.tab T) 0 (resK halls_Check_rs kf)))
def halls_rates_L6 : LoopSp := ⟨⟨[1, 2, 5, 6, 7, 8, 19, 20], ⟨(dr 1 ((rInt .i64) :: (rPtr 0 0) :: (dr 2 ((rRow 1) :: (rInt .i64) :: (rInt .i64) :: (rInt .i64) :: (dr 10 ((rInt .i64) :: (rInt .i64) :: (dr 39 []))))))), [(0, eBlkC api_HallC), (1, eRow intC)]⟩, 2⟩, [(some 2, ⟨[1, 2, 5, 6, 7, 8, 19, 20], ⟨(dr 1 ((rInt .i64) :: (rPtr 0 0) :: (dr 2 ((rRow 1) :: (rInt .i64) :: (rInt .i64) :: (rInt .i64) :: (dr 10 ((rInt .i64) :: (rInt .i64) :: (dr 39 []))))))), [(0, eBlkC api_HallC), (1, eRow intC)]⟩, 2⟩)]⟩
theorem halls_rates_L6_ok : halls_rates_L6.Ok := ⟨⟨(drCons 1 (allCons (rInt_ok .i64) (allCons (rPtr_ok 0 0) (drCons 2 (allCons (rRow_ok 1) (allCons (rInt_ok .i64) (allCons (rInt_ok .i64) (allCons (rInt_ok .i64) (drCons 10 (allCons (rInt_ok .i64) (allCons (rInt_ok .i64) (drCons 39 allNil)))))))))))), (eCons (eBlkC_ok api_HallC_ok api_HallC_len) (eCons (eRow_ok intC_ok) eNil))⟩, (xCons ⟨(drCons 1 (allCons (rInt_ok .i64) (allCons (rPtr_ok 0 0) (drCons 2 (allCons (rRow_ok 1) (allCons (rInt_ok .i64) (allCons (rInt_ok .i64) (allCons (rInt_ok .i64) (drCons 10 (allCons (rInt_ok .i64) (allCons (rInt_ok .i64) (drCons 39 allNil)))))))))))), (eCons (eBlkC_ok api_HallC_ok api_HallC_len) (eCons (eRow_ok intC_ok) eNil))⟩ xNil)⟩
def halls_rates_h6 (v124 : Int) (v125 : Int) (v126 : Int) (v127 : Int) (v128 : Int) (v129 : Int) (v130 : api_Hall) (v131 : Bool) (v132 : Arr Int) : St := ⟨(un 1 ((.int .i64 v124) :: (.ptr 0 0) :: (un 2 ((.row 1) :: (.int .i64 v125) :: (.int .i64 v126) :: (.int .i64 v127) :: (un 10 ((.int .i64 v128) :: (.int .i64 v129) :: (un 39 []))))))), [(0, .blk (Cod.enc api_HallC v130)), (1, rowE intC v131 v132)], 2⟩
def halls_rates_x6_2 (v124 : Int) (v127 : Int) (v128 : Int) (v129 : Int) (v130 : api_Hall) (v131 : Bool) (v132 : Arr Int) (q1 : Int) (q2 : Int) : St := ⟨(un 1 ((.int .i64 v124) :: (.ptr 0 0) :: (un 2 ((.row 1) :: (.int .i64 q1) :: (.int .i64 q2) :: (.int .i64 v127) :: (un 10 ((.int .i64 v128) :: (.int .i64 v129) :: (un 39 []))))))), [(0, .blk (Cod.enc api_HallC v130)), (1, rowE intC v131 v132)], 2⟩
def halls_rates_b6 {R : Type} (N : Nat) (rc : Int → Int → Int → Int → Int → Int → api_Hall → Bool → Arr Int → Option R) (v124 : Int) (v125 : Int) (v126 : Int) (v127 : Int) (v128 : Int) (v129 : Int) (v130 : api_Hall) (v131 : Bool) (v132 : Arr Int) (k2 : Int → Int → Option R) : Option R :=
  bif decide (v126 < (↑(Arr.n (api_Hall.Shifts v130)) : Int)) then
   bif decide ((0 : Int) ≤ v126) && decide (v126 < (↑(Arr.n (api_Hall.Shifts v130)) : Int)) then
    bif decide (api_Shift.At (Arr.f (api_Hall.Shifts v130) (Int.toNat v126)) ≤ v127) then
     bif decide ((0 : Int) ≤ v126) && decide (v126 < (↑(Arr.n (api_Hall.Shifts v130)) : Int)) then
      bif api_Shift.Comb (Arr.f (api_Hall.Shifts v130) (Int.toNat v126)) == v124 then
       bif decide ((0 : Int) ≤ v126) && decide (v126 < (↑(Arr.n (api_Hall.Shifts v130)) : Int)) then
        rc v124 (api_Shift.Rate (Arr.f (api_Hall.Shifts v130) (Int.toNat v126))) (w64 (v126 + (1 : Int))) v127 v128 v129 v130 v131 v132
       else
        Option.none
      else
       rc v124 v125 (w64 (v126 + (1 : Int))) v127 v128 v129 v130 v131 v132
     else
      Option.none
    else
     k2 v125 v126
   else
    Option.none
  else
   k2 v125 v126
def halls_rates_l6 {R : Type} (N : Nat) : Nat → Int → Int → Int → Int → Int → Int → api_Hall → Bool → Arr Int → (Int → Int → Option R) → Option R
  | 0, _, _, _, _, _, _, _, _, _, _ => Option.none
  | n + 1, v124, v125, v126, v127, v128, v129, v130, v131, v132, k2 => halls_rates_b6 N (fun v124 v125 v126 v127 v128 v129 v130 v131 v132 => halls_rates_l6 N n v124 v125 v126 v127 v128 v129 v130 v131 v132 k2) v124 v125 v126 v127 v128 v129 v130 v131 v132 k2
def halls_rates_L4 : LoopSp := ⟨⟨[1, 2, 5, 6, 7, 19, 20], ⟨(dr 1 ((rInt .i64) :: (rPtr 0 0) :: (dr 2 ((rRow 1) :: (rInt .i64) :: (rInt .i64) :: (dr 11 ((rInt .i64) :: (rInt .i64) :: (dr 39 []))))))), [(0, eBlkC api_HallC), (1, eRow intC)]⟩, 2⟩, [(some 0, ⟨[5], ⟨(dr 5 ((rRow 0) :: (dr 54 []))), [(0, eRow intC)]⟩, 1⟩)]⟩
theorem halls_rates_L4_ok : halls_rates_L4.Ok := ⟨⟨(drCons 1 (allCons (rInt_ok .i64) (allCons (rPtr_ok 0 0) (drCons 2 (allCons (rRow_ok 1) (allCons (rInt_ok .i64) (allCons (rInt_ok .i64) (drCons 11 (allCons (rInt_ok .i64) (allCons (rInt_ok .i64) (drCons 39 allNil))))))))))), (eCons (eBlkC_ok api_HallC_ok api_HallC_len) (eCons (eRow_ok intC_ok) eNil))⟩, (xCons ⟨(drCons 5 (allCons (rRow_ok 0) (drCons 54 allNil))), (eCons (eRow_ok intC_ok) eNil)⟩ xNil)⟩
def halls_rates_h4 (v116 : Int) (v117 : Int) (v118 : Int) (v119 : Int) (v120 : Int) (v121 : api_Hall) (v122 : Bool) (v123 : Arr Int) : St := ⟨(un 1 ((.int .i64 v116) :: (.ptr 0 0) :: (un 2 ((.row 1) :: (.int .i64 v117) :: (.int .i64 v118) :: (un 11 ((.int .i64 v119) :: (.int .i64 v120) :: (un 39 []))))))), [(0, .blk (Cod.enc api_HallC v121)), (1, rowE intC v122 v123)], 2⟩
def halls_rates_x4_0 (v122 : Bool) (q1 : Arr Int) : St := ⟨(un 5 ((.row 0) :: (un 54 []))), [(0, rowE intC v122 q1)], 1⟩
def halls_rates_b4 {R : Type} (N : Nat) (rc : Int → Int → Int → Int → Int → api_Hall → Bool → Arr Int → Option R) (v116 : Int) (v117 : Int) (v118 : Int) (v119 : Int) (v120 : Int) (v121 : api_Hall) (v122 : Bool) (v123 : Arr Int) (k0 : Arr Int → Option R) : Option R :=
  bif decide (v120 < v119) then
   halls_rates_l6 N N v116 v117 v118 v120 v119 v120 v121 v122 v123 (fun r133 r134 =>
    bif decide ((0 : Int) ≤ v120) && decide (v120 < (↑(Arr.n v123) : Int)) then
     rc v116 r133 r134 v119 (w64 (v120 + (1 : Int))) v121 v122 (lst intC (Arr.n v123) (setCs (Int.toNat v120) (0 : Nat) (Cod.cell intC (Arr.f v123)) [SV.int IntKind.i64 r133]))
    else
     Option.none)
  else
   k0 v123
def halls_rates_l4 {R : Type} (N : Nat) : Nat → Int → Int → Int → Int → Int → api_Hall → Bool → Arr Int → (Arr Int → Option R) → Option R
  | 0, _, _, _, _, _, _, _, _, _ => Option.none
  | n + 1, v116, v117, v118, v119, v120, v121, v122, v123, k0 => halls_rates_b4 N (fun v116 v117 v118 v119 v120 v121 v122 v123 => halls_rates_l4 N n v116 v117 v118 v119 v120 v121 v122 v123 k0) v116 v117 v118 v119 v120 v121 v122 v123 k0
def halls_rates_m {R : Type} (N : Nat) (a114 : api_Hall) (a115 : Int) (k : Bool → Arr Int → Option R) : Option R :=
  bif decide ((0 : Int) ≤ api_Hall.Until a114) && decide (api_Hall.Until a114 ≤ api_Hall.Until a114) && decide (api_Hall.Until a114 ≤ (1073741824 : Int)) then
   bif decide ((0 : Int) ≤ a115) && decide (a115 < (↑(Arr.n (api_Hall.Combs a114)) : Int)) then
    halls_rates_l4 N N a115 (api_Comb.Rate (Arr.f (api_Hall.Combs a114) (Int.toNat a115))) (0 : Int) ((↑(Int.toNat (api_Hall.Until a114)) : Int)) (0 : Int) a114 false (lst intC (Int.toNat (api_Hall.Until a114)) (zeroC [SV.int IntKind.i64 (0 : Int)])) (fun r135 =>
     k false r135)
   else
    Option.none
  else
   Option.none
noncomputable def halls_rates {R : Type} : Nat → api_Hall → Int → (Bool → Arr Int → Option R) → Option R := lock (@halls_rates_m R)
theorem halls_rates_def {R : Type} (N : Nat) (a114 : api_Hall) (a115 : Int) (k : Bool → Arr Int → Option R) : halls_rates N a114 a115 k = halls_rates_m N a114 a115 k := by unfold halls_rates; rw [lock_eq]
def halls_rates_sp : Sp := ⟨[rAgg api_HallC, rInt .i64], []⟩
theorem halls_rates_sp_ok : halls_rates_sp.Ok := ⟨(allCons (rAgg_ok api_HallC_ok api_HallC_len) (allCons (rInt_ok .i64) allNil)), eNil⟩
def halls_rates_rs : Sp := ⟨[rRow 0], [(0, eRow intC)]⟩
theorem halls_rates_rs_ok : halls_rates_rs.Ok := ⟨(allCons (rRow_ok 0) allNil), (eCons (eRow_ok intC_ok) eNil)⟩
def halls_rates_run {R : Type} (N : Nat) (args : List SV) (T : Tab) (kf : SV × Tab → Option R) : Option R :=
  halls_rates_m N (Cod.dec api_HallC (lget (toCs (lget args 0)))) (toI (lget args 1)) (fun q0 q1 => kf (lget [.row 0] 0, [(0, rowE intC q0 q1)]))
def halls_rates_d6 {R : Type} (N : Nat) (S0 : St) (k : Exit → St → Option R) : Option R :=
  halls_rates_l6 N N (toI (lget S0.tmps 1)) (toI (lget S0.tmps 6)) (toI (lget S0.tmps 7)) (toI (lget S0.tmps 8)) (toI (lget S0.tmps 19)) (toI (lget S0.tmps 20)) (Cod.dec api_HallC (lget (entCs (entAt S0.tab 0)))) (entNl (entAt S0.tab 1)) (lst intC (entN (entAt S0.tab 1)) (entC (entAt S0.tab 1))) (fun q1 q2 => k (.exit 2) (halls_rates_x6_2 (toI (lget S0.tmps 1)) (toI (lget S0.tmps 8)) (toI (lget S0.tmps 19)) (toI (lget S0.tmps 20)) (Cod.dec api_HallC (lget (entCs (entAt S0.tab 0)))) (entNl (entAt S0.tab 1)) (lst intC (entN (entAt S0.tab 1)) (entC (entAt S0.tab 1))) q1 q2))
def halls_rates_d4 {R : Type} (N : Nat) (S0 : St) (k : Exit → St → Option R) : Option R :=
  halls_rates_l4 N N (toI (lget S0.tmps 1)) (toI (lget S0.tmps 6)) (toI (lget S0.tmps 7)) (toI (lget S0.tmps 19)) (toI (lget S0.tmps 20)) (Cod.dec api_HallC (lget (entCs (entAt S0.tab 0)))) (entNl (entAt S0.tab 1)) (lst intC (entN (entAt S0.tab 1)) (entC (entAt S0.tab 1))) (fun q1 => k (.exit 0) (halls_rates_x4_0 (entNl (entAt S0.tab 1)) q1))
def halls_rates_lp {R : Type} (N : Nat) : Lp R := fun body S k => bif (Go.Sx.keyOf body).getD 0 == 4 then (halls_rates_L4.head.raw 0 S (fun S0 => halls_rates_d4 N S0 k)) else bif (Go.Sx.keyOf body).getD 0 == 6 then (halls_rates_L6.head.raw 0 S (fun S0 => halls_rates_d6 N S0 k)) else Option.none
theorem halls_rates_l4_eq {R : Type} (N : Nat) (k : Exit → St → Option R) (n : Nat) : ∀ (v0 : Int) (v1 : Int) (v2 : Int) (v3 : Int) (v4 : Int) (v5 : api_Hall) (v6 : Bool) (v7 : Arr Int), loopM E.Θ (halls_Check_cal N) (halls_rates_lp N) (noJn) 0 halls_rates_L4 (bodyAt E 31 4) n (halls_rates_h4 v0 v1 v2 v3 v4 v5 v6 v7) k = halls_rates_l4 N n v0 v1 v2 v3 v4 v5 v6 v7 (fun q1 => k (.exit 0) (halls_rates_x4_0 v6 q1)) := by
  induction n with
  | zero => intro v0 v1 v2 v3 v4 v5 v6 v7; rfl
  | succ n ih =>
    intro v0 v1 v2 v3 v4 v5 v6 v7
    refine Eq.trans (b := halls_rates_b4 N (fun v0 v1 v2 v3 v4 v5 v6 v7 => loopM E.Θ (halls_Check_cal N) (halls_rates_lp N) (noJn) 0 halls_rates_L4 (bodyAt E 31 4) n (halls_rates_h4 v0 v1 v2 v3 v4 v5 v6 v7) k) v0 v1 v2 v3 v4 v5 v6 v7 (fun q1 => k (.exit 0) (halls_rates_x4_0 v6 q1))) (by kernel_rfl) ?_
    have h : (fun (v0 : Int) (v1 : Int) (v2 : Int) (v3 : Int) (v4 : Int) (v5 : api_Hall) (v6 : Bool) (v7 : Arr Int) => loopM E.Θ (halls_Check_cal N) (halls_rates_lp N) (noJn) 0 halls_rates_L4 (bodyAt E 31 4) n (halls_rates_h4 v0 v1 v2 v3 v4 v5 v6 v7) k) = (fun (v0 : Int) (v1 : Int) (v2 : Int) (v3 : Int) (v4 : Int) (v5 : api_Hall) (v6 : Bool) (v7 : Arr Int) => halls_rates_l4 N n v0 v1 v2 v3 v4 v5 v6 v7 (fun q1 => k (.exit 0) (halls_rates_x4_0 v6 q1))) := funext fun v0 => funext fun v1 => funext fun v2 => funext fun v3 => funext fun v4 => funext fun v5 => funext fun v6 => funext fun v7 => ih v0 v1 v2 v3 v4 v5 v6 v7
    rw [h]
    rfl
theorem halls_rates_l6_eq {R : Type} (N : Nat) (k : Exit → St → Option R) (n : Nat) : ∀ (v0 : Int) (v1 : Int) (v2 : Int) (v3 : Int) (v4 : Int) (v5 : Int) (v6 : api_Hall) (v7 : Bool) (v8 : Arr Int), loopM E.Θ (halls_Check_cal N) (halls_rates_lp N) (noJn) 0 halls_rates_L6 (bodyAt E 31 6) n (halls_rates_h6 v0 v1 v2 v3 v4 v5 v6 v7 v8) k = halls_rates_l6 N n v0 v1 v2 v3 v4 v5 v6 v7 v8 (fun q1 q2 => k (.exit 2) (halls_rates_x6_2 v0 v3 v4 v5 v6 v7 v8 q1 q2)) := by
  induction n with
  | zero => intro v0 v1 v2 v3 v4 v5 v6 v7 v8; rfl
  | succ n ih =>
    intro v0 v1 v2 v3 v4 v5 v6 v7 v8
    refine Eq.trans (b := halls_rates_b6 N (fun v0 v1 v2 v3 v4 v5 v6 v7 v8 => loopM E.Θ (halls_Check_cal N) (halls_rates_lp N) (noJn) 0 halls_rates_L6 (bodyAt E 31 6) n (halls_rates_h6 v0 v1 v2 v3 v4 v5 v6 v7 v8) k) v0 v1 v2 v3 v4 v5 v6 v7 v8 (fun q1 q2 => k (.exit 2) (halls_rates_x6_2 v0 v3 v4 v5 v6 v7 v8 q1 q2))) (by kernel_rfl) ?_
    have h : (fun (v0 : Int) (v1 : Int) (v2 : Int) (v3 : Int) (v4 : Int) (v5 : Int) (v6 : api_Hall) (v7 : Bool) (v8 : Arr Int) => loopM E.Θ (halls_Check_cal N) (halls_rates_lp N) (noJn) 0 halls_rates_L6 (bodyAt E 31 6) n (halls_rates_h6 v0 v1 v2 v3 v4 v5 v6 v7 v8) k) = (fun (v0 : Int) (v1 : Int) (v2 : Int) (v3 : Int) (v4 : Int) (v5 : Int) (v6 : api_Hall) (v7 : Bool) (v8 : Arr Int) => halls_rates_l6 N n v0 v1 v2 v3 v4 v5 v6 v7 v8 (fun q1 q2 => k (.exit 2) (halls_rates_x6_2 v0 v3 v4 v5 v6 v7 v8 q1 q2))) := funext fun v0 => funext fun v1 => funext fun v2 => funext fun v3 => funext fun v4 => funext fun v5 => funext fun v6 => funext fun v7 => funext fun v8 => ih v0 v1 v2 v3 v4 v5 v6 v7 v8
    rw [h]
    rfl
theorem halls_rates_k6 {R : Type} (N : Nat) : LpKey (R := R) E 31 0 (halls_rates_lp N) 6 :=
  lpKey_of hE (halls_Check_cal_ok N) (lp := halls_rates_lp N) (jn := noJn) halls_rates_L6_ok [] kNil (by kernel_rfl) [] jNil (by kernel_rfl) N fun S k =>
    Eq.trans (b := halls_rates_L6.head.raw 0 S (fun S0 => halls_rates_d6 N S0 k)) (by kernel_rfl) (congrArg (halls_rates_L6.head.raw 0 S) (funext fun S0 => Eq.trans (halls_rates_l6_eq N k N (toI (lget S0.tmps 1)) (toI (lget S0.tmps 6)) (toI (lget S0.tmps 7)) (toI (lget S0.tmps 8)) (toI (lget S0.tmps 19)) (toI (lget S0.tmps 20)) (Cod.dec api_HallC (lget (entCs (entAt S0.tab 0)))) (entNl (entAt S0.tab 1)) (lst intC (entN (entAt S0.tab 1)) (entC (entAt S0.tab 1)))).symm (by kernel_rfl)))
theorem halls_rates_k4 {R : Type} (N : Nat) : LpKey (R := R) E 31 0 (halls_rates_lp N) 4 :=
  lpKey_of hE (halls_Check_cal_ok N) (lp := halls_rates_lp N) (jn := noJn) halls_rates_L4_ok [6] (kCons (halls_rates_k6 N) kNil) (by kernel_rfl) [] jNil (by kernel_rfl) N fun S k =>
    Eq.trans (b := halls_rates_L4.head.raw 0 S (fun S0 => halls_rates_d4 N S0 k)) (by kernel_rfl) (congrArg (halls_rates_L4.head.raw 0 S) (funext fun S0 => Eq.trans (halls_rates_l4_eq N k N (toI (lget S0.tmps 1)) (toI (lget S0.tmps 6)) (toI (lget S0.tmps 7)) (toI (lget S0.tmps 19)) (toI (lget S0.tmps 20)) (Cod.dec api_HallC (lget (entCs (entAt S0.tab 0)))) (entNl (entAt S0.tab 1)) (lst intC (entN (entAt S0.tab 1)) (entC (entAt S0.tab 1)))).symm (by kernel_rfl)))
noncomputable def halls_rates_go {R : Type} (N : Nat) (args : List SV) (T : Tab) (kf : SV × Tab → Option R) : Option R :=
  halls_rates N (Cod.dec api_HallC (lget (toCs (lget args 0)))) (toI (lget args 1)) (fun q0 q1 => kf (lget [.row 0] 0, [(0, rowE intC q0 q1)]))
noncomputable def halls_rates_cal {R : Type} (N : Nat) : Cal R := callM (halls_Check_cal N) 31 0 halls_rates_sp (halls_rates_go N)
theorem halls_rates_cal_ok {R : Type} (N : Nat) : CalOk E.P (halls_rates_cal (R := R) N) :=
  callM_ok hE (halls_Check_cal_ok N) (lp := halls_rates_lp N) (jn := noJn) (keys := [4, 6]) (kCons (halls_rates_k4 N) (kCons (halls_rates_k6 N) kNil)) (by kernel_rfl) (js := []) jNil (by kernel_rfl) halls_rates_sp_ok halls_rates_rs_ok (fun args T kf => Eq.trans (halls_rates_def N (Cod.dec api_HallC (lget (toCs (lget args 0)))) (toI (lget args 1)) (fun q0 q1 => kf (lget [.row 0] 0, [(0, rowE intC q0 q1)]))) (by kernel_rfl : halls_rates_run N args T kf = fnM E (halls_Check_cal N) (halls_rates_lp N) (noJn) 31 (halls_rates_sp.vs args) (halls_rates_sp.tab T) 0 (resK halls_rates_rs kf)))
def halls_check_1_m {R : Type} (N : Nat) (a150 : Int) (a151 : api_Hall) (k : Bool → Option R) : Option R :=
  bif decide (a150 < (0 : Int)) then
   k true
  else
   k (decide (a150 ≥ api_Hall.Until a151))
noncomputable def halls_check_1 {R : Type} : Nat → Int → api_Hall → (Bool → Option R) → Option R := lock (@halls_check_1_m R)
theorem halls_check_1_def {R : Type} (N : Nat) (a150 : Int) (a151 : api_Hall) (k : Bool → Option R) : halls_check_1 N a150 a151 k = halls_check_1_m N a150 a151 k := by unfold halls_check_1; rw [lock_eq]
def halls_check_1_sp : Sp := ⟨[rInt .i64, rPtr 0 0], [(0, eBlkC api_HallC)]⟩
theorem halls_check_1_sp_ok : halls_check_1_sp.Ok := ⟨(allCons (rInt_ok .i64) (allCons (rPtr_ok 0 0) allNil)), (eCons (eBlkC_ok api_HallC_ok api_HallC_len) eNil)⟩
def halls_check_1_rs : Sp := ⟨[rBool], [(0, eBlkC api_HallC)]⟩
theorem halls_check_1_rs_ok : halls_check_1_rs.Ok := ⟨(allCons rBool_ok allNil), (eCons (eBlkC_ok api_HallC_ok api_HallC_len) eNil)⟩
def halls_check_1_run {R : Type} (N : Nat) (args : List SV) (T : Tab) (kf : SV × Tab → Option R) : Option R :=
  halls_check_1_m N (toI (lget args 0)) (Cod.dec api_HallC (lget (entCs (entAt T 0)))) (fun q0 => kf (lget [.bool q0] 0, [(0, .blk (Cod.enc api_HallC (Cod.dec api_HallC (lget (entCs (entAt T 0))))))]))
def halls_check_1_lp {R : Type} (N : Nat) : Lp R := fun body S k => Option.none
noncomputable def halls_check_1_go {R : Type} (N : Nat) (args : List SV) (T : Tab) (kf : SV × Tab → Option R) : Option R :=
  halls_check_1 N (toI (lget args 0)) (Cod.dec api_HallC (lget (entCs (entAt T 0)))) (fun q0 => kf (lget [.bool q0] 0, [(0, .blk (Cod.enc api_HallC (Cod.dec api_HallC (lget (entCs (entAt T 0))))))]))
noncomputable def halls_check_1_cal {R : Type} (N : Nat) : Cal R := callM (halls_rates_cal N) 56 1 halls_check_1_sp (halls_check_1_go N)
theorem halls_check_1_cal_ok {R : Type} (N : Nat) : CalOk E.P (halls_check_1_cal (R := R) N) :=
  callM_ok hE (halls_rates_cal_ok N) (lp := halls_check_1_lp N) (jn := noJn) (keys := []) kNil (by kernel_rfl) (js := []) jNil (by kernel_rfl) halls_check_1_sp_ok halls_check_1_rs_ok (fun args T kf => Eq.trans (halls_check_1_def N (toI (lget args 0)) (Cod.dec api_HallC (lget (entCs (entAt T 0)))) (fun q0 => kf (lget [.bool q0] 0, [(0, .blk (Cod.enc api_HallC (Cod.dec api_HallC (lget (entCs (entAt T 0))))))]))) (by kernel_rfl : halls_check_1_run N args T kf = fnM E (halls_rates_cal N) (halls_check_1_lp N) (noJn) 56 (halls_check_1_sp.vs args) (halls_check_1_sp.tab T) 1 (resK halls_check_1_rs kf)))
def slices_IndexFunc___int_int__L2 : LoopSp := ⟨⟨[0, 1, 7, 8], ⟨((rSl intC) :: (rFunc 56 0 [rPtr 0 0]) :: (dr 5 ((rInt .i64) :: (rInt .i64) :: (dr 10 [])))), [(0, eBlkC api_HallC)]⟩, 1⟩, [(Option.none, ⟨[4], ⟨(dr 4 ((rInt .i64) :: (dr 14 []))), [(0, eBlkC api_HallC)]⟩, 1⟩), (some 0, ⟨[], ⟨(dr 19 []), [(0, eBlkC api_HallC)]⟩, 1⟩)]⟩
theorem slices_IndexFunc___int_int__L2_ok : slices_IndexFunc___int_int__L2.Ok := ⟨⟨(allCons (rSl_ok intC_ok) (allCons (rFunc_ok 56 0 (allCons (rPtr_ok 0 0) allNil)) (drCons 5 (allCons (rInt_ok .i64) (allCons (rInt_ok .i64) (drCons 10 allNil)))))), (eCons (eBlkC_ok api_HallC_ok api_HallC_len) eNil)⟩, (xCons ⟨(drCons 4 (allCons (rInt_ok .i64) (drCons 14 allNil))), (eCons (eBlkC_ok api_HallC_ok api_HallC_len) eNil)⟩ (xCons ⟨(drCons 19 allNil), (eCons (eBlkC_ok api_HallC_ok api_HallC_len) eNil)⟩ xNil))⟩
def slices_IndexFunc___int_int__h2 (v146 : Arr Int) (v147 : Int) (v148 : Int) (v149 : api_Hall) : St := ⟨((slC intC v146) :: (.func 56 0 [.ptr 0 0]) :: (un 5 ((.int .i64 v147) :: (.int .i64 v148) :: (un 10 [])))), [(0, .blk (Cod.enc api_HallC v149))], 1⟩
def slices_IndexFunc___int_int__x2_r (v149 : api_Hall) (q0 : Int) : St := ⟨(un 4 ((.int .i64 q0) :: (un 14 []))), [(0, .blk (Cod.enc api_HallC v149))], 1⟩
def slices_IndexFunc___int_int__x2_0 (v149 : api_Hall) : St := ⟨(un 19 []), [(0, .blk (Cod.enc api_HallC v149))], 1⟩
def slices_IndexFunc___int_int__b2 {R : Type} (N : Nat) (rc : Arr Int → Int → Int → api_Hall → Option R) (v146 : Arr Int) (v147 : Int) (v148 : Int) (v149 : api_Hall) (kr : Int → Option R) (k0 : Unit → Option R) : Option R :=
  bif decide (v148 < v147) then
   bif decide ((0 : Int) ≤ v148) && decide (v148 < (↑(Arr.n v146) : Int)) then
    halls_check_1 N (Arr.f v146 (Int.toNat v148)) v149 (fun r152 =>
    bif r152 then
     kr v148
    else
     rc v146 v147 (w64 (v148 + (1 : Int))) v149)
   else
    Option.none
  else
   k0 ()
def slices_IndexFunc___int_int__l2 {R : Type} (N : Nat) : Nat → Arr Int → Int → Int → api_Hall → (Int → Option R) → (Unit → Option R) → Option R
  | 0, _, _, _, _, _, _ => Option.none
  | n + 1, v146, v147, v148, v149, kr, k0 => slices_IndexFunc___int_int__b2 N (fun v146 v147 v148 v149 => slices_IndexFunc___int_int__l2 N n v146 v147 v148 v149 kr k0) v146 v147 v148 v149 kr k0
def slices_IndexFunc___int_int__m {R : Type} (N : Nat) (a144 : Arr Int) (a145 : api_Hall) (k : Int → Option R) : Option R :=
  slices_IndexFunc___int_int__l2 N N a144 ((↑(Arr.n a144) : Int)) (0 : Int) a145 (fun r153 =>
   k r153) (fun (_ : Unit) =>
   k (-1 : Int))
noncomputable def slices_IndexFunc___int_int_ {R : Type} : Nat → Arr Int → api_Hall → (Int → Option R) → Option R := lock (@slices_IndexFunc___int_int__m R)
theorem slices_IndexFunc___int_int__def {R : Type} (N : Nat) (a144 : Arr Int) (a145 : api_Hall) (k : Int → Option R) : slices_IndexFunc___int_int_ N a144 a145 k = slices_IndexFunc___int_int__m N a144 a145 k := by unfold slices_IndexFunc___int_int_; rw [lock_eq]
def slices_IndexFunc___int_int__sp : Sp := ⟨[rSl intC, rFunc 56 0 [rPtr 0 0]], [(0, eBlkC api_HallC)]⟩
theorem slices_IndexFunc___int_int__sp_ok : slices_IndexFunc___int_int__sp.Ok := ⟨(allCons (rSl_ok intC_ok) (allCons (rFunc_ok 56 0 (allCons (rPtr_ok 0 0) allNil)) allNil)), (eCons (eBlkC_ok api_HallC_ok api_HallC_len) eNil)⟩
def slices_IndexFunc___int_int__rs : Sp := ⟨[rInt .i64], [(0, eBlkC api_HallC)]⟩
theorem slices_IndexFunc___int_int__rs_ok : slices_IndexFunc___int_int__rs.Ok := ⟨(allCons (rInt_ok .i64) allNil), (eCons (eBlkC_ok api_HallC_ok api_HallC_len) eNil)⟩
def slices_IndexFunc___int_int__run {R : Type} (N : Nat) (args : List SV) (T : Tab) (kf : SV × Tab → Option R) : Option R :=
  slices_IndexFunc___int_int__m N (lstC intC (lget args 0)) (Cod.dec api_HallC (lget (entCs (entAt T 0)))) (fun q0 => kf (lget [.int .i64 q0] 0, [(0, .blk (Cod.enc api_HallC (Cod.dec api_HallC (lget (entCs (entAt T 0))))))]))
def slices_IndexFunc___int_int__d2 {R : Type} (N : Nat) (S0 : St) (k : Exit → St → Option R) : Option R :=
  slices_IndexFunc___int_int__l2 N N (lstC intC (lget S0.tmps 0)) (toI (lget S0.tmps 7)) (toI (lget S0.tmps 8)) (Cod.dec api_HallC (lget (entCs (entAt S0.tab 0)))) (fun q0 => k .ret (slices_IndexFunc___int_int__x2_r (Cod.dec api_HallC (lget (entCs (entAt S0.tab 0)))) q0)) (fun (_ : Unit) => k (.exit 0) (slices_IndexFunc___int_int__x2_0 (Cod.dec api_HallC (lget (entCs (entAt S0.tab 0))))))
def slices_IndexFunc___int_int__lp {R : Type} (N : Nat) : Lp R := fun body S k => bif (Go.Sx.keyOf body).getD 0 == 2 then (slices_IndexFunc___int_int__L2.head.raw 1 S (fun S0 => slices_IndexFunc___int_int__d2 N S0 k)) else Option.none
theorem slices_IndexFunc___int_int__l2_eq {R : Type} (N : Nat) (k : Exit → St → Option R) (n : Nat) : ∀ (v0 : Arr Int) (v1 : Int) (v2 : Int) (v3 : api_Hall), loopM E.Θ (halls_check_1_cal N) (slices_IndexFunc___int_int__lp N) (noJn) 1 slices_IndexFunc___int_int__L2 (bodyAt E 66 2) n (slices_IndexFunc___int_int__h2 v0 v1 v2 v3) k = slices_IndexFunc___int_int__l2 N n v0 v1 v2 v3 (fun q0 => k .ret (slices_IndexFunc___int_int__x2_r v3 q0)) (fun (_ : Unit) => k (.exit 0) (slices_IndexFunc___int_int__x2_0 v3)) := by
  induction n with
  | zero => intro v0 v1 v2 v3; rfl
  | succ n ih =>
    intro v0 v1 v2 v3
    refine Eq.trans (b := slices_IndexFunc___int_int__b2 N (fun v0 v1 v2 v3 => loopM E.Θ (halls_check_1_cal N) (slices_IndexFunc___int_int__lp N) (noJn) 1 slices_IndexFunc___int_int__L2 (bodyAt E 66 2) n (slices_IndexFunc___int_int__h2 v0 v1 v2 v3) k) v0 v1 v2 v3 (fun q0 => k .ret (slices_IndexFunc___int_int__x2_r v3 q0)) (fun (_ : Unit) => k (.exit 0) (slices_IndexFunc___int_int__x2_0 v3))) (by kernel_rfl) ?_
    have h : (fun (v0 : Arr Int) (v1 : Int) (v2 : Int) (v3 : api_Hall) => loopM E.Θ (halls_check_1_cal N) (slices_IndexFunc___int_int__lp N) (noJn) 1 slices_IndexFunc___int_int__L2 (bodyAt E 66 2) n (slices_IndexFunc___int_int__h2 v0 v1 v2 v3) k) = (fun (v0 : Arr Int) (v1 : Int) (v2 : Int) (v3 : api_Hall) => slices_IndexFunc___int_int__l2 N n v0 v1 v2 v3 (fun q0 => k .ret (slices_IndexFunc___int_int__x2_r v3 q0)) (fun (_ : Unit) => k (.exit 0) (slices_IndexFunc___int_int__x2_0 v3))) := funext fun v0 => funext fun v1 => funext fun v2 => funext fun v3 => ih v0 v1 v2 v3
    rw [h]
    rfl
theorem slices_IndexFunc___int_int__k2 {R : Type} (N : Nat) : LpKey (R := R) E 66 1 (slices_IndexFunc___int_int__lp N) 2 :=
  lpKey_of hE (halls_check_1_cal_ok N) (lp := slices_IndexFunc___int_int__lp N) (jn := noJn) slices_IndexFunc___int_int__L2_ok [] kNil (by kernel_rfl) [] jNil (by kernel_rfl) N fun S k =>
    Eq.trans (b := slices_IndexFunc___int_int__L2.head.raw 1 S (fun S0 => slices_IndexFunc___int_int__d2 N S0 k)) (by kernel_rfl) (congrArg (slices_IndexFunc___int_int__L2.head.raw 1 S) (funext fun S0 => Eq.trans (slices_IndexFunc___int_int__l2_eq N k N (lstC intC (lget S0.tmps 0)) (toI (lget S0.tmps 7)) (toI (lget S0.tmps 8)) (Cod.dec api_HallC (lget (entCs (entAt S0.tab 0))))).symm (by kernel_rfl)))
noncomputable def slices_IndexFunc___int_int__go {R : Type} (N : Nat) (args : List SV) (T : Tab) (kf : SV × Tab → Option R) : Option R :=
  slices_IndexFunc___int_int_ N (lstC intC (lget args 0)) (Cod.dec api_HallC (lget (entCs (entAt T 0)))) (fun q0 => kf (lget [.int .i64 q0] 0, [(0, .blk (Cod.enc api_HallC (Cod.dec api_HallC (lget (entCs (entAt T 0))))))]))
noncomputable def slices_IndexFunc___int_int__cal {R : Type} (N : Nat) : Cal R := callM (halls_check_1_cal N) 66 1 slices_IndexFunc___int_int__sp (slices_IndexFunc___int_int__go N)
theorem slices_IndexFunc___int_int__cal_ok {R : Type} (N : Nat) : CalOk E.P (slices_IndexFunc___int_int__cal (R := R) N) :=
  callM_ok hE (halls_check_1_cal_ok N) (lp := slices_IndexFunc___int_int__lp N) (jn := noJn) (keys := [2]) (kCons (slices_IndexFunc___int_int__k2 N) kNil) (by kernel_rfl) (js := []) jNil (by kernel_rfl) slices_IndexFunc___int_int__sp_ok slices_IndexFunc___int_int__rs_ok (fun args T kf => Eq.trans (slices_IndexFunc___int_int__def N (lstC intC (lget args 0)) (Cod.dec api_HallC (lget (entCs (entAt T 0)))) (fun q0 => kf (lget [.int .i64 q0] 0, [(0, .blk (Cod.enc api_HallC (Cod.dec api_HallC (lget (entCs (entAt T 0))))))]))) (by kernel_rfl : slices_IndexFunc___int_int__run N args T kf = fnM E (halls_check_1_cal N) (slices_IndexFunc___int_int__lp N) (noJn) 66 (slices_IndexFunc___int_int__sp.vs args) (slices_IndexFunc___int_int__sp.tab T) 1 (resK slices_IndexFunc___int_int__rs kf)))
def slices_ContainsFunc___int_int__m {R : Type} (N : Nat) (a142 : Arr Int) (a143 : api_Hall) (k : Bool → Option R) : Option R :=
  slices_IndexFunc___int_int_ N a142 a143 (fun r154 =>
  k (decide (r154 ≥ (0 : Int))))
noncomputable def slices_ContainsFunc___int_int_ {R : Type} : Nat → Arr Int → api_Hall → (Bool → Option R) → Option R := lock (@slices_ContainsFunc___int_int__m R)
theorem slices_ContainsFunc___int_int__def {R : Type} (N : Nat) (a142 : Arr Int) (a143 : api_Hall) (k : Bool → Option R) : slices_ContainsFunc___int_int_ N a142 a143 k = slices_ContainsFunc___int_int__m N a142 a143 k := by unfold slices_ContainsFunc___int_int_; rw [lock_eq]
def slices_ContainsFunc___int_int__sp : Sp := ⟨[rSl intC, rFunc 56 0 [rPtr 0 0]], [(0, eBlkC api_HallC)]⟩
theorem slices_ContainsFunc___int_int__sp_ok : slices_ContainsFunc___int_int__sp.Ok := ⟨(allCons (rSl_ok intC_ok) (allCons (rFunc_ok 56 0 (allCons (rPtr_ok 0 0) allNil)) allNil)), (eCons (eBlkC_ok api_HallC_ok api_HallC_len) eNil)⟩
def slices_ContainsFunc___int_int__rs : Sp := ⟨[rBool], [(0, eBlkC api_HallC)]⟩
theorem slices_ContainsFunc___int_int__rs_ok : slices_ContainsFunc___int_int__rs.Ok := ⟨(allCons rBool_ok allNil), (eCons (eBlkC_ok api_HallC_ok api_HallC_len) eNil)⟩
def slices_ContainsFunc___int_int__run {R : Type} (N : Nat) (args : List SV) (T : Tab) (kf : SV × Tab → Option R) : Option R :=
  slices_ContainsFunc___int_int__m N (lstC intC (lget args 0)) (Cod.dec api_HallC (lget (entCs (entAt T 0)))) (fun q0 => kf (lget [.bool q0] 0, [(0, .blk (Cod.enc api_HallC (Cod.dec api_HallC (lget (entCs (entAt T 0))))))]))
def slices_ContainsFunc___int_int__lp {R : Type} (N : Nat) : Lp R := fun body S k => Option.none
noncomputable def slices_ContainsFunc___int_int__go {R : Type} (N : Nat) (args : List SV) (T : Tab) (kf : SV × Tab → Option R) : Option R :=
  slices_ContainsFunc___int_int_ N (lstC intC (lget args 0)) (Cod.dec api_HallC (lget (entCs (entAt T 0)))) (fun q0 => kf (lget [.bool q0] 0, [(0, .blk (Cod.enc api_HallC (Cod.dec api_HallC (lget (entCs (entAt T 0))))))]))
noncomputable def slices_ContainsFunc___int_int__cal {R : Type} (N : Nat) : Cal R := callM (slices_IndexFunc___int_int__cal N) 38 1 slices_ContainsFunc___int_int__sp (slices_ContainsFunc___int_int__go N)
theorem slices_ContainsFunc___int_int__cal_ok {R : Type} (N : Nat) : CalOk E.P (slices_ContainsFunc___int_int__cal (R := R) N) :=
  callM_ok hE (slices_IndexFunc___int_int__cal_ok N) (lp := slices_ContainsFunc___int_int__lp N) (jn := noJn) (keys := []) kNil (by kernel_rfl) (js := []) jNil (by kernel_rfl) slices_ContainsFunc___int_int__sp_ok slices_ContainsFunc___int_int__rs_ok (fun args T kf => Eq.trans (slices_ContainsFunc___int_int__def N (lstC intC (lget args 0)) (Cod.dec api_HallC (lget (entCs (entAt T 0)))) (fun q0 => kf (lget [.bool q0] 0, [(0, .blk (Cod.enc api_HallC (Cod.dec api_HallC (lget (entCs (entAt T 0))))))]))) (by kernel_rfl : slices_ContainsFunc___int_int__run N args T kf = fnM E (slices_IndexFunc___int_int__cal N) (slices_ContainsFunc___int_int__lp N) (noJn) 38 (slices_ContainsFunc___int_int__sp.vs args) (slices_ContainsFunc___int_int__sp.tab T) 1 (resK slices_ContainsFunc___int_int__rs kf)))
def halls_check_m {R : Type} (N : Nat) (a138 : api_Hall) (a139 : Int) (a140 : Arr Int) (k : Int → Option R) : Option R :=
  halls_Check N a138 (fun r141 =>
  bif r141 != (0 : Int) then
   k r141
  else
   bif decide (a139 < (0 : Int)) then
    k (1 : Int)
   else
    bif decide (a139 ≥ (↑(Arr.n (api_Hall.Combs a138)) : Int)) then
     k (1 : Int)
    else
     slices_ContainsFunc___int_int_ N a140 a138 (fun r155 =>
     bif r155 then
      k (1 : Int)
     else
      k (0 : Int)))
noncomputable def halls_check {R : Type} : Nat → api_Hall → Int → Arr Int → (Int → Option R) → Option R := lock (@halls_check_m R)
theorem halls_check_def {R : Type} (N : Nat) (a138 : api_Hall) (a139 : Int) (a140 : Arr Int) (k : Int → Option R) : halls_check N a138 a139 a140 k = halls_check_m N a138 a139 a140 k := by unfold halls_check; rw [lock_eq]
def halls_check_sp : Sp := ⟨[rAgg api_HallC, rInt .i64, rSl intC], []⟩
theorem halls_check_sp_ok : halls_check_sp.Ok := ⟨(allCons (rAgg_ok api_HallC_ok api_HallC_len) (allCons (rInt_ok .i64) (allCons (rSl_ok intC_ok) allNil))), eNil⟩
def halls_check_rs : Sp := ⟨[rInt .i64], []⟩
theorem halls_check_rs_ok : halls_check_rs.Ok := ⟨(allCons (rInt_ok .i64) allNil), eNil⟩
def halls_check_run {R : Type} (N : Nat) (args : List SV) (T : Tab) (kf : SV × Tab → Option R) : Option R :=
  halls_check_m N (Cod.dec api_HallC (lget (toCs (lget args 0)))) (toI (lget args 1)) (lstC intC (lget args 2)) (fun q0 => kf (lget [.int .i64 q0] 0, []))
def halls_check_lp {R : Type} (N : Nat) : Lp R := fun body S k => Option.none
noncomputable def halls_check_go {R : Type} (N : Nat) (args : List SV) (T : Tab) (kf : SV × Tab → Option R) : Option R :=
  halls_check N (Cod.dec api_HallC (lget (toCs (lget args 0)))) (toI (lget args 1)) (lstC intC (lget args 2)) (fun q0 => kf (lget [.int .i64 q0] 0, []))
noncomputable def halls_check_cal {R : Type} (N : Nat) : Cal R := callM (slices_ContainsFunc___int_int__cal N) 30 0 halls_check_sp (halls_check_go N)
theorem halls_check_cal_ok {R : Type} (N : Nat) : CalOk E.P (halls_check_cal (R := R) N) :=
  callM_ok hE (slices_ContainsFunc___int_int__cal_ok N) (lp := halls_check_lp N) (jn := noJn) (keys := []) kNil (by kernel_rfl) (js := []) jNil (by kernel_rfl) halls_check_sp_ok halls_check_rs_ok (fun args T kf => Eq.trans (halls_check_def N (Cod.dec api_HallC (lget (toCs (lget args 0)))) (toI (lget args 1)) (lstC intC (lget args 2)) (fun q0 => kf (lget [.int .i64 q0] 0, []))) (by kernel_rfl : halls_check_run N args T kf = fnM E (slices_ContainsFunc___int_int__cal N) (halls_check_lp N) (noJn) 30 (halls_check_sp.vs args) (halls_check_sp.tab T) 0 (resK halls_check_rs kf)))
def halls_Rates_m {R : Type} (N : Nat) (a136 : api_Hall) (a137 : Int) (k : Int → Bool → Arr Int → Option R) : Option R :=
  halls_check N a136 a137 (lst intC (0 : Nat) (zeroC [SV.int IntKind.i64 (0 : Int)])) (fun r156 =>
  bif r156 != (0 : Int) then
   k r156 true (lst intC (0 : Nat) (zeroC [SV.int IntKind.i64 (0 : Int)]))
  else
   halls_rates N a136 a137 (fun r157 r158 =>
   k (0 : Int) r157 r158))
noncomputable def halls_Rates {R : Type} : Nat → api_Hall → Int → (Int → Bool → Arr Int → Option R) → Option R := lock (@halls_Rates_m R)
theorem halls_Rates_def {R : Type} (N : Nat) (a136 : api_Hall) (a137 : Int) (k : Int → Bool → Arr Int → Option R) : halls_Rates N a136 a137 k = halls_Rates_m N a136 a137 k := by unfold halls_Rates; rw [lock_eq]
def halls_Rates_sp : Sp := ⟨[rAgg api_HallC, rInt .i64], []⟩
theorem halls_Rates_sp_ok : halls_Rates_sp.Ok := ⟨(allCons (rAgg_ok api_HallC_ok api_HallC_len) (allCons (rInt_ok .i64) allNil)), eNil⟩
def halls_Rates_rs : Sp := ⟨[rTup [rRow 0, rInt .i64]], [(0, eRow intC)]⟩
theorem halls_Rates_rs_ok : halls_Rates_rs.Ok := ⟨(allCons (rTup_ok (allCons (rRow_ok 0) (allCons (rInt_ok .i64) allNil))) allNil), (eCons (eRow_ok intC_ok) eNil)⟩
def halls_Rates_run {R : Type} (N : Nat) (args : List SV) (T : Tab) (kf : SV × Tab → Option R) : Option R :=
  halls_Rates_m N (Cod.dec api_HallC (lget (toCs (lget args 0)))) (toI (lget args 1)) (fun q0 q1 q2 => kf (lget [.tup [.row 0, .int .i64 q0]] 0, [(0, rowE intC q1 q2)]))
def halls_Rates_lp {R : Type} (N : Nat) : Lp R := fun body S k => Option.none
noncomputable def halls_Rates_go {R : Type} (N : Nat) (args : List SV) (T : Tab) (kf : SV × Tab → Option R) : Option R :=
  halls_Rates N (Cod.dec api_HallC (lget (toCs (lget args 0)))) (toI (lget args 1)) (fun q0 q1 q2 => kf (lget [.tup [.row 0, .int .i64 q0]] 0, [(0, rowE intC q1 q2)]))
noncomputable def halls_Rates_cal {R : Type} (N : Nat) : Cal R := callM (halls_check_cal N) 11 0 halls_Rates_sp (halls_Rates_go N)
theorem halls_Rates_cal_ok {R : Type} (N : Nat) : CalOk E.P (halls_Rates_cal (R := R) N) :=
  callM_ok hE (halls_check_cal_ok N) (lp := halls_Rates_lp N) (jn := noJn) (keys := []) kNil (by kernel_rfl) (js := []) jNil (by kernel_rfl) halls_Rates_sp_ok halls_Rates_rs_ok (fun args T kf => Eq.trans (halls_Rates_def N (Cod.dec api_HallC (lget (toCs (lget args 0)))) (toI (lget args 1)) (fun q0 q1 q2 => kf (lget [.tup [.row 0, .int .i64 q0]] 0, [(0, rowE intC q1 q2)]))) (by kernel_rfl : halls_Rates_run N args T kf = fnM E (halls_check_cal N) (halls_Rates_lp N) (noJn) 11 (halls_Rates_sp.vs args) (halls_Rates_sp.tab T) 0 (resK halls_Rates_rs kf)))
def halls_isDay_1_m {R : Type} (N : Nat) (a191 : Int) (a192 : api_Comb) (k : Bool → Option R) : Option R :=
  halls_in N a191 (api_Comb.Walk a192) (fun r193 =>
  k (!r193))
noncomputable def halls_isDay_1 {R : Type} : Nat → Int → api_Comb → (Bool → Option R) → Option R := lock (@halls_isDay_1_m R)
theorem halls_isDay_1_def {R : Type} (N : Nat) (a191 : Int) (a192 : api_Comb) (k : Bool → Option R) : halls_isDay_1 N a191 a192 k = halls_isDay_1_m N a191 a192 k := by unfold halls_isDay_1; rw [lock_eq]
def halls_isDay_1_sp : Sp := ⟨[rInt .i64, rPtr 0 0], [(0, eBlkC api_CombC)]⟩
theorem halls_isDay_1_sp_ok : halls_isDay_1_sp.Ok := ⟨(allCons (rInt_ok .i64) (allCons (rPtr_ok 0 0) allNil)), (eCons (eBlkC_ok api_CombC_ok api_CombC_len) eNil)⟩
def halls_isDay_1_rs : Sp := ⟨[rBool], [(0, eBlkC api_CombC)]⟩
theorem halls_isDay_1_rs_ok : halls_isDay_1_rs.Ok := ⟨(allCons rBool_ok allNil), (eCons (eBlkC_ok api_CombC_ok api_CombC_len) eNil)⟩
def halls_isDay_1_run {R : Type} (N : Nat) (args : List SV) (T : Tab) (kf : SV × Tab → Option R) : Option R :=
  halls_isDay_1_m N (toI (lget args 0)) (Cod.dec api_CombC (lget (entCs (entAt T 0)))) (fun q0 => kf (lget [.bool q0] 0, [(0, .blk (Cod.enc api_CombC (Cod.dec api_CombC (lget (entCs (entAt T 0))))))]))
def halls_isDay_1_lp {R : Type} (N : Nat) : Lp R := fun body S k => Option.none
noncomputable def halls_isDay_1_go {R : Type} (N : Nat) (args : List SV) (T : Tab) (kf : SV × Tab → Option R) : Option R :=
  halls_isDay_1 N (toI (lget args 0)) (Cod.dec api_CombC (lget (entCs (entAt T 0)))) (fun q0 => kf (lget [.bool q0] 0, [(0, .blk (Cod.enc api_CombC (Cod.dec api_CombC (lget (entCs (entAt T 0))))))]))
noncomputable def halls_isDay_1_cal {R : Type} (N : Nat) : Cal R := callM (halls_Rates_cal N) 62 1 halls_isDay_1_sp (halls_isDay_1_go N)
theorem halls_isDay_1_cal_ok {R : Type} (N : Nat) : CalOk E.P (halls_isDay_1_cal (R := R) N) :=
  callM_ok hE (halls_Rates_cal_ok N) (lp := halls_isDay_1_lp N) (jn := noJn) (keys := []) kNil (by kernel_rfl) (js := []) jNil (by kernel_rfl) halls_isDay_1_sp_ok halls_isDay_1_rs_ok (fun args T kf => Eq.trans (halls_isDay_1_def N (toI (lget args 0)) (Cod.dec api_CombC (lget (entCs (entAt T 0)))) (fun q0 => kf (lget [.bool q0] 0, [(0, .blk (Cod.enc api_CombC (Cod.dec api_CombC (lget (entCs (entAt T 0))))))]))) (by kernel_rfl : halls_isDay_1_run N args T kf = fnM E (halls_Rates_cal N) (halls_isDay_1_lp N) (noJn) 62 (halls_isDay_1_sp.vs args) (halls_isDay_1_sp.tab T) 1 (resK halls_isDay_1_rs kf)))
def slices_IndexFunc___int_int__v2_L2 : LoopSp := ⟨⟨[0, 1, 7, 8], ⟨((rSl intC) :: (rFunc 62 0 [rPtr 0 0]) :: (dr 5 ((rInt .i64) :: (rInt .i64) :: (dr 10 [])))), [(0, eBlkC api_CombC)]⟩, 1⟩, [(Option.none, ⟨[4], ⟨(dr 4 ((rInt .i64) :: (dr 14 []))), [(0, eBlkC api_CombC)]⟩, 1⟩), (some 0, ⟨[], ⟨(dr 19 []), [(0, eBlkC api_CombC)]⟩, 1⟩)]⟩
theorem slices_IndexFunc___int_int__v2_L2_ok : slices_IndexFunc___int_int__v2_L2.Ok := ⟨⟨(allCons (rSl_ok intC_ok) (allCons (rFunc_ok 62 0 (allCons (rPtr_ok 0 0) allNil)) (drCons 5 (allCons (rInt_ok .i64) (allCons (rInt_ok .i64) (drCons 10 allNil)))))), (eCons (eBlkC_ok api_CombC_ok api_CombC_len) eNil)⟩, (xCons ⟨(drCons 4 (allCons (rInt_ok .i64) (drCons 14 allNil))), (eCons (eBlkC_ok api_CombC_ok api_CombC_len) eNil)⟩ (xCons ⟨(drCons 19 allNil), (eCons (eBlkC_ok api_CombC_ok api_CombC_len) eNil)⟩ xNil))⟩
def slices_IndexFunc___int_int__v2_h2 (v187 : Arr Int) (v188 : Int) (v189 : Int) (v190 : api_Comb) : St := ⟨((slC intC v187) :: (.func 62 0 [.ptr 0 0]) :: (un 5 ((.int .i64 v188) :: (.int .i64 v189) :: (un 10 [])))), [(0, .blk (Cod.enc api_CombC v190))], 1⟩
def slices_IndexFunc___int_int__v2_x2_r (v190 : api_Comb) (q0 : Int) : St := ⟨(un 4 ((.int .i64 q0) :: (un 14 []))), [(0, .blk (Cod.enc api_CombC v190))], 1⟩
def slices_IndexFunc___int_int__v2_x2_0 (v190 : api_Comb) : St := ⟨(un 19 []), [(0, .blk (Cod.enc api_CombC v190))], 1⟩
def slices_IndexFunc___int_int__v2_b2 {R : Type} (N : Nat) (rc : Arr Int → Int → Int → api_Comb → Option R) (v187 : Arr Int) (v188 : Int) (v189 : Int) (v190 : api_Comb) (kr : Int → Option R) (k0 : Unit → Option R) : Option R :=
  bif decide (v189 < v188) then
   bif decide ((0 : Int) ≤ v189) && decide (v189 < (↑(Arr.n v187) : Int)) then
    halls_isDay_1 N (Arr.f v187 (Int.toNat v189)) v190 (fun r194 =>
    bif r194 then
     kr v189
    else
     rc v187 v188 (w64 (v189 + (1 : Int))) v190)
   else
    Option.none
  else
   k0 ()
def slices_IndexFunc___int_int__v2_l2 {R : Type} (N : Nat) : Nat → Arr Int → Int → Int → api_Comb → (Int → Option R) → (Unit → Option R) → Option R
  | 0, _, _, _, _, _, _ => Option.none
  | n + 1, v187, v188, v189, v190, kr, k0 => slices_IndexFunc___int_int__v2_b2 N (fun v187 v188 v189 v190 => slices_IndexFunc___int_int__v2_l2 N n v187 v188 v189 v190 kr k0) v187 v188 v189 v190 kr k0
def slices_IndexFunc___int_int__v2_m {R : Type} (N : Nat) (a185 : Arr Int) (a186 : api_Comb) (k : Int → Option R) : Option R :=
  slices_IndexFunc___int_int__v2_l2 N N a185 ((↑(Arr.n a185) : Int)) (0 : Int) a186 (fun r195 =>
   k r195) (fun (_ : Unit) =>
   k (-1 : Int))
noncomputable def slices_IndexFunc___int_int__v2 {R : Type} : Nat → Arr Int → api_Comb → (Int → Option R) → Option R := lock (@slices_IndexFunc___int_int__v2_m R)
theorem slices_IndexFunc___int_int__v2_def {R : Type} (N : Nat) (a185 : Arr Int) (a186 : api_Comb) (k : Int → Option R) : slices_IndexFunc___int_int__v2 N a185 a186 k = slices_IndexFunc___int_int__v2_m N a185 a186 k := by unfold slices_IndexFunc___int_int__v2; rw [lock_eq]
def slices_IndexFunc___int_int__v2_sp : Sp := ⟨[rSl intC, rFunc 62 0 [rPtr 0 0]], [(0, eBlkC api_CombC)]⟩
theorem slices_IndexFunc___int_int__v2_sp_ok : slices_IndexFunc___int_int__v2_sp.Ok := ⟨(allCons (rSl_ok intC_ok) (allCons (rFunc_ok 62 0 (allCons (rPtr_ok 0 0) allNil)) allNil)), (eCons (eBlkC_ok api_CombC_ok api_CombC_len) eNil)⟩
def slices_IndexFunc___int_int__v2_rs : Sp := ⟨[rInt .i64], [(0, eBlkC api_CombC)]⟩
theorem slices_IndexFunc___int_int__v2_rs_ok : slices_IndexFunc___int_int__v2_rs.Ok := ⟨(allCons (rInt_ok .i64) allNil), (eCons (eBlkC_ok api_CombC_ok api_CombC_len) eNil)⟩
def slices_IndexFunc___int_int__v2_run {R : Type} (N : Nat) (args : List SV) (T : Tab) (kf : SV × Tab → Option R) : Option R :=
  slices_IndexFunc___int_int__v2_m N (lstC intC (lget args 0)) (Cod.dec api_CombC (lget (entCs (entAt T 0)))) (fun q0 => kf (lget [.int .i64 q0] 0, [(0, .blk (Cod.enc api_CombC (Cod.dec api_CombC (lget (entCs (entAt T 0))))))]))
def slices_IndexFunc___int_int__v2_d2 {R : Type} (N : Nat) (S0 : St) (k : Exit → St → Option R) : Option R :=
  slices_IndexFunc___int_int__v2_l2 N N (lstC intC (lget S0.tmps 0)) (toI (lget S0.tmps 7)) (toI (lget S0.tmps 8)) (Cod.dec api_CombC (lget (entCs (entAt S0.tab 0)))) (fun q0 => k .ret (slices_IndexFunc___int_int__v2_x2_r (Cod.dec api_CombC (lget (entCs (entAt S0.tab 0)))) q0)) (fun (_ : Unit) => k (.exit 0) (slices_IndexFunc___int_int__v2_x2_0 (Cod.dec api_CombC (lget (entCs (entAt S0.tab 0))))))
def slices_IndexFunc___int_int__v2_lp {R : Type} (N : Nat) : Lp R := fun body S k => bif (Go.Sx.keyOf body).getD 0 == 2 then (slices_IndexFunc___int_int__v2_L2.head.raw 1 S (fun S0 => slices_IndexFunc___int_int__v2_d2 N S0 k)) else Option.none
theorem slices_IndexFunc___int_int__v2_l2_eq {R : Type} (N : Nat) (k : Exit → St → Option R) (n : Nat) : ∀ (v0 : Arr Int) (v1 : Int) (v2 : Int) (v3 : api_Comb), loopM E.Θ (halls_isDay_1_cal N) (slices_IndexFunc___int_int__v2_lp N) (noJn) 1 slices_IndexFunc___int_int__v2_L2 (bodyAt E 66 2) n (slices_IndexFunc___int_int__v2_h2 v0 v1 v2 v3) k = slices_IndexFunc___int_int__v2_l2 N n v0 v1 v2 v3 (fun q0 => k .ret (slices_IndexFunc___int_int__v2_x2_r v3 q0)) (fun (_ : Unit) => k (.exit 0) (slices_IndexFunc___int_int__v2_x2_0 v3)) := by
  induction n with
  | zero => intro v0 v1 v2 v3; rfl
  | succ n ih =>
    intro v0 v1 v2 v3
    refine Eq.trans (b := slices_IndexFunc___int_int__v2_b2 N (fun v0 v1 v2 v3 => loopM E.Θ (halls_isDay_1_cal N) (slices_IndexFunc___int_int__v2_lp N) (noJn) 1 slices_IndexFunc___int_int__v2_L2 (bodyAt E 66 2) n (slices_IndexFunc___int_int__v2_h2 v0 v1 v2 v3) k) v0 v1 v2 v3 (fun q0 => k .ret (slices_IndexFunc___int_int__v2_x2_r v3 q0)) (fun (_ : Unit) => k (.exit 0) (slices_IndexFunc___int_int__v2_x2_0 v3))) (by kernel_rfl) ?_
    have h : (fun (v0 : Arr Int) (v1 : Int) (v2 : Int) (v3 : api_Comb) => loopM E.Θ (halls_isDay_1_cal N) (slices_IndexFunc___int_int__v2_lp N) (noJn) 1 slices_IndexFunc___int_int__v2_L2 (bodyAt E 66 2) n (slices_IndexFunc___int_int__v2_h2 v0 v1 v2 v3) k) = (fun (v0 : Arr Int) (v1 : Int) (v2 : Int) (v3 : api_Comb) => slices_IndexFunc___int_int__v2_l2 N n v0 v1 v2 v3 (fun q0 => k .ret (slices_IndexFunc___int_int__v2_x2_r v3 q0)) (fun (_ : Unit) => k (.exit 0) (slices_IndexFunc___int_int__v2_x2_0 v3))) := funext fun v0 => funext fun v1 => funext fun v2 => funext fun v3 => ih v0 v1 v2 v3
    rw [h]
    rfl
theorem slices_IndexFunc___int_int__v2_k2 {R : Type} (N : Nat) : LpKey (R := R) E 66 1 (slices_IndexFunc___int_int__v2_lp N) 2 :=
  lpKey_of hE (halls_isDay_1_cal_ok N) (lp := slices_IndexFunc___int_int__v2_lp N) (jn := noJn) slices_IndexFunc___int_int__v2_L2_ok [] kNil (by kernel_rfl) [] jNil (by kernel_rfl) N fun S k =>
    Eq.trans (b := slices_IndexFunc___int_int__v2_L2.head.raw 1 S (fun S0 => slices_IndexFunc___int_int__v2_d2 N S0 k)) (by kernel_rfl) (congrArg (slices_IndexFunc___int_int__v2_L2.head.raw 1 S) (funext fun S0 => Eq.trans (slices_IndexFunc___int_int__v2_l2_eq N k N (lstC intC (lget S0.tmps 0)) (toI (lget S0.tmps 7)) (toI (lget S0.tmps 8)) (Cod.dec api_CombC (lget (entCs (entAt S0.tab 0))))).symm (by kernel_rfl)))
noncomputable def slices_IndexFunc___int_int__v2_go {R : Type} (N : Nat) (args : List SV) (T : Tab) (kf : SV × Tab → Option R) : Option R :=
  slices_IndexFunc___int_int__v2 N (lstC intC (lget args 0)) (Cod.dec api_CombC (lget (entCs (entAt T 0)))) (fun q0 => kf (lget [.int .i64 q0] 0, [(0, .blk (Cod.enc api_CombC (Cod.dec api_CombC (lget (entCs (entAt T 0))))))]))
noncomputable def slices_IndexFunc___int_int__v2_cal {R : Type} (N : Nat) : Cal R := callM (halls_isDay_1_cal N) 66 1 slices_IndexFunc___int_int__v2_sp (slices_IndexFunc___int_int__v2_go N)
theorem slices_IndexFunc___int_int__v2_cal_ok {R : Type} (N : Nat) : CalOk E.P (slices_IndexFunc___int_int__v2_cal (R := R) N) :=
  callM_ok hE (halls_isDay_1_cal_ok N) (lp := slices_IndexFunc___int_int__v2_lp N) (jn := noJn) (keys := [2]) (kCons (slices_IndexFunc___int_int__v2_k2 N) kNil) (by kernel_rfl) (js := []) jNil (by kernel_rfl) slices_IndexFunc___int_int__v2_sp_ok slices_IndexFunc___int_int__v2_rs_ok (fun args T kf => Eq.trans (slices_IndexFunc___int_int__v2_def N (lstC intC (lget args 0)) (Cod.dec api_CombC (lget (entCs (entAt T 0)))) (fun q0 => kf (lget [.int .i64 q0] 0, [(0, .blk (Cod.enc api_CombC (Cod.dec api_CombC (lget (entCs (entAt T 0))))))]))) (by kernel_rfl : slices_IndexFunc___int_int__v2_run N args T kf = fnM E (halls_isDay_1_cal N) (slices_IndexFunc___int_int__v2_lp N) (noJn) 66 (slices_IndexFunc___int_int__v2_sp.vs args) (slices_IndexFunc___int_int__v2_sp.tab T) 1 (resK slices_IndexFunc___int_int__v2_rs kf)))
def slices_ContainsFunc___int_int__v2_m {R : Type} (N : Nat) (a183 : Arr Int) (a184 : api_Comb) (k : Bool → Option R) : Option R :=
  slices_IndexFunc___int_int__v2 N a183 a184 (fun r196 =>
  k (decide (r196 ≥ (0 : Int))))
noncomputable def slices_ContainsFunc___int_int__v2 {R : Type} : Nat → Arr Int → api_Comb → (Bool → Option R) → Option R := lock (@slices_ContainsFunc___int_int__v2_m R)
theorem slices_ContainsFunc___int_int__v2_def {R : Type} (N : Nat) (a183 : Arr Int) (a184 : api_Comb) (k : Bool → Option R) : slices_ContainsFunc___int_int__v2 N a183 a184 k = slices_ContainsFunc___int_int__v2_m N a183 a184 k := by unfold slices_ContainsFunc___int_int__v2; rw [lock_eq]
def slices_ContainsFunc___int_int__v2_sp : Sp := ⟨[rSl intC, rFunc 62 0 [rPtr 0 0]], [(0, eBlkC api_CombC)]⟩
theorem slices_ContainsFunc___int_int__v2_sp_ok : slices_ContainsFunc___int_int__v2_sp.Ok := ⟨(allCons (rSl_ok intC_ok) (allCons (rFunc_ok 62 0 (allCons (rPtr_ok 0 0) allNil)) allNil)), (eCons (eBlkC_ok api_CombC_ok api_CombC_len) eNil)⟩
def slices_ContainsFunc___int_int__v2_rs : Sp := ⟨[rBool], [(0, eBlkC api_CombC)]⟩
theorem slices_ContainsFunc___int_int__v2_rs_ok : slices_ContainsFunc___int_int__v2_rs.Ok := ⟨(allCons rBool_ok allNil), (eCons (eBlkC_ok api_CombC_ok api_CombC_len) eNil)⟩
def slices_ContainsFunc___int_int__v2_run {R : Type} (N : Nat) (args : List SV) (T : Tab) (kf : SV × Tab → Option R) : Option R :=
  slices_ContainsFunc___int_int__v2_m N (lstC intC (lget args 0)) (Cod.dec api_CombC (lget (entCs (entAt T 0)))) (fun q0 => kf (lget [.bool q0] 0, [(0, .blk (Cod.enc api_CombC (Cod.dec api_CombC (lget (entCs (entAt T 0))))))]))
def slices_ContainsFunc___int_int__v2_lp {R : Type} (N : Nat) : Lp R := fun body S k => Option.none
noncomputable def slices_ContainsFunc___int_int__v2_go {R : Type} (N : Nat) (args : List SV) (T : Tab) (kf : SV × Tab → Option R) : Option R :=
  slices_ContainsFunc___int_int__v2 N (lstC intC (lget args 0)) (Cod.dec api_CombC (lget (entCs (entAt T 0)))) (fun q0 => kf (lget [.bool q0] 0, [(0, .blk (Cod.enc api_CombC (Cod.dec api_CombC (lget (entCs (entAt T 0))))))]))
noncomputable def slices_ContainsFunc___int_int__v2_cal {R : Type} (N : Nat) : Cal R := callM (slices_IndexFunc___int_int__v2_cal N) 38 1 slices_ContainsFunc___int_int__v2_sp (slices_ContainsFunc___int_int__v2_go N)
theorem slices_ContainsFunc___int_int__v2_cal_ok {R : Type} (N : Nat) : CalOk E.P (slices_ContainsFunc___int_int__v2_cal (R := R) N) :=
  callM_ok hE (slices_IndexFunc___int_int__v2_cal_ok N) (lp := slices_ContainsFunc___int_int__v2_lp N) (jn := noJn) (keys := []) kNil (by kernel_rfl) (js := []) jNil (by kernel_rfl) slices_ContainsFunc___int_int__v2_sp_ok slices_ContainsFunc___int_int__v2_rs_ok (fun args T kf => Eq.trans (slices_ContainsFunc___int_int__v2_def N (lstC intC (lget args 0)) (Cod.dec api_CombC (lget (entCs (entAt T 0)))) (fun q0 => kf (lget [.bool q0] 0, [(0, .blk (Cod.enc api_CombC (Cod.dec api_CombC (lget (entCs (entAt T 0))))))]))) (by kernel_rfl : slices_ContainsFunc___int_int__v2_run N args T kf = fnM E (slices_IndexFunc___int_int__v2_cal N) (slices_ContainsFunc___int_int__v2_lp N) (noJn) 38 (slices_ContainsFunc___int_int__v2_sp.vs args) (slices_ContainsFunc___int_int__v2_sp.tab T) 1 (resK slices_ContainsFunc___int_int__v2_rs kf)))
def halls_isDay_L9 : LoopSp := ⟨⟨[2, 3, 5, 38, 39, 40, 67, 68, 69], ⟨(dr 2 ((rPtr 0 0) :: (rPtr 1 0) :: (dr 1 ((rInt .i64) :: (dr 32 ((rSl api_TrainC) :: (rInt .i64) :: (rInt .i64) :: (dr 26 ((rSl api_CrowdC) :: (rInt .i64) :: (rInt .i64) :: (dr 53 []))))))))), [(0, eBlkC api_HallC), (1, eBlkC api_DayC)]⟩, 2⟩, [(Option.none, ⟨[4], ⟨(dr 4 ((rBool) :: (dr 118 []))), []⟩, 0⟩), (some 2, ⟨[2, 3, 38, 39, 40], ⟨(dr 2 ((rPtr 0 0) :: (rPtr 1 0) :: (dr 34 ((rSl api_TrainC) :: (rInt .i64) :: (rInt .i64) :: (dr 82 []))))), [(0, eBlkC api_HallC), (1, eBlkC api_DayC)]⟩, 2⟩)]⟩
theorem halls_isDay_L9_ok : halls_isDay_L9.Ok := ⟨⟨(drCons 2 (allCons (rPtr_ok 0 0) (allCons (rPtr_ok 1 0) (drCons 1 (allCons (rInt_ok .i64) (drCons 32 (allCons (rSl_ok api_TrainC_ok) (allCons (rInt_ok .i64) (allCons (rInt_ok .i64) (drCons 26 (allCons (rSl_ok api_CrowdC_ok) (allCons (rInt_ok .i64) (allCons (rInt_ok .i64) (drCons 53 allNil)))))))))))))), (eCons (eBlkC_ok api_HallC_ok api_HallC_len) (eCons (eBlkC_ok api_DayC_ok api_DayC_len) eNil))⟩, (xCons ⟨(drCons 4 (allCons rBool_ok (drCons 118 allNil))), eNil⟩ (xCons ⟨(drCons 2 (allCons (rPtr_ok 0 0) (allCons (rPtr_ok 1 0) (drCons 34 (allCons (rSl_ok api_TrainC_ok) (allCons (rInt_ok .i64) (allCons (rInt_ok .i64) (drCons 82 allNil)))))))), (eCons (eBlkC_ok api_HallC_ok api_HallC_len) (eCons (eBlkC_ok api_DayC_ok api_DayC_len) eNil))⟩ xNil))⟩
def halls_isDay_h9 (v167 : Int) (v168 : Arr api_Train) (v169 : Int) (v170 : Int) (v171 : Arr api_Crowd) (v172 : Int) (v173 : Int) (v174 : api_Hall) (v175 : api_Day) : St := ⟨(un 2 ((.ptr 0 0) :: (.ptr 1 0) :: (un 1 ((.int .i64 v167) :: (un 32 ((slC api_TrainC v168) :: (.int .i64 v169) :: (.int .i64 v170) :: (un 26 ((slC api_CrowdC v171) :: (.int .i64 v172) :: (.int .i64 v173) :: (un 53 []))))))))), [(0, .blk (Cod.enc api_HallC v174)), (1, .blk (Cod.enc api_DayC v175))], 2⟩
def halls_isDay_x9_r (q0 : Bool) : St := ⟨(un 4 ((.bool q0) :: (un 118 []))), [], 0⟩
def halls_isDay_x9_2 (v168 : Arr api_Train) (v169 : Int) (v170 : Int) (v174 : api_Hall) (v175 : api_Day) : St := ⟨(un 2 ((.ptr 0 0) :: (.ptr 1 0) :: (un 34 ((slC api_TrainC v168) :: (.int .i64 v169) :: (.int .i64 v170) :: (un 82 []))))), [(0, .blk (Cod.enc api_HallC v174)), (1, .blk (Cod.enc api_DayC v175))], 2⟩
def halls_isDay_b9 {R : Type} (N : Nat) (rc : Int → Arr api_Train → Int → Int → Arr api_Crowd → Int → Int → api_Hall → api_Day → Option R) (v167 : Int) (v168 : Arr api_Train) (v169 : Int) (v170 : Int) (v171 : Arr api_Crowd) (v172 : Int) (v173 : Int) (v174 : api_Hall) (v175 : api_Day) (kr : Bool → Option R) (k2 : Unit → Option R) : Option R :=
  bif decide (v173 < v172) then
   bif decide ((0 : Int) ≤ v173) && decide (v173 < (↑(Arr.n v171) : Int)) then
    bif decide ((0 : Int) ≤ v167) && decide (v167 < (↑(Arr.n (api_Day.People v175)) : Int)) then
     bif decide ((0 : Int) ≤ v173) && decide (v173 < (↑(Arr.n (Arr.f (api_Day.People v175) (Int.toNat v167))) : Int)) then
      halls_in N (Arr.f (Arr.f (api_Day.People v175) (Int.toNat v167)) (Int.toNat v173)) (api_Crowd.People (Arr.f v171 (Int.toNat v173))) (fun r176 =>
      bif !r176 then
       kr false
      else
       rc v167 v168 v169 v170 v171 v172 (w64 (v173 + (1 : Int))) v174 v175)
     else
      Option.none
    else
     Option.none
   else
    Option.none
  else
   k2 ()
def halls_isDay_l9 {R : Type} (N : Nat) : Nat → Int → Arr api_Train → Int → Int → Arr api_Crowd → Int → Int → api_Hall → api_Day → (Bool → Option R) → (Unit → Option R) → Option R
  | 0, _, _, _, _, _, _, _, _, _, _, _ => Option.none
  | n + 1, v167, v168, v169, v170, v171, v172, v173, v174, v175, kr, k2 => halls_isDay_b9 N (fun v167 v168 v169 v170 v171 v172 v173 v174 v175 => halls_isDay_l9 N n v167 v168 v169 v170 v171 v172 v173 v174 v175 kr k2) v167 v168 v169 v170 v171 v172 v173 v174 v175 kr k2
def halls_isDay_L4 : LoopSp := ⟨⟨[2, 3, 38, 39, 40], ⟨(dr 2 ((rPtr 0 0) :: (rPtr 1 0) :: (dr 34 ((rSl api_TrainC) :: (rInt .i64) :: (rInt .i64) :: (dr 82 []))))), [(0, eBlkC api_HallC), (1, eBlkC api_DayC)]⟩, 2⟩, [(Option.none, ⟨[4], ⟨(dr 4 ((rBool) :: (dr 118 []))), []⟩, 0⟩), (some 0, ⟨[2, 3], ⟨(dr 2 ((rPtr 0 0) :: (rPtr 1 0) :: (dr 119 []))), [(0, eBlkC api_HallC), (1, eBlkC api_DayC)]⟩, 2⟩)]⟩
theorem halls_isDay_L4_ok : halls_isDay_L4.Ok := ⟨⟨(drCons 2 (allCons (rPtr_ok 0 0) (allCons (rPtr_ok 1 0) (drCons 34 (allCons (rSl_ok api_TrainC_ok) (allCons (rInt_ok .i64) (allCons (rInt_ok .i64) (drCons 82 allNil)))))))), (eCons (eBlkC_ok api_HallC_ok api_HallC_len) (eCons (eBlkC_ok api_DayC_ok api_DayC_len) eNil))⟩, (xCons ⟨(drCons 4 (allCons rBool_ok (drCons 118 allNil))), eNil⟩ (xCons ⟨(drCons 2 (allCons (rPtr_ok 0 0) (allCons (rPtr_ok 1 0) (drCons 119 allNil)))), (eCons (eBlkC_ok api_HallC_ok api_HallC_len) (eCons (eBlkC_ok api_DayC_ok api_DayC_len) eNil))⟩ xNil))⟩
def halls_isDay_h4 (v161 : Arr api_Train) (v162 : Int) (v163 : Int) (v164 : api_Hall) (v165 : api_Day) : St := ⟨(un 2 ((.ptr 0 0) :: (.ptr 1 0) :: (un 34 ((slC api_TrainC v161) :: (.int .i64 v162) :: (.int .i64 v163) :: (un 82 []))))), [(0, .blk (Cod.enc api_HallC v164)), (1, .blk (Cod.enc api_DayC v165))], 2⟩
def halls_isDay_x4_r (q0 : Bool) : St := ⟨(un 4 ((.bool q0) :: (un 118 []))), [], 0⟩
def halls_isDay_x4_0 (v164 : api_Hall) (v165 : api_Day) : St := ⟨(un 2 ((.ptr 0 0) :: (.ptr 1 0) :: (un 119 []))), [(0, .blk (Cod.enc api_HallC v164)), (1, .blk (Cod.enc api_DayC v165))], 2⟩
def halls_isDay_b4 {R : Type} (N : Nat) (rc : Arr api_Train → Int → Int → api_Hall → api_Day → Option R) (v161 : Arr api_Train) (v162 : Int) (v163 : Int) (v164 : api_Hall) (v165 : api_Day) (kr : Bool → Option R) (k0 : Unit → Option R) : Option R :=
  bif decide (v163 < v162) then
   bif decide ((0 : Int) ≤ v163) && decide (v163 < (↑(Arr.n v161) : Int)) then
    bif decide ((0 : Int) ≤ v163) && decide (v163 < (↑(Arr.n (api_Day.At v165)) : Int)) then
     halls_in N (Arr.f (api_Day.At v165) (Int.toNat v163)) (api_Train.At (Arr.f v161 (Int.toNat v163))) (fun r166 =>
     bif !r166 then
      kr false
     else
      bif decide ((0 : Int) ≤ v163) && decide (v163 < (↑(Arr.n (api_Day.People v165)) : Int)) then
       bif (↑(Arr.n (Arr.f (api_Day.People v165) (Int.toNat v163))) : Int) != (↑(Arr.n (api_Train.Crowds (Arr.f v161 (Int.toNat v163)))) : Int) then
        kr false
       else
        halls_isDay_l9 N N v163 v161 v162 v163 (api_Train.Crowds (Arr.f v161 (Int.toNat v163))) ((↑(Arr.n (api_Train.Crowds (Arr.f v161 (Int.toNat v163)))) : Int)) (0 : Int) v164 v165 (fun r177 =>
         kr r177) (fun (_ : Unit) =>
         rc v161 v162 (w64 (v163 + (1 : Int))) v164 v165)
      else
       Option.none)
    else
     Option.none
   else
    Option.none
  else
   k0 ()
def halls_isDay_l4 {R : Type} (N : Nat) : Nat → Arr api_Train → Int → Int → api_Hall → api_Day → (Bool → Option R) → (Unit → Option R) → Option R
  | 0, _, _, _, _, _, _, _ => Option.none
  | n + 1, v161, v162, v163, v164, v165, kr, k0 => halls_isDay_b4 N (fun v161 v162 v163 v164 v165 => halls_isDay_l4 N n v161 v162 v163 v164 v165 kr k0) v161 v162 v163 v164 v165 kr k0
def halls_isDay_L16 : LoopSp := ⟨⟨[3, 89, 90, 91], ⟨(dr 3 ((rPtr 0 0) :: (dr 85 ((rSl api_CombC) :: (rInt .i64) :: (rInt .i64) :: (dr 31 []))))), [(0, eBlkC api_DayC)]⟩, 1⟩, [(Option.none, ⟨[4], ⟨(dr 4 ((rBool) :: (dr 118 []))), []⟩, 0⟩), (some 4, ⟨[], ⟨(dr 123 []), []⟩, 0⟩)]⟩
theorem halls_isDay_L16_ok : halls_isDay_L16.Ok := ⟨⟨(drCons 3 (allCons (rPtr_ok 0 0) (drCons 85 (allCons (rSl_ok api_CombC_ok) (allCons (rInt_ok .i64) (allCons (rInt_ok .i64) (drCons 31 allNil))))))), (eCons (eBlkC_ok api_DayC_ok api_DayC_len) eNil)⟩, (xCons ⟨(drCons 4 (allCons rBool_ok (drCons 118 allNil))), eNil⟩ (xCons ⟨(drCons 123 allNil), eNil⟩ xNil))⟩
def halls_isDay_h16 (v179 : Arr api_Comb) (v180 : Int) (v181 : Int) (v182 : api_Day) : St := ⟨(un 3 ((.ptr 0 0) :: (un 85 ((slC api_CombC v179) :: (.int .i64 v180) :: (.int .i64 v181) :: (un 31 []))))), [(0, .blk (Cod.enc api_DayC v182))], 1⟩
def halls_isDay_x16_r (q0 : Bool) : St := ⟨(un 4 ((.bool q0) :: (un 118 []))), [], 0⟩
def halls_isDay_x16_4  : St := ⟨(un 123 []), [], 0⟩
def halls_isDay_b16 {R : Type} (N : Nat) (rc : Arr api_Comb → Int → Int → api_Day → Option R) (v179 : Arr api_Comb) (v180 : Int) (v181 : Int) (v182 : api_Day) (kr : Bool → Option R) (k4 : Unit → Option R) : Option R :=
  bif decide (v181 < v180) then
   bif decide ((0 : Int) ≤ v181) && decide (v181 < (↑(Arr.n v179) : Int)) then
    bif decide ((0 : Int) ≤ v181) && decide (v181 < (↑(Arr.n (api_Day.Walks v182)) : Int)) then
     bif decide ((↑(Arr.n (Arr.f (api_Day.Walks v182) (Int.toNat v181))) : Int) < (1 : Int)) then
      kr false
     else
      bif decide ((0 : Int) ≤ v181) && decide (v181 < (↑(Arr.n (api_Day.Walks v182)) : Int)) then
       bif decide ((↑(Arr.n (Arr.f (api_Day.Walks v182) (Int.toNat v181))) : Int) > (20 : Int)) then
        kr false
       else
        bif decide ((0 : Int) ≤ v181) && decide (v181 < (↑(Arr.n (api_Day.Walks v182)) : Int)) then
         slices_ContainsFunc___int_int__v2 N (Arr.f (api_Day.Walks v182) (Int.toNat v181)) (Arr.f v179 (Int.toNat v181)) (fun r197 =>
         bif r197 then
          kr false
         else
          rc v179 v180 (w64 (v181 + (1 : Int))) v182)
        else
         Option.none
      else
       Option.none
    else
     Option.none
   else
    Option.none
  else
   k4 ()
def halls_isDay_l16 {R : Type} (N : Nat) : Nat → Arr api_Comb → Int → Int → api_Day → (Bool → Option R) → (Unit → Option R) → Option R
  | 0, _, _, _, _, _, _ => Option.none
  | n + 1, v179, v180, v181, v182, kr, k4 => halls_isDay_b16 N (fun v179 v180 v181 v182 => halls_isDay_l16 N n v179 v180 v181 v182 kr k4) v179 v180 v181 v182 kr k4
def halls_isDay_m {R : Type} (N : Nat) (a159 : api_Hall) (a160 : api_Day) (k : Bool → Option R) : Option R :=
  bif (↑(Arr.n (api_Day.At a160)) : Int) != (↑(Arr.n (api_Hall.Trains a159)) : Int) then
   k false
  else
   bif (↑(Arr.n (api_Day.People a160)) : Int) != (↑(Arr.n (api_Hall.Trains a159)) : Int) then
    k false
   else
    bif (↑(Arr.n (api_Day.Walks a160)) : Int) != (↑(Arr.n (api_Hall.Combs a159)) : Int) then
     k false
    else
     halls_isDay_l4 N N (api_Hall.Trains a159) ((↑(Arr.n (api_Hall.Trains a159)) : Int)) (0 : Int) a159 a160 (fun r178 =>
      k r178) (fun (_ : Unit) =>
      halls_isDay_l16 N N (api_Hall.Combs a159) ((↑(Arr.n (api_Hall.Combs a159)) : Int)) (0 : Int) a160 (fun r198 =>
       k r198) (fun (_ : Unit) =>
       k true))
noncomputable def halls_isDay {R : Type} : Nat → api_Hall → api_Day → (Bool → Option R) → Option R := lock (@halls_isDay_m R)
theorem halls_isDay_def {R : Type} (N : Nat) (a159 : api_Hall) (a160 : api_Day) (k : Bool → Option R) : halls_isDay N a159 a160 k = halls_isDay_m N a159 a160 k := by unfold halls_isDay; rw [lock_eq]
def halls_isDay_sp : Sp := ⟨[rAgg api_HallC, rAgg api_DayC], []⟩
theorem halls_isDay_sp_ok : halls_isDay_sp.Ok := ⟨(allCons (rAgg_ok api_HallC_ok api_HallC_len) (allCons (rAgg_ok api_DayC_ok api_DayC_len) allNil)), eNil⟩
def halls_isDay_rs : Sp := ⟨[rBool], []⟩
theorem halls_isDay_rs_ok : halls_isDay_rs.Ok := ⟨(allCons rBool_ok allNil), eNil⟩
def halls_isDay_run {R : Type} (N : Nat) (args : List SV) (T : Tab) (kf : SV × Tab → Option R) : Option R :=
  halls_isDay_m N (Cod.dec api_HallC (lget (toCs (lget args 0)))) (Cod.dec api_DayC (lget (toCs (lget args 1)))) (fun q0 => kf (lget [.bool q0] 0, []))
def halls_isDay_d16 {R : Type} (N : Nat) (S0 : St) (k : Exit → St → Option R) : Option R :=
  halls_isDay_l16 N N (lstC api_CombC (lget S0.tmps 89)) (toI (lget S0.tmps 90)) (toI (lget S0.tmps 91)) (Cod.dec api_DayC (lget (entCs (entAt S0.tab 0)))) (fun q0 => k .ret (halls_isDay_x16_r q0)) (fun (_ : Unit) => k (.exit 4) (halls_isDay_x16_4 ))
def halls_isDay_d9 {R : Type} (N : Nat) (S0 : St) (k : Exit → St → Option R) : Option R :=
  halls_isDay_l9 N N (toI (lget S0.tmps 5)) (lstC api_TrainC (lget S0.tmps 38)) (toI (lget S0.tmps 39)) (toI (lget S0.tmps 40)) (lstC api_CrowdC (lget S0.tmps 67)) (toI (lget S0.tmps 68)) (toI (lget S0.tmps 69)) (Cod.dec api_HallC (lget (entCs (entAt S0.tab 0)))) (Cod.dec api_DayC (lget (entCs (entAt S0.tab 1)))) (fun q0 => k .ret (halls_isDay_x9_r q0)) (fun (_ : Unit) => k (.exit 2) (halls_isDay_x9_2 (lstC api_TrainC (lget S0.tmps 38)) (toI (lget S0.tmps 39)) (toI (lget S0.tmps 40)) (Cod.dec api_HallC (lget (entCs (entAt S0.tab 0)))) (Cod.dec api_DayC (lget (entCs (entAt S0.tab 1))))))
def halls_isDay_d4 {R : Type} (N : Nat) (S0 : St) (k : Exit → St → Option R) : Option R :=
  halls_isDay_l4 N N (lstC api_TrainC (lget S0.tmps 38)) (toI (lget S0.tmps 39)) (toI (lget S0.tmps 40)) (Cod.dec api_HallC (lget (entCs (entAt S0.tab 0)))) (Cod.dec api_DayC (lget (entCs (entAt S0.tab 1)))) (fun q0 => k .ret (halls_isDay_x4_r q0)) (fun (_ : Unit) => k (.exit 0) (halls_isDay_x4_0 (Cod.dec api_HallC (lget (entCs (entAt S0.tab 0)))) (Cod.dec api_DayC (lget (entCs (entAt S0.tab 1))))))
def halls_isDay_lp {R : Type} (N : Nat) : Lp R := fun body S k => bif (Go.Sx.keyOf body).getD 0 == 4 then (halls_isDay_L4.head.raw 0 S (fun S0 => halls_isDay_d4 N S0 k)) else bif (Go.Sx.keyOf body).getD 0 == 9 then (halls_isDay_L9.head.raw 0 S (fun S0 => halls_isDay_d9 N S0 k)) else bif (Go.Sx.keyOf body).getD 0 == 16 then (halls_isDay_L16.head.raw 0 S (fun S0 => halls_isDay_d16 N S0 k)) else Option.none
theorem halls_isDay_l4_eq {R : Type} (N : Nat) (k : Exit → St → Option R) (n : Nat) : ∀ (v0 : Arr api_Train) (v1 : Int) (v2 : Int) (v3 : api_Hall) (v4 : api_Day), loopM E.Θ (slices_ContainsFunc___int_int__v2_cal N) (halls_isDay_lp N) (noJn) 0 halls_isDay_L4 (bodyAt E 33 4) n (halls_isDay_h4 v0 v1 v2 v3 v4) k = halls_isDay_l4 N n v0 v1 v2 v3 v4 (fun q0 => k .ret (halls_isDay_x4_r q0)) (fun (_ : Unit) => k (.exit 0) (halls_isDay_x4_0 v3 v4)) := by
  induction n with
  | zero => intro v0 v1 v2 v3 v4; rfl
  | succ n ih =>
    intro v0 v1 v2 v3 v4
    refine Eq.trans (b := halls_isDay_b4 N (fun v0 v1 v2 v3 v4 => loopM E.Θ (slices_ContainsFunc___int_int__v2_cal N) (halls_isDay_lp N) (noJn) 0 halls_isDay_L4 (bodyAt E 33 4) n (halls_isDay_h4 v0 v1 v2 v3 v4) k) v0 v1 v2 v3 v4 (fun q0 => k .ret (halls_isDay_x4_r q0)) (fun (_ : Unit) => k (.exit 0) (halls_isDay_x4_0 v3 v4))) (by kernel_rfl) ?_
    have h : (fun (v0 : Arr api_Train) (v1 : Int) (v2 : Int) (v3 : api_Hall) (v4 : api_Day) => loopM E.Θ (slices_ContainsFunc___int_int__v2_cal N) (halls_isDay_lp N) (noJn) 0 halls_isDay_L4 (bodyAt E 33 4) n (halls_isDay_h4 v0 v1 v2 v3 v4) k) = (fun (v0 : Arr api_Train) (v1 : Int) (v2 : Int) (v3 : api_Hall) (v4 : api_Day) => halls_isDay_l4 N n v0 v1 v2 v3 v4 (fun q0 => k .ret (halls_isDay_x4_r q0)) (fun (_ : Unit) => k (.exit 0) (halls_isDay_x4_0 v3 v4))) := funext fun v0 => funext fun v1 => funext fun v2 => funext fun v3 => funext fun v4 => ih v0 v1 v2 v3 v4
    rw [h]
    rfl
theorem halls_isDay_l9_eq {R : Type} (N : Nat) (k : Exit → St → Option R) (n : Nat) : ∀ (v0 : Int) (v1 : Arr api_Train) (v2 : Int) (v3 : Int) (v4 : Arr api_Crowd) (v5 : Int) (v6 : Int) (v7 : api_Hall) (v8 : api_Day), loopM E.Θ (slices_ContainsFunc___int_int__v2_cal N) (halls_isDay_lp N) (noJn) 0 halls_isDay_L9 (bodyAt E 33 9) n (halls_isDay_h9 v0 v1 v2 v3 v4 v5 v6 v7 v8) k = halls_isDay_l9 N n v0 v1 v2 v3 v4 v5 v6 v7 v8 (fun q0 => k .ret (halls_isDay_x9_r q0)) (fun (_ : Unit) => k (.exit 2) (halls_isDay_x9_2 v1 v2 v3 v7 v8)) := by
  induction n with
  | zero => intro v0 v1 v2 v3 v4 v5 v6 v7 v8; rfl
  | succ n ih =>
    intro v0 v1 v2 v3 v4 v5 v6 v7 v8
    refine Eq.trans (b := halls_isDay_b9 N (fun v0 v1 v2 v3 v4 v5 v6 v7 v8 => loopM E.Θ (slices_ContainsFunc___int_int__v2_cal N) (halls_isDay_lp N) (noJn) 0 halls_isDay_L9 (bodyAt E 33 9) n (halls_isDay_h9 v0 v1 v2 v3 v4 v5 v6 v7 v8) k) v0 v1 v2 v3 v4 v5 v6 v7 v8 (fun q0 => k .ret (halls_isDay_x9_r q0)) (fun (_ : Unit) => k (.exit 2) (halls_isDay_x9_2 v1 v2 v3 v7 v8))) (by kernel_rfl) ?_
    have h : (fun (v0 : Int) (v1 : Arr api_Train) (v2 : Int) (v3 : Int) (v4 : Arr api_Crowd) (v5 : Int) (v6 : Int) (v7 : api_Hall) (v8 : api_Day) => loopM E.Θ (slices_ContainsFunc___int_int__v2_cal N) (halls_isDay_lp N) (noJn) 0 halls_isDay_L9 (bodyAt E 33 9) n (halls_isDay_h9 v0 v1 v2 v3 v4 v5 v6 v7 v8) k) = (fun (v0 : Int) (v1 : Arr api_Train) (v2 : Int) (v3 : Int) (v4 : Arr api_Crowd) (v5 : Int) (v6 : Int) (v7 : api_Hall) (v8 : api_Day) => halls_isDay_l9 N n v0 v1 v2 v3 v4 v5 v6 v7 v8 (fun q0 => k .ret (halls_isDay_x9_r q0)) (fun (_ : Unit) => k (.exit 2) (halls_isDay_x9_2 v1 v2 v3 v7 v8))) := funext fun v0 => funext fun v1 => funext fun v2 => funext fun v3 => funext fun v4 => funext fun v5 => funext fun v6 => funext fun v7 => funext fun v8 => ih v0 v1 v2 v3 v4 v5 v6 v7 v8
    rw [h]
    rfl
theorem halls_isDay_l16_eq {R : Type} (N : Nat) (k : Exit → St → Option R) (n : Nat) : ∀ (v0 : Arr api_Comb) (v1 : Int) (v2 : Int) (v3 : api_Day), loopM E.Θ (slices_ContainsFunc___int_int__v2_cal N) (halls_isDay_lp N) (noJn) 0 halls_isDay_L16 (bodyAt E 33 16) n (halls_isDay_h16 v0 v1 v2 v3) k = halls_isDay_l16 N n v0 v1 v2 v3 (fun q0 => k .ret (halls_isDay_x16_r q0)) (fun (_ : Unit) => k (.exit 4) (halls_isDay_x16_4 )) := by
  induction n with
  | zero => intro v0 v1 v2 v3; rfl
  | succ n ih =>
    intro v0 v1 v2 v3
    refine Eq.trans (b := halls_isDay_b16 N (fun v0 v1 v2 v3 => loopM E.Θ (slices_ContainsFunc___int_int__v2_cal N) (halls_isDay_lp N) (noJn) 0 halls_isDay_L16 (bodyAt E 33 16) n (halls_isDay_h16 v0 v1 v2 v3) k) v0 v1 v2 v3 (fun q0 => k .ret (halls_isDay_x16_r q0)) (fun (_ : Unit) => k (.exit 4) (halls_isDay_x16_4 ))) (by kernel_rfl) ?_
    have h : (fun (v0 : Arr api_Comb) (v1 : Int) (v2 : Int) (v3 : api_Day) => loopM E.Θ (slices_ContainsFunc___int_int__v2_cal N) (halls_isDay_lp N) (noJn) 0 halls_isDay_L16 (bodyAt E 33 16) n (halls_isDay_h16 v0 v1 v2 v3) k) = (fun (v0 : Arr api_Comb) (v1 : Int) (v2 : Int) (v3 : api_Day) => halls_isDay_l16 N n v0 v1 v2 v3 (fun q0 => k .ret (halls_isDay_x16_r q0)) (fun (_ : Unit) => k (.exit 4) (halls_isDay_x16_4 ))) := funext fun v0 => funext fun v1 => funext fun v2 => funext fun v3 => ih v0 v1 v2 v3
    rw [h]
    rfl
theorem halls_isDay_k9 {R : Type} (N : Nat) : LpKey (R := R) E 33 0 (halls_isDay_lp N) 9 :=
  lpKey_of hE (slices_ContainsFunc___int_int__v2_cal_ok N) (lp := halls_isDay_lp N) (jn := noJn) halls_isDay_L9_ok [] kNil (by kernel_rfl) [] jNil (by kernel_rfl) N fun S k =>
    Eq.trans (b := halls_isDay_L9.head.raw 0 S (fun S0 => halls_isDay_d9 N S0 k)) (by kernel_rfl) (congrArg (halls_isDay_L9.head.raw 0 S) (funext fun S0 => Eq.trans (halls_isDay_l9_eq N k N (toI (lget S0.tmps 5)) (lstC api_TrainC (lget S0.tmps 38)) (toI (lget S0.tmps 39)) (toI (lget S0.tmps 40)) (lstC api_CrowdC (lget S0.tmps 67)) (toI (lget S0.tmps 68)) (toI (lget S0.tmps 69)) (Cod.dec api_HallC (lget (entCs (entAt S0.tab 0)))) (Cod.dec api_DayC (lget (entCs (entAt S0.tab 1))))).symm (by kernel_rfl)))
theorem halls_isDay_k16 {R : Type} (N : Nat) : LpKey (R := R) E 33 0 (halls_isDay_lp N) 16 :=
  lpKey_of hE (slices_ContainsFunc___int_int__v2_cal_ok N) (lp := halls_isDay_lp N) (jn := noJn) halls_isDay_L16_ok [] kNil (by kernel_rfl) [] jNil (by kernel_rfl) N fun S k =>
    Eq.trans (b := halls_isDay_L16.head.raw 0 S (fun S0 => halls_isDay_d16 N S0 k)) (by kernel_rfl) (congrArg (halls_isDay_L16.head.raw 0 S) (funext fun S0 => Eq.trans (halls_isDay_l16_eq N k N (lstC api_CombC (lget S0.tmps 89)) (toI (lget S0.tmps 90)) (toI (lget S0.tmps 91)) (Cod.dec api_DayC (lget (entCs (entAt S0.tab 0))))).symm (by kernel_rfl)))
theorem halls_isDay_k4 {R : Type} (N : Nat) : LpKey (R := R) E 33 0 (halls_isDay_lp N) 4 :=
  lpKey_of hE (slices_ContainsFunc___int_int__v2_cal_ok N) (lp := halls_isDay_lp N) (jn := noJn) halls_isDay_L4_ok [9] (kCons (halls_isDay_k9 N) kNil) (by kernel_rfl) [] jNil (by kernel_rfl) N fun S k =>
    Eq.trans (b := halls_isDay_L4.head.raw 0 S (fun S0 => halls_isDay_d4 N S0 k)) (by kernel_rfl) (congrArg (halls_isDay_L4.head.raw 0 S) (funext fun S0 => Eq.trans (halls_isDay_l4_eq N k N (lstC api_TrainC (lget S0.tmps 38)) (toI (lget S0.tmps 39)) (toI (lget S0.tmps 40)) (Cod.dec api_HallC (lget (entCs (entAt S0.tab 0)))) (Cod.dec api_DayC (lget (entCs (entAt S0.tab 1))))).symm (by kernel_rfl)))
noncomputable def halls_isDay_go {R : Type} (N : Nat) (args : List SV) (T : Tab) (kf : SV × Tab → Option R) : Option R :=
  halls_isDay N (Cod.dec api_HallC (lget (toCs (lget args 0)))) (Cod.dec api_DayC (lget (toCs (lget args 1)))) (fun q0 => kf (lget [.bool q0] 0, []))
noncomputable def halls_isDay_cal {R : Type} (N : Nat) : Cal R := callM (slices_ContainsFunc___int_int__v2_cal N) 33 0 halls_isDay_sp (halls_isDay_go N)
theorem halls_isDay_cal_ok {R : Type} (N : Nat) : CalOk E.P (halls_isDay_cal (R := R) N) :=
  callM_ok hE (slices_ContainsFunc___int_int__v2_cal_ok N) (lp := halls_isDay_lp N) (jn := noJn) (keys := [4, 9, 16]) (kCons (halls_isDay_k4 N) (kCons (halls_isDay_k9 N) (kCons (halls_isDay_k16 N) kNil))) (by kernel_rfl) (js := []) jNil (by kernel_rfl) halls_isDay_sp_ok halls_isDay_rs_ok (fun args T kf => Eq.trans (halls_isDay_def N (Cod.dec api_HallC (lget (toCs (lget args 0)))) (Cod.dec api_DayC (lget (toCs (lget args 1)))) (fun q0 => kf (lget [.bool q0] 0, []))) (by kernel_rfl : halls_isDay_run N args T kf = fnM E (slices_ContainsFunc___int_int__v2_cal N) (halls_isDay_lp N) (noJn) 33 (halls_isDay_sp.vs args) (halls_isDay_sp.tab T) 0 (resK halls_isDay_rs kf)))
def halls_Play_L8 : LoopSp := ⟨⟨[2, 3, 7, 31, 32], ⟨(dr 2 ((rPtr 0 0) :: (rPtr 1 0) :: (dr 3 ((rRow 2) :: (dr 23 ((rInt .i64) :: (rInt .i64) :: (dr 153 []))))))), [(0, eBlkC api_HallC), (1, eBlkC api_DayC), (2, eMx .i64)]⟩, 3⟩, [(some 0, ⟨[2, 3, 7], ⟨(dr 2 ((rPtr 0 0) :: (rPtr 1 0) :: (dr 3 ((rRow 2) :: (dr 178 []))))), [(0, eBlkC api_HallC), (1, eBlkC api_DayC), (2, eMx .i64)]⟩, 3⟩)]⟩
theorem halls_Play_L8_ok : halls_Play_L8.Ok := ⟨⟨(drCons 2 (allCons (rPtr_ok 0 0) (allCons (rPtr_ok 1 0) (drCons 3 (allCons (rRow_ok 2) (drCons 23 (allCons (rInt_ok .i64) (allCons (rInt_ok .i64) (drCons 153 allNil))))))))), (eCons (eBlkC_ok api_HallC_ok api_HallC_len) (eCons (eBlkC_ok api_DayC_ok api_DayC_len) (eCons eMx_ok eNil)))⟩, (xCons ⟨(drCons 2 (allCons (rPtr_ok 0 0) (allCons (rPtr_ok 1 0) (drCons 3 (allCons (rRow_ok 2) (drCons 178 allNil)))))), (eCons (eBlkC_ok api_HallC_ok api_HallC_len) (eCons (eBlkC_ok api_DayC_ok api_DayC_len) (eCons eMx_ok eNil)))⟩ xNil)⟩
def halls_Play_h8 (v203 : Int) (v204 : Int) (v205 : api_Hall) (v206 : api_Day) (v207 : Arr (Arr Int)) : St := ⟨(un 2 ((.ptr 0 0) :: (.ptr 1 0) :: (un 3 ((.row 2) :: (un 23 ((.int .i64 v203) :: (.int .i64 v204) :: (un 153 []))))))), [(0, .blk (Cod.enc api_HallC v205)), (1, .blk (Cod.enc api_DayC v206)), (2, mxE .i64 v207)], 3⟩
def halls_Play_x8_0 (v205 : api_Hall) (v206 : api_Day) (q2 : Arr (Arr Int)) : St := ⟨(un 2 ((.ptr 0 0) :: (.ptr 1 0) :: (un 3 ((.row 2) :: (un 178 []))))), [(0, .blk (Cod.enc api_HallC v205)), (1, .blk (Cod.enc api_DayC v206)), (2, mxE .i64 q2)], 3⟩
def halls_Play_b8 {R : Type} (N : Nat) (rc : Int → Int → api_Hall → api_Day → Arr (Arr Int) → Option R) (v203 : Int) (v204 : Int) (v205 : api_Hall) (v206 : api_Day) (v207 : Arr (Arr Int)) (k0 : Arr (Arr Int) → Option R) : Option R :=
  bif decide (v204 < v203) then
   bif decide ((↑(Arr.n (api_Hall.Combs v205)) : Int) ≤ (↑(Arr.n (api_Hall.Combs v205)) : Int)) && decide ((↑(Arr.n (api_Hall.Combs v205)) : Int) ≤ (1073741824 : Int)) then
    bif room (Arr.n v207 + (1 : Nat)) then
     rc v203 (w64 (v204 + (1 : Int))) v205 v206 (mxD (Arr.n v207 + (1 : Nat)) (catL (Arr.n v207) (mxL v207) (constL (Int.toNat (↑(Arr.n (api_Hall.Combs v205)) : Int)))) (catG (Arr.n v207) (mxG v207) (rowG (zeroC [SV.int IntKind.i64 (0 : Int)]))))
    else
     Option.none
   else
    Option.none
  else
   k0 v207
def halls_Play_l8 {R : Type} (N : Nat) : Nat → Int → Int → api_Hall → api_Day → Arr (Arr Int) → (Arr (Arr Int) → Option R) → Option R
  | 0, _, _, _, _, _, _ => Option.none
  | n + 1, v203, v204, v205, v206, v207, k0 => halls_Play_b8 N (fun v203 v204 v205 v206 v207 => halls_Play_l8 N n v203 v204 v205 v206 v207 k0) v203 v204 v205 v206 v207 k0
def halls_Play_L15 : LoopSp := ⟨⟨[2, 3, 7, 8, 43, 44, 45, 51, 52, 53], ⟨(dr 2 ((rPtr 0 0) :: (rPtr 1 0) :: (dr 3 ((rRow 2) :: (rInt .i64) :: (dr 34 ((rSl api_TrainC) :: (rInt .i64) :: (rInt .i64) :: (dr 5 ((rSl api_CrowdC) :: (rInt .i64) :: (rInt .i64) :: (dr 132 []))))))))), [(0, eBlkC api_HallC), (1, eBlkC api_DayC), (2, eMx .i64)]⟩, 3⟩, [(some 4, ⟨[2, 3, 7, 43, 44, 45], ⟨(dr 2 ((rPtr 0 0) :: (rPtr 1 0) :: (dr 3 ((rRow 2) :: (dr 35 ((rSl api_TrainC) :: (rInt .i64) :: (rInt .i64) :: (dr 140 []))))))), [(0, eBlkC api_HallC), (1, eBlkC api_DayC), (2, eMx .i64)]⟩, 3⟩)]⟩
theorem halls_Play_L15_ok : halls_Play_L15.Ok := ⟨⟨(drCons 2 (allCons (rPtr_ok 0 0) (allCons (rPtr_ok 1 0) (drCons 3 (allCons (rRow_ok 2) (allCons (rInt_ok .i64) (drCons 34 (allCons (rSl_ok api_TrainC_ok) (allCons (rInt_ok .i64) (allCons (rInt_ok .i64) (drCons 5 (allCons (rSl_ok api_CrowdC_ok) (allCons (rInt_ok .i64) (allCons (rInt_ok .i64) (drCons 132 allNil))))))))))))))), (eCons (eBlkC_ok api_HallC_ok api_HallC_len) (eCons (eBlkC_ok api_DayC_ok api_DayC_len) (eCons eMx_ok eNil)))⟩, (xCons ⟨(drCons 2 (allCons (rPtr_ok 0 0) (allCons (rPtr_ok 1 0) (drCons 3 (allCons (rRow_ok 2) (drCons 35 (allCons (rSl_ok api_TrainC_ok) (allCons (rInt_ok .i64) (allCons (rInt_ok .i64) (drCons 140 allNil)))))))))), (eCons (eBlkC_ok api_HallC_ok api_HallC_len) (eCons (eBlkC_ok api_DayC_ok api_DayC_len) (eCons eMx_ok eNil)))⟩ xNil)⟩
def halls_Play_h15 (v215 : Int) (v216 : Arr api_Train) (v217 : Int) (v218 : Int) (v219 : Arr api_Crowd) (v220 : Int) (v221 : Int) (v222 : api_Hall) (v223 : api_Day) (v224 : Arr (Arr Int)) : St := ⟨(un 2 ((.ptr 0 0) :: (.ptr 1 0) :: (un 3 ((.row 2) :: (.int .i64 v215) :: (un 34 ((slC api_TrainC v216) :: (.int .i64 v217) :: (.int .i64 v218) :: (un 5 ((slC api_CrowdC v219) :: (.int .i64 v220) :: (.int .i64 v221) :: (un 132 []))))))))), [(0, .blk (Cod.enc api_HallC v222)), (1, .blk (Cod.enc api_DayC v223)), (2, mxE .i64 v224)], 3⟩
def halls_Play_x15_4 (v216 : Arr api_Train) (v217 : Int) (v218 : Int) (v222 : api_Hall) (v223 : api_Day) (q5 : Arr (Arr Int)) : St := ⟨(un 2 ((.ptr 0 0) :: (.ptr 1 0) :: (un 3 ((.row 2) :: (un 35 ((slC api_TrainC v216) :: (.int .i64 v217) :: (.int .i64 v218) :: (un 140 []))))))), [(0, .blk (Cod.enc api_HallC v222)), (1, .blk (Cod.enc api_DayC v223)), (2, mxE .i64 q5)], 3⟩
def halls_Play_b15 {R : Type} (N : Nat) (rc : Int → Arr api_Train → Int → Int → Arr api_Crowd → Int → Int → api_Hall → api_Day → Arr (Arr Int) → Option R) (v215 : Int) (v216 : Arr api_Train) (v217 : Int) (v218 : Int) (v219 : Arr api_Crowd) (v220 : Int) (v221 : Int) (v222 : api_Hall) (v223 : api_Day) (v224 : Arr (Arr Int)) (k4 : Arr (Arr Int) → Option R) : Option R :=
  bif decide (v221 < v220) then
   bif decide ((0 : Int) ≤ v221) && decide (v221 < (↑(Arr.n v219) : Int)) then
    bif decide ((0 : Int) ≤ v215) && decide (v215 < (↑(Arr.n (api_Day.At v223)) : Int)) then
     bif decide ((0 : Int) ≤ Arr.f (api_Day.At v223) (Int.toNat v215)) && decide (Arr.f (api_Day.At v223) (Int.toNat v215) < (↑(Arr.n v224) : Int)) then
      bif decide ((0 : Int) ≤ api_Crowd.Comb (Arr.f v219 (Int.toNat v221))) && decide (api_Crowd.Comb (Arr.f v219 (Int.toNat v221)) < (↑(mxL v224 (Int.toNat (Arr.f (api_Day.At v223) (Int.toNat v215)))) : Int)) then
       bif decide ((0 : Int) ≤ v215) && decide (v215 < (↑(Arr.n (api_Day.People v223)) : Int)) then
        bif decide ((0 : Int) ≤ v221) && decide (v221 < (↑(Arr.n (Arr.f (api_Day.People v223) (Int.toNat v215))) : Int)) then
         bif decide ((0 : Int) ≤ api_Crowd.Comb (Arr.f v219 (Int.toNat v221))) && decide (api_Crowd.Comb (Arr.f v219 (Int.toNat v221)) < (↑(mxL v224 (Int.toNat (Arr.f (api_Day.At v223) (Int.toNat v215)))) : Int)) then
          rc v215 v216 v217 v218 v219 v220 (w64 (v221 + (1 : Int))) v222 v223 (mxD (Arr.n v224) (mxL v224) (setG (Int.toNat (Arr.f (api_Day.At v223) (Int.toNat v215))) (Int.toNat (api_Crowd.Comb (Arr.f v219 (Int.toNat v221)))) (w64 (mxG v224 (Int.toNat (Arr.f (api_Day.At v223) (Int.toNat v215))) (Int.toNat (api_Crowd.Comb (Arr.f v219 (Int.toNat v221)))) + Arr.f (Arr.f (api_Day.People v223) (Int.toNat v215)) (Int.toNat v221))) (mxG v224)))
         else
          Option.none
        else
         Option.none
       else
        Option.none
      else
       Option.none
     else
      Option.none
    else
     Option.none
   else
    Option.none
  else
   k4 v224
def halls_Play_l15 {R : Type} (N : Nat) : Nat → Int → Arr api_Train → Int → Int → Arr api_Crowd → Int → Int → api_Hall → api_Day → Arr (Arr Int) → (Arr (Arr Int) → Option R) → Option R
  | 0, _, _, _, _, _, _, _, _, _, _, _ => Option.none
  | n + 1, v215, v216, v217, v218, v219, v220, v221, v222, v223, v224, k4 => halls_Play_b15 N (fun v215 v216 v217 v218 v219 v220 v221 v222 v223 v224 => halls_Play_l15 N n v215 v216 v217 v218 v219 v220 v221 v222 v223 v224 k4) v215 v216 v217 v218 v219 v220 v221 v222 v223 v224 k4
def halls_Play_L12 : LoopSp := ⟨⟨[2, 3, 7, 43, 44, 45], ⟨(dr 2 ((rPtr 0 0) :: (rPtr 1 0) :: (dr 3 ((rRow 2) :: (dr 35 ((rSl api_TrainC) :: (rInt .i64) :: (rInt .i64) :: (dr 140 []))))))), [(0, eBlkC api_HallC), (1, eBlkC api_DayC), (2, eMx .i64)]⟩, 3⟩, [(some 2, ⟨[2, 3, 7], ⟨(dr 2 ((rPtr 0 0) :: (rPtr 1 0) :: (dr 3 ((rRow 2) :: (dr 178 []))))), [(0, eBlkC api_HallC), (1, eBlkC api_DayC), (2, eMx .i64)]⟩, 3⟩)]⟩
theorem halls_Play_L12_ok : halls_Play_L12.Ok := ⟨⟨(drCons 2 (allCons (rPtr_ok 0 0) (allCons (rPtr_ok 1 0) (drCons 3 (allCons (rRow_ok 2) (drCons 35 (allCons (rSl_ok api_TrainC_ok) (allCons (rInt_ok .i64) (allCons (rInt_ok .i64) (drCons 140 allNil)))))))))), (eCons (eBlkC_ok api_HallC_ok api_HallC_len) (eCons (eBlkC_ok api_DayC_ok api_DayC_len) (eCons eMx_ok eNil)))⟩, (xCons ⟨(drCons 2 (allCons (rPtr_ok 0 0) (allCons (rPtr_ok 1 0) (drCons 3 (allCons (rRow_ok 2) (drCons 178 allNil)))))), (eCons (eBlkC_ok api_HallC_ok api_HallC_len) (eCons (eBlkC_ok api_DayC_ok api_DayC_len) (eCons eMx_ok eNil)))⟩ xNil)⟩
def halls_Play_h12 (v209 : Arr api_Train) (v210 : Int) (v211 : Int) (v212 : api_Hall) (v213 : api_Day) (v214 : Arr (Arr Int)) : St := ⟨(un 2 ((.ptr 0 0) :: (.ptr 1 0) :: (un 3 ((.row 2) :: (un 35 ((slC api_TrainC v209) :: (.int .i64 v210) :: (.int .i64 v211) :: (un 140 []))))))), [(0, .blk (Cod.enc api_HallC v212)), (1, .blk (Cod.enc api_DayC v213)), (2, mxE .i64 v214)], 3⟩
def halls_Play_x12_2 (v212 : api_Hall) (v213 : api_Day) (q2 : Arr (Arr Int)) : St := ⟨(un 2 ((.ptr 0 0) :: (.ptr 1 0) :: (un 3 ((.row 2) :: (un 178 []))))), [(0, .blk (Cod.enc api_HallC v212)), (1, .blk (Cod.enc api_DayC v213)), (2, mxE .i64 q2)], 3⟩
def halls_Play_b12 {R : Type} (N : Nat) (rc : Arr api_Train → Int → Int → api_Hall → api_Day → Arr (Arr Int) → Option R) (v209 : Arr api_Train) (v210 : Int) (v211 : Int) (v212 : api_Hall) (v213 : api_Day) (v214 : Arr (Arr Int)) (k2 : Arr (Arr Int) → Option R) : Option R :=
  bif decide (v211 < v210) then
   bif decide ((0 : Int) ≤ v211) && decide (v211 < (↑(Arr.n v209) : Int)) then
    halls_Play_l15 N N v211 v209 v210 v211 (api_Train.Crowds (Arr.f v209 (Int.toNat v211))) ((↑(Arr.n (api_Train.Crowds (Arr.f v209 (Int.toNat v211)))) : Int)) (0 : Int) v212 v213 v214 (fun r225 =>
     rc v209 v210 (w64 (v211 + (1 : Int))) v212 v213 r225)
   else
    Option.none
  else
   k2 v214
def halls_Play_l12 {R : Type} (N : Nat) : Nat → Arr api_Train → Int → Int → api_Hall → api_Day → Arr (Arr Int) → (Arr (Arr Int) → Option R) → Option R
  | 0, _, _, _, _, _, _, _ => Option.none
  | n + 1, v209, v210, v211, v212, v213, v214, k2 => halls_Play_b12 N (fun v209 v210 v211 v212 v213 v214 => halls_Play_l12 N n v209 v210 v211 v212 v213 v214 k2) v209 v210 v211 v212 v213 v214 k2
def halls_Play_L22 : LoopSp := ⟨⟨[2, 3, 7, 12, 88, 89], ⟨(dr 2 ((rPtr 0 0) :: (rPtr 1 0) :: (dr 3 ((rRow 2) :: (dr 4 ((rRow 3) :: (dr 75 ((rInt .i64) :: (rInt .i64) :: (dr 96 []))))))))), [(0, eBlkC api_HallC), (1, eBlkC api_DayC), (2, eMx .i64), (3, eRow (lsC intC))]⟩, 4⟩, [(some 6, ⟨[2, 3, 7, 12], ⟨(dr 2 ((rPtr 0 0) :: (rPtr 1 0) :: (dr 3 ((rRow 2) :: (dr 4 ((rRow 3) :: (dr 173 []))))))), [(0, eBlkC api_HallC), (1, eBlkC api_DayC), (2, eMx .i64), (3, eRow (lsC intC))]⟩, 4⟩)]⟩
theorem halls_Play_L22_ok : halls_Play_L22.Ok := ⟨⟨(drCons 2 (allCons (rPtr_ok 0 0) (allCons (rPtr_ok 1 0) (drCons 3 (allCons (rRow_ok 2) (drCons 4 (allCons (rRow_ok 3) (drCons 75 (allCons (rInt_ok .i64) (allCons (rInt_ok .i64) (drCons 96 allNil))))))))))), (eCons (eBlkC_ok api_HallC_ok api_HallC_len) (eCons (eBlkC_ok api_DayC_ok api_DayC_len) (eCons eMx_ok (eCons (eRow_ok (lsC_ok intC_ok)) eNil))))⟩, (xCons ⟨(drCons 2 (allCons (rPtr_ok 0 0) (allCons (rPtr_ok 1 0) (drCons 3 (allCons (rRow_ok 2) (drCons 4 (allCons (rRow_ok 3) (drCons 173 allNil)))))))), (eCons (eBlkC_ok api_HallC_ok api_HallC_len) (eCons (eBlkC_ok api_DayC_ok api_DayC_len) (eCons eMx_ok (eCons (eRow_ok (lsC_ok intC_ok)) eNil))))⟩ xNil)⟩
def halls_Play_h22 (v227 : Int) (v228 : Int) (v229 : api_Hall) (v230 : api_Day) (v231 : Arr (Arr Int)) (v232 : Bool) (v233 : Arr (Arr Int)) : St := ⟨(un 2 ((.ptr 0 0) :: (.ptr 1 0) :: (un 3 ((.row 2) :: (un 4 ((.row 3) :: (un 75 ((.int .i64 v227) :: (.int .i64 v228) :: (un 96 []))))))))), [(0, .blk (Cod.enc api_HallC v229)), (1, .blk (Cod.enc api_DayC v230)), (2, mxE .i64 v231), (3, rowE (lsC intC) v232 v233)], 4⟩
def halls_Play_x22_6 (v229 : api_Hall) (v230 : api_Day) (v231 : Arr (Arr Int)) (v232 : Bool) (q4 : Arr (Arr Int)) : St := ⟨(un 2 ((.ptr 0 0) :: (.ptr 1 0) :: (un 3 ((.row 2) :: (un 4 ((.row 3) :: (un 173 []))))))), [(0, .blk (Cod.enc api_HallC v229)), (1, .blk (Cod.enc api_DayC v230)), (2, mxE .i64 v231), (3, rowE (lsC intC) v232 q4)], 4⟩
def halls_Play_b22 {R : Type} (N : Nat) (rc : Int → Int → api_Hall → api_Day → Arr (Arr Int) → Bool → Arr (Arr Int) → Option R) (v227 : Int) (v228 : Int) (v229 : api_Hall) (v230 : api_Day) (v231 : Arr (Arr Int)) (v232 : Bool) (v233 : Arr (Arr Int)) (k6 : Arr (Arr Int) → Option R) : Option R :=
  bif decide (v228 < v227) then
   halls_rates N v229 v228 (fun r234 r235 =>
   bif decide ((0 : Int) ≤ v228) && decide (v228 < (↑(Arr.n v233) : Int)) then
    rc v227 (w64 (v228 + (1 : Int))) v229 v230 v231 v232 (lst (lsC intC) (Arr.n v233) (setCs (Int.toNat v228) (0 : Nat) (Cod.cell (lsC intC) (Arr.f v233)) [SV.sl SK.any (Cod.sg intC) (Cod.size intC) (Arr.n r235) (Cod.cell intC (Arr.f r235))]))
   else
    Option.none)
  else
   k6 v233
def halls_Play_l22 {R : Type} (N : Nat) : Nat → Int → Int → api_Hall → api_Day → Arr (Arr Int) → Bool → Arr (Arr Int) → (Arr (Arr Int) → Option R) → Option R
  | 0, _, _, _, _, _, _, _, _ => Option.none
  | n + 1, v227, v228, v229, v230, v231, v232, v233, k6 => halls_Play_b22 N (fun v227 v228 v229 v230 v231 v232 v233 => halls_Play_l22 N n v227 v228 v229 v230 v231 v232 v233 k6) v227 v228 v229 v230 v231 v232 v233 k6
def halls_Play_L30 : LoopSp := ⟨⟨[2, 3, 7, 12, 14, 99, 100, 101, 106, 107, 108], ⟨(dr 2 ((rPtr 0 0) :: (rPtr 1 0) :: (dr 3 ((rRow 2) :: (dr 4 ((rRow 3) :: (dr 1 ((rInt .i64) :: (dr 84 ((rRow 2) :: (rInt .i64) :: (rInt .i64) :: (dr 4 ((rRef 2) :: (rInt .i64) :: (rInt .i64) :: (dr 77 []))))))))))))), [(0, eBlkC api_HallC), (1, eBlkC api_DayC), (2, eMx .i64), (3, eRow (lsC intC))]⟩, 4⟩, [(some 10, ⟨[2, 3, 7, 12, 99, 100, 101], ⟨(dr 2 ((rPtr 0 0) :: (rPtr 1 0) :: (dr 3 ((rRow 2) :: (dr 4 ((rRow 3) :: (dr 86 ((rRow 2) :: (rInt .i64) :: (rInt .i64) :: (dr 84 []))))))))), [(0, eBlkC api_HallC), (1, eBlkC api_DayC), (2, eMx .i64), (3, eRow (lsC intC))]⟩, 4⟩)]⟩
theorem halls_Play_L30_ok : halls_Play_L30.Ok := ⟨⟨(drCons 2 (allCons (rPtr_ok 0 0) (allCons (rPtr_ok 1 0) (drCons 3 (allCons (rRow_ok 2) (drCons 4 (allCons (rRow_ok 3) (drCons 1 (allCons (rInt_ok .i64) (drCons 84 (allCons (rRow_ok 2) (allCons (rInt_ok .i64) (allCons (rInt_ok .i64) (drCons 4 (allCons (rRef_ok 2) (allCons (rInt_ok .i64) (allCons (rInt_ok .i64) (drCons 77 allNil)))))))))))))))))), (eCons (eBlkC_ok api_HallC_ok api_HallC_len) (eCons (eBlkC_ok api_DayC_ok api_DayC_len) (eCons eMx_ok (eCons (eRow_ok (lsC_ok intC_ok)) eNil))))⟩, (xCons ⟨(drCons 2 (allCons (rPtr_ok 0 0) (allCons (rPtr_ok 1 0) (drCons 3 (allCons (rRow_ok 2) (drCons 4 (allCons (rRow_ok 3) (drCons 86 (allCons (rRow_ok 2) (allCons (rInt_ok .i64) (allCons (rInt_ok .i64) (drCons 84 allNil)))))))))))), (eCons (eBlkC_ok api_HallC_ok api_HallC_len) (eCons (eBlkC_ok api_DayC_ok api_DayC_len) (eCons eMx_ok (eCons (eRow_ok (lsC_ok intC_ok)) eNil))))⟩ xNil)⟩
def halls_Play_h30 (v244 : Int) (v245 : Int) (v246 : Int) (v247 : Nat) (v248 : Int) (v249 : Int) (v250 : api_Hall) (v251 : api_Day) (v252 : Arr (Arr Int)) (v253 : Bool) (v254 : Arr (Arr Int)) : St := ⟨(un 2 ((.ptr 0 0) :: (.ptr 1 0) :: (un 3 ((.row 2) :: (un 4 ((.row 3) :: (un 1 ((.int .i64 v244) :: (un 84 ((.row 2) :: (.int .i64 v245) :: (.int .i64 v246) :: (un 4 ((.wptr 2 0 v247 0) :: (.int .i64 v248) :: (.int .i64 v249) :: (un 77 []))))))))))))), [(0, .blk (Cod.enc api_HallC v250)), (1, .blk (Cod.enc api_DayC v251)), (2, mxE .i64 v252), (3, rowE (lsC intC) v253 v254)], 4⟩
def halls_Play_x30_10 (v245 : Int) (v246 : Int) (v250 : api_Hall) (v251 : api_Day) (v253 : Bool) (v254 : Arr (Arr Int)) (q4 : Arr (Arr Int)) : St := ⟨(un 2 ((.ptr 0 0) :: (.ptr 1 0) :: (un 3 ((.row 2) :: (un 4 ((.row 3) :: (un 86 ((.row 2) :: (.int .i64 v245) :: (.int .i64 v246) :: (un 84 []))))))))), [(0, .blk (Cod.enc api_HallC v250)), (1, .blk (Cod.enc api_DayC v251)), (2, mxE .i64 q4), (3, rowE (lsC intC) v253 v254)], 4⟩
def halls_Play_b30 {R : Type} (N : Nat) (rc : Int → Int → Int → Nat → Int → Int → api_Hall → api_Day → Arr (Arr Int) → Bool → Arr (Arr Int) → Option R) (v244 : Int) (v245 : Int) (v246 : Int) (v247 : Nat) (v248 : Int) (v249 : Int) (v250 : api_Hall) (v251 : api_Day) (v252 : Arr (Arr Int)) (v253 : Bool) (v254 : Arr (Arr Int)) (k10 : Arr (Arr Int) → Option R) : Option R :=
  bif decide (v249 < v248) then
   bif decide ((0 : Int) ≤ v249) && decide (v249 < (↑(mxL v252 v247) : Int)) then
    bif decide ((0 : Int) ≤ v249) && decide (v249 < (↑(Arr.n v254) : Int)) then
     bif decide ((0 : Int) ≤ v244) && decide (v244 < (↑(Arr.n (Arr.f v254 (Int.toNat v249))) : Int)) then
      bif decide (w64 (v244 + (1 : Int)) < api_Hall.Until v250) then
       bif decide ((0 : Int) ≤ w64 (v244 + (1 : Int))) && decide (w64 (v244 + (1 : Int)) < (↑(Arr.n v252) : Int)) then
        bif decide ((0 : Int) ≤ v249) && decide (v249 < (↑(mxL v252 (Int.toNat (w64 (v244 + (1 : Int))))) : Int)) then
         bif decide ((0 : Int) ≤ v249) && decide (v249 < (↑(mxL v252 (Int.toNat (w64 (v244 + (1 : Int))))) : Int)) then
          bif decide ((0 : Int) ≤ v249) && decide (v249 < (↑(Arr.n (api_Day.Walks v251)) : Int)) then
           bif decide ((0 : Int) ≤ v249) && decide (v249 < (↑(Arr.n (api_Day.Walks v251)) : Int)) then
            bif (↑(Arr.n (Arr.f (api_Day.Walks v251) (Int.toNat v249))) : Int) == (0 : Int) then
             Option.none
            else
             bif decide ((0 : Int) ≤ Int.tmod v244 (↑(Arr.n (Arr.f (api_Day.Walks v251) (Int.toNat v249))) : Int)) && decide (Int.tmod v244 (↑(Arr.n (Arr.f (api_Day.Walks v251) (Int.toNat v249))) : Int) < (↑(Arr.n (Arr.f (api_Day.Walks v251) (Int.toNat v249))) : Int)) then
              bif decide ((0 : Int) ≤ v249) && decide (v249 < (↑(Arr.n (api_Hall.Combs v250)) : Int)) then
               bif decide (api_Comb.Next (Arr.f (api_Hall.Combs v250) (Int.toNat v249)) ≥ (0 : Int)) then
                bif decide (w64 (v244 + Arr.f (Arr.f (api_Day.Walks v251) (Int.toNat v249)) (Int.toNat (Int.tmod v244 (↑(Arr.n (Arr.f (api_Day.Walks v251) (Int.toNat v249))) : Int)))) < api_Hall.Until v250) then
                 bif decide ((0 : Int) ≤ w64 (v244 + Arr.f (Arr.f (api_Day.Walks v251) (Int.toNat v249)) (Int.toNat (Int.tmod v244 (↑(Arr.n (Arr.f (api_Day.Walks v251) (Int.toNat v249))) : Int))))) && decide (w64 (v244 + Arr.f (Arr.f (api_Day.Walks v251) (Int.toNat v249)) (Int.toNat (Int.tmod v244 (↑(Arr.n (Arr.f (api_Day.Walks v251) (Int.toNat v249))) : Int)))) < (↑(Arr.n v252) : Int)) then
                  bif decide ((0 : Int) ≤ api_Comb.Next (Arr.f (api_Hall.Combs v250) (Int.toNat v249))) && decide (api_Comb.Next (Arr.f (api_Hall.Combs v250) (Int.toNat v249)) < (↑(mxL v252 (Int.toNat (w64 (v244 + Arr.f (Arr.f (api_Day.Walks v251) (Int.toNat v249)) (Int.toNat (Int.tmod v244 (↑(Arr.n (Arr.f (api_Day.Walks v251) (Int.toNat v249))) : Int))))))) : Int)) then
                   bif decide ((0 : Int) ≤ api_Comb.Next (Arr.f (api_Hall.Combs v250) (Int.toNat v249))) && decide (api_Comb.Next (Arr.f (api_Hall.Combs v250) (Int.toNat v249)) < (↑(mxL v252 (Int.toNat (w64 (v244 + Arr.f (Arr.f (api_Day.Walks v251) (Int.toNat v249)) (Int.toNat (Int.tmod v244 (↑(Arr.n (Arr.f (api_Day.Walks v251) (Int.toNat v249))) : Int))))))) : Int)) then
                    rc v244 v245 v246 v247 v248 (w64 (v249 + (1 : Int))) v250 v251 (mxD (Arr.n v252) (mxL v252) (setG (Int.toNat (w64 (v244 + Arr.f (Arr.f (api_Day.Walks v251) (Int.toNat v249)) (Int.toNat (Int.tmod v244 (↑(Arr.n (Arr.f (api_Day.Walks v251) (Int.toNat v249))) : Int)))))) (Int.toNat (api_Comb.Next (Arr.f (api_Hall.Combs v250) (Int.toNat v249)))) (w64 (setG (Int.toNat (w64 (v244 + (1 : Int)))) (Int.toNat v249) (w64 (mxG v252 (Int.toNat (w64 (v244 + (1 : Int)))) (Int.toNat v249) + w64 (mxG v252 v247 (Int.toNat v249) - mnI (mxG v252 v247 (Int.toNat v249)) (Arr.f (Arr.f v254 (Int.toNat v249)) (Int.toNat v244))))) (mxG v252) (Int.toNat (w64 (v244 + Arr.f (Arr.f (api_Day.Walks v251) (Int.toNat v249)) (Int.toNat (Int.tmod v244 (↑(Arr.n (Arr.f (api_Day.Walks v251) (Int.toNat v249))) : Int)))))) (Int.toNat (api_Comb.Next (Arr.f (api_Hall.Combs v250) (Int.toNat v249)))) + mnI (mxG v252 v247 (Int.toNat v249)) (Arr.f (Arr.f v254 (Int.toNat v249)) (Int.toNat v244)))) (setG (Int.toNat (w64 (v244 + (1 : Int)))) (Int.toNat v249) (w64 (mxG v252 (Int.toNat (w64 (v244 + (1 : Int)))) (Int.toNat v249) + w64 (mxG v252 v247 (Int.toNat v249) - mnI (mxG v252 v247 (Int.toNat v249)) (Arr.f (Arr.f v254 (Int.toNat v249)) (Int.toNat v244))))) (mxG v252)))) v253 v254
                   else
                    Option.none
                  else
                   Option.none
                 else
                  Option.none
                else
                 rc v244 v245 v246 v247 v248 (w64 (v249 + (1 : Int))) v250 v251 (mxD (Arr.n v252) (mxL v252) (setG (Int.toNat (w64 (v244 + (1 : Int)))) (Int.toNat v249) (w64 (mxG v252 (Int.toNat (w64 (v244 + (1 : Int)))) (Int.toNat v249) + w64 (mxG v252 v247 (Int.toNat v249) - mnI (mxG v252 v247 (Int.toNat v249)) (Arr.f (Arr.f v254 (Int.toNat v249)) (Int.toNat v244))))) (mxG v252))) v253 v254
               else
                rc v244 v245 v246 v247 v248 (w64 (v249 + (1 : Int))) v250 v251 (mxD (Arr.n v252) (mxL v252) (setG (Int.toNat (w64 (v244 + (1 : Int)))) (Int.toNat v249) (w64 (mxG v252 (Int.toNat (w64 (v244 + (1 : Int)))) (Int.toNat v249) + w64 (mxG v252 v247 (Int.toNat v249) - mnI (mxG v252 v247 (Int.toNat v249)) (Arr.f (Arr.f v254 (Int.toNat v249)) (Int.toNat v244))))) (mxG v252))) v253 v254
              else
               Option.none
             else
              Option.none
           else
            Option.none
          else
           Option.none
         else
          Option.none
        else
         Option.none
       else
        Option.none
      else
       bif decide ((0 : Int) ≤ v249) && decide (v249 < (↑(Arr.n (api_Day.Walks v251)) : Int)) then
        bif decide ((0 : Int) ≤ v249) && decide (v249 < (↑(Arr.n (api_Day.Walks v251)) : Int)) then
         bif (↑(Arr.n (Arr.f (api_Day.Walks v251) (Int.toNat v249))) : Int) == (0 : Int) then
          Option.none
         else
          bif decide ((0 : Int) ≤ Int.tmod v244 (↑(Arr.n (Arr.f (api_Day.Walks v251) (Int.toNat v249))) : Int)) && decide (Int.tmod v244 (↑(Arr.n (Arr.f (api_Day.Walks v251) (Int.toNat v249))) : Int) < (↑(Arr.n (Arr.f (api_Day.Walks v251) (Int.toNat v249))) : Int)) then
           bif decide ((0 : Int) ≤ v249) && decide (v249 < (↑(Arr.n (api_Hall.Combs v250)) : Int)) then
            bif decide (api_Comb.Next (Arr.f (api_Hall.Combs v250) (Int.toNat v249)) ≥ (0 : Int)) then
             bif decide (w64 (v244 + Arr.f (Arr.f (api_Day.Walks v251) (Int.toNat v249)) (Int.toNat (Int.tmod v244 (↑(Arr.n (Arr.f (api_Day.Walks v251) (Int.toNat v249))) : Int)))) < api_Hall.Until v250) then
              bif decide ((0 : Int) ≤ w64 (v244 + Arr.f (Arr.f (api_Day.Walks v251) (Int.toNat v249)) (Int.toNat (Int.tmod v244 (↑(Arr.n (Arr.f (api_Day.Walks v251) (Int.toNat v249))) : Int))))) && decide (w64 (v244 + Arr.f (Arr.f (api_Day.Walks v251) (Int.toNat v249)) (Int.toNat (Int.tmod v244 (↑(Arr.n (Arr.f (api_Day.Walks v251) (Int.toNat v249))) : Int)))) < (↑(Arr.n v252) : Int)) then
               bif decide ((0 : Int) ≤ api_Comb.Next (Arr.f (api_Hall.Combs v250) (Int.toNat v249))) && decide (api_Comb.Next (Arr.f (api_Hall.Combs v250) (Int.toNat v249)) < (↑(mxL v252 (Int.toNat (w64 (v244 + Arr.f (Arr.f (api_Day.Walks v251) (Int.toNat v249)) (Int.toNat (Int.tmod v244 (↑(Arr.n (Arr.f (api_Day.Walks v251) (Int.toNat v249))) : Int))))))) : Int)) then
                bif decide ((0 : Int) ≤ api_Comb.Next (Arr.f (api_Hall.Combs v250) (Int.toNat v249))) && decide (api_Comb.Next (Arr.f (api_Hall.Combs v250) (Int.toNat v249)) < (↑(mxL v252 (Int.toNat (w64 (v244 + Arr.f (Arr.f (api_Day.Walks v251) (Int.toNat v249)) (Int.toNat (Int.tmod v244 (↑(Arr.n (Arr.f (api_Day.Walks v251) (Int.toNat v249))) : Int))))))) : Int)) then
                 rc v244 v245 v246 v247 v248 (w64 (v249 + (1 : Int))) v250 v251 (mxD (Arr.n v252) (mxL v252) (setG (Int.toNat (w64 (v244 + Arr.f (Arr.f (api_Day.Walks v251) (Int.toNat v249)) (Int.toNat (Int.tmod v244 (↑(Arr.n (Arr.f (api_Day.Walks v251) (Int.toNat v249))) : Int)))))) (Int.toNat (api_Comb.Next (Arr.f (api_Hall.Combs v250) (Int.toNat v249)))) (w64 (mxG v252 (Int.toNat (w64 (v244 + Arr.f (Arr.f (api_Day.Walks v251) (Int.toNat v249)) (Int.toNat (Int.tmod v244 (↑(Arr.n (Arr.f (api_Day.Walks v251) (Int.toNat v249))) : Int)))))) (Int.toNat (api_Comb.Next (Arr.f (api_Hall.Combs v250) (Int.toNat v249)))) + mnI (mxG v252 v247 (Int.toNat v249)) (Arr.f (Arr.f v254 (Int.toNat v249)) (Int.toNat v244)))) (mxG v252))) v253 v254
                else
                 Option.none
               else
                Option.none
              else
               Option.none
             else
              rc v244 v245 v246 v247 v248 (w64 (v249 + (1 : Int))) v250 v251 v252 v253 v254
            else
             rc v244 v245 v246 v247 v248 (w64 (v249 + (1 : Int))) v250 v251 v252 v253 v254
           else
            Option.none
          else
           Option.none
        else
         Option.none
       else
        Option.none
     else
      Option.none
    else
     Option.none
   else
    Option.none
  else
   k10 v252
def halls_Play_l30 {R : Type} (N : Nat) : Nat → Int → Int → Int → Nat → Int → Int → api_Hall → api_Day → Arr (Arr Int) → Bool → Arr (Arr Int) → (Arr (Arr Int) → Option R) → Option R
  | 0, _, _, _, _, _, _, _, _, _, _, _, _ => Option.none
  | n + 1, v244, v245, v246, v247, v248, v249, v250, v251, v252, v253, v254, k10 => halls_Play_b30 N (fun v244 v245 v246 v247 v248 v249 v250 v251 v252 v253 v254 => halls_Play_l30 N n v244 v245 v246 v247 v248 v249 v250 v251 v252 v253 v254 k10) v244 v245 v246 v247 v248 v249 v250 v251 v252 v253 v254 k10
def halls_Play_L27 : LoopSp := ⟨⟨[2, 3, 7, 12, 99, 100, 101], ⟨(dr 2 ((rPtr 0 0) :: (rPtr 1 0) :: (dr 3 ((rRow 2) :: (dr 4 ((rRow 3) :: (dr 86 ((rRow 2) :: (rInt .i64) :: (rInt .i64) :: (dr 84 []))))))))), [(0, eBlkC api_HallC), (1, eBlkC api_DayC), (2, eMx .i64), (3, eRow (lsC intC))]⟩, 4⟩, [(some 8, ⟨[7], ⟨(dr 7 ((rRow 0) :: (dr 178 []))), [(0, eMx .i64)]⟩, 1⟩)]⟩
theorem halls_Play_L27_ok : halls_Play_L27.Ok := ⟨⟨(drCons 2 (allCons (rPtr_ok 0 0) (allCons (rPtr_ok 1 0) (drCons 3 (allCons (rRow_ok 2) (drCons 4 (allCons (rRow_ok 3) (drCons 86 (allCons (rRow_ok 2) (allCons (rInt_ok .i64) (allCons (rInt_ok .i64) (drCons 84 allNil)))))))))))), (eCons (eBlkC_ok api_HallC_ok api_HallC_len) (eCons (eBlkC_ok api_DayC_ok api_DayC_len) (eCons eMx_ok (eCons (eRow_ok (lsC_ok intC_ok)) eNil))))⟩, (xCons ⟨(drCons 7 (allCons (rRow_ok 0) (drCons 178 allNil))), (eCons eMx_ok eNil)⟩ xNil)⟩
def halls_Play_h27 (v237 : Int) (v238 : Int) (v239 : api_Hall) (v240 : api_Day) (v241 : Arr (Arr Int)) (v242 : Bool) (v243 : Arr (Arr Int)) : St := ⟨(un 2 ((.ptr 0 0) :: (.ptr 1 0) :: (un 3 ((.row 2) :: (un 4 ((.row 3) :: (un 86 ((.row 2) :: (.int .i64 v237) :: (.int .i64 v238) :: (un 84 []))))))))), [(0, .blk (Cod.enc api_HallC v239)), (1, .blk (Cod.enc api_DayC v240)), (2, mxE .i64 v241), (3, rowE (lsC intC) v242 v243)], 4⟩
def halls_Play_x27_8 (q0 : Arr (Arr Int)) : St := ⟨(un 7 ((.row 0) :: (un 178 []))), [(0, mxE .i64 q0)], 1⟩
def halls_Play_b27 {R : Type} (N : Nat) (rc : Int → Int → api_Hall → api_Day → Arr (Arr Int) → Bool → Arr (Arr Int) → Option R) (v237 : Int) (v238 : Int) (v239 : api_Hall) (v240 : api_Day) (v241 : Arr (Arr Int)) (v242 : Bool) (v243 : Arr (Arr Int)) (k8 : Arr (Arr Int) → Option R) : Option R :=
  bif decide (v238 < v237) then
   bif decide ((0 : Int) ≤ v238) && decide (v238 < (↑(Arr.n v241) : Int)) then
    halls_Play_l30 N N v238 v237 v238 (Int.toNat v238) ((↑(mxL v241 (Int.toNat v238)) : Int)) (0 : Int) v239 v240 v241 v242 v243 (fun r255 =>
     rc v237 (w64 (v238 + (1 : Int))) v239 v240 r255 v242 v243)
   else
    Option.none
  else
   k8 v241
def halls_Play_l27 {R : Type} (N : Nat) : Nat → Int → Int → api_Hall → api_Day → Arr (Arr Int) → Bool → Arr (Arr Int) → (Arr (Arr Int) → Option R) → Option R
  | 0, _, _, _, _, _, _, _, _ => Option.none
  | n + 1, v237, v238, v239, v240, v241, v242, v243, k8 => halls_Play_b27 N (fun v237 v238 v239 v240 v241 v242 v243 => halls_Play_l27 N n v237 v238 v239 v240 v241 v242 v243 k8) v237 v238 v239 v240 v241 v242 v243 k8
def halls_Play_m {R : Type} (N : Nat) (a199 : api_Hall) (a200 : api_Day) (k : Int → Arr (Arr Int) → Option R) : Option R :=
  halls_Check N a199 (fun r201 =>
  bif r201 != (0 : Int) then
   k r201 (mxD (0 : Nat) (constL (0 : Nat)) fun (x x_1 : Nat) ↦ (0 : Int))
  else
   halls_isDay N a199 a200 (fun r202 =>
   bif !r202 then
    k (61 : Int) (mxD (0 : Nat) (constL (0 : Nat)) fun (x x_1 : Nat) ↦ (0 : Int))
   else
    halls_Play_l8 N N (api_Hall.Until a199) (0 : Int) a199 a200 (mxD (0 : Nat) (constL (0 : Nat)) fun (x x_1 : Nat) ↦ (0 : Int)) (fun r208 =>
     halls_Play_l12 N N (api_Hall.Trains a199) ((↑(Arr.n (api_Hall.Trains a199)) : Int)) (0 : Int) a199 a200 r208 (fun r226 =>
      bif decide ((↑(Arr.n (api_Hall.Combs a199)) : Int) ≤ (↑(Arr.n (api_Hall.Combs a199)) : Int)) && decide ((↑(Arr.n (api_Hall.Combs a199)) : Int) ≤ (1073741824 : Int)) then
       halls_Play_l22 N N ((↑(Arr.n (api_Hall.Combs a199)) : Int)) (0 : Int) a199 a200 r226 false (lst (lsC intC) (Int.toNat (↑(Arr.n (api_Hall.Combs a199)) : Int)) (zeroC [SV.sl SK.nil (CK.cons (CK.int IntKind.i64) CK.nil) (1 : Nat) (0 : Nat) (zeroC [SV.int IntKind.i64 (0 : Int)])])) (fun r236 =>
        halls_Play_l27 N N ((↑(Arr.n r226) : Int)) (0 : Int) a199 a200 r226 false r236 (fun r256 =>
         k (0 : Int) r256))
      else
       Option.none))))
noncomputable def halls_Play {R : Type} : Nat → api_Hall → api_Day → (Int → Arr (Arr Int) → Option R) → Option R := lock (@halls_Play_m R)
theorem halls_Play_def {R : Type} (N : Nat) (a199 : api_Hall) (a200 : api_Day) (k : Int → Arr (Arr Int) → Option R) : halls_Play N a199 a200 k = halls_Play_m N a199 a200 k := by unfold halls_Play; rw [lock_eq]
def halls_Play_sp : Sp := ⟨[rAgg api_HallC, rAgg api_DayC], []⟩
theorem halls_Play_sp_ok : halls_Play_sp.Ok := ⟨(allCons (rAgg_ok api_HallC_ok api_HallC_len) (allCons (rAgg_ok api_DayC_ok api_DayC_len) allNil)), eNil⟩
def halls_Play_rs : Sp := ⟨[rTup [rRow 0, rInt .i64]], [(0, eMx .i64)]⟩
theorem halls_Play_rs_ok : halls_Play_rs.Ok := ⟨(allCons (rTup_ok (allCons (rRow_ok 0) (allCons (rInt_ok .i64) allNil))) allNil), (eCons eMx_ok eNil)⟩
def halls_Play_run {R : Type} (N : Nat) (args : List SV) (T : Tab) (kf : SV × Tab → Option R) : Option R :=
  halls_Play_m N (Cod.dec api_HallC (lget (toCs (lget args 0)))) (Cod.dec api_DayC (lget (toCs (lget args 1)))) (fun q0 q1 => kf (lget [.tup [.row 0, .int .i64 q0]] 0, [(0, mxE .i64 q1)]))
def halls_Play_d30 {R : Type} (N : Nat) (S0 : St) (k : Exit → St → Option R) : Option R :=
  halls_Play_l30 N N (toI (lget S0.tmps 14)) (toI (lget S0.tmps 100)) (toI (lget S0.tmps 101)) (toW (lget S0.tmps 106)) (toI (lget S0.tmps 107)) (toI (lget S0.tmps 108)) (Cod.dec api_HallC (lget (entCs (entAt S0.tab 0)))) (Cod.dec api_DayC (lget (entCs (entAt S0.tab 1)))) (mxD (entMn (entAt S0.tab 2)) (entMl (entAt S0.tab 2)) (entMg (entAt S0.tab 2))) (entNl (entAt S0.tab 3)) (lst (lsC intC) (entN (entAt S0.tab 3)) (entC (entAt S0.tab 3))) (fun q4 => k (.exit 10) (halls_Play_x30_10 (toI (lget S0.tmps 100)) (toI (lget S0.tmps 101)) (Cod.dec api_HallC (lget (entCs (entAt S0.tab 0)))) (Cod.dec api_DayC (lget (entCs (entAt S0.tab 1)))) (entNl (entAt S0.tab 3)) (lst (lsC intC) (entN (entAt S0.tab 3)) (entC (entAt S0.tab 3))) q4))
def halls_Play_d27 {R : Type} (N : Nat) (S0 : St) (k : Exit → St → Option R) : Option R :=
  halls_Play_l27 N N (toI (lget S0.tmps 100)) (toI (lget S0.tmps 101)) (Cod.dec api_HallC (lget (entCs (entAt S0.tab 0)))) (Cod.dec api_DayC (lget (entCs (entAt S0.tab 1)))) (mxD (entMn (entAt S0.tab 2)) (entMl (entAt S0.tab 2)) (entMg (entAt S0.tab 2))) (entNl (entAt S0.tab 3)) (lst (lsC intC) (entN (entAt S0.tab 3)) (entC (entAt S0.tab 3))) (fun q0 => k (.exit 8) (halls_Play_x27_8 q0))
def halls_Play_d22 {R : Type} (N : Nat) (S0 : St) (k : Exit → St → Option R) : Option R :=
  halls_Play_l22 N N (toI (lget S0.tmps 88)) (toI (lget S0.tmps 89)) (Cod.dec api_HallC (lget (entCs (entAt S0.tab 0)))) (Cod.dec api_DayC (lget (entCs (entAt S0.tab 1)))) (mxD (entMn (entAt S0.tab 2)) (entMl (entAt S0.tab 2)) (entMg (entAt S0.tab 2))) (entNl (entAt S0.tab 3)) (lst (lsC intC) (entN (entAt S0.tab 3)) (entC (entAt S0.tab 3))) (fun q4 => k (.exit 6) (halls_Play_x22_6 (Cod.dec api_HallC (lget (entCs (entAt S0.tab 0)))) (Cod.dec api_DayC (lget (entCs (entAt S0.tab 1)))) (mxD (entMn (entAt S0.tab 2)) (entMl (entAt S0.tab 2)) (entMg (entAt S0.tab 2))) (entNl (entAt S0.tab 3)) q4))
def halls_Play_d15 {R : Type} (N : Nat) (S0 : St) (k : Exit → St → Option R) : Option R :=
  halls_Play_l15 N N (toI (lget S0.tmps 8)) (lstC api_TrainC (lget S0.tmps 43)) (toI (lget S0.tmps 44)) (toI (lget S0.tmps 45)) (lstC api_CrowdC (lget S0.tmps 51)) (toI (lget S0.tmps 52)) (toI (lget S0.tmps 53)) (Cod.dec api_HallC (lget (entCs (entAt S0.tab 0)))) (Cod.dec api_DayC (lget (entCs (entAt S0.tab 1)))) (mxD (entMn (entAt S0.tab 2)) (entMl (entAt S0.tab 2)) (entMg (entAt S0.tab 2))) (fun q5 => k (.exit 4) (halls_Play_x15_4 (lstC api_TrainC (lget S0.tmps 43)) (toI (lget S0.tmps 44)) (toI (lget S0.tmps 45)) (Cod.dec api_HallC (lget (entCs (entAt S0.tab 0)))) (Cod.dec api_DayC (lget (entCs (entAt S0.tab 1)))) q5))
def halls_Play_d12 {R : Type} (N : Nat) (S0 : St) (k : Exit → St → Option R) : Option R :=
  halls_Play_l12 N N (lstC api_TrainC (lget S0.tmps 43)) (toI (lget S0.tmps 44)) (toI (lget S0.tmps 45)) (Cod.dec api_HallC (lget (entCs (entAt S0.tab 0)))) (Cod.dec api_DayC (lget (entCs (entAt S0.tab 1)))) (mxD (entMn (entAt S0.tab 2)) (entMl (entAt S0.tab 2)) (entMg (entAt S0.tab 2))) (fun q2 => k (.exit 2) (halls_Play_x12_2 (Cod.dec api_HallC (lget (entCs (entAt S0.tab 0)))) (Cod.dec api_DayC (lget (entCs (entAt S0.tab 1)))) q2))
def halls_Play_d8 {R : Type} (N : Nat) (S0 : St) (k : Exit → St → Option R) : Option R :=
  halls_Play_l8 N N (toI (lget S0.tmps 31)) (toI (lget S0.tmps 32)) (Cod.dec api_HallC (lget (entCs (entAt S0.tab 0)))) (Cod.dec api_DayC (lget (entCs (entAt S0.tab 1)))) (mxD (entMn (entAt S0.tab 2)) (entMl (entAt S0.tab 2)) (entMg (entAt S0.tab 2))) (fun q2 => k (.exit 0) (halls_Play_x8_0 (Cod.dec api_HallC (lget (entCs (entAt S0.tab 0)))) (Cod.dec api_DayC (lget (entCs (entAt S0.tab 1)))) q2))
def halls_Play_lp {R : Type} (N : Nat) : Lp R := fun body S k => bif (Go.Sx.keyOf body).getD 0 == 8 then (halls_Play_L8.head.raw 0 S (fun S0 => halls_Play_d8 N S0 k)) else bif (Go.Sx.keyOf body).getD 0 == 12 then (halls_Play_L12.head.raw 0 S (fun S0 => halls_Play_d12 N S0 k)) else bif (Go.Sx.keyOf body).getD 0 == 15 then (halls_Play_L15.head.raw 0 S (fun S0 => halls_Play_d15 N S0 k)) else bif (Go.Sx.keyOf body).getD 0 == 22 then (halls_Play_L22.head.raw 0 S (fun S0 => halls_Play_d22 N S0 k)) else bif (Go.Sx.keyOf body).getD 0 == 27 then (halls_Play_L27.head.raw 0 S (fun S0 => halls_Play_d27 N S0 k)) else bif (Go.Sx.keyOf body).getD 0 == 30 then (halls_Play_L30.head.raw 0 S (fun S0 => halls_Play_d30 N S0 k)) else Option.none
theorem halls_Play_l8_eq {R : Type} (N : Nat) (k : Exit → St → Option R) (n : Nat) : ∀ (v0 : Int) (v1 : Int) (v2 : api_Hall) (v3 : api_Day) (v4 : Arr (Arr Int)), loopM E.Θ (halls_isDay_cal N) (halls_Play_lp N) (noJn) 0 halls_Play_L8 (bodyAt E 12 8) n (halls_Play_h8 v0 v1 v2 v3 v4) k = halls_Play_l8 N n v0 v1 v2 v3 v4 (fun q2 => k (.exit 0) (halls_Play_x8_0 v2 v3 q2)) := by
  induction n with
  | zero => intro v0 v1 v2 v3 v4; rfl
  | succ n ih =>
    intro v0 v1 v2 v3 v4
    refine Eq.trans (b := halls_Play_b8 N (fun v0 v1 v2 v3 v4 => loopM E.Θ (halls_isDay_cal N) (halls_Play_lp N) (noJn) 0 halls_Play_L8 (bodyAt E 12 8) n (halls_Play_h8 v0 v1 v2 v3 v4) k) v0 v1 v2 v3 v4 (fun q2 => k (.exit 0) (halls_Play_x8_0 v2 v3 q2))) (by kernel_rfl) ?_
    have h : (fun (v0 : Int) (v1 : Int) (v2 : api_Hall) (v3 : api_Day) (v4 : Arr (Arr Int)) => loopM E.Θ (halls_isDay_cal N) (halls_Play_lp N) (noJn) 0 halls_Play_L8 (bodyAt E 12 8) n (halls_Play_h8 v0 v1 v2 v3 v4) k) = (fun (v0 : Int) (v1 : Int) (v2 : api_Hall) (v3 : api_Day) (v4 : Arr (Arr Int)) => halls_Play_l8 N n v0 v1 v2 v3 v4 (fun q2 => k (.exit 0) (halls_Play_x8_0 v2 v3 q2))) := funext fun v0 => funext fun v1 => funext fun v2 => funext fun v3 => funext fun v4 => ih v0 v1 v2 v3 v4
    rw [h]
    rfl
theorem halls_Play_l12_eq {R : Type} (N : Nat) (k : Exit → St → Option R) (n : Nat) : ∀ (v0 : Arr api_Train) (v1 : Int) (v2 : Int) (v3 : api_Hall) (v4 : api_Day) (v5 : Arr (Arr Int)), loopM E.Θ (halls_isDay_cal N) (halls_Play_lp N) (noJn) 0 halls_Play_L12 (bodyAt E 12 12) n (halls_Play_h12 v0 v1 v2 v3 v4 v5) k = halls_Play_l12 N n v0 v1 v2 v3 v4 v5 (fun q2 => k (.exit 2) (halls_Play_x12_2 v3 v4 q2)) := by
  induction n with
  | zero => intro v0 v1 v2 v3 v4 v5; rfl
  | succ n ih =>
    intro v0 v1 v2 v3 v4 v5
    refine Eq.trans (b := halls_Play_b12 N (fun v0 v1 v2 v3 v4 v5 => loopM E.Θ (halls_isDay_cal N) (halls_Play_lp N) (noJn) 0 halls_Play_L12 (bodyAt E 12 12) n (halls_Play_h12 v0 v1 v2 v3 v4 v5) k) v0 v1 v2 v3 v4 v5 (fun q2 => k (.exit 2) (halls_Play_x12_2 v3 v4 q2))) (by kernel_rfl) ?_
    have h : (fun (v0 : Arr api_Train) (v1 : Int) (v2 : Int) (v3 : api_Hall) (v4 : api_Day) (v5 : Arr (Arr Int)) => loopM E.Θ (halls_isDay_cal N) (halls_Play_lp N) (noJn) 0 halls_Play_L12 (bodyAt E 12 12) n (halls_Play_h12 v0 v1 v2 v3 v4 v5) k) = (fun (v0 : Arr api_Train) (v1 : Int) (v2 : Int) (v3 : api_Hall) (v4 : api_Day) (v5 : Arr (Arr Int)) => halls_Play_l12 N n v0 v1 v2 v3 v4 v5 (fun q2 => k (.exit 2) (halls_Play_x12_2 v3 v4 q2))) := funext fun v0 => funext fun v1 => funext fun v2 => funext fun v3 => funext fun v4 => funext fun v5 => ih v0 v1 v2 v3 v4 v5
    rw [h]
    rfl
theorem halls_Play_l15_eq {R : Type} (N : Nat) (k : Exit → St → Option R) (n : Nat) : ∀ (v0 : Int) (v1 : Arr api_Train) (v2 : Int) (v3 : Int) (v4 : Arr api_Crowd) (v5 : Int) (v6 : Int) (v7 : api_Hall) (v8 : api_Day) (v9 : Arr (Arr Int)), loopM E.Θ (halls_isDay_cal N) (halls_Play_lp N) (noJn) 0 halls_Play_L15 (bodyAt E 12 15) n (halls_Play_h15 v0 v1 v2 v3 v4 v5 v6 v7 v8 v9) k = halls_Play_l15 N n v0 v1 v2 v3 v4 v5 v6 v7 v8 v9 (fun q5 => k (.exit 4) (halls_Play_x15_4 v1 v2 v3 v7 v8 q5)) := by
  induction n with
  | zero => intro v0 v1 v2 v3 v4 v5 v6 v7 v8 v9; rfl
  | succ n ih =>
    intro v0 v1 v2 v3 v4 v5 v6 v7 v8 v9
    refine Eq.trans (b := halls_Play_b15 N (fun v0 v1 v2 v3 v4 v5 v6 v7 v8 v9 => loopM E.Θ (halls_isDay_cal N) (halls_Play_lp N) (noJn) 0 halls_Play_L15 (bodyAt E 12 15) n (halls_Play_h15 v0 v1 v2 v3 v4 v5 v6 v7 v8 v9) k) v0 v1 v2 v3 v4 v5 v6 v7 v8 v9 (fun q5 => k (.exit 4) (halls_Play_x15_4 v1 v2 v3 v7 v8 q5))) (by kernel_rfl) ?_
    have h : (fun (v0 : Int) (v1 : Arr api_Train) (v2 : Int) (v3 : Int) (v4 : Arr api_Crowd) (v5 : Int) (v6 : Int) (v7 : api_Hall) (v8 : api_Day) (v9 : Arr (Arr Int)) => loopM E.Θ (halls_isDay_cal N) (halls_Play_lp N) (noJn) 0 halls_Play_L15 (bodyAt E 12 15) n (halls_Play_h15 v0 v1 v2 v3 v4 v5 v6 v7 v8 v9) k) = (fun (v0 : Int) (v1 : Arr api_Train) (v2 : Int) (v3 : Int) (v4 : Arr api_Crowd) (v5 : Int) (v6 : Int) (v7 : api_Hall) (v8 : api_Day) (v9 : Arr (Arr Int)) => halls_Play_l15 N n v0 v1 v2 v3 v4 v5 v6 v7 v8 v9 (fun q5 => k (.exit 4) (halls_Play_x15_4 v1 v2 v3 v7 v8 q5))) := funext fun v0 => funext fun v1 => funext fun v2 => funext fun v3 => funext fun v4 => funext fun v5 => funext fun v6 => funext fun v7 => funext fun v8 => funext fun v9 => ih v0 v1 v2 v3 v4 v5 v6 v7 v8 v9
    rw [h]
    rfl
theorem halls_Play_l22_eq {R : Type} (N : Nat) (k : Exit → St → Option R) (n : Nat) : ∀ (v0 : Int) (v1 : Int) (v2 : api_Hall) (v3 : api_Day) (v4 : Arr (Arr Int)) (v5 : Bool) (v6 : Arr (Arr Int)), loopM E.Θ (halls_isDay_cal N) (halls_Play_lp N) (noJn) 0 halls_Play_L22 (bodyAt E 12 22) n (halls_Play_h22 v0 v1 v2 v3 v4 v5 v6) k = halls_Play_l22 N n v0 v1 v2 v3 v4 v5 v6 (fun q4 => k (.exit 6) (halls_Play_x22_6 v2 v3 v4 v5 q4)) := by
  induction n with
  | zero => intro v0 v1 v2 v3 v4 v5 v6; rfl
  | succ n ih =>
    intro v0 v1 v2 v3 v4 v5 v6
    refine Eq.trans (b := halls_Play_b22 N (fun v0 v1 v2 v3 v4 v5 v6 => loopM E.Θ (halls_isDay_cal N) (halls_Play_lp N) (noJn) 0 halls_Play_L22 (bodyAt E 12 22) n (halls_Play_h22 v0 v1 v2 v3 v4 v5 v6) k) v0 v1 v2 v3 v4 v5 v6 (fun q4 => k (.exit 6) (halls_Play_x22_6 v2 v3 v4 v5 q4))) (by kernel_rfl) ?_
    have h : (fun (v0 : Int) (v1 : Int) (v2 : api_Hall) (v3 : api_Day) (v4 : Arr (Arr Int)) (v5 : Bool) (v6 : Arr (Arr Int)) => loopM E.Θ (halls_isDay_cal N) (halls_Play_lp N) (noJn) 0 halls_Play_L22 (bodyAt E 12 22) n (halls_Play_h22 v0 v1 v2 v3 v4 v5 v6) k) = (fun (v0 : Int) (v1 : Int) (v2 : api_Hall) (v3 : api_Day) (v4 : Arr (Arr Int)) (v5 : Bool) (v6 : Arr (Arr Int)) => halls_Play_l22 N n v0 v1 v2 v3 v4 v5 v6 (fun q4 => k (.exit 6) (halls_Play_x22_6 v2 v3 v4 v5 q4))) := funext fun v0 => funext fun v1 => funext fun v2 => funext fun v3 => funext fun v4 => funext fun v5 => funext fun v6 => ih v0 v1 v2 v3 v4 v5 v6
    rw [h]
    rfl
theorem halls_Play_l27_eq {R : Type} (N : Nat) (k : Exit → St → Option R) (n : Nat) : ∀ (v0 : Int) (v1 : Int) (v2 : api_Hall) (v3 : api_Day) (v4 : Arr (Arr Int)) (v5 : Bool) (v6 : Arr (Arr Int)), loopM E.Θ (halls_isDay_cal N) (halls_Play_lp N) (noJn) 0 halls_Play_L27 (bodyAt E 12 27) n (halls_Play_h27 v0 v1 v2 v3 v4 v5 v6) k = halls_Play_l27 N n v0 v1 v2 v3 v4 v5 v6 (fun q0 => k (.exit 8) (halls_Play_x27_8 q0)) := by
  induction n with
  | zero => intro v0 v1 v2 v3 v4 v5 v6; rfl
  | succ n ih =>
    intro v0 v1 v2 v3 v4 v5 v6
    refine Eq.trans (b := halls_Play_b27 N (fun v0 v1 v2 v3 v4 v5 v6 => loopM E.Θ (halls_isDay_cal N) (halls_Play_lp N) (noJn) 0 halls_Play_L27 (bodyAt E 12 27) n (halls_Play_h27 v0 v1 v2 v3 v4 v5 v6) k) v0 v1 v2 v3 v4 v5 v6 (fun q0 => k (.exit 8) (halls_Play_x27_8 q0))) (by kernel_rfl) ?_
    have h : (fun (v0 : Int) (v1 : Int) (v2 : api_Hall) (v3 : api_Day) (v4 : Arr (Arr Int)) (v5 : Bool) (v6 : Arr (Arr Int)) => loopM E.Θ (halls_isDay_cal N) (halls_Play_lp N) (noJn) 0 halls_Play_L27 (bodyAt E 12 27) n (halls_Play_h27 v0 v1 v2 v3 v4 v5 v6) k) = (fun (v0 : Int) (v1 : Int) (v2 : api_Hall) (v3 : api_Day) (v4 : Arr (Arr Int)) (v5 : Bool) (v6 : Arr (Arr Int)) => halls_Play_l27 N n v0 v1 v2 v3 v4 v5 v6 (fun q0 => k (.exit 8) (halls_Play_x27_8 q0))) := funext fun v0 => funext fun v1 => funext fun v2 => funext fun v3 => funext fun v4 => funext fun v5 => funext fun v6 => ih v0 v1 v2 v3 v4 v5 v6
    rw [h]
    rfl
theorem halls_Play_l30_eq {R : Type} (N : Nat) (k : Exit → St → Option R) (n : Nat) : ∀ (v0 : Int) (v1 : Int) (v2 : Int) (v3 : Nat) (v4 : Int) (v5 : Int) (v6 : api_Hall) (v7 : api_Day) (v8 : Arr (Arr Int)) (v9 : Bool) (v10 : Arr (Arr Int)), loopM E.Θ (halls_isDay_cal N) (halls_Play_lp N) (noJn) 0 halls_Play_L30 (bodyAt E 12 30) n (halls_Play_h30 v0 v1 v2 v3 v4 v5 v6 v7 v8 v9 v10) k = halls_Play_l30 N n v0 v1 v2 v3 v4 v5 v6 v7 v8 v9 v10 (fun q4 => k (.exit 10) (halls_Play_x30_10 v1 v2 v6 v7 v9 v10 q4)) := by
  induction n with
  | zero => intro v0 v1 v2 v3 v4 v5 v6 v7 v8 v9 v10; rfl
  | succ n ih =>
    intro v0 v1 v2 v3 v4 v5 v6 v7 v8 v9 v10
    refine Eq.trans (b := halls_Play_b30 N (fun v0 v1 v2 v3 v4 v5 v6 v7 v8 v9 v10 => loopM E.Θ (halls_isDay_cal N) (halls_Play_lp N) (noJn) 0 halls_Play_L30 (bodyAt E 12 30) n (halls_Play_h30 v0 v1 v2 v3 v4 v5 v6 v7 v8 v9 v10) k) v0 v1 v2 v3 v4 v5 v6 v7 v8 v9 v10 (fun q4 => k (.exit 10) (halls_Play_x30_10 v1 v2 v6 v7 v9 v10 q4))) (by kernel_rfl) ?_
    have h : (fun (v0 : Int) (v1 : Int) (v2 : Int) (v3 : Nat) (v4 : Int) (v5 : Int) (v6 : api_Hall) (v7 : api_Day) (v8 : Arr (Arr Int)) (v9 : Bool) (v10 : Arr (Arr Int)) => loopM E.Θ (halls_isDay_cal N) (halls_Play_lp N) (noJn) 0 halls_Play_L30 (bodyAt E 12 30) n (halls_Play_h30 v0 v1 v2 v3 v4 v5 v6 v7 v8 v9 v10) k) = (fun (v0 : Int) (v1 : Int) (v2 : Int) (v3 : Nat) (v4 : Int) (v5 : Int) (v6 : api_Hall) (v7 : api_Day) (v8 : Arr (Arr Int)) (v9 : Bool) (v10 : Arr (Arr Int)) => halls_Play_l30 N n v0 v1 v2 v3 v4 v5 v6 v7 v8 v9 v10 (fun q4 => k (.exit 10) (halls_Play_x30_10 v1 v2 v6 v7 v9 v10 q4))) := funext fun v0 => funext fun v1 => funext fun v2 => funext fun v3 => funext fun v4 => funext fun v5 => funext fun v6 => funext fun v7 => funext fun v8 => funext fun v9 => funext fun v10 => ih v0 v1 v2 v3 v4 v5 v6 v7 v8 v9 v10
    rw [h]
    rfl
theorem halls_Play_k8 {R : Type} (N : Nat) : LpKey (R := R) E 12 0 (halls_Play_lp N) 8 :=
  lpKey_of hE (halls_isDay_cal_ok N) (lp := halls_Play_lp N) (jn := noJn) halls_Play_L8_ok [] kNil (by kernel_rfl) [] jNil (by kernel_rfl) N fun S k =>
    Eq.trans (b := halls_Play_L8.head.raw 0 S (fun S0 => halls_Play_d8 N S0 k)) (by kernel_rfl) (congrArg (halls_Play_L8.head.raw 0 S) (funext fun S0 => Eq.trans (halls_Play_l8_eq N k N (toI (lget S0.tmps 31)) (toI (lget S0.tmps 32)) (Cod.dec api_HallC (lget (entCs (entAt S0.tab 0)))) (Cod.dec api_DayC (lget (entCs (entAt S0.tab 1)))) (mxD (entMn (entAt S0.tab 2)) (entMl (entAt S0.tab 2)) (entMg (entAt S0.tab 2)))).symm (by kernel_rfl)))
theorem halls_Play_k15 {R : Type} (N : Nat) : LpKey (R := R) E 12 0 (halls_Play_lp N) 15 :=
  lpKey_of hE (halls_isDay_cal_ok N) (lp := halls_Play_lp N) (jn := noJn) halls_Play_L15_ok [] kNil (by kernel_rfl) [] jNil (by kernel_rfl) N fun S k =>
    Eq.trans (b := halls_Play_L15.head.raw 0 S (fun S0 => halls_Play_d15 N S0 k)) (by kernel_rfl) (congrArg (halls_Play_L15.head.raw 0 S) (funext fun S0 => Eq.trans (halls_Play_l15_eq N k N (toI (lget S0.tmps 8)) (lstC api_TrainC (lget S0.tmps 43)) (toI (lget S0.tmps 44)) (toI (lget S0.tmps 45)) (lstC api_CrowdC (lget S0.tmps 51)) (toI (lget S0.tmps 52)) (toI (lget S0.tmps 53)) (Cod.dec api_HallC (lget (entCs (entAt S0.tab 0)))) (Cod.dec api_DayC (lget (entCs (entAt S0.tab 1)))) (mxD (entMn (entAt S0.tab 2)) (entMl (entAt S0.tab 2)) (entMg (entAt S0.tab 2)))).symm (by kernel_rfl)))
theorem halls_Play_k22 {R : Type} (N : Nat) : LpKey (R := R) E 12 0 (halls_Play_lp N) 22 :=
  lpKey_of hE (halls_isDay_cal_ok N) (lp := halls_Play_lp N) (jn := noJn) halls_Play_L22_ok [] kNil (by kernel_rfl) [] jNil (by kernel_rfl) N fun S k =>
    Eq.trans (b := halls_Play_L22.head.raw 0 S (fun S0 => halls_Play_d22 N S0 k)) (by kernel_rfl) (congrArg (halls_Play_L22.head.raw 0 S) (funext fun S0 => Eq.trans (halls_Play_l22_eq N k N (toI (lget S0.tmps 88)) (toI (lget S0.tmps 89)) (Cod.dec api_HallC (lget (entCs (entAt S0.tab 0)))) (Cod.dec api_DayC (lget (entCs (entAt S0.tab 1)))) (mxD (entMn (entAt S0.tab 2)) (entMl (entAt S0.tab 2)) (entMg (entAt S0.tab 2))) (entNl (entAt S0.tab 3)) (lst (lsC intC) (entN (entAt S0.tab 3)) (entC (entAt S0.tab 3)))).symm (by kernel_rfl)))
theorem halls_Play_k12 {R : Type} (N : Nat) : LpKey (R := R) E 12 0 (halls_Play_lp N) 12 :=
  lpKey_of hE (halls_isDay_cal_ok N) (lp := halls_Play_lp N) (jn := noJn) halls_Play_L12_ok [15] (kCons (halls_Play_k15 N) kNil) (by kernel_rfl) [] jNil (by kernel_rfl) N fun S k =>
    Eq.trans (b := halls_Play_L12.head.raw 0 S (fun S0 => halls_Play_d12 N S0 k)) (by kernel_rfl) (congrArg (halls_Play_L12.head.raw 0 S) (funext fun S0 => Eq.trans (halls_Play_l12_eq N k N (lstC api_TrainC (lget S0.tmps 43)) (toI (lget S0.tmps 44)) (toI (lget S0.tmps 45)) (Cod.dec api_HallC (lget (entCs (entAt S0.tab 0)))) (Cod.dec api_DayC (lget (entCs (entAt S0.tab 1)))) (mxD (entMn (entAt S0.tab 2)) (entMl (entAt S0.tab 2)) (entMg (entAt S0.tab 2)))).symm (by kernel_rfl)))
theorem halls_Play_k30 {R : Type} (N : Nat) : LpKey (R := R) E 12 0 (halls_Play_lp N) 30 :=
  lpKey_of hE (halls_isDay_cal_ok N) (lp := halls_Play_lp N) (jn := noJn) halls_Play_L30_ok [] kNil (by kernel_rfl) [] jNil (by kernel_rfl) N fun S k =>
    Eq.trans (b := halls_Play_L30.head.raw 0 S (fun S0 => halls_Play_d30 N S0 k)) (by kernel_rfl) (congrArg (halls_Play_L30.head.raw 0 S) (funext fun S0 => Eq.trans (halls_Play_l30_eq N k N (toI (lget S0.tmps 14)) (toI (lget S0.tmps 100)) (toI (lget S0.tmps 101)) (toW (lget S0.tmps 106)) (toI (lget S0.tmps 107)) (toI (lget S0.tmps 108)) (Cod.dec api_HallC (lget (entCs (entAt S0.tab 0)))) (Cod.dec api_DayC (lget (entCs (entAt S0.tab 1)))) (mxD (entMn (entAt S0.tab 2)) (entMl (entAt S0.tab 2)) (entMg (entAt S0.tab 2))) (entNl (entAt S0.tab 3)) (lst (lsC intC) (entN (entAt S0.tab 3)) (entC (entAt S0.tab 3)))).symm (by kernel_rfl)))
theorem halls_Play_k27 {R : Type} (N : Nat) : LpKey (R := R) E 12 0 (halls_Play_lp N) 27 :=
  lpKey_of hE (halls_isDay_cal_ok N) (lp := halls_Play_lp N) (jn := noJn) halls_Play_L27_ok [30] (kCons (halls_Play_k30 N) kNil) (by kernel_rfl) [] jNil (by kernel_rfl) N fun S k =>
    Eq.trans (b := halls_Play_L27.head.raw 0 S (fun S0 => halls_Play_d27 N S0 k)) (by kernel_rfl) (congrArg (halls_Play_L27.head.raw 0 S) (funext fun S0 => Eq.trans (halls_Play_l27_eq N k N (toI (lget S0.tmps 100)) (toI (lget S0.tmps 101)) (Cod.dec api_HallC (lget (entCs (entAt S0.tab 0)))) (Cod.dec api_DayC (lget (entCs (entAt S0.tab 1)))) (mxD (entMn (entAt S0.tab 2)) (entMl (entAt S0.tab 2)) (entMg (entAt S0.tab 2))) (entNl (entAt S0.tab 3)) (lst (lsC intC) (entN (entAt S0.tab 3)) (entC (entAt S0.tab 3)))).symm (by kernel_rfl)))
noncomputable def halls_Play_go {R : Type} (N : Nat) (args : List SV) (T : Tab) (kf : SV × Tab → Option R) : Option R :=
  halls_Play N (Cod.dec api_HallC (lget (toCs (lget args 0)))) (Cod.dec api_DayC (lget (toCs (lget args 1)))) (fun q0 q1 => kf (lget [.tup [.row 0, .int .i64 q0]] 0, [(0, mxE .i64 q1)]))
noncomputable def halls_Play_cal {R : Type} (N : Nat) : Cal R := callM (halls_isDay_cal N) 12 0 halls_Play_sp (halls_Play_go N)
theorem halls_Play_cal_ok {R : Type} (N : Nat) : CalOk E.P (halls_Play_cal (R := R) N) :=
  callM_ok hE (halls_isDay_cal_ok N) (lp := halls_Play_lp N) (jn := noJn) (keys := [8, 12, 15, 22, 27, 30]) (kCons (halls_Play_k8 N) (kCons (halls_Play_k12 N) (kCons (halls_Play_k15 N) (kCons (halls_Play_k22 N) (kCons (halls_Play_k27 N) (kCons (halls_Play_k30 N) kNil)))))) (by kernel_rfl) (js := []) jNil (by kernel_rfl) halls_Play_sp_ok halls_Play_rs_ok (fun args T kf => Eq.trans (halls_Play_def N (Cod.dec api_HallC (lget (toCs (lget args 0)))) (Cod.dec api_DayC (lget (toCs (lget args 1)))) (fun q0 q1 => kf (lget [.tup [.row 0, .int .i64 q0]] 0, [(0, mxE .i64 q1)]))) (by kernel_rfl : halls_Play_run N args T kf = fnM E (halls_isDay_cal N) (halls_Play_lp N) (noJn) 12 (halls_Play_sp.vs args) (halls_Play_sp.tab T) 0 (resK halls_Play_rs kf)))
def newellaw06_Far_L4 : LoopSp := ⟨⟨[1, 3], ⟨(dr 1 ((rPtr 0 0) :: (dr 1 ((rInt .i64) :: (dr 41 []))))), [(0, eBlkC api_HallC)]⟩, 1⟩, [(Option.none, ⟨[2], ⟨(dr 2 ((rBool) :: (dr 42 []))), []⟩, 0⟩), (some 0, ⟨[], ⟨(dr 45 []), []⟩, 0⟩)]⟩
theorem newellaw06_Far_L4_ok : newellaw06_Far_L4.Ok := ⟨⟨(drCons 1 (allCons (rPtr_ok 0 0) (drCons 1 (allCons (rInt_ok .i64) (drCons 41 allNil))))), (eCons (eBlkC_ok api_HallC_ok api_HallC_len) eNil)⟩, (xCons ⟨(drCons 2 (allCons rBool_ok (drCons 42 allNil))), eNil⟩ (xCons ⟨(drCons 45 allNil), eNil⟩ xNil))⟩
def newellaw06_Far_h4 (v258 : Int) (v259 : api_Hall) : St := ⟨(un 1 ((.ptr 0 0) :: (un 1 ((.int .i64 v258) :: (un 41 []))))), [(0, .blk (Cod.enc api_HallC v259))], 1⟩
def newellaw06_Far_x4_r (q0 : Bool) : St := ⟨(un 2 ((.bool q0) :: (un 42 []))), [], 0⟩
def newellaw06_Far_x4_0  : St := ⟨(un 45 []), [], 0⟩
def newellaw06_Far_b4 {R : Type} (N : Nat) (rc : Int → api_Hall → Option R) (v258 : Int) (v259 : api_Hall) (kr : Bool → Option R) (k0 : Unit → Option R) : Option R :=
  bif decide (v258 < (↑(Arr.n (api_Hall.Trains v259)) : Int)) then
   bif decide ((0 : Int) ≤ v258) && decide (v258 < (↑(Arr.n (api_Hall.Trains v259)) : Int)) then
    bif decide ((↑(Arr.n (api_Train.Crowds (Arr.f (api_Hall.Trains v259) (Int.toNat v258)))) : Int) > (10 : Int)) then
     kr true
    else
     rc (w64 (v258 + (1 : Int))) v259
   else
    Option.none
  else
   k0 ()
def newellaw06_Far_l4 {R : Type} (N : Nat) : Nat → Int → api_Hall → (Bool → Option R) → (Unit → Option R) → Option R
  | 0, _, _, _, _ => Option.none
  | n + 1, v258, v259, kr, k0 => newellaw06_Far_b4 N (fun v258 v259 => newellaw06_Far_l4 N n v258 v259 kr k0) v258 v259 kr k0
def newellaw06_Far_m {R : Type} (N : Nat) (a257 : api_Hall) (k : Bool → Option R) : Option R :=
  bif decide ((↑(Arr.n (api_Hall.Combs a257)) : Int) > (12 : Int)) then
   k true
  else
   bif decide ((↑(Arr.n (api_Hall.Trains a257)) : Int) > (20 : Int)) then
    k true
   else
    bif decide ((↑(Arr.n (api_Hall.Shifts a257)) : Int) > (40 : Int)) then
     k true
    else
     bif decide (api_Hall.Until a257 > (40 : Int)) then
      bif decide (api_Hall.Until a257 ≤ (100 : Int)) then
       k true
      else
       newellaw06_Far_l4 N N (0 : Int) a257 (fun r260 =>
        k r260) (fun (_ : Unit) =>
        k false)
     else
      newellaw06_Far_l4 N N (0 : Int) a257 (fun r261 =>
       k r261) (fun (_ : Unit) =>
       k false)
noncomputable def newellaw06_Far {R : Type} : Nat → api_Hall → (Bool → Option R) → Option R := lock (@newellaw06_Far_m R)
theorem newellaw06_Far_def {R : Type} (N : Nat) (a257 : api_Hall) (k : Bool → Option R) : newellaw06_Far N a257 k = newellaw06_Far_m N a257 k := by unfold newellaw06_Far; rw [lock_eq]
def newellaw06_Far_sp : Sp := ⟨[rAgg api_HallC], []⟩
theorem newellaw06_Far_sp_ok : newellaw06_Far_sp.Ok := ⟨(allCons (rAgg_ok api_HallC_ok api_HallC_len) allNil), eNil⟩
def newellaw06_Far_rs : Sp := ⟨[rBool], []⟩
theorem newellaw06_Far_rs_ok : newellaw06_Far_rs.Ok := ⟨(allCons rBool_ok allNil), eNil⟩
def newellaw06_Far_run {R : Type} (N : Nat) (args : List SV) (T : Tab) (kf : SV × Tab → Option R) : Option R :=
  newellaw06_Far_m N (Cod.dec api_HallC (lget (toCs (lget args 0)))) (fun q0 => kf (lget [.bool q0] 0, []))
def newellaw06_Far_d4 {R : Type} (N : Nat) (S0 : St) (k : Exit → St → Option R) : Option R :=
  newellaw06_Far_l4 N N (toI (lget S0.tmps 3)) (Cod.dec api_HallC (lget (entCs (entAt S0.tab 0)))) (fun q0 => k .ret (newellaw06_Far_x4_r q0)) (fun (_ : Unit) => k (.exit 0) (newellaw06_Far_x4_0 ))
def newellaw06_Far_lp {R : Type} (N : Nat) : Lp R := fun body S k => bif (Go.Sx.keyOf body).getD 0 == 4 then (newellaw06_Far_L4.head.raw 0 S (fun S0 => newellaw06_Far_d4 N S0 k)) else Option.none
theorem newellaw06_Far_l4_eq {R : Type} (N : Nat) (k : Exit → St → Option R) (n : Nat) : ∀ (v0 : Int) (v1 : api_Hall), loopM E.Θ (halls_Play_cal N) (newellaw06_Far_lp N) (noJn) 0 newellaw06_Far_L4 (bodyAt E 6 4) n (newellaw06_Far_h4 v0 v1) k = newellaw06_Far_l4 N n v0 v1 (fun q0 => k .ret (newellaw06_Far_x4_r q0)) (fun (_ : Unit) => k (.exit 0) (newellaw06_Far_x4_0 )) := by
  induction n with
  | zero => intro v0 v1; rfl
  | succ n ih =>
    intro v0 v1
    refine Eq.trans (b := newellaw06_Far_b4 N (fun v0 v1 => loopM E.Θ (halls_Play_cal N) (newellaw06_Far_lp N) (noJn) 0 newellaw06_Far_L4 (bodyAt E 6 4) n (newellaw06_Far_h4 v0 v1) k) v0 v1 (fun q0 => k .ret (newellaw06_Far_x4_r q0)) (fun (_ : Unit) => k (.exit 0) (newellaw06_Far_x4_0 ))) (by kernel_rfl) ?_
    have h : (fun (v0 : Int) (v1 : api_Hall) => loopM E.Θ (halls_Play_cal N) (newellaw06_Far_lp N) (noJn) 0 newellaw06_Far_L4 (bodyAt E 6 4) n (newellaw06_Far_h4 v0 v1) k) = (fun (v0 : Int) (v1 : api_Hall) => newellaw06_Far_l4 N n v0 v1 (fun q0 => k .ret (newellaw06_Far_x4_r q0)) (fun (_ : Unit) => k (.exit 0) (newellaw06_Far_x4_0 ))) := funext fun v0 => funext fun v1 => ih v0 v1
    rw [h]
    rfl
theorem newellaw06_Far_k4 {R : Type} (N : Nat) : LpKey (R := R) E 6 0 (newellaw06_Far_lp N) 4 :=
  lpKey_of hE (halls_Play_cal_ok N) (lp := newellaw06_Far_lp N) (jn := noJn) newellaw06_Far_L4_ok [] kNil (by kernel_rfl) [] jNil (by kernel_rfl) N fun S k =>
    Eq.trans (b := newellaw06_Far_L4.head.raw 0 S (fun S0 => newellaw06_Far_d4 N S0 k)) (by kernel_rfl) (congrArg (newellaw06_Far_L4.head.raw 0 S) (funext fun S0 => Eq.trans (newellaw06_Far_l4_eq N k N (toI (lget S0.tmps 3)) (Cod.dec api_HallC (lget (entCs (entAt S0.tab 0))))).symm (by kernel_rfl)))
noncomputable def newellaw06_Far_go {R : Type} (N : Nat) (args : List SV) (T : Tab) (kf : SV × Tab → Option R) : Option R :=
  newellaw06_Far N (Cod.dec api_HallC (lget (toCs (lget args 0)))) (fun q0 => kf (lget [.bool q0] 0, []))
noncomputable def newellaw06_Far_cal {R : Type} (N : Nat) : Cal R := callM (halls_Play_cal N) 6 0 newellaw06_Far_sp (newellaw06_Far_go N)
theorem newellaw06_Far_cal_ok {R : Type} (N : Nat) : CalOk E.P (newellaw06_Far_cal (R := R) N) :=
  callM_ok hE (halls_Play_cal_ok N) (lp := newellaw06_Far_lp N) (jn := noJn) (keys := [4]) (kCons (newellaw06_Far_k4 N) kNil) (by kernel_rfl) (js := []) jNil (by kernel_rfl) newellaw06_Far_sp_ok newellaw06_Far_rs_ok (fun args T kf => Eq.trans (newellaw06_Far_def N (Cod.dec api_HallC (lget (toCs (lget args 0)))) (fun q0 => kf (lget [.bool q0] 0, []))) (by kernel_rfl : newellaw06_Far_run N args T kf = fnM E (halls_Play_cal N) (newellaw06_Far_lp N) (noJn) 6 (newellaw06_Far_sp.vs args) (newellaw06_Far_sp.tab T) 0 (resK newellaw06_Far_rs kf)))
end
end Go.Proofs.Ytlikcijophbkbaa
