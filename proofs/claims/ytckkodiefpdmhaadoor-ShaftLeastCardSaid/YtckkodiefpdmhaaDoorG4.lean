import Derived.Test.YtckkodiefpdmhaaDoorG3
set_option maxRecDepth 100000
set_option maxHeartbeats 0
set_option linter.unusedVariables false
namespace Go.Proofs.YtckkodiefpdmhaaDoor
open Go.Sx
noncomputable section
def newelref09_Bound_L11 : LoopSp := ⟨⟨[1, 4, 5, 6, 7, 8, 9, 10], ⟨(dr 1 ((rPtr 0 0) :: (dr 2 ((rInt .i64) :: (rInt .i64) :: (rRow 1) :: (rRow 2) :: (rInt .i64) :: (rPtr 3 0) :: (rInt .i64) :: (dr 87 []))))), [(0, eBlkC api_WorksC), (1, eRow intC), (2, eRow intC), (3, eBlkC api_JobC)]⟩, 4⟩, [(some 2, ⟨[1, 4, 5, 6, 7, 8, 9], ⟨(dr 1 ((rPtr 0 0) :: (dr 2 ((rInt .i64) :: (rInt .i64) :: (rRow 1) :: (rRow 2) :: (rInt .i64) :: (rPtr 3 0) :: (dr 88 []))))), [(0, eBlkC api_WorksC), (1, eRow intC), (2, eRow intC), (3, eBlkC api_JobC)]⟩, 4⟩)]⟩
theorem newelref09_Bound_L11_ok : newelref09_Bound_L11.Ok := ⟨⟨(drCons 1 (allCons (rPtr_ok 0 0) (drCons 2 (allCons (rInt_ok .i64) (allCons (rInt_ok .i64) (allCons (rRow_ok 1) (allCons (rRow_ok 2) (allCons (rInt_ok .i64) (allCons (rPtr_ok 3 0) (allCons (rInt_ok .i64) (drCons 87 allNil))))))))))), (eCons (eBlkC_ok api_WorksC_ok api_WorksC_len) (eCons (eRow_ok intC_ok) (eCons (eRow_ok intC_ok) (eCons (eBlkC_ok api_JobC_ok api_JobC_len) eNil))))⟩, (xCons ⟨(drCons 1 (allCons (rPtr_ok 0 0) (drCons 2 (allCons (rInt_ok .i64) (allCons (rInt_ok .i64) (allCons (rRow_ok 1) (allCons (rRow_ok 2) (allCons (rInt_ok .i64) (allCons (rPtr_ok 3 0) (drCons 88 allNil)))))))))), (eCons (eBlkC_ok api_WorksC_ok api_WorksC_len) (eCons (eRow_ok intC_ok) (eCons (eRow_ok intC_ok) (eCons (eBlkC_ok api_JobC_ok api_JobC_len) eNil))))⟩ xNil)⟩
def newelref09_Bound_h11 (v952 : Int) (v953 : Int) (v954 : Int) (v955 : Int) (v956 : api_Works) (v957 : Bool) (v958 : Arr Int) (v959 : Bool) (v960 : Arr Int) (v961 : api_Job) : St := ⟨(un 1 ((.ptr 0 0) :: (un 2 ((.int .i64 v952) :: (.int .i64 v953) :: (.row 1) :: (.row 2) :: (.int .i64 v954) :: (.ptr 3 0) :: (.int .i64 v955) :: (un 87 []))))), [(0, .blk (Cod.enc api_WorksC v956)), (1, rowE intC v957 v958), (2, rowE intC v959 v960), (3, .blk (Cod.enc api_JobC v961))], 4⟩
def newelref09_Bound_x11_2 (v952 : Int) (v953 : Int) (v954 : Int) (v956 : api_Works) (v957 : Bool) (v958 : Arr Int) (v959 : Bool) (v961 : api_Job) (q7 : Arr Int) : St := ⟨(un 1 ((.ptr 0 0) :: (un 2 ((.int .i64 v952) :: (.int .i64 v953) :: (.row 1) :: (.row 2) :: (.int .i64 v954) :: (.ptr 3 0) :: (un 88 []))))), [(0, .blk (Cod.enc api_WorksC v956)), (1, rowE intC v957 v958), (2, rowE intC v959 q7), (3, .blk (Cod.enc api_JobC v961))], 4⟩
def newelref09_Bound_b11 {R : Type} (N : Nat) (rc : Int → Int → Int → Int → api_Works → Bool → Arr Int → Bool → Arr Int → api_Job → Option R) (v952 : Int) (v953 : Int) (v954 : Int) (v955 : Int) (v956 : api_Works) (v957 : Bool) (v958 : Arr Int) (v959 : Bool) (v960 : Arr Int) (v961 : api_Job) (k2 : Arr Int → Option R) : Option R :=
  bif decide (v955 < (↑(Arr.n (api_Job.After v961)) : Int)) then
   bif decide ((0 : Int) ≤ v954) && decide (v954 < (↑(Arr.n v960) : Int)) then
    bif decide ((0 : Int) ≤ v955) && decide (v955 < (↑(Arr.n (api_Job.After v961)) : Int)) then
     bif decide ((0 : Int) ≤ Arr.f (api_Job.After v961) (Int.toNat v955)) && decide (Arr.f (api_Job.After v961) (Int.toNat v955) < (↑(Arr.n v960) : Int)) then
      bif decide ((0 : Int) ≤ v954) && decide (v954 < (↑(Arr.n v960) : Int)) then
       rc v952 v953 v954 (w64 (v955 + (1 : Int))) v956 v957 v958 v959 (lst intC (Arr.n v960) (setCs (Int.toNat v954) (0 : Nat) (Cod.cell intC (Arr.f v960)) [SV.int IntKind.i64 (mxI (Arr.f v960 (Int.toNat v954)) (Arr.f v960 (Int.toNat (Arr.f (api_Job.After v961) (Int.toNat v955)))))])) v961
      else
       Option.none
     else
      Option.none
    else
     Option.none
   else
    Option.none
  else
   k2 v960
def newelref09_Bound_l11 {R : Type} (N : Nat) : Nat → Int → Int → Int → Int → api_Works → Bool → Arr Int → Bool → Arr Int → api_Job → (Arr Int → Option R) → Option R
  | 0, _, _, _, _, _, _, _, _, _, _, _ => Option.none
  | n + 1, v952, v953, v954, v955, v956, v957, v958, v959, v960, v961, k2 => newelref09_Bound_b11 N (fun v952 v953 v954 v955 v956 v957 v958 v959 v960 v961 => newelref09_Bound_l11 N n v952 v953 v954 v955 v956 v957 v958 v959 v960 v961 k2) v952 v953 v954 v955 v956 v957 v958 v959 v960 v961 k2
def newelref09_Bound_L7 : LoopSp := ⟨⟨[1, 4, 5, 6, 7, 8], ⟨(dr 1 ((rPtr 0 0) :: (dr 2 ((rInt .i64) :: (rInt .i64) :: (rRow 1) :: (rRow 2) :: (rInt .i64) :: (dr 89 []))))), [(0, eBlkC api_WorksC), (1, eRow intC), (2, eRow intC)]⟩, 3⟩, [(some 0, ⟨[1, 4, 5], ⟨(dr 1 ((rPtr 0 0) :: (dr 2 ((rInt .i64) :: (rInt .i64) :: (dr 92 []))))), [(0, eBlkC api_WorksC)]⟩, 1⟩)]⟩
theorem newelref09_Bound_L7_ok : newelref09_Bound_L7.Ok := ⟨⟨(drCons 1 (allCons (rPtr_ok 0 0) (drCons 2 (allCons (rInt_ok .i64) (allCons (rInt_ok .i64) (allCons (rRow_ok 1) (allCons (rRow_ok 2) (allCons (rInt_ok .i64) (drCons 89 allNil))))))))), (eCons (eBlkC_ok api_WorksC_ok api_WorksC_len) (eCons (eRow_ok intC_ok) (eCons (eRow_ok intC_ok) eNil)))⟩, (xCons ⟨(drCons 1 (allCons (rPtr_ok 0 0) (drCons 2 (allCons (rInt_ok .i64) (allCons (rInt_ok .i64) (drCons 92 allNil)))))), (eCons (eBlkC_ok api_WorksC_ok api_WorksC_len) eNil)⟩ xNil)⟩
def newelref09_Bound_h7 (v944 : Int) (v945 : Int) (v946 : Int) (v947 : api_Works) (v948 : Bool) (v949 : Arr Int) (v950 : Bool) (v951 : Arr Int) : St := ⟨(un 1 ((.ptr 0 0) :: (un 2 ((.int .i64 v944) :: (.int .i64 v945) :: (.row 1) :: (.row 2) :: (.int .i64 v946) :: (un 89 []))))), [(0, .blk (Cod.enc api_WorksC v947)), (1, rowE intC v948 v949), (2, rowE intC v950 v951)], 3⟩
def newelref09_Bound_x7_0 (v947 : api_Works) (q0 : Int) (q1 : Int) : St := ⟨(un 1 ((.ptr 0 0) :: (un 2 ((.int .i64 q0) :: (.int .i64 q1) :: (un 92 []))))), [(0, .blk (Cod.enc api_WorksC v947))], 1⟩
def newelref09_Bound_b7 {R : Type} (N : Nat) (rc : Int → Int → Int → api_Works → Bool → Arr Int → Bool → Arr Int → Option R) (v944 : Int) (v945 : Int) (v946 : Int) (v947 : api_Works) (v948 : Bool) (v949 : Arr Int) (v950 : Bool) (v951 : Arr Int) (k0 : Int → Int → Option R) : Option R :=
  bif decide (v946 < (↑(Arr.n (api_Works.Jobs v947)) : Int)) then
   bif decide ((0 : Int) ≤ v946) && decide (v946 < (↑(Arr.n (api_Works.Jobs v947)) : Int)) then
    newelref09_Bound_l11 N N v944 v945 v946 (0 : Int) v947 v948 v949 v950 v951 (Arr.f (api_Works.Jobs v947) (Int.toNat v946)) (fun r962 =>
     bif decide ((0 : Int) ≤ v946) && decide (v946 < (↑(Arr.n r962) : Int)) then
      bif decide ((0 : Int) ≤ v946) && decide (v946 < (↑(Arr.n r962) : Int)) then
       bif decide ((0 : Int) ≤ api_Job.Machine (Arr.f (api_Works.Jobs v947) (Int.toNat v946))) && decide (api_Job.Machine (Arr.f (api_Works.Jobs v947) (Int.toNat v946)) < (↑(Arr.n v949) : Int)) then
        bif decide ((0 : Int) ≤ api_Job.Machine (Arr.f (api_Works.Jobs v947) (Int.toNat v946))) && decide (api_Job.Machine (Arr.f (api_Works.Jobs v947) (Int.toNat v946)) < (↑(Arr.n v949) : Int)) then
         bif decide ((0 : Int) ≤ v946) && decide (v946 < (↑(Arr.n r962) : Int)) then
          bif decide ((0 : Int) ≤ api_Job.Machine (Arr.f (api_Works.Jobs v947) (Int.toNat v946))) && decide (api_Job.Machine (Arr.f (api_Works.Jobs v947) (Int.toNat v946)) < (↑(Arr.n v949) : Int)) then
           rc (mxI (mxI v944 (toI (setCs (Int.toNat v946) (0 : Nat) (Cod.cell intC (Arr.f r962)) [SV.int IntKind.i64 (w64 (Arr.f r962 (Int.toNat v946) + api_Job.Nights (Arr.f (api_Works.Jobs v947) (Int.toNat v946))))] (Int.toNat v946) (0 : Nat)))) (toI (setCs (Int.toNat (api_Job.Machine (Arr.f (api_Works.Jobs v947) (Int.toNat v946)))) (0 : Nat) (Cod.cell intC (Arr.f v949)) [SV.int IntKind.i64 (w64 (Arr.f v949 (Int.toNat (api_Job.Machine (Arr.f (api_Works.Jobs v947) (Int.toNat v946)))) + api_Job.Nights (Arr.f (api_Works.Jobs v947) (Int.toNat v946))))] (Int.toNat (api_Job.Machine (Arr.f (api_Works.Jobs v947) (Int.toNat v946)))) (0 : Nat)))) (w64 (v945 + api_Job.Nights (Arr.f (api_Works.Jobs v947) (Int.toNat v946)))) (w64 (v946 + (1 : Int))) v947 v948 (lst intC (Arr.n v949) (setCs (Int.toNat (api_Job.Machine (Arr.f (api_Works.Jobs v947) (Int.toNat v946)))) (0 : Nat) (Cod.cell intC (Arr.f v949)) [SV.int IntKind.i64 (w64 (Arr.f v949 (Int.toNat (api_Job.Machine (Arr.f (api_Works.Jobs v947) (Int.toNat v946)))) + api_Job.Nights (Arr.f (api_Works.Jobs v947) (Int.toNat v946))))])) v950 (lst intC (Arr.n r962) (setCs (Int.toNat v946) (0 : Nat) (Cod.cell intC (Arr.f r962)) [SV.int IntKind.i64 (w64 (Arr.f r962 (Int.toNat v946) + api_Job.Nights (Arr.f (api_Works.Jobs v947) (Int.toNat v946))))]))
          else
           Option.none
         else
          Option.none
        else
         Option.none
       else
        Option.none
      else
       Option.none
     else
      Option.none)
   else
    Option.none
  else
   k0 v944 v945
def newelref09_Bound_l7 {R : Type} (N : Nat) : Nat → Int → Int → Int → api_Works → Bool → Arr Int → Bool → Arr Int → (Int → Int → Option R) → Option R
  | 0, _, _, _, _, _, _, _, _, _ => Option.none
  | n + 1, v944, v945, v946, v947, v948, v949, v950, v951, k0 => newelref09_Bound_b7 N (fun v944 v945 v946 v947 v948 v949 v950 v951 => newelref09_Bound_l7 N n v944 v945 v946 v947 v948 v949 v950 v951 k0) v944 v945 v946 v947 v948 v949 v950 v951 k0
def newelref09_Bound_m {R : Type} (N : Nat) (a942 : api_Works) (k : Int → Int → Option R) : Option R :=
  newelref09_CheckWorks N a942 (fun r943 =>
  bif r943 != (0 : Int) then
   k (0 : Int) (92 : Int)
  else
   bif decide ((0 : Int) ≤ api_Works.Machines a942) && decide (api_Works.Machines a942 ≤ api_Works.Machines a942) && decide (api_Works.Machines a942 ≤ (1073741824 : Int)) then
    bif decide ((↑(Arr.n (api_Works.Jobs a942)) : Int) ≤ (↑(Arr.n (api_Works.Jobs a942)) : Int)) && decide ((↑(Arr.n (api_Works.Jobs a942)) : Int) ≤ (1073741824 : Int)) then
     newelref09_Bound_l7 N N (0 : Int) (0 : Int) (0 : Int) a942 false (lst intC (Int.toNat (api_Works.Machines a942)) (zeroC [SV.int IntKind.i64 (0 : Int)])) false (lst intC (Int.toNat (↑(Arr.n (api_Works.Jobs a942)) : Int)) (zeroC [SV.int IntKind.i64 (0 : Int)])) (fun r963 r964 =>
      bif api_Works.Crews a942 == (0 : Int) then
       Option.none
      else
       k (mxI r963 (w64 (Int.tdiv (w64 (w64 (r964 + api_Works.Crews a942) - (1 : Int))) (api_Works.Crews a942)))) (0 : Int))
    else
     Option.none
   else
    Option.none)
noncomputable def newelref09_Bound {R : Type} : Nat → api_Works → (Int → Int → Option R) → Option R := lock (@newelref09_Bound_m R)
theorem newelref09_Bound_def {R : Type} (N : Nat) (a942 : api_Works) (k : Int → Int → Option R) : newelref09_Bound N a942 k = newelref09_Bound_m N a942 k := by unfold newelref09_Bound; rw [lock_eq]
def newelref09_Bound_sp : Sp := ⟨[rAgg api_WorksC], []⟩
theorem newelref09_Bound_sp_ok : newelref09_Bound_sp.Ok := ⟨(allCons (rAgg_ok api_WorksC_ok api_WorksC_len) allNil), eNil⟩
def newelref09_Bound_rs : Sp := ⟨[rTup [rInt .i64, rInt .i64]], []⟩
theorem newelref09_Bound_rs_ok : newelref09_Bound_rs.Ok := ⟨(allCons (rTup_ok (allCons (rInt_ok .i64) (allCons (rInt_ok .i64) allNil))) allNil), eNil⟩
def newelref09_Bound_run {R : Type} (N : Nat) (args : List SV) (T : Tab) (kf : SV × Tab → Option R) : Option R :=
  newelref09_Bound_m N (Cod.dec api_WorksC (lget (toCs (lget args 0)))) (fun q0 q1 => kf (lget [.tup [.int .i64 q0, .int .i64 q1]] 0, []))
def newelref09_Bound_d11 {R : Type} (N : Nat) (S0 : St) (k : Exit → St → Option R) : Option R :=
  newelref09_Bound_l11 N N (toI (lget S0.tmps 4)) (toI (lget S0.tmps 5)) (toI (lget S0.tmps 8)) (toI (lget S0.tmps 10)) (Cod.dec api_WorksC (lget (entCs (entAt S0.tab 0)))) (entNl (entAt S0.tab 1)) (lst intC (entN (entAt S0.tab 1)) (entC (entAt S0.tab 1))) (entNl (entAt S0.tab 2)) (lst intC (entN (entAt S0.tab 2)) (entC (entAt S0.tab 2))) (Cod.dec api_JobC (lget (entCs (entAt S0.tab 3)))) (fun q7 => k (.exit 2) (newelref09_Bound_x11_2 (toI (lget S0.tmps 4)) (toI (lget S0.tmps 5)) (toI (lget S0.tmps 8)) (Cod.dec api_WorksC (lget (entCs (entAt S0.tab 0)))) (entNl (entAt S0.tab 1)) (lst intC (entN (entAt S0.tab 1)) (entC (entAt S0.tab 1))) (entNl (entAt S0.tab 2)) (Cod.dec api_JobC (lget (entCs (entAt S0.tab 3)))) q7))
def newelref09_Bound_d7 {R : Type} (N : Nat) (S0 : St) (k : Exit → St → Option R) : Option R :=
  newelref09_Bound_l7 N N (toI (lget S0.tmps 4)) (toI (lget S0.tmps 5)) (toI (lget S0.tmps 8)) (Cod.dec api_WorksC (lget (entCs (entAt S0.tab 0)))) (entNl (entAt S0.tab 1)) (lst intC (entN (entAt S0.tab 1)) (entC (entAt S0.tab 1))) (entNl (entAt S0.tab 2)) (lst intC (entN (entAt S0.tab 2)) (entC (entAt S0.tab 2))) (fun q0 q1 => k (.exit 0) (newelref09_Bound_x7_0 (Cod.dec api_WorksC (lget (entCs (entAt S0.tab 0)))) q0 q1))
def newelref09_Bound_lp {R : Type} (N : Nat) : Lp R := fun body S k => bif (Go.Sx.keyOf body).getD 0 == 7 then (newelref09_Bound_L7.head.raw 0 S (fun S0 => newelref09_Bound_d7 N S0 k)) else bif (Go.Sx.keyOf body).getD 0 == 11 then (newelref09_Bound_L11.head.raw 0 S (fun S0 => newelref09_Bound_d11 N S0 k)) else Option.none
theorem newelref09_Bound_l7_eq {R : Type} (N : Nat) (k : Exit → St → Option R) (n : Nat) : ∀ (v0 : Int) (v1 : Int) (v2 : Int) (v3 : api_Works) (v4 : Bool) (v5 : Arr Int) (v6 : Bool) (v7 : Arr Int), loopM E.Θ (newellaw09_works_cal N) (newelref09_Bound_lp N) (noJn) 0 newelref09_Bound_L7 (bodyAt E 29 7) n (newelref09_Bound_h7 v0 v1 v2 v3 v4 v5 v6 v7) k = newelref09_Bound_l7 N n v0 v1 v2 v3 v4 v5 v6 v7 (fun q0 q1 => k (.exit 0) (newelref09_Bound_x7_0 v3 q0 q1)) := by
  induction n with
  | zero => intro v0 v1 v2 v3 v4 v5 v6 v7; rfl
  | succ n ih =>
    intro v0 v1 v2 v3 v4 v5 v6 v7
    refine Eq.trans (b := newelref09_Bound_b7 N (fun v0 v1 v2 v3 v4 v5 v6 v7 => loopM E.Θ (newellaw09_works_cal N) (newelref09_Bound_lp N) (noJn) 0 newelref09_Bound_L7 (bodyAt E 29 7) n (newelref09_Bound_h7 v0 v1 v2 v3 v4 v5 v6 v7) k) v0 v1 v2 v3 v4 v5 v6 v7 (fun q0 q1 => k (.exit 0) (newelref09_Bound_x7_0 v3 q0 q1))) (by kernel_rfl) ?_
    have h : (fun (v0 : Int) (v1 : Int) (v2 : Int) (v3 : api_Works) (v4 : Bool) (v5 : Arr Int) (v6 : Bool) (v7 : Arr Int) => loopM E.Θ (newellaw09_works_cal N) (newelref09_Bound_lp N) (noJn) 0 newelref09_Bound_L7 (bodyAt E 29 7) n (newelref09_Bound_h7 v0 v1 v2 v3 v4 v5 v6 v7) k) = (fun (v0 : Int) (v1 : Int) (v2 : Int) (v3 : api_Works) (v4 : Bool) (v5 : Arr Int) (v6 : Bool) (v7 : Arr Int) => newelref09_Bound_l7 N n v0 v1 v2 v3 v4 v5 v6 v7 (fun q0 q1 => k (.exit 0) (newelref09_Bound_x7_0 v3 q0 q1))) := funext fun v0 => funext fun v1 => funext fun v2 => funext fun v3 => funext fun v4 => funext fun v5 => funext fun v6 => funext fun v7 => ih v0 v1 v2 v3 v4 v5 v6 v7
    rw [h]
    rfl
theorem newelref09_Bound_l11_eq {R : Type} (N : Nat) (k : Exit → St → Option R) (n : Nat) : ∀ (v0 : Int) (v1 : Int) (v2 : Int) (v3 : Int) (v4 : api_Works) (v5 : Bool) (v6 : Arr Int) (v7 : Bool) (v8 : Arr Int) (v9 : api_Job), loopM E.Θ (newellaw09_works_cal N) (newelref09_Bound_lp N) (noJn) 0 newelref09_Bound_L11 (bodyAt E 29 11) n (newelref09_Bound_h11 v0 v1 v2 v3 v4 v5 v6 v7 v8 v9) k = newelref09_Bound_l11 N n v0 v1 v2 v3 v4 v5 v6 v7 v8 v9 (fun q7 => k (.exit 2) (newelref09_Bound_x11_2 v0 v1 v2 v4 v5 v6 v7 v9 q7)) := by
  induction n with
  | zero => intro v0 v1 v2 v3 v4 v5 v6 v7 v8 v9; rfl
  | succ n ih =>
    intro v0 v1 v2 v3 v4 v5 v6 v7 v8 v9
    refine Eq.trans (b := newelref09_Bound_b11 N (fun v0 v1 v2 v3 v4 v5 v6 v7 v8 v9 => loopM E.Θ (newellaw09_works_cal N) (newelref09_Bound_lp N) (noJn) 0 newelref09_Bound_L11 (bodyAt E 29 11) n (newelref09_Bound_h11 v0 v1 v2 v3 v4 v5 v6 v7 v8 v9) k) v0 v1 v2 v3 v4 v5 v6 v7 v8 v9 (fun q7 => k (.exit 2) (newelref09_Bound_x11_2 v0 v1 v2 v4 v5 v6 v7 v9 q7))) (by kernel_rfl) ?_
    have h : (fun (v0 : Int) (v1 : Int) (v2 : Int) (v3 : Int) (v4 : api_Works) (v5 : Bool) (v6 : Arr Int) (v7 : Bool) (v8 : Arr Int) (v9 : api_Job) => loopM E.Θ (newellaw09_works_cal N) (newelref09_Bound_lp N) (noJn) 0 newelref09_Bound_L11 (bodyAt E 29 11) n (newelref09_Bound_h11 v0 v1 v2 v3 v4 v5 v6 v7 v8 v9) k) = (fun (v0 : Int) (v1 : Int) (v2 : Int) (v3 : Int) (v4 : api_Works) (v5 : Bool) (v6 : Arr Int) (v7 : Bool) (v8 : Arr Int) (v9 : api_Job) => newelref09_Bound_l11 N n v0 v1 v2 v3 v4 v5 v6 v7 v8 v9 (fun q7 => k (.exit 2) (newelref09_Bound_x11_2 v0 v1 v2 v4 v5 v6 v7 v9 q7))) := funext fun v0 => funext fun v1 => funext fun v2 => funext fun v3 => funext fun v4 => funext fun v5 => funext fun v6 => funext fun v7 => funext fun v8 => funext fun v9 => ih v0 v1 v2 v3 v4 v5 v6 v7 v8 v9
    rw [h]
    rfl
theorem newelref09_Bound_k11 {R : Type} (N : Nat) : LpKey (R := R) E 29 0 (newelref09_Bound_lp N) 11 :=
  lpKey_of hE (newellaw09_works_cal_ok N) (lp := newelref09_Bound_lp N) (jn := noJn) newelref09_Bound_L11_ok [] kNil (by kernel_rfl) [] jNil (by kernel_rfl) N fun S k =>
    Eq.trans (b := newelref09_Bound_L11.head.raw 0 S (fun S0 => newelref09_Bound_d11 N S0 k)) (by kernel_rfl) (congrArg (newelref09_Bound_L11.head.raw 0 S) (funext fun S0 => Eq.trans (newelref09_Bound_l11_eq N k N (toI (lget S0.tmps 4)) (toI (lget S0.tmps 5)) (toI (lget S0.tmps 8)) (toI (lget S0.tmps 10)) (Cod.dec api_WorksC (lget (entCs (entAt S0.tab 0)))) (entNl (entAt S0.tab 1)) (lst intC (entN (entAt S0.tab 1)) (entC (entAt S0.tab 1))) (entNl (entAt S0.tab 2)) (lst intC (entN (entAt S0.tab 2)) (entC (entAt S0.tab 2))) (Cod.dec api_JobC (lget (entCs (entAt S0.tab 3))))).symm (by kernel_rfl)))
theorem newelref09_Bound_k7 {R : Type} (N : Nat) : LpKey (R := R) E 29 0 (newelref09_Bound_lp N) 7 :=
  lpKey_of hE (newellaw09_works_cal_ok N) (lp := newelref09_Bound_lp N) (jn := noJn) newelref09_Bound_L7_ok [11] (kCons (newelref09_Bound_k11 N) kNil) (by kernel_rfl) [] jNil (by kernel_rfl) N fun S k =>
    Eq.trans (b := newelref09_Bound_L7.head.raw 0 S (fun S0 => newelref09_Bound_d7 N S0 k)) (by kernel_rfl) (congrArg (newelref09_Bound_L7.head.raw 0 S) (funext fun S0 => Eq.trans (newelref09_Bound_l7_eq N k N (toI (lget S0.tmps 4)) (toI (lget S0.tmps 5)) (toI (lget S0.tmps 8)) (Cod.dec api_WorksC (lget (entCs (entAt S0.tab 0)))) (entNl (entAt S0.tab 1)) (lst intC (entN (entAt S0.tab 1)) (entC (entAt S0.tab 1))) (entNl (entAt S0.tab 2)) (lst intC (entN (entAt S0.tab 2)) (entC (entAt S0.tab 2)))).symm (by kernel_rfl)))
noncomputable def newelref09_Bound_go {R : Type} (N : Nat) (args : List SV) (T : Tab) (kf : SV × Tab → Option R) : Option R :=
  newelref09_Bound N (Cod.dec api_WorksC (lget (toCs (lget args 0)))) (fun q0 q1 => kf (lget [.tup [.int .i64 q0, .int .i64 q1]] 0, []))
noncomputable def newelref09_Bound_cal {R : Type} (N : Nat) : Cal R := callM (newellaw09_works_cal N) 29 0 newelref09_Bound_sp (newelref09_Bound_go N)
theorem newelref09_Bound_cal_ok {R : Type} (N : Nat) : CalOk E.P (newelref09_Bound_cal (R := R) N) :=
  callM_ok hE (newellaw09_works_cal_ok N) (lp := newelref09_Bound_lp N) (jn := noJn) (keys := [7, 11]) (kCons (newelref09_Bound_k7 N) (kCons (newelref09_Bound_k11 N) kNil)) (by kernel_rfl) (js := []) jNil (by kernel_rfl) newelref09_Bound_sp_ok newelref09_Bound_rs_ok (fun args T kf => Eq.trans (newelref09_Bound_def N (Cod.dec api_WorksC (lget (toCs (lget args 0)))) (fun q0 q1 => kf (lget [.tup [.int .i64 q0, .int .i64 q1]] 0, []))) (by kernel_rfl : newelref09_Bound_run N args T kf = fnM E (newellaw09_works_cal N) (newelref09_Bound_lp N) (noJn) 29 (newelref09_Bound_sp.vs args) (newelref09_Bound_sp.tab T) 0 (resK newelref09_Bound_rs kf)))
def shaft_Bound_L11 : LoopSp := ⟨⟨[1, 5, 6, 7, 8, 9, 10, 26, 27, 28, 34, 35, 36], ⟨(dr 1 ((rPtr 0 0) :: (dr 3 ((rInt .i64) :: (rInt .i64) :: (rRow 1) :: (rRow 2) :: (rInt .i64) :: (rPtr 3 0) :: (dr 15 ((rSl api_JobC) :: (rInt .i64) :: (rInt .i64) :: (dr 5 ((rSl intC) :: (rInt .i64) :: (rInt .i64) :: (dr 59 []))))))))), [(0, eBlkC api_WorksC), (1, eRow intC), (2, eRow intC), (3, eBlkC api_JobC)]⟩, 4⟩, [(some 2, ⟨[1, 5, 6, 7, 8, 9, 10, 26, 27, 28], ⟨(dr 1 ((rPtr 0 0) :: (dr 3 ((rInt .i64) :: (rInt .i64) :: (rRow 1) :: (rRow 2) :: (rInt .i64) :: (rPtr 3 0) :: (dr 15 ((rSl api_JobC) :: (rInt .i64) :: (rInt .i64) :: (dr 67 []))))))), [(0, eBlkC api_WorksC), (1, eRow intC), (2, eRow intC), (3, eBlkC api_JobC)]⟩, 4⟩)]⟩
theorem shaft_Bound_L11_ok : shaft_Bound_L11.Ok := ⟨⟨(drCons 1 (allCons (rPtr_ok 0 0) (drCons 3 (allCons (rInt_ok .i64) (allCons (rInt_ok .i64) (allCons (rRow_ok 1) (allCons (rRow_ok 2) (allCons (rInt_ok .i64) (allCons (rPtr_ok 3 0) (drCons 15 (allCons (rSl_ok api_JobC_ok) (allCons (rInt_ok .i64) (allCons (rInt_ok .i64) (drCons 5 (allCons (rSl_ok intC_ok) (allCons (rInt_ok .i64) (allCons (rInt_ok .i64) (drCons 59 allNil)))))))))))))))))), (eCons (eBlkC_ok api_WorksC_ok api_WorksC_len) (eCons (eRow_ok intC_ok) (eCons (eRow_ok intC_ok) (eCons (eBlkC_ok api_JobC_ok api_JobC_len) eNil))))⟩, (xCons ⟨(drCons 1 (allCons (rPtr_ok 0 0) (drCons 3 (allCons (rInt_ok .i64) (allCons (rInt_ok .i64) (allCons (rRow_ok 1) (allCons (rRow_ok 2) (allCons (rInt_ok .i64) (allCons (rPtr_ok 3 0) (drCons 15 (allCons (rSl_ok api_JobC_ok) (allCons (rInt_ok .i64) (allCons (rInt_ok .i64) (drCons 67 allNil)))))))))))))), (eCons (eBlkC_ok api_WorksC_ok api_WorksC_len) (eCons (eRow_ok intC_ok) (eCons (eRow_ok intC_ok) (eCons (eBlkC_ok api_JobC_ok api_JobC_len) eNil))))⟩ xNil)⟩
def shaft_Bound_h11 (v977 : Int) (v978 : Int) (v979 : Int) (v980 : Arr api_Job) (v981 : Int) (v982 : Int) (v983 : Arr Int) (v984 : Int) (v985 : Int) (v986 : api_Works) (v987 : Bool) (v988 : Arr Int) (v989 : Bool) (v990 : Arr Int) (v991 : api_Job) : St := ⟨(un 1 ((.ptr 0 0) :: (un 3 ((.int .i64 v977) :: (.int .i64 v978) :: (.row 1) :: (.row 2) :: (.int .i64 v979) :: (.ptr 3 0) :: (un 15 ((slC api_JobC v980) :: (.int .i64 v981) :: (.int .i64 v982) :: (un 5 ((slC intC v983) :: (.int .i64 v984) :: (.int .i64 v985) :: (un 59 []))))))))), [(0, .blk (Cod.enc api_WorksC v986)), (1, rowE intC v987 v988), (2, rowE intC v989 v990), (3, .blk (Cod.enc api_JobC v991))], 4⟩
def shaft_Bound_x11_2 (v977 : Int) (v978 : Int) (v979 : Int) (v980 : Arr api_Job) (v981 : Int) (v982 : Int) (v986 : api_Works) (v987 : Bool) (v989 : Bool) (v990 : Arr Int) (v991 : api_Job) (q8 : Arr Int) : St := ⟨(un 1 ((.ptr 0 0) :: (un 3 ((.int .i64 v977) :: (.int .i64 v978) :: (.row 1) :: (.row 2) :: (.int .i64 v979) :: (.ptr 3 0) :: (un 15 ((slC api_JobC v980) :: (.int .i64 v981) :: (.int .i64 v982) :: (un 67 []))))))), [(0, .blk (Cod.enc api_WorksC v986)), (1, rowE intC v987 q8), (2, rowE intC v989 v990), (3, .blk (Cod.enc api_JobC v991))], 4⟩
def shaft_Bound_b11 {R : Type} (N : Nat) (rc : Int → Int → Int → Arr api_Job → Int → Int → Arr Int → Int → Int → api_Works → Bool → Arr Int → Bool → Arr Int → api_Job → Option R) (v977 : Int) (v978 : Int) (v979 : Int) (v980 : Arr api_Job) (v981 : Int) (v982 : Int) (v983 : Arr Int) (v984 : Int) (v985 : Int) (v986 : api_Works) (v987 : Bool) (v988 : Arr Int) (v989 : Bool) (v990 : Arr Int) (v991 : api_Job) (k2 : Arr Int → Option R) : Option R :=
  bif decide (v985 < v984) then
   bif decide ((0 : Int) ≤ v985) && decide (v985 < (↑(Arr.n v983) : Int)) then
    bif decide ((0 : Int) ≤ v979) && decide (v979 < (↑(Arr.n v988) : Int)) then
     bif decide ((0 : Int) ≤ Arr.f v983 (Int.toNat v985)) && decide (Arr.f v983 (Int.toNat v985) < (↑(Arr.n v988) : Int)) then
      bif decide ((0 : Int) ≤ v979) && decide (v979 < (↑(Arr.n v988) : Int)) then
       rc v977 v978 v979 v980 v981 v982 v983 v984 (w64 (v985 + (1 : Int))) v986 v987 (lst intC (Arr.n v988) (setCs (Int.toNat v979) (0 : Nat) (Cod.cell intC (Arr.f v988)) [SV.int IntKind.i64 (mxI (Arr.f v988 (Int.toNat v979)) (Arr.f v988 (Int.toNat (Arr.f v983 (Int.toNat v985)))))])) v989 v990 v991
      else
       Option.none
     else
      Option.none
    else
     Option.none
   else
    Option.none
  else
   k2 v988
def shaft_Bound_l11 {R : Type} (N : Nat) : Nat → Int → Int → Int → Arr api_Job → Int → Int → Arr Int → Int → Int → api_Works → Bool → Arr Int → Bool → Arr Int → api_Job → (Arr Int → Option R) → Option R
  | 0, _, _, _, _, _, _, _, _, _, _, _, _, _, _, _, _ => Option.none
  | n + 1, v977, v978, v979, v980, v981, v982, v983, v984, v985, v986, v987, v988, v989, v990, v991, k2 => shaft_Bound_b11 N (fun v977 v978 v979 v980 v981 v982 v983 v984 v985 v986 v987 v988 v989 v990 v991 => shaft_Bound_l11 N n v977 v978 v979 v980 v981 v982 v983 v984 v985 v986 v987 v988 v989 v990 v991 k2) v977 v978 v979 v980 v981 v982 v983 v984 v985 v986 v987 v988 v989 v990 v991 k2
def shaft_Bound_L8 : LoopSp := ⟨⟨[1, 5, 6, 7, 8, 26, 27, 28], ⟨(dr 1 ((rPtr 0 0) :: (dr 3 ((rInt .i64) :: (rInt .i64) :: (rRow 1) :: (rRow 2) :: (dr 17 ((rSl api_JobC) :: (rInt .i64) :: (rInt .i64) :: (dr 67 []))))))), [(0, eBlkC api_WorksC), (1, eRow intC), (2, eRow intC)]⟩, 3⟩, [(some 0, ⟨[1, 5, 6], ⟨(dr 1 ((rPtr 0 0) :: (dr 3 ((rInt .i64) :: (rInt .i64) :: (dr 89 []))))), [(0, eBlkC api_WorksC)]⟩, 1⟩)]⟩
theorem shaft_Bound_L8_ok : shaft_Bound_L8.Ok := ⟨⟨(drCons 1 (allCons (rPtr_ok 0 0) (drCons 3 (allCons (rInt_ok .i64) (allCons (rInt_ok .i64) (allCons (rRow_ok 1) (allCons (rRow_ok 2) (drCons 17 (allCons (rSl_ok api_JobC_ok) (allCons (rInt_ok .i64) (allCons (rInt_ok .i64) (drCons 67 allNil)))))))))))), (eCons (eBlkC_ok api_WorksC_ok api_WorksC_len) (eCons (eRow_ok intC_ok) (eCons (eRow_ok intC_ok) eNil)))⟩, (xCons ⟨(drCons 1 (allCons (rPtr_ok 0 0) (drCons 3 (allCons (rInt_ok .i64) (allCons (rInt_ok .i64) (drCons 89 allNil)))))), (eCons (eBlkC_ok api_WorksC_ok api_WorksC_len) eNil)⟩ xNil)⟩
def shaft_Bound_h8 (v967 : Int) (v968 : Int) (v969 : Arr api_Job) (v970 : Int) (v971 : Int) (v972 : api_Works) (v973 : Bool) (v974 : Arr Int) (v975 : Bool) (v976 : Arr Int) : St := ⟨(un 1 ((.ptr 0 0) :: (un 3 ((.int .i64 v967) :: (.int .i64 v968) :: (.row 1) :: (.row 2) :: (un 17 ((slC api_JobC v969) :: (.int .i64 v970) :: (.int .i64 v971) :: (un 67 []))))))), [(0, .blk (Cod.enc api_WorksC v972)), (1, rowE intC v973 v974), (2, rowE intC v975 v976)], 3⟩
def shaft_Bound_x8_0 (v972 : api_Works) (q0 : Int) (q1 : Int) : St := ⟨(un 1 ((.ptr 0 0) :: (un 3 ((.int .i64 q0) :: (.int .i64 q1) :: (un 89 []))))), [(0, .blk (Cod.enc api_WorksC v972))], 1⟩
def shaft_Bound_b8 {R : Type} (N : Nat) (rc : Int → Int → Arr api_Job → Int → Int → api_Works → Bool → Arr Int → Bool → Arr Int → Option R) (v967 : Int) (v968 : Int) (v969 : Arr api_Job) (v970 : Int) (v971 : Int) (v972 : api_Works) (v973 : Bool) (v974 : Arr Int) (v975 : Bool) (v976 : Arr Int) (k0 : Int → Int → Option R) : Option R :=
  bif decide (v971 < v970) then
   bif decide ((0 : Int) ≤ v971) && decide (v971 < (↑(Arr.n v969) : Int)) then
    shaft_Bound_l11 N N v967 v968 v971 v969 v970 v971 (api_Job.After (Arr.f v969 (Int.toNat v971))) ((↑(Arr.n (api_Job.After (Arr.f v969 (Int.toNat v971)))) : Int)) (0 : Int) v972 v973 v974 v975 v976 (Arr.f v969 (Int.toNat v971)) (fun r992 =>
     bif decide ((0 : Int) ≤ v971) && decide (v971 < (↑(Arr.n r992) : Int)) then
      bif decide ((0 : Int) ≤ v971) && decide (v971 < (↑(Arr.n r992) : Int)) then
       bif decide ((0 : Int) ≤ api_Job.Machine (Arr.f v969 (Int.toNat v971))) && decide (api_Job.Machine (Arr.f v969 (Int.toNat v971)) < (↑(Arr.n v976) : Int)) then
        bif decide ((0 : Int) ≤ api_Job.Machine (Arr.f v969 (Int.toNat v971))) && decide (api_Job.Machine (Arr.f v969 (Int.toNat v971)) < (↑(Arr.n v976) : Int)) then
         bif decide ((0 : Int) ≤ v971) && decide (v971 < (↑(Arr.n r992) : Int)) then
          bif decide ((0 : Int) ≤ api_Job.Machine (Arr.f v969 (Int.toNat v971))) && decide (api_Job.Machine (Arr.f v969 (Int.toNat v971)) < (↑(Arr.n v976) : Int)) then
           rc (w64 (v967 + api_Job.Nights (Arr.f v969 (Int.toNat v971)))) (mxI (mxI v968 (toI (setCs (Int.toNat v971) (0 : Nat) (Cod.cell intC (Arr.f r992)) [SV.int IntKind.i64 (w64 (Arr.f r992 (Int.toNat v971) + api_Job.Nights (Arr.f v969 (Int.toNat v971))))] (Int.toNat v971) (0 : Nat)))) (toI (setCs (Int.toNat (api_Job.Machine (Arr.f v969 (Int.toNat v971)))) (0 : Nat) (Cod.cell intC (Arr.f v976)) [SV.int IntKind.i64 (w64 (Arr.f v976 (Int.toNat (api_Job.Machine (Arr.f v969 (Int.toNat v971)))) + api_Job.Nights (Arr.f v969 (Int.toNat v971))))] (Int.toNat (api_Job.Machine (Arr.f v969 (Int.toNat v971)))) (0 : Nat)))) v969 v970 (w64 (v971 + (1 : Int))) v972 v973 (lst intC (Arr.n r992) (setCs (Int.toNat v971) (0 : Nat) (Cod.cell intC (Arr.f r992)) [SV.int IntKind.i64 (w64 (Arr.f r992 (Int.toNat v971) + api_Job.Nights (Arr.f v969 (Int.toNat v971))))])) v975 (lst intC (Arr.n v976) (setCs (Int.toNat (api_Job.Machine (Arr.f v969 (Int.toNat v971)))) (0 : Nat) (Cod.cell intC (Arr.f v976)) [SV.int IntKind.i64 (w64 (Arr.f v976 (Int.toNat (api_Job.Machine (Arr.f v969 (Int.toNat v971)))) + api_Job.Nights (Arr.f v969 (Int.toNat v971))))]))
          else
           Option.none
         else
          Option.none
        else
         Option.none
       else
        Option.none
      else
       Option.none
     else
      Option.none)
   else
    Option.none
  else
   k0 v967 v968
def shaft_Bound_l8 {R : Type} (N : Nat) : Nat → Int → Int → Arr api_Job → Int → Int → api_Works → Bool → Arr Int → Bool → Arr Int → (Int → Int → Option R) → Option R
  | 0, _, _, _, _, _, _, _, _, _, _, _ => Option.none
  | n + 1, v967, v968, v969, v970, v971, v972, v973, v974, v975, v976, k0 => shaft_Bound_b8 N (fun v967 v968 v969 v970 v971 v972 v973 v974 v975 v976 => shaft_Bound_l8 N n v967 v968 v969 v970 v971 v972 v973 v974 v975 v976 k0) v967 v968 v969 v970 v971 v972 v973 v974 v975 v976 k0
def shaft_Bound_m {R : Type} (N : Nat) (a965 : api_Works) (k : Int → Int → Option R) : Option R :=
  shaft_CheckWorks N a965 (fun r966 =>
  bif r966 != (0 : Int) then
   k (0 : Int) r966
  else
   bif decide ((↑(Arr.n (api_Works.Jobs a965)) : Int) ≤ (↑(Arr.n (api_Works.Jobs a965)) : Int)) && decide ((↑(Arr.n (api_Works.Jobs a965)) : Int) ≤ (1073741824 : Int)) then
    bif decide ((0 : Int) ≤ api_Works.Machines a965) && decide (api_Works.Machines a965 ≤ api_Works.Machines a965) && decide (api_Works.Machines a965 ≤ (1073741824 : Int)) then
     shaft_Bound_l8 N N (0 : Int) (0 : Int) (api_Works.Jobs a965) ((↑(Arr.n (api_Works.Jobs a965)) : Int)) (0 : Int) a965 false (lst intC (Int.toNat (↑(Arr.n (api_Works.Jobs a965)) : Int)) (zeroC [SV.int IntKind.i64 (0 : Int)])) false (lst intC (Int.toNat (api_Works.Machines a965)) (zeroC [SV.int IntKind.i64 (0 : Int)])) (fun r993 r994 =>
      bif api_Works.Crews a965 == (0 : Int) then
       Option.none
      else
       k (mxI r994 (w64 (Int.tdiv (w64 (w64 (r993 + api_Works.Crews a965) - (1 : Int))) (api_Works.Crews a965)))) (0 : Int))
    else
     Option.none
   else
    Option.none)
noncomputable def shaft_Bound {R : Type} : Nat → api_Works → (Int → Int → Option R) → Option R := lock (@shaft_Bound_m R)
theorem shaft_Bound_def {R : Type} (N : Nat) (a965 : api_Works) (k : Int → Int → Option R) : shaft_Bound N a965 k = shaft_Bound_m N a965 k := by unfold shaft_Bound; rw [lock_eq]
def shaft_Bound_sp : Sp := ⟨[rAgg api_WorksC], []⟩
theorem shaft_Bound_sp_ok : shaft_Bound_sp.Ok := ⟨(allCons (rAgg_ok api_WorksC_ok api_WorksC_len) allNil), eNil⟩
def shaft_Bound_rs : Sp := ⟨[rTup [rInt .i64, rInt .i64]], []⟩
theorem shaft_Bound_rs_ok : shaft_Bound_rs.Ok := ⟨(allCons (rTup_ok (allCons (rInt_ok .i64) (allCons (rInt_ok .i64) allNil))) allNil), eNil⟩
def shaft_Bound_run {R : Type} (N : Nat) (args : List SV) (T : Tab) (kf : SV × Tab → Option R) : Option R :=
  shaft_Bound_m N (Cod.dec api_WorksC (lget (toCs (lget args 0)))) (fun q0 q1 => kf (lget [.tup [.int .i64 q0, .int .i64 q1]] 0, []))
def shaft_Bound_d11 {R : Type} (N : Nat) (S0 : St) (k : Exit → St → Option R) : Option R :=
  shaft_Bound_l11 N N (toI (lget S0.tmps 5)) (toI (lget S0.tmps 6)) (toI (lget S0.tmps 9)) (lstC api_JobC (lget S0.tmps 26)) (toI (lget S0.tmps 27)) (toI (lget S0.tmps 28)) (lstC intC (lget S0.tmps 34)) (toI (lget S0.tmps 35)) (toI (lget S0.tmps 36)) (Cod.dec api_WorksC (lget (entCs (entAt S0.tab 0)))) (entNl (entAt S0.tab 1)) (lst intC (entN (entAt S0.tab 1)) (entC (entAt S0.tab 1))) (entNl (entAt S0.tab 2)) (lst intC (entN (entAt S0.tab 2)) (entC (entAt S0.tab 2))) (Cod.dec api_JobC (lget (entCs (entAt S0.tab 3)))) (fun q8 => k (.exit 2) (shaft_Bound_x11_2 (toI (lget S0.tmps 5)) (toI (lget S0.tmps 6)) (toI (lget S0.tmps 9)) (lstC api_JobC (lget S0.tmps 26)) (toI (lget S0.tmps 27)) (toI (lget S0.tmps 28)) (Cod.dec api_WorksC (lget (entCs (entAt S0.tab 0)))) (entNl (entAt S0.tab 1)) (entNl (entAt S0.tab 2)) (lst intC (entN (entAt S0.tab 2)) (entC (entAt S0.tab 2))) (Cod.dec api_JobC (lget (entCs (entAt S0.tab 3)))) q8))
def shaft_Bound_d8 {R : Type} (N : Nat) (S0 : St) (k : Exit → St → Option R) : Option R :=
  shaft_Bound_l8 N N (toI (lget S0.tmps 5)) (toI (lget S0.tmps 6)) (lstC api_JobC (lget S0.tmps 26)) (toI (lget S0.tmps 27)) (toI (lget S0.tmps 28)) (Cod.dec api_WorksC (lget (entCs (entAt S0.tab 0)))) (entNl (entAt S0.tab 1)) (lst intC (entN (entAt S0.tab 1)) (entC (entAt S0.tab 1))) (entNl (entAt S0.tab 2)) (lst intC (entN (entAt S0.tab 2)) (entC (entAt S0.tab 2))) (fun q0 q1 => k (.exit 0) (shaft_Bound_x8_0 (Cod.dec api_WorksC (lget (entCs (entAt S0.tab 0)))) q0 q1))
def shaft_Bound_lp {R : Type} (N : Nat) : Lp R := fun body S k => bif (Go.Sx.keyOf body).getD 0 == 8 then (shaft_Bound_L8.head.raw 0 S (fun S0 => shaft_Bound_d8 N S0 k)) else bif (Go.Sx.keyOf body).getD 0 == 11 then (shaft_Bound_L11.head.raw 0 S (fun S0 => shaft_Bound_d11 N S0 k)) else Option.none
theorem shaft_Bound_l8_eq {R : Type} (N : Nat) (k : Exit → St → Option R) (n : Nat) : ∀ (v0 : Int) (v1 : Int) (v2 : Arr api_Job) (v3 : Int) (v4 : Int) (v5 : api_Works) (v6 : Bool) (v7 : Arr Int) (v8 : Bool) (v9 : Arr Int), loopM E.Θ (newelref09_Bound_cal N) (shaft_Bound_lp N) (noJn) 0 shaft_Bound_L8 (bodyAt E 28 8) n (shaft_Bound_h8 v0 v1 v2 v3 v4 v5 v6 v7 v8 v9) k = shaft_Bound_l8 N n v0 v1 v2 v3 v4 v5 v6 v7 v8 v9 (fun q0 q1 => k (.exit 0) (shaft_Bound_x8_0 v5 q0 q1)) := by
  induction n with
  | zero => intro v0 v1 v2 v3 v4 v5 v6 v7 v8 v9; rfl
  | succ n ih =>
    intro v0 v1 v2 v3 v4 v5 v6 v7 v8 v9
    refine Eq.trans (b := shaft_Bound_b8 N (fun v0 v1 v2 v3 v4 v5 v6 v7 v8 v9 => loopM E.Θ (newelref09_Bound_cal N) (shaft_Bound_lp N) (noJn) 0 shaft_Bound_L8 (bodyAt E 28 8) n (shaft_Bound_h8 v0 v1 v2 v3 v4 v5 v6 v7 v8 v9) k) v0 v1 v2 v3 v4 v5 v6 v7 v8 v9 (fun q0 q1 => k (.exit 0) (shaft_Bound_x8_0 v5 q0 q1))) (by kernel_rfl) ?_
    have h : (fun (v0 : Int) (v1 : Int) (v2 : Arr api_Job) (v3 : Int) (v4 : Int) (v5 : api_Works) (v6 : Bool) (v7 : Arr Int) (v8 : Bool) (v9 : Arr Int) => loopM E.Θ (newelref09_Bound_cal N) (shaft_Bound_lp N) (noJn) 0 shaft_Bound_L8 (bodyAt E 28 8) n (shaft_Bound_h8 v0 v1 v2 v3 v4 v5 v6 v7 v8 v9) k) = (fun (v0 : Int) (v1 : Int) (v2 : Arr api_Job) (v3 : Int) (v4 : Int) (v5 : api_Works) (v6 : Bool) (v7 : Arr Int) (v8 : Bool) (v9 : Arr Int) => shaft_Bound_l8 N n v0 v1 v2 v3 v4 v5 v6 v7 v8 v9 (fun q0 q1 => k (.exit 0) (shaft_Bound_x8_0 v5 q0 q1))) := funext fun v0 => funext fun v1 => funext fun v2 => funext fun v3 => funext fun v4 => funext fun v5 => funext fun v6 => funext fun v7 => funext fun v8 => funext fun v9 => ih v0 v1 v2 v3 v4 v5 v6 v7 v8 v9
    rw [h]
    rfl
theorem shaft_Bound_l11_eq {R : Type} (N : Nat) (k : Exit → St → Option R) (n : Nat) : ∀ (v0 : Int) (v1 : Int) (v2 : Int) (v3 : Arr api_Job) (v4 : Int) (v5 : Int) (v6 : Arr Int) (v7 : Int) (v8 : Int) (v9 : api_Works) (v10 : Bool) (v11 : Arr Int) (v12 : Bool) (v13 : Arr Int) (v14 : api_Job), loopM E.Θ (newelref09_Bound_cal N) (shaft_Bound_lp N) (noJn) 0 shaft_Bound_L11 (bodyAt E 28 11) n (shaft_Bound_h11 v0 v1 v2 v3 v4 v5 v6 v7 v8 v9 v10 v11 v12 v13 v14) k = shaft_Bound_l11 N n v0 v1 v2 v3 v4 v5 v6 v7 v8 v9 v10 v11 v12 v13 v14 (fun q8 => k (.exit 2) (shaft_Bound_x11_2 v0 v1 v2 v3 v4 v5 v9 v10 v12 v13 v14 q8)) := by
  induction n with
  | zero => intro v0 v1 v2 v3 v4 v5 v6 v7 v8 v9 v10 v11 v12 v13 v14; rfl
  | succ n ih =>
    intro v0 v1 v2 v3 v4 v5 v6 v7 v8 v9 v10 v11 v12 v13 v14
    refine Eq.trans (b := shaft_Bound_b11 N (fun v0 v1 v2 v3 v4 v5 v6 v7 v8 v9 v10 v11 v12 v13 v14 => loopM E.Θ (newelref09_Bound_cal N) (shaft_Bound_lp N) (noJn) 0 shaft_Bound_L11 (bodyAt E 28 11) n (shaft_Bound_h11 v0 v1 v2 v3 v4 v5 v6 v7 v8 v9 v10 v11 v12 v13 v14) k) v0 v1 v2 v3 v4 v5 v6 v7 v8 v9 v10 v11 v12 v13 v14 (fun q8 => k (.exit 2) (shaft_Bound_x11_2 v0 v1 v2 v3 v4 v5 v9 v10 v12 v13 v14 q8))) (by kernel_rfl) ?_
    have h : (fun (v0 : Int) (v1 : Int) (v2 : Int) (v3 : Arr api_Job) (v4 : Int) (v5 : Int) (v6 : Arr Int) (v7 : Int) (v8 : Int) (v9 : api_Works) (v10 : Bool) (v11 : Arr Int) (v12 : Bool) (v13 : Arr Int) (v14 : api_Job) => loopM E.Θ (newelref09_Bound_cal N) (shaft_Bound_lp N) (noJn) 0 shaft_Bound_L11 (bodyAt E 28 11) n (shaft_Bound_h11 v0 v1 v2 v3 v4 v5 v6 v7 v8 v9 v10 v11 v12 v13 v14) k) = (fun (v0 : Int) (v1 : Int) (v2 : Int) (v3 : Arr api_Job) (v4 : Int) (v5 : Int) (v6 : Arr Int) (v7 : Int) (v8 : Int) (v9 : api_Works) (v10 : Bool) (v11 : Arr Int) (v12 : Bool) (v13 : Arr Int) (v14 : api_Job) => shaft_Bound_l11 N n v0 v1 v2 v3 v4 v5 v6 v7 v8 v9 v10 v11 v12 v13 v14 (fun q8 => k (.exit 2) (shaft_Bound_x11_2 v0 v1 v2 v3 v4 v5 v9 v10 v12 v13 v14 q8))) := funext fun v0 => funext fun v1 => funext fun v2 => funext fun v3 => funext fun v4 => funext fun v5 => funext fun v6 => funext fun v7 => funext fun v8 => funext fun v9 => funext fun v10 => funext fun v11 => funext fun v12 => funext fun v13 => funext fun v14 => ih v0 v1 v2 v3 v4 v5 v6 v7 v8 v9 v10 v11 v12 v13 v14
    rw [h]
    rfl
theorem shaft_Bound_k11 {R : Type} (N : Nat) : LpKey (R := R) E 28 0 (shaft_Bound_lp N) 11 :=
  lpKey_of hE (newelref09_Bound_cal_ok N) (lp := shaft_Bound_lp N) (jn := noJn) shaft_Bound_L11_ok [] kNil (by kernel_rfl) [] jNil (by kernel_rfl) N fun S k =>
    Eq.trans (b := shaft_Bound_L11.head.raw 0 S (fun S0 => shaft_Bound_d11 N S0 k)) (by kernel_rfl) (congrArg (shaft_Bound_L11.head.raw 0 S) (funext fun S0 => Eq.trans (shaft_Bound_l11_eq N k N (toI (lget S0.tmps 5)) (toI (lget S0.tmps 6)) (toI (lget S0.tmps 9)) (lstC api_JobC (lget S0.tmps 26)) (toI (lget S0.tmps 27)) (toI (lget S0.tmps 28)) (lstC intC (lget S0.tmps 34)) (toI (lget S0.tmps 35)) (toI (lget S0.tmps 36)) (Cod.dec api_WorksC (lget (entCs (entAt S0.tab 0)))) (entNl (entAt S0.tab 1)) (lst intC (entN (entAt S0.tab 1)) (entC (entAt S0.tab 1))) (entNl (entAt S0.tab 2)) (lst intC (entN (entAt S0.tab 2)) (entC (entAt S0.tab 2))) (Cod.dec api_JobC (lget (entCs (entAt S0.tab 3))))).symm (by kernel_rfl)))
theorem shaft_Bound_k8 {R : Type} (N : Nat) : LpKey (R := R) E 28 0 (shaft_Bound_lp N) 8 :=
  lpKey_of hE (newelref09_Bound_cal_ok N) (lp := shaft_Bound_lp N) (jn := noJn) shaft_Bound_L8_ok [11] (kCons (shaft_Bound_k11 N) kNil) (by kernel_rfl) [] jNil (by kernel_rfl) N fun S k =>
    Eq.trans (b := shaft_Bound_L8.head.raw 0 S (fun S0 => shaft_Bound_d8 N S0 k)) (by kernel_rfl) (congrArg (shaft_Bound_L8.head.raw 0 S) (funext fun S0 => Eq.trans (shaft_Bound_l8_eq N k N (toI (lget S0.tmps 5)) (toI (lget S0.tmps 6)) (lstC api_JobC (lget S0.tmps 26)) (toI (lget S0.tmps 27)) (toI (lget S0.tmps 28)) (Cod.dec api_WorksC (lget (entCs (entAt S0.tab 0)))) (entNl (entAt S0.tab 1)) (lst intC (entN (entAt S0.tab 1)) (entC (entAt S0.tab 1))) (entNl (entAt S0.tab 2)) (lst intC (entN (entAt S0.tab 2)) (entC (entAt S0.tab 2)))).symm (by kernel_rfl)))
noncomputable def shaft_Bound_go {R : Type} (N : Nat) (args : List SV) (T : Tab) (kf : SV × Tab → Option R) : Option R :=
  shaft_Bound N (Cod.dec api_WorksC (lget (toCs (lget args 0)))) (fun q0 q1 => kf (lget [.tup [.int .i64 q0, .int .i64 q1]] 0, []))
noncomputable def shaft_Bound_cal {R : Type} (N : Nat) : Cal R := callM (newelref09_Bound_cal N) 28 0 shaft_Bound_sp (shaft_Bound_go N)
theorem shaft_Bound_cal_ok {R : Type} (N : Nat) : CalOk E.P (shaft_Bound_cal (R := R) N) :=
  callM_ok hE (newelref09_Bound_cal_ok N) (lp := shaft_Bound_lp N) (jn := noJn) (keys := [8, 11]) (kCons (shaft_Bound_k8 N) (kCons (shaft_Bound_k11 N) kNil)) (by kernel_rfl) (js := []) jNil (by kernel_rfl) shaft_Bound_sp_ok shaft_Bound_rs_ok (fun args T kf => Eq.trans (shaft_Bound_def N (Cod.dec api_WorksC (lget (toCs (lget args 0)))) (fun q0 q1 => kf (lget [.tup [.int .i64 q0, .int .i64 q1]] 0, []))) (by kernel_rfl : shaft_Bound_run N args T kf = fnM E (newelref09_Bound_cal N) (shaft_Bound_lp N) (noJn) 28 (shaft_Bound_sp.vs args) (shaft_Bound_sp.tab T) 0 (resK shaft_Bound_rs kf)))
end
end Go.Proofs.YtckkodiefpdmhaaDoor
