import Derived.Test.YtpillmoddoccfaaSiP9
set_option maxRecDepth 100000
set_option maxHeartbeats 0
set_option linter.unusedSectionVars false
set_option linter.unusedVariables false
set_option linter.unusedSimpArgs false
namespace Go.Proofs.Ytpillmoddoccfaa
open Go.Sx
noncomputable section
def nT_TopDoor_L13 : LoopSp := ⟨⟨[1, 5, 6, 8, 10, 11], ⟨(dr 1 ((rSl intC) :: (dr 3 ((rPtr 0 0) :: (rRow 1) :: (dr 1 ((rRow 2) :: (dr 1 ((rRow 3) :: (rInt .i64) :: (dr 120 []))))))))), [(0, eBlk [rRow 4, rRow 5, rRow 6, rRow 7, rRow 8]), (1, eRow intC), (2, eRow intC), (3, eRow intC), (4, eRow strC), (5, eRow strC), (6, eRow pCoC), (7, eRow pStC), (8, eRow pRuC)]⟩, 9⟩, [(some 0, ⟨[5, 6, 8, 10], ⟨(dr 5 ((rPtr 0 0) :: (rRow 1) :: (dr 1 ((rRow 2) :: (dr 1 ((rRow 3) :: (dr 121 []))))))), [(0, eBlk [rRow 4, rRow 5, rRow 6, rRow 7, rRow 8]), (1, eRow intC), (2, eRow intC), (3, eRow intC), (4, eRow strC), (5, eRow strC), (6, eRow pCoC), (7, eRow pStC), (8, eRow pRuC)]⟩, 9⟩)]⟩
theorem nT_TopDoor_L13_ok : nT_TopDoor_L13.Ok := ⟨⟨(drCons 1 (allCons (rSl_ok intC_ok) (drCons 3 (allCons (rPtr_ok 0 0) (allCons (rRow_ok 1) (drCons 1 (allCons (rRow_ok 2) (drCons 1 (allCons (rRow_ok 3) (allCons (rInt_ok .i64) (drCons 120 allNil))))))))))), (eCons (eBlk_ok (allCons (rRow_ok 4) (allCons (rRow_ok 5) (allCons (rRow_ok 6) (allCons (rRow_ok 7) (allCons (rRow_ok 8) allNil)))))) (eCons (eRow_ok intC_ok) (eCons (eRow_ok intC_ok) (eCons (eRow_ok intC_ok) (eCons (eRow_ok strC_ok) (eCons (eRow_ok strC_ok) (eCons (eRow_ok pCoC_ok) (eCons (eRow_ok pStC_ok) (eCons (eRow_ok pRuC_ok) eNil)))))))))⟩, (xCons ⟨(drCons 5 (allCons (rPtr_ok 0 0) (allCons (rRow_ok 1) (drCons 1 (allCons (rRow_ok 2) (drCons 1 (allCons (rRow_ok 3) (drCons 121 allNil)))))))), (eCons (eBlk_ok (allCons (rRow_ok 4) (allCons (rRow_ok 5) (allCons (rRow_ok 6) (allCons (rRow_ok 7) (allCons (rRow_ok 8) allNil)))))) (eCons (eRow_ok intC_ok) (eCons (eRow_ok intC_ok) (eCons (eRow_ok intC_ok) (eCons (eRow_ok strC_ok) (eCons (eRow_ok strC_ok) (eCons (eRow_ok pCoC_ok) (eCons (eRow_ok pStC_ok) (eCons (eRow_ok pRuC_ok) eNil)))))))))⟩ xNil)⟩
def nT_TopDoor_h13 (v598 : Arr Int) (v599 : Int) (v600 : Bool) (v601 : Arr Int) (v602 : Bool) (v603 : Arr Int) (v604 : Bool) (v605 : Arr Int) (v606 : Bool) (v607 : Arr ByteArray) (v608 : Bool) (v609 : Arr ByteArray) (v610 : Bool) (v611 : Arr pCo) (v612 : Bool) (v613 : Arr pSt) (v614 : Bool) (v615 : Arr pRu) : St := ⟨(un 1 ((slC intC v598) :: (un 3 ((.ptr 0 0) :: (.row 1) :: (un 1 ((.row 2) :: (un 1 ((.row 3) :: (.int .i64 v599) :: (un 120 []))))))))), [(0, .blk [.row 4, .row 5, .row 6, .row 7, .row 8]), (1, rowE intC v600 v601), (2, rowE intC v602 v603), (3, rowE intC v604 v605), (4, rowE strC v606 v607), (5, rowE strC v608 v609), (6, rowE pCoC v610 v611), (7, rowE pStC v612 v613), (8, rowE pRuC v614 v615)], 9⟩
def nT_TopDoor_x13_0 (v600 : Bool) (v601 : Arr Int) (v602 : Bool) (v603 : Arr Int) (v604 : Bool) (v606 : Bool) (v607 : Arr ByteArray) (v608 : Bool) (v609 : Arr ByteArray) (v610 : Bool) (v611 : Arr pCo) (v612 : Bool) (v613 : Arr pSt) (v614 : Bool) (v615 : Arr pRu) (q5 : Arr Int) : St := ⟨(un 5 ((.ptr 0 0) :: (.row 1) :: (un 1 ((.row 2) :: (un 1 ((.row 3) :: (un 121 []))))))), [(0, .blk [.row 4, .row 5, .row 6, .row 7, .row 8]), (1, rowE intC v600 v601), (2, rowE intC v602 v603), (3, rowE intC v604 q5), (4, rowE strC v606 v607), (5, rowE strC v608 v609), (6, rowE pCoC v610 v611), (7, rowE pStC v612 v613), (8, rowE pRuC v614 v615)], 9⟩
def nT_TopDoor_b13 {R : Type} (N : Nat) (rc : Arr Int → Int → Bool → Arr Int → Bool → Arr Int → Bool → Arr Int → Bool → Arr ByteArray → Bool → Arr ByteArray → Bool → Arr pCo → Bool → Arr pSt → Bool → Arr pRu → Option R) (v598 : Arr Int) (v599 : Int) (v600 : Bool) (v601 : Arr Int) (v602 : Bool) (v603 : Arr Int) (v604 : Bool) (v605 : Arr Int) (v606 : Bool) (v607 : Arr ByteArray) (v608 : Bool) (v609 : Arr ByteArray) (v610 : Bool) (v611 : Arr pCo) (v612 : Bool) (v613 : Arr pSt) (v614 : Bool) (v615 : Arr pRu) (k0 : Arr Int → Option R) : Option R :=
  bif decide (v599 < (↑(Arr.n v598) : Int)) then
   bif decide ((0 : Int) ≤ v599) && decide (v599 < (↑(Arr.n v598) : Int)) then
    bif decide (Arr.f v598 (Int.toNat v599) < (↑(Arr.n v605) : Int)) then
     bif decide ((0 : Int) ≤ v599) && decide (v599 < (↑(Arr.n v598) : Int)) then
      bif decide ((0 : Int) ≤ Arr.f v598 (Int.toNat v599)) && decide (Arr.f v598 (Int.toNat v599) < (↑(Arr.n v605) : Int)) then
       rc v598 (w64 (v599 + (1 : Int))) v600 v601 v602 v603 v604 (lst intC (Arr.n v605) (setCs (Int.toNat (Arr.f v598 (Int.toNat v599))) (0 : Nat) (Cod.cell intC (Arr.f v605)) [SV.int IntKind.i64 (1 : Int)])) v606 v607 v608 v609 v610 v611 v612 v613 v614 v615
      else
       Option.none
     else
      Option.none
    else
     rc v598 (w64 (v599 + (1 : Int))) v600 v601 v602 v603 v604 v605 v606 v607 v608 v609 v610 v611 v612 v613 v614 v615
   else
    Option.none
  else
   k0 v605
def nT_TopDoor_l13 {R : Type} (N : Nat) : Nat → Arr Int → Int → Bool → Arr Int → Bool → Arr Int → Bool → Arr Int → Bool → Arr ByteArray → Bool → Arr ByteArray → Bool → Arr pCo → Bool → Arr pSt → Bool → Arr pRu → (Arr Int → Option R) → Option R
  | 0, _, _, _, _, _, _, _, _, _, _, _, _, _, _, _, _, _, _, _ => Option.none
  | n + 1, v598, v599, v600, v601, v602, v603, v604, v605, v606, v607, v608, v609, v610, v611, v612, v613, v614, v615, k0 => nT_TopDoor_b13 N (fun v598 v599 v600 v601 v602 v603 v604 v605 v606 v607 v608 v609 v610 v611 v612 v613 v614 v615 => nT_TopDoor_l13 N n v598 v599 v600 v601 v602 v603 v604 v605 v606 v607 v608 v609 v610 v611 v612 v613 v614 v615 k0) v598 v599 v600 v601 v602 v603 v604 v605 v606 v607 v608 v609 v610 v611 v612 v613 v614 v615 k0
def nT_TopDoor_L21 : LoopSp := ⟨⟨[6, 8, 12, 14], ⟨(dr 6 ((rRow 0) :: (dr 1 ((rRow 1) :: (dr 3 ((rRow 2) :: (dr 1 ((rInt .i64) :: (dr 117 []))))))))), [(0, eRow intC), (1, eRow intC), (2, eRow pPlC)]⟩, 3⟩, [(Option.none, ⟨[4], ⟨(dr 4 ((rBool) :: (dr 127 []))), []⟩, 0⟩), (some 2, ⟨[], ⟨(dr 132 []), []⟩, 0⟩)]⟩
theorem nT_TopDoor_L21_ok : nT_TopDoor_L21.Ok := ⟨⟨(drCons 6 (allCons (rRow_ok 0) (drCons 1 (allCons (rRow_ok 1) (drCons 3 (allCons (rRow_ok 2) (drCons 1 (allCons (rInt_ok .i64) (drCons 117 allNil))))))))), (eCons (eRow_ok intC_ok) (eCons (eRow_ok intC_ok) (eCons (eRow_ok pPlC_ok) eNil)))⟩, (xCons ⟨(drCons 4 (allCons rBool_ok (drCons 127 allNil))), eNil⟩ (xCons ⟨(drCons 132 allNil), eNil⟩ xNil))⟩
def nT_TopDoor_h21 (v620 : Int) (v621 : Bool) (v622 : Arr Int) (v623 : Bool) (v624 : Arr Int) (v625 : Bool) (v626 : Arr pPl) : St := ⟨(un 6 ((.row 0) :: (un 1 ((.row 1) :: (un 3 ((.row 2) :: (un 1 ((.int .i64 v620) :: (un 117 []))))))))), [(0, rowE intC v621 v622), (1, rowE intC v623 v624), (2, rowE pPlC v625 v626)], 3⟩
def nT_TopDoor_x21_r (q0 : Bool) : St := ⟨(un 4 ((.bool q0) :: (un 127 []))), [], 0⟩
def nT_TopDoor_x21_2  : St := ⟨(un 132 []), [], 0⟩
def nT_TopDoor_b21 {R : Type} (N : Nat) (rc : Int → Bool → Arr Int → Bool → Arr Int → Bool → Arr pPl → Option R) (v620 : Int) (v621 : Bool) (v622 : Arr Int) (v623 : Bool) (v624 : Arr Int) (v625 : Bool) (v626 : Arr pPl) (kr : Bool → Option R) (k2 : Unit → Option R) : Option R :=
  bif decide (v620 < (↑(Arr.n v624) : Int)) then
   bif decide ((0 : Int) ≤ v620) && decide (v620 < (↑(Arr.n v626) : Int)) then
    bif decide (pPl.State (Arr.f v626 (Int.toNat v620)) < (0 : Int)) then
     kr false
    else
     bif decide (pPl.State (Arr.f v626 (Int.toNat v620)) ≥ (↑(Arr.n v622) : Int)) then
      kr false
     else
      bif decide ((0 : Int) ≤ pPl.State (Arr.f v626 (Int.toNat v620))) && decide (pPl.State (Arr.f v626 (Int.toNat v620)) < (↑(Arr.n v622) : Int)) then
       bif decide ((0 : Int) ≤ v620) && decide (v620 < (↑(Arr.n v624) : Int)) then
        bif Arr.f v622 (Int.toNat (pPl.State (Arr.f v626 (Int.toNat v620)))) != Arr.f v624 (Int.toNat v620) then
         kr false
        else
         bif !(pPl.State (Arr.f v626 (Int.toNat v620)) == w64 ((↑(Arr.n v622) : Int) - (1 : Int))) == (v620 == w64 ((↑(Arr.n v624) : Int) - (1 : Int))) then
          kr false
         else
          rc (w64 (v620 + (1 : Int))) v621 v622 v623 v624 v625 v626
       else
        Option.none
      else
       Option.none
   else
    Option.none
  else
   k2 ()
def nT_TopDoor_l21 {R : Type} (N : Nat) : Nat → Int → Bool → Arr Int → Bool → Arr Int → Bool → Arr pPl → (Bool → Option R) → (Unit → Option R) → Option R
  | 0, _, _, _, _, _, _, _, _, _ => Option.none
  | n + 1, v620, v621, v622, v623, v624, v625, v626, kr, k2 => nT_TopDoor_b21 N (fun v620 v621 v622 v623 v624 v625 v626 => nT_TopDoor_l21 N n v620 v621 v622 v623 v624 v625 v626 kr k2) v620 v621 v622 v623 v624 v625 v626 kr k2
def nT_TopDoor_m {R : Type} (N : Nat) (a574 : pDo) (a575 : Arr Int) (k : Bool → Option R) : Option R :=
  r5_CheckDoor N a574 (fun r576 =>
  bif r576 != (0 : Int) then
   nT_moved N  (fun r577 =>
   k r577)
  else
   r5_Breaks N a575 (fun r578 =>
   bif !r578 then
    nT_moved N  (fun r579 =>
    k r579)
   else
    nT_doorway N a574 (fun r580 r581 r582 r583 r584 r585 r586 r587 r588 r589 r590 r591 r592 =>
    bif !r580 then
     nT_moved N  (fun r593 =>
     k r593)
    else
     lift_Doors N a574 a575 (fun r594 r595 r596 =>
     bif r594 != (0 : Int) then
      k false
     else
      bif (↑(Arr.n r596) : Int) == (0 : Int) then
       k false
      else
       bif decide ((↑(Arr.n r596) : Int) > (200 : Int)) then
        nT_moved N  (fun r597 =>
        k r597)
       else
        bif decide ((↑(Arr.n r596) : Int) ≤ (↑(Arr.n r596) : Int)) && decide ((↑(Arr.n r596) : Int) ≤ (1073741824 : Int)) then
         nT_TopDoor_l13 N N a575 (0 : Int) r591 r592 r595 r596 false (lst intC (Int.toNat (↑(Arr.n r596) : Int)) (zeroC [SV.int IntKind.i64 (0 : Int)])) r581 r582 r583 r584 r585 r586 r587 r588 r589 r590 (fun r616 =>
          cN_Run N (pMa.mk r582 r584 r586 r588 r590) r616 (fun r617 r618 r619 =>
          bif r617 != (0 : Int) then
           k false
          else
           bif (↑(Arr.n r619) : Int) != (↑(Arr.n r596) : Int) then
            k false
           else
            nT_TopDoor_l21 N N (0 : Int) r591 r592 r595 r596 r618 r619 (fun r627 =>
             k r627) (fun (_ : Unit) =>
             nT_moved N  (fun r628 =>
             k r628))))
        else
         Option.none))))
noncomputable def nT_TopDoor {R : Type} : Nat → pDo → Arr Int → (Bool → Option R) → Option R := lock (@nT_TopDoor_m R)
theorem nT_TopDoor_def {R : Type} (N : Nat) (a574 : pDo) (a575 : Arr Int) (k : Bool → Option R) : nT_TopDoor N a574 a575 k = nT_TopDoor_m N a574 a575 k := by unfold nT_TopDoor; rw [lock_eq]
def nT_TopDoor_sp : Sp := ⟨[rAgg pDoC, rSl intC], []⟩
theorem nT_TopDoor_sp_ok : nT_TopDoor_sp.Ok := ⟨(allCons (rAgg_ok pDoC_ok pDoC_len) (allCons (rSl_ok intC_ok) allNil)), eNil⟩
def nT_TopDoor_rs : Sp := ⟨[rBool], []⟩
theorem nT_TopDoor_rs_ok : nT_TopDoor_rs.Ok := ⟨(allCons rBool_ok allNil), eNil⟩
def nT_TopDoor_run {R : Type} (N : Nat) (args : List SV) (T : Tab) (kf : SV × Tab → Option R) : Option R :=
  nT_TopDoor_m N (Cod.dec pDoC (lget (toCs (lget args 0)))) (lstC intC (lget args 1)) (fun q0 => kf (lget [.bool q0] 0, []))
def nT_TopDoor_d21 {R : Type} (N : Nat) (S0 : St) (k : Exit → St → Option R) : Option R :=
  nT_TopDoor_l21 N N (toI (lget S0.tmps 14)) (entNl (entAt S0.tab 0)) (lst intC (entN (entAt S0.tab 0)) (entC (entAt S0.tab 0))) (entNl (entAt S0.tab 1)) (lst intC (entN (entAt S0.tab 1)) (entC (entAt S0.tab 1))) (entNl (entAt S0.tab 2)) (lst pPlC (entN (entAt S0.tab 2)) (entC (entAt S0.tab 2))) (fun q0 => k .ret (nT_TopDoor_x21_r q0)) (fun (_ : Unit) => k (.exit 2) (nT_TopDoor_x21_2 ))
def nT_TopDoor_d13 {R : Type} (N : Nat) (S0 : St) (k : Exit → St → Option R) : Option R :=
  nT_TopDoor_l13 N N (lstC intC (lget S0.tmps 1)) (toI (lget S0.tmps 11)) (entNl (entAt S0.tab 1)) (lst intC (entN (entAt S0.tab 1)) (entC (entAt S0.tab 1))) (entNl (entAt S0.tab 2)) (lst intC (entN (entAt S0.tab 2)) (entC (entAt S0.tab 2))) (entNl (entAt S0.tab 3)) (lst intC (entN (entAt S0.tab 3)) (entC (entAt S0.tab 3))) (entNl (entAt S0.tab 4)) (lst strC (entN (entAt S0.tab 4)) (entC (entAt S0.tab 4))) (entNl (entAt S0.tab 5)) (lst strC (entN (entAt S0.tab 5)) (entC (entAt S0.tab 5))) (entNl (entAt S0.tab 6)) (lst pCoC (entN (entAt S0.tab 6)) (entC (entAt S0.tab 6))) (entNl (entAt S0.tab 7)) (lst pStC (entN (entAt S0.tab 7)) (entC (entAt S0.tab 7))) (entNl (entAt S0.tab 8)) (lst pRuC (entN (entAt S0.tab 8)) (entC (entAt S0.tab 8))) (fun q5 => k (.exit 0) (nT_TopDoor_x13_0 (entNl (entAt S0.tab 1)) (lst intC (entN (entAt S0.tab 1)) (entC (entAt S0.tab 1))) (entNl (entAt S0.tab 2)) (lst intC (entN (entAt S0.tab 2)) (entC (entAt S0.tab 2))) (entNl (entAt S0.tab 3)) (entNl (entAt S0.tab 4)) (lst strC (entN (entAt S0.tab 4)) (entC (entAt S0.tab 4))) (entNl (entAt S0.tab 5)) (lst strC (entN (entAt S0.tab 5)) (entC (entAt S0.tab 5))) (entNl (entAt S0.tab 6)) (lst pCoC (entN (entAt S0.tab 6)) (entC (entAt S0.tab 6))) (entNl (entAt S0.tab 7)) (lst pStC (entN (entAt S0.tab 7)) (entC (entAt S0.tab 7))) (entNl (entAt S0.tab 8)) (lst pRuC (entN (entAt S0.tab 8)) (entC (entAt S0.tab 8))) q5))
def nT_TopDoor_lp {R : Type} (N : Nat) : Lp R := fun body S k => bif (Go.Sx.keyOf body).getD 0 == 13 then (nT_TopDoor_L13.head.raw 0 S (fun S0 => nT_TopDoor_d13 N S0 k)) else bif (Go.Sx.keyOf body).getD 0 == 21 then (nT_TopDoor_L21.head.raw 0 S (fun S0 => nT_TopDoor_d21 N S0 k)) else Option.none
theorem nT_TopDoor_l13_eq {R : Type} (N : Nat) (k : Exit → St → Option R) (n : Nat) : ∀ (v0 : Arr Int) (v1 : Int) (v2 : Bool) (v3 : Arr Int) (v4 : Bool) (v5 : Arr Int) (v6 : Bool) (v7 : Arr Int) (v8 : Bool) (v9 : Arr ByteArray) (v10 : Bool) (v11 : Arr ByteArray) (v12 : Bool) (v13 : Arr pCo) (v14 : Bool) (v15 : Arr pSt) (v16 : Bool) (v17 : Arr pRu), loopM E.Θ (nT_moved_cal N) (nT_TopDoor_lp N) (noJn) 0 nT_TopDoor_L13 (bodyAt E 4 13) n (nT_TopDoor_h13 v0 v1 v2 v3 v4 v5 v6 v7 v8 v9 v10 v11 v12 v13 v14 v15 v16 v17) k = nT_TopDoor_l13 N n v0 v1 v2 v3 v4 v5 v6 v7 v8 v9 v10 v11 v12 v13 v14 v15 v16 v17 (fun q5 => k (.exit 0) (nT_TopDoor_x13_0 v2 v3 v4 v5 v6 v8 v9 v10 v11 v12 v13 v14 v15 v16 v17 q5)) := by
  induction n with
  | zero => intro v0 v1 v2 v3 v4 v5 v6 v7 v8 v9 v10 v11 v12 v13 v14 v15 v16 v17; rfl
  | succ n ih =>
    intro v0 v1 v2 v3 v4 v5 v6 v7 v8 v9 v10 v11 v12 v13 v14 v15 v16 v17
    refine Eq.trans (b := nT_TopDoor_b13 N (fun v0 v1 v2 v3 v4 v5 v6 v7 v8 v9 v10 v11 v12 v13 v14 v15 v16 v17 => loopM E.Θ (nT_moved_cal N) (nT_TopDoor_lp N) (noJn) 0 nT_TopDoor_L13 (bodyAt E 4 13) n (nT_TopDoor_h13 v0 v1 v2 v3 v4 v5 v6 v7 v8 v9 v10 v11 v12 v13 v14 v15 v16 v17) k) v0 v1 v2 v3 v4 v5 v6 v7 v8 v9 v10 v11 v12 v13 v14 v15 v16 v17 (fun q5 => k (.exit 0) (nT_TopDoor_x13_0 v2 v3 v4 v5 v6 v8 v9 v10 v11 v12 v13 v14 v15 v16 v17 q5))) (by kernel_rfl) ?_
    have h : (fun (v0 : Arr Int) (v1 : Int) (v2 : Bool) (v3 : Arr Int) (v4 : Bool) (v5 : Arr Int) (v6 : Bool) (v7 : Arr Int) (v8 : Bool) (v9 : Arr ByteArray) (v10 : Bool) (v11 : Arr ByteArray) (v12 : Bool) (v13 : Arr pCo) (v14 : Bool) (v15 : Arr pSt) (v16 : Bool) (v17 : Arr pRu) => loopM E.Θ (nT_moved_cal N) (nT_TopDoor_lp N) (noJn) 0 nT_TopDoor_L13 (bodyAt E 4 13) n (nT_TopDoor_h13 v0 v1 v2 v3 v4 v5 v6 v7 v8 v9 v10 v11 v12 v13 v14 v15 v16 v17) k) = (fun (v0 : Arr Int) (v1 : Int) (v2 : Bool) (v3 : Arr Int) (v4 : Bool) (v5 : Arr Int) (v6 : Bool) (v7 : Arr Int) (v8 : Bool) (v9 : Arr ByteArray) (v10 : Bool) (v11 : Arr ByteArray) (v12 : Bool) (v13 : Arr pCo) (v14 : Bool) (v15 : Arr pSt) (v16 : Bool) (v17 : Arr pRu) => nT_TopDoor_l13 N n v0 v1 v2 v3 v4 v5 v6 v7 v8 v9 v10 v11 v12 v13 v14 v15 v16 v17 (fun q5 => k (.exit 0) (nT_TopDoor_x13_0 v2 v3 v4 v5 v6 v8 v9 v10 v11 v12 v13 v14 v15 v16 v17 q5))) := funext fun v0 => funext fun v1 => funext fun v2 => funext fun v3 => funext fun v4 => funext fun v5 => funext fun v6 => funext fun v7 => funext fun v8 => funext fun v9 => funext fun v10 => funext fun v11 => funext fun v12 => funext fun v13 => funext fun v14 => funext fun v15 => funext fun v16 => funext fun v17 => ih v0 v1 v2 v3 v4 v5 v6 v7 v8 v9 v10 v11 v12 v13 v14 v15 v16 v17
    rw [h]
    rfl
theorem nT_TopDoor_l21_eq {R : Type} (N : Nat) (k : Exit → St → Option R) (n : Nat) : ∀ (v0 : Int) (v1 : Bool) (v2 : Arr Int) (v3 : Bool) (v4 : Arr Int) (v5 : Bool) (v6 : Arr pPl), loopM E.Θ (nT_moved_cal N) (nT_TopDoor_lp N) (noJn) 0 nT_TopDoor_L21 (bodyAt E 4 21) n (nT_TopDoor_h21 v0 v1 v2 v3 v4 v5 v6) k = nT_TopDoor_l21 N n v0 v1 v2 v3 v4 v5 v6 (fun q0 => k .ret (nT_TopDoor_x21_r q0)) (fun (_ : Unit) => k (.exit 2) (nT_TopDoor_x21_2 )) := by
  induction n with
  | zero => intro v0 v1 v2 v3 v4 v5 v6; rfl
  | succ n ih =>
    intro v0 v1 v2 v3 v4 v5 v6
    refine Eq.trans (b := nT_TopDoor_b21 N (fun v0 v1 v2 v3 v4 v5 v6 => loopM E.Θ (nT_moved_cal N) (nT_TopDoor_lp N) (noJn) 0 nT_TopDoor_L21 (bodyAt E 4 21) n (nT_TopDoor_h21 v0 v1 v2 v3 v4 v5 v6) k) v0 v1 v2 v3 v4 v5 v6 (fun q0 => k .ret (nT_TopDoor_x21_r q0)) (fun (_ : Unit) => k (.exit 2) (nT_TopDoor_x21_2 ))) (by kernel_rfl) ?_
    have h : (fun (v0 : Int) (v1 : Bool) (v2 : Arr Int) (v3 : Bool) (v4 : Arr Int) (v5 : Bool) (v6 : Arr pPl) => loopM E.Θ (nT_moved_cal N) (nT_TopDoor_lp N) (noJn) 0 nT_TopDoor_L21 (bodyAt E 4 21) n (nT_TopDoor_h21 v0 v1 v2 v3 v4 v5 v6) k) = (fun (v0 : Int) (v1 : Bool) (v2 : Arr Int) (v3 : Bool) (v4 : Arr Int) (v5 : Bool) (v6 : Arr pPl) => nT_TopDoor_l21 N n v0 v1 v2 v3 v4 v5 v6 (fun q0 => k .ret (nT_TopDoor_x21_r q0)) (fun (_ : Unit) => k (.exit 2) (nT_TopDoor_x21_2 ))) := funext fun v0 => funext fun v1 => funext fun v2 => funext fun v3 => funext fun v4 => funext fun v5 => funext fun v6 => ih v0 v1 v2 v3 v4 v5 v6
    rw [h]
    rfl
theorem nT_TopDoor_k13 {R : Type} (N : Nat) : LpKey (R := R) E 4 0 (nT_TopDoor_lp N) 13 :=
  lpKey_of hE (nT_moved_cal_ok N) (lp := nT_TopDoor_lp N) (jn := noJn) nT_TopDoor_L13_ok [] kNil (by kernel_rfl) [] jNil (by kernel_rfl) N fun S k =>
    Eq.trans (b := nT_TopDoor_L13.head.raw 0 S (fun S0 => nT_TopDoor_d13 N S0 k)) (by kernel_rfl) (congrArg (nT_TopDoor_L13.head.raw 0 S) (funext fun S0 => Eq.trans (nT_TopDoor_l13_eq N k N (lstC intC (lget S0.tmps 1)) (toI (lget S0.tmps 11)) (entNl (entAt S0.tab 1)) (lst intC (entN (entAt S0.tab 1)) (entC (entAt S0.tab 1))) (entNl (entAt S0.tab 2)) (lst intC (entN (entAt S0.tab 2)) (entC (entAt S0.tab 2))) (entNl (entAt S0.tab 3)) (lst intC (entN (entAt S0.tab 3)) (entC (entAt S0.tab 3))) (entNl (entAt S0.tab 4)) (lst strC (entN (entAt S0.tab 4)) (entC (entAt S0.tab 4))) (entNl (entAt S0.tab 5)) (lst strC (entN (entAt S0.tab 5)) (entC (entAt S0.tab 5))) (entNl (entAt S0.tab 6)) (lst pCoC (entN (entAt S0.tab 6)) (entC (entAt S0.tab 6))) (entNl (entAt S0.tab 7)) (lst pStC (entN (entAt S0.tab 7)) (entC (entAt S0.tab 7))) (entNl (entAt S0.tab 8)) (lst pRuC (entN (entAt S0.tab 8)) (entC (entAt S0.tab 8)))).symm (by kernel_rfl)))
theorem nT_TopDoor_k21 {R : Type} (N : Nat) : LpKey (R := R) E 4 0 (nT_TopDoor_lp N) 21 :=
  lpKey_of hE (nT_moved_cal_ok N) (lp := nT_TopDoor_lp N) (jn := noJn) nT_TopDoor_L21_ok [] kNil (by kernel_rfl) [] jNil (by kernel_rfl) N fun S k =>
    Eq.trans (b := nT_TopDoor_L21.head.raw 0 S (fun S0 => nT_TopDoor_d21 N S0 k)) (by kernel_rfl) (congrArg (nT_TopDoor_L21.head.raw 0 S) (funext fun S0 => Eq.trans (nT_TopDoor_l21_eq N k N (toI (lget S0.tmps 14)) (entNl (entAt S0.tab 0)) (lst intC (entN (entAt S0.tab 0)) (entC (entAt S0.tab 0))) (entNl (entAt S0.tab 1)) (lst intC (entN (entAt S0.tab 1)) (entC (entAt S0.tab 1))) (entNl (entAt S0.tab 2)) (lst pPlC (entN (entAt S0.tab 2)) (entC (entAt S0.tab 2)))).symm (by kernel_rfl)))
noncomputable def nT_TopDoor_go {R : Type} (N : Nat) (args : List SV) (T : Tab) (kf : SV × Tab → Option R) : Option R :=
  nT_TopDoor N (Cod.dec pDoC (lget (toCs (lget args 0)))) (lstC intC (lget args 1)) (fun q0 => kf (lget [.bool q0] 0, []))
noncomputable def nT_TopDoor_cal {R : Type} (N : Nat) : Cal R := callM (nT_moved_cal N) 4 0 nT_TopDoor_sp (nT_TopDoor_go N)
theorem nT_TopDoor_cal_ok {R : Type} (N : Nat) : CalOk E.P (nT_TopDoor_cal (R := R) N) :=
  callM_ok hE (nT_moved_cal_ok N) (lp := nT_TopDoor_lp N) (jn := noJn) (keys := [13, 21]) (kCons (nT_TopDoor_k13 N) (kCons (nT_TopDoor_k21 N) kNil)) (by kernel_rfl) (js := []) jNil (by kernel_rfl) nT_TopDoor_sp_ok nT_TopDoor_rs_ok (fun args T kf => Eq.trans (nT_TopDoor_def N (Cod.dec pDoC (lget (toCs (lget args 0)))) (lstC intC (lget args 1)) (fun q0 => kf (lget [.bool q0] 0, []))) (by kernel_rfl : nT_TopDoor_run N args T kf = fnM E (nT_moved_cal N) (nT_TopDoor_lp N) (noJn) 4 (nT_TopDoor_sp.vs args) (nT_TopDoor_sp.tab T) 0 (resK nT_TopDoor_rs kf)))
section
open Classical
open Si Li
variable {R : Type}
theorem setI_fd {a : Arr Int} {m : Nat} {v : Int} (j : Nat) : (lst intC a.n (setCs m 0 (Cod.cell intC a.f) [SV.int IntKind.i64 v])).f j = if j = m then v else a.f j := by
  by_cases e : j = m
  · subst e
    rw [if_pos rfl]
    simp [lst, setCs, setC, intC, toI]
  · have e0 : (j == m) = false := by simpa using e
    rw [if_neg e]
    show intC.dec (fun k => setC m 0 (Cod.cell intC a.f) (SV.int IntKind.i64 v) j k) = a.f j
    simp only [setC, e0, Bool.false_and, cond_false]
    rfl
theorem td_l13 (N : Nat) {br : Arr Int} (hb : ∀ j, j < br.n → 0 ≤ br.f j ∧ br.f j ≤ 100000) (hbn : br.n ≤ 1000) {m : Nat} (b1 : Bool) (w : Arr Int) (b2 : Bool) (o : Arr Int) (b3 : Bool) (c1 : Bool) (I : Arr ByteArray) (c2 : Bool) (O : Arr ByteArray) (c3 : Bool) (C : Arr pCo) (c4 : Bool) (S : Arr pSt) (c5 : Bool) (L : Arr pRu) (k0 : Arr Int → Option R) : ∀ (q i n : Nat) (x : Arr Int), i + q = br.n → q < n → x.n = m → (∀ t, t < m → x.f t = if (∃ j, j < i ∧ br.f j = (t : Int)) then 1 else 0) →
    ∃ x' : Arr Int, x'.n = m ∧ (∀ t, t < m → x'.f t = if isBr br (t : Int) then 1 else 0) ∧ nT_TopDoor_l13 N n br (i : Int) b1 w b2 o b3 x c1 I c2 O c3 C c4 S c5 L k0 = k0 x' := by
  intro q
  induction q with
  | zero =>
    intro i n x g1 g2 g3 g4
    obtain ⟨n, rfl⟩ : ∃ m, n = m + 1 := ⟨n - 1, by omega⟩
    refine ⟨x, g3, fun t ht => ?_, ?_⟩
    · rw [g4 t ht]
      have : i = br.n := by omega
      subst this
      by_cases hx : isBr br (t : Int)
      · rw [if_pos hx]; exact if_pos hx
      · rw [if_neg hx]; exact if_neg hx
    · unfold nT_TopDoor_l13 nT_TopDoor_b13
      have e1 : decide ((i : Int) < (br.n : Int)) = false := by simp; omega
      simp only [e1, cond_false]
  | succ q ih =>
    intro i n x g1 g2 g3 g4
    obtain ⟨n, rfl⟩ : ∃ m, n = m + 1 := ⟨n - 1, by omega⟩
    have e1 : decide ((i : Int) < (br.n : Int)) = true := by simp; omega
    have hbi := hb i (by omega)
    unfold nT_TopDoor_l13 nT_TopDoor_b13
    simp only [e1, nat_nonneg, Bool.and_self, cond_true, Int.toNat_natCast, w64_succ (show i < 1000000000000 by omega)]
    by_cases hc : br.f i < (x.n : Int)
    · have e2 : decide ((0 : Int) ≤ br.f i) = true := by simp; omega
      simp only [hc, decide_true, cond_true, e2, Bool.and_self]
      refine ih (i + 1) n _ (by omega) (by omega) (by show x.n = m; exact g3) (fun t ht => ?_)
      rw [setI_fd]
      by_cases e : t = (br.f i).toNat
      · rw [if_pos e, if_pos ⟨i, by omega, by omega⟩]
      · rw [if_neg e, g4 t ht]
        by_cases e3 : ∃ j, j < i ∧ br.f j = (t : Int)
        · obtain ⟨j, j1, j2⟩ := e3
          rw [if_pos ⟨j, j1, j2⟩, if_pos ⟨j, by omega, j2⟩]
        · rw [if_neg e3, if_neg]
          rintro ⟨j, j1, j2⟩
          by_cases e4 : j = i
          · subst e4; omega
          · exact e3 ⟨j, by omega, j2⟩
    · simp only [hc, decide_false, cond_false]
      refine ih (i + 1) n _ (by omega) (by omega) g3 (fun t ht => ?_)
      rw [g4 t ht]
      by_cases e3 : ∃ j, j < i ∧ br.f j = (t : Int)
      · obtain ⟨j, j1, j2⟩ := e3
        rw [if_pos ⟨j, j1, j2⟩, if_pos ⟨j, by omega, j2⟩]
      · rw [if_neg e3, if_neg]
        rintro ⟨j, j1, j2⟩
        by_cases e4 : j = i
        · subst e4; omega
        · exact e3 ⟨j, by omega, j2⟩
theorem td_at {W K : Nat} (h1 : 1 ≤ W) {s : Int × Int × Int} (h : DV W K s) (hp : s.2.1 = 0 → 1 ≤ s.1) : 0 ≤ stQ W K s ∧ stQ W K s ≤ 2 * W + K ∧ wideF W K (stQ W K s).toNat = s.1 ∧ (stQ W K s = 2 * W + K ↔ s.1 = 0) := by
  obtain ⟨a, p, l⟩ := s
  unfold DV at h
  simp only at h hp
  rcases h with ⟨e1, e2, e3⟩ | ⟨e1, e2, e3, e4⟩ | ⟨e1, e2, e3⟩
  · subst e1
    have := hp rfl
    have q : stQ W K (a, 0, l) = a := by unfold stQ; simp
    rw [q]
    unfold wideF
    rw [if_pos (by omega)]
    simp only
    refine ⟨by omega, by omega, by omega, fun h => by omega, fun h => by omega⟩
  · subst e1 e2
    have q : stQ W K ((W : Int), 1, l) = W - 1 + l := by unfold stQ; simp
    have hw : wideF W K ((W : Int) - 1 + l).toNat = W := by unfold wideF; (repeat' split) <;> omega
    rw [q, hw]
    simp only
    refine ⟨by omega, by omega, trivial, fun h => by omega, fun h => by omega⟩
  · subst e1
    by_cases c : a = 0
    · subst c
      have q : stQ W K (0, 2, l) = 2 * W + K := by unfold stQ; simp
      have hw : wideF W K (2 * (W : Int) + K).toNat = 0 := by unfold wideF; (repeat' split) <;> omega
      rw [q, hw]
      simp only [true_iff, iff_true, and_true, true_and]
      omega
    · have q : stQ W K (a, 2, l) = W + K - 1 + a := by unfold stQ; rw [if_neg (by simp), if_neg (by simp), if_neg (show ¬ a = 0 by exact c)]
      have hw : wideF W K ((W : Int) + K - 1 + a).toNat = a := by unfold wideF; (repeat' split) <;> omega
      rw [q, hw]
      simp only
      refine ⟨by omega, by omega, trivial, fun h => by omega, fun h => by omega⟩
theorem td_l21 (N : Nat) {W K : Nat} (h1 : 1 ≤ W) (h2 : 2 * W + K ≤ 11) {br : Arr Int} {n : Nat} (hn : DN W K br n) (hn2 : n ≤ 200) {wide o : Arr Int} (hw : wide.Is (2 * W + K + 1) (wideF W K)) (ho : o.Is n (fun i => (dSt W K br (i + 1)).1)) {pl : Arr pPl} {P : Nat → pPl} (hpl : pl.Is n (fun j => P (j + 1)))
    (hP : ∀ t, t ≤ n → (P t).State = stQ W K (dSt W K br t) ∧ DV W K (dSt W K br t) ∧ (1 ≤ t → (dSt W K br t).2.1 = 0 → 1 ≤ (dSt W K br t).1)) (b1 b2 b3 : Bool) (kr : Bool → Option R) (k2 : Unit → Option R) : ∀ (q i f : Nat), i + q = n → q < f →
    nT_TopDoor_l21 N f (i : Int) b1 wide b2 o b3 pl kr k2 = k2 () := by
  intro q
  induction q with
  | zero =>
    intro i f g1 g2
    obtain ⟨f, rfl⟩ : ∃ m, f = m + 1 := ⟨f - 1, by omega⟩
    unfold nT_TopDoor_l21 nT_TopDoor_b21
    have e1 : decide ((i : Int) < (o.n : Int)) = false := by rw [ho.len]; simp; omega
    simp only [e1, cond_false]
  | succ q ih =>
    intro i f g1 g2
    obtain ⟨f, rfl⟩ : ∃ m, f = m + 1 := ⟨f - 1, by omega⟩
    obtain ⟨p1, p2, p3⟩ := hP (i + 1) (by omega)
    obtain ⟨s1, s2, s3, s4⟩ := td_at h1 p2 (p3 (by omega))
    have hst : pPl.State (pl.f i) = stQ W K (dSt W K br (i + 1)) := by rw [hpl.get i (by omega)]; exact p1
    have e1 : decide ((i : Int) < (n : Int)) = true := by simp; omega
    have hw1 : (wide.n : Int) = 2 * W + K + 1 := by rw [hw.len]; omega
    have e3 : decide (stQ W K (dSt W K br (i + 1)) < 0) = false := by simp; omega
    have e4 : decide (stQ W K (dSt W K br (i + 1)) ≥ (2 * W + K + 1 : Int)) = false := by simp; omega
    have e5 : decide ((0 : Int) ≤ stQ W K (dSt W K br (i + 1))) = true := by simp; omega
    have e6 : decide (stQ W K (dSt W K br (i + 1)) < (2 * W + K + 1 : Int)) = true := by simp; omega
    have e7 : (wide.f (stQ W K (dSt W K br (i + 1))).toNat != o.f i) = false := by
      rw [hw.get _ (by omega), s3, ho.get i (by omega)]; simp
    have e8 : w64 ((2 * W + K + 1 : Int) - 1) = 2 * W + K := by rw [w64_eq (by omega) (by omega)]; omega
    have e9 : w64 ((n : Int) - 1) = (n : Int) - 1 := w64_eq (by omega) (by omega)
    have hz : (dSt W K br (i + 1)).1 = 0 ↔ i + 1 = n := by
      constructor
      · intro h
        by_cases c : i + 1 < n
        · have := hn.before (i + 1) (by omega) c; omega
        · omega
      · intro h; rw [h]; exact hn.zero
    have e10 : (!(stQ W K (dSt W K br (i + 1)) == (2 * W + K : Int)) == ((i : Int) == (n : Int) - 1)) = false := by
      by_cases c : i + 1 = n
      · have c1 := s4.2 (hz.2 c)
        have c2 : (i : Int) = (n : Int) - 1 := by omega
        rw [c1, c2]; simp
      · have c1 : ¬ stQ W K (dSt W K br (i + 1)) = 2 * W + K := fun h => c (hz.1 (s4.1 h))
        have c2 : ¬ (i : Int) = (n : Int) - 1 := by omega
        have c3 : (stQ W K (dSt W K br (i + 1)) == (2 * W + K : Int)) = false := by simpa using c1
        have c4 : ((i : Int) == (n : Int) - 1) = false := by simpa using c2
        rw [c3, c4]; rfl
    unfold nT_TopDoor_l21 nT_TopDoor_b21
    simp only [ho.len, hpl.len, e1, nat_nonneg, Bool.and_self, cond_true, cond_false, Int.toNat_natCast, hst, hw1, e3, e4, e5, e6, e7, e8, e9, e10, w64_succ (show i < 1000000000000 by omega)]
    have hw2 := ih (i + 1) f (by omega) (by omega)
    exact hw2
theorem td_empty {br : Arr Int} (h : br.n = 0) (t : Int) : decide (isBr br t) = false := by
  have : ¬ isBr br t := by rintro ⟨j, hj, _⟩; omega
  simp [this]
theorem td_ex {br : Arr Int} (h : br.n = 0) : dSt 2 1 br 1 = (1, 0, 0) ∧ dSt 2 1 br 2 = (2, 1, 1) ∧ dSt 2 1 br 3 = (2, 2, 0) ∧ dSt 2 1 br 4 = (1, 2, 0) ∧ dSt 2 1 br 5 = (0, 2, 0) := by
  have st : ∀ t : Nat, dSt 2 1 br (t + 1) = dStep 2 1 false (dSt 2 1 br t) := fun t => by
    show dStep 2 1 (decide (isBr br (t : Int))) (dSt 2 1 br t) = _
    rw [td_empty h]
  have h0 : dSt 2 1 br 0 = (0, 0, 0) := rfl
  have h1 : dSt 2 1 br 1 = (1, 0, 0) := by rw [st 0, h0]; simp [dStep, dBrk, dMv, dHold]
  have h2 : dSt 2 1 br 2 = (2, 1, 1) := by rw [st 1, h1]; simp [dStep, dBrk, dMv, dHold]
  have h3 : dSt 2 1 br 3 = (2, 2, 0) := by rw [st 2, h2]; simp [dStep, dBrk, dMv, dHold]
  have h4 : dSt 2 1 br 4 = (1, 2, 0) := by rw [st 3, h3]; simp [dStep, dBrk, dMv, dHold]
  have h5 : dSt 2 1 br 5 = (0, 2, 0) := by rw [st 4, h4]; simp [dStep, dBrk, dMv, dHold]
  exact ⟨h1, h2, h3, h4, h5⟩
theorem td_dn {br : Arr Int} (h : br.n = 0) : DN 2 1 br 5 := by
  obtain ⟨a1, a2, a3, a4, a5⟩ := td_ex h
  refine ⟨by omega, by rw [a5], fun j j1 j2 => ?_⟩
  match j, j1, j2 with
  | 1, _, _ => rw [a1]; decide
  | 2, _, _ => rw [a2]; decide
  | 3, _, _ => rw [a3]; decide
  | 4, _, _ => rw [a4]; decide
theorem td_moved {N : Nat} (hN : 20000 ≤ N) (k : Bool → Option R) : nT_moved N k = k true := by
  rw [nT_moved_def]
  unfold nT_moved_m
  have hb0 : (lst intC (0 : Nat) (zeroC [SV.int IntKind.i64 (0 : Int)])).n = 0 := rfl
  generalize lst intC (0 : Nat) (zeroC [SV.int IntKind.i64 (0 : Int)]) = br at hb0
  have hin : ∀ i, i < 5 → (lst intC (5 : Nat) (litC [SV.int IntKind.i64 (0 : Int)] [[SV.int IntKind.i64 (0 : Int)], [SV.int IntKind.i64 (0 : Int)], [SV.int IntKind.i64 (0 : Int)], [SV.int IntKind.i64 (0 : Int)], [SV.int IntKind.i64 (0 : Int)]])).f i = 0 := by
    intro i hi
    match i, hi with
    | 0, _ => rfl
    | 1, _ => rfl
    | 2, _ => rfl
    | 3, _ => rfl
    | 4, _ => rfl
  have hin5 : (lst intC (5 : Nat) (litC [SV.int IntKind.i64 (0 : Int)] [[SV.int IntKind.i64 (0 : Int)], [SV.int IntKind.i64 (0 : Int)], [SV.int IntKind.i64 (0 : Int)], [SV.int IntKind.i64 (0 : Int)], [SV.int IntKind.i64 (0 : Int)]])).n = 5 := rfl
  generalize lst intC (5 : Nat) (litC [SV.int IntKind.i64 (0 : Int)] [[SV.int IntKind.i64 (0 : Int)], [SV.int IntKind.i64 (0 : Int)], [SV.int IntKind.i64 (0 : Int)], [SV.int IntKind.i64 (0 : Int)], [SV.int IntKind.i64 (0 : Int)]]) = inp at hin hin5
  have hVD : VD (pDo.mk 2 1) := ⟨by decide, by decide, by decide, by decide⟩
  have hbr : brP br := ⟨fun j _ hj => by omega, by omega⟩
  obtain ⟨a1, a2, a3, a4, a5⟩ := td_ex hb0
  obtain ⟨x1, x2, y1, y2⟩ := Doors_eq (show 10000 ≤ N by omega) (pDo.mk 2 1) br (by omega) (by omega)
  have hE : doorsE (pDo.mk 2 1) br = 0 := doorsE_zero.2 ⟨hVD, hbr⟩
  have hn5 : doorsN (pDo.mk 2 1) br = 5 := by
    have h3 := (doors_all hVD hbr).1
    exact dn_unique h3 (td_dn hb0)
  rw [y2, hE]
  obtain ⟨b1, b2, b3, s, r, w, dm, dw⟩ := doorway_eq (R := R) (N := N) (by omega) (W := 2) (K := 1) (d := pDo.mk 2 1) rfl rfl (by omega) (by omega)
  rw [dw]
  obtain ⟨b4, l, gl, gr⟩ := run_eq (R := R) (N := N) (by omega) (dm_ok (by omega) (by omega) dm) (a := inp) (by omega) (fun i hi => by
    rw [hin i (by omega), dm.i.len]; decide)
  rw [gr]
  have dr := dm_run (by omega) dm (br := br) (fun i j _ hj => by omega) (n := 5) (td_dn hb0) (x := inp.f) (fun i hi => by
    rw [hin i hi, if_neg (by rintro ⟨j, hj, _⟩; omega)]) 5 (Nat.le_refl 5)
  have hl4 : (l.f 4).State = 5 := by
    rw [gl.get 4 (by omega)]
    show (runP _ inp.f 5).State = 5
    rw [dr.1]
    show stQ ((2 : Nat) : Int) ((1 : Nat) : Int) (dSt 2 1 br 5) = 5
    rw [a5]
    unfold stQ
    simp
  have hx : x2.f 1 = 2 := by
    rw [y1.get 1 (by omega)]
    show (dSt 2 1 br 2).1 = 2
    rw [a2]
  have hxn : (x2.n : Int) = 5 := by rw [y1.len, hn5]; rfl
  have hln : (l.n : Int) = 5 := by rw [gl.len, hin5]; rfl
  have hwn : (w.n : Int) = 6 := by rw [dm.w.len]; rfl
  have t1 : Int.toNat (1 : Int) = 1 := rfl
  have t4 : Int.toNat (4 : Int) = 4 := rfl
  simp only [hxn, hln, hwn, t1, t4, hx, hl4, beq_self_eq_true, cond_true]
  rfl
theorem topDoor_true (d : pDo) (br : Arr Int) (h0 : d.wf) (h1 : br.n ≤ maxLen) (h2 : ∀ i, i < br.n → i64 (br.f i)) : ∃ N, nT_TopDoor N d br (fun q0 => okK (lget [.bool q0] 0, [])) = some () := by
  refine ⟨br.n + 20000, ?_⟩
  have hN : 20000 ≤ br.n + 20000 := by omega
  have hNn : br.n < br.n + 20000 := by omega
  generalize br.n + 20000 = N at hN hNn
  have hmv := td_moved (R := Unit) hN (fun q0 => okK (lget [.bool q0] 0, []))
  have hok : okK (lget [.bool true] 0, []) = some () := rfl
  rw [hok] at hmv
  rw [nT_TopDoor_def]
  unfold nT_TopDoor_m
  rw [refCheckDoor_eq]
  by_cases hd : VD d
  rotate_left
  · have : (doorV d != 0) = true := by rw [doorV_ne hd]; rfl
    simp only [this, cond_true]
    exact hmv
  rw [doorV_pos hd]
  simp only [bne_self_eq_false, cond_false]
  rw [Breaks_eq (show br.n ≤ 9223372036854775807 from h1) hNn]
  by_cases hb : brP br
  rotate_left
  · simp only [hb, decide_false, Bool.not_false, cond_true]
    exact hmv
  simp only [hb, decide_true, Bool.not_true, cond_false]
  obtain ⟨w1, w2, t1, t2⟩ := id hd
  by_cases hs : 2 * d.Wide + d.Wait ≤ 11
  rotate_left
  · obtain ⟨c1, c2, c3, c4, c5, c6, i, o, c, s, r, w, dw⟩ := doorway_no (R := Unit) (N := N) hd hs
    rw [dw]
    simp only [Bool.not_false, cond_true]
    exact hmv
  obtain ⟨W, hW⟩ : ∃ W : Nat, d.Wide = (W : Int) := ⟨d.Wide.toNat, by omega⟩
  obtain ⟨K, hK⟩ : ∃ K : Nat, d.Wait = (K : Int) := ⟨d.Wait.toNat, by omega⟩
  have g1 : 1 ≤ W := by omega
  have g2 : 2 * W + K ≤ 11 := by omega
  obtain ⟨b1, b2, b3, s, r, w, dm, dw⟩ := doorway_eq (R := Unit) (N := N) (by omega) hW hK g1 g2
  rw [dw]
  obtain ⟨x1, x2, y1, y2⟩ := Doors_eq (show 10000 ≤ N by omega) d br (by have := hb.2; omega) hNn
  have hE : doorsE d br = 0 := doorsE_zero.2 ⟨hd, hb⟩
  obtain ⟨hn, _, _⟩ := doors_all hd hb
  simp only [Bool.not_true, cond_false]
  rw [y2, hE]
  simp only [bne_self_eq_false, cond_false, y1.len]
  unfold doorsF at y1
  rw [hW, hK] at hn y1
  have hpos := hn.pos
  generalize doorsN d br = n at *
  have c1 : ((n : Int) == 0) = false := by simp; omega
  rw [c1, cond_false]
  by_cases c2 : (n : Int) > 200
  · simp only [c2, decide_true, cond_true]
    exact hmv
  have c3 : decide ((n : Int) ≤ (n : Int)) = true := by simp
  have c4 : decide ((n : Int) ≤ 1073741824) = true := by simp; omega
  simp only [c2, decide_false, cond_false, c3, c4, Bool.and_self, cond_true, Int.toNat_natCast]
  have hbb := hb.1
  obtain ⟨x', z1, z2, z3⟩ := td_l13 (R := Unit) N (br := br) (fun j hj => ⟨bG_nonneg hbb j hj, (hbb j (by omega) hj).2⟩) (by have := hb.2; omega) (m := n) b3 w x1 x2 false false I1 true O0 true C0 b1 s b2 r _ br.n 0 N (lst intC n (zeroC [SV.int IntKind.i64 (0 : Int)])) (by omega) (by omega) rfl (fun t ht => by
    rw [if_neg (by rintro ⟨j, hj, _⟩; omega)]; rfl)
  refine Eq.trans z3 ?_
  obtain ⟨b4, l, gl, gr⟩ := run_eq (R := Unit) (N := N) (by omega) (dm_ok g1 g2 dm) (a := x') (by omega) (fun i hi => by
    rw [dm.i.len, z2 i (by omega)]; split <;> decide)
  rw [gr]
  have c5 : ((l.n : Int) != (n : Int)) = false := by rw [gl.len, z1]; simp
  simp only [bne_self_eq_false, cond_false, c5]
  have dr := dm_run g1 dm (bG_up hbb) hn (x := x'.f) (fun i hi => z2 i hi)
  have gl' : l.Is n (fun j => runP (⟨I1, O0, C0, s, r⟩ : pMa) x'.f (j + 1)) := by rw [← z1]; exact gl
  refine Eq.trans (td_l21 (R := Unit) N g1 g2 hn (by omega) dm.w y1 gl' dr b3 x1 b4 _ _ n 0 N (by omega) (by omega)) ?_
  exact hmv
end
end
end Go.Proofs.Ytpillmoddoccfaa
