import Derived.Test.YtpillmoddoccfabDoorH2
set_option maxRecDepth 100000
set_option maxHeartbeats 0
set_option linter.unusedVariables false
namespace Go.Proofs.YtpillmoddoccfabDoor
open Go.Sx
noncomputable section
def sP_Step_L6 : LoopSp := ⟨⟨[3, 4, 6, 8, 39, 40, 41], ⟨(dr 3 ((rPtr 0 0) :: (rPtr 1 0) :: (dr 1 ((rPtr 2 0) :: (dr 1 ((rPtr 3 0) :: (dr 30 ((rSl api_SetC) :: (rInt .i64) :: (rInt .i64) :: (dr 12 []))))))))), [(0, eBlk [rSl strC, rSl strC, rSl api_CounterC, rSl api_StateC, rSl api_RuleC]), (1, eBlkC api_PlaceC), (2, eBlkC api_PlaceC), (3, eBlkC api_RuleC)]⟩, 4⟩, [(some 2, ⟨[4, 6, 8], ⟨(dr 4 ((rPtr 0 0) :: (dr 1 ((rPtr 1 0) :: (dr 1 ((rPtr 2 0) :: (dr 45 []))))))), [(0, eBlkC api_PlaceC), (1, eBlkC api_PlaceC), (2, eBlkC api_RuleC)]⟩, 3⟩)]⟩
theorem sP_Step_L6_ok : sP_Step_L6.Ok := ⟨⟨(drCons 3 (allCons (rPtr_ok 0 0) (allCons (rPtr_ok 1 0) (drCons 1 (allCons (rPtr_ok 2 0) (drCons 1 (allCons (rPtr_ok 3 0) (drCons 30 (allCons (rSl_ok api_SetC_ok) (allCons (rInt_ok .i64) (allCons (rInt_ok .i64) (drCons 12 allNil)))))))))))), (eCons (eBlk_ok (allCons (rSl_ok strC_ok) (allCons (rSl_ok strC_ok) (allCons (rSl_ok api_CounterC_ok) (allCons (rSl_ok api_StateC_ok) (allCons (rSl_ok api_RuleC_ok) allNil)))))) (eCons (eBlkC_ok api_PlaceC_ok api_PlaceC_len) (eCons (eBlkC_ok api_PlaceC_ok api_PlaceC_len) (eCons (eBlkC_ok api_RuleC_ok api_RuleC_len) eNil))))⟩, (xCons ⟨(drCons 4 (allCons (rPtr_ok 0 0) (drCons 1 (allCons (rPtr_ok 1 0) (drCons 1 (allCons (rPtr_ok 2 0) (drCons 45 allNil))))))), (eCons (eBlkC_ok api_PlaceC_ok api_PlaceC_len) (eCons (eBlkC_ok api_PlaceC_ok api_PlaceC_len) (eCons (eBlkC_ok api_RuleC_ok api_RuleC_len) eNil)))⟩ xNil)⟩
def sP_Step_h6 (v691 : Arr api_Set) (v692 : Int) (v693 : Int) (v694 : Arr ByteArray) (v695 : Arr ByteArray) (v696 : Arr api_Counter) (v697 : Arr api_State) (v698 : Arr api_Rule) (v699 : api_Place) (v700 : api_Place) (v701 : api_Rule) : St := ⟨(un 3 ((.ptr 0 0) :: (.ptr 1 0) :: (un 1 ((.ptr 2 0) :: (un 1 ((.ptr 3 0) :: (un 30 ((slC api_SetC v691) :: (.int .i64 v692) :: (.int .i64 v693) :: (un 12 []))))))))), [(0, .blk [slC strC v694, slC strC v695, slC api_CounterC v696, slC api_StateC v697, slC api_RuleC v698]), (1, .blk (Cod.enc api_PlaceC v699)), (2, .blk (Cod.enc api_PlaceC v700)), (3, .blk (Cod.enc api_RuleC v701))], 4⟩
def sP_Step_x6_2 (v700 : api_Place) (v701 : api_Rule) (q0 : api_Place) : St := ⟨(un 4 ((.ptr 0 0) :: (un 1 ((.ptr 1 0) :: (un 1 ((.ptr 2 0) :: (un 45 []))))))), [(0, .blk (Cod.enc api_PlaceC q0)), (1, .blk (Cod.enc api_PlaceC v700)), (2, .blk (Cod.enc api_RuleC v701))], 3⟩
def sP_Step_b6 {R : Type} (N : Nat) (rc : Arr api_Set → Int → Int → Arr ByteArray → Arr ByteArray → Arr api_Counter → Arr api_State → Arr api_Rule → api_Place → api_Place → api_Rule → Option R) (v691 : Arr api_Set) (v692 : Int) (v693 : Int) (v694 : Arr ByteArray) (v695 : Arr ByteArray) (v696 : Arr api_Counter) (v697 : Arr api_State) (v698 : Arr api_Rule) (v699 : api_Place) (v700 : api_Place) (v701 : api_Rule) (k2 : api_Place → Option R) : Option R :=
 bif decide (v693 < v692) then
 bif decide ((0 : Int) ≤ v693) && decide (v693 < (↑(Arr.n v691) : Int)) then
 sP_set N v694 v695 v696 v697 v698 (Arr.f v691 (Int.toNat v693)) v699 (fun r709 =>
 rc v691 v692 (w64 (v693 + (1 : Int))) v694 v695 v696 v697 v698 r709 v700 v701)
 else
 Option.none
 else
 k2 v699
def sP_Step_l6 {R : Type} (N : Nat) : Nat → Arr api_Set → Int → Int → Arr ByteArray → Arr ByteArray → Arr api_Counter → Arr api_State → Arr api_Rule → api_Place → api_Place → api_Rule → (api_Place → Option R) → Option R
  | 0, _, _, _, _, _, _, _, _, _, _, _, _ => Option.none
  | n + 1, v691, v692, v693, v694, v695, v696, v697, v698, v699, v700, v701, k2 => sP_Step_b6 N (fun v691 v692 v693 v694 v695 v696 v697 v698 v699 v700 v701 => sP_Step_l6 N n v691 v692 v693 v694 v695 v696 v697 v698 v699 v700 v701 k2) v691 v692 v693 v694 v695 v696 v697 v698 v699 v700 v701 k2
def sP_Step_L2 : LoopSp := ⟨⟨[2, 3, 4, 6, 13, 14, 15], ⟨(dr 2 ((rInt .i64) :: (rPtr 0 0) :: (rPtr 1 0) :: (dr 1 ((rPtr 2 0) :: (dr 6 ((rSl api_RuleC) :: (rInt .i64) :: (rInt .i64) :: (dr 38 []))))))), [(0, eBlk [rSl strC, rSl strC, rSl api_CounterC, rSl api_StateC, rSl api_RuleC]), (1, eBlkC api_PlaceC), (2, eBlkC api_PlaceC)]⟩, 3⟩, [(some 0, ⟨[4, 6], ⟨(dr 4 ((rPtr 0 0) :: (dr 1 ((rPtr 1 0) :: (dr 47 []))))), [(0, eBlkC api_PlaceC), (1, eBlkC api_PlaceC)]⟩, 2⟩)]⟩
theorem sP_Step_L2_ok : sP_Step_L2.Ok := ⟨⟨(drCons 2 (allCons (rInt_ok .i64) (allCons (rPtr_ok 0 0) (allCons (rPtr_ok 1 0) (drCons 1 (allCons (rPtr_ok 2 0) (drCons 6 (allCons (rSl_ok api_RuleC_ok) (allCons (rInt_ok .i64) (allCons (rInt_ok .i64) (drCons 38 allNil))))))))))), (eCons (eBlk_ok (allCons (rSl_ok strC_ok) (allCons (rSl_ok strC_ok) (allCons (rSl_ok api_CounterC_ok) (allCons (rSl_ok api_StateC_ok) (allCons (rSl_ok api_RuleC_ok) allNil)))))) (eCons (eBlkC_ok api_PlaceC_ok api_PlaceC_len) (eCons (eBlkC_ok api_PlaceC_ok api_PlaceC_len) eNil)))⟩, (xCons ⟨(drCons 4 (allCons (rPtr_ok 0 0) (drCons 1 (allCons (rPtr_ok 1 0) (drCons 47 allNil))))), (eCons (eBlkC_ok api_PlaceC_ok api_PlaceC_len) (eCons (eBlkC_ok api_PlaceC_ok api_PlaceC_len) eNil))⟩ xNil)⟩
def sP_Step_h2 (v679 : Int) (v680 : Arr api_Rule) (v681 : Int) (v682 : Int) (v683 : Arr ByteArray) (v684 : Arr ByteArray) (v685 : Arr api_Counter) (v686 : Arr api_State) (v687 : Arr api_Rule) (v688 : api_Place) (v689 : api_Place) : St := ⟨(un 2 ((.int .i64 v679) :: (.ptr 0 0) :: (.ptr 1 0) :: (un 1 ((.ptr 2 0) :: (un 6 ((slC api_RuleC v680) :: (.int .i64 v681) :: (.int .i64 v682) :: (un 38 []))))))), [(0, .blk [slC strC v683, slC strC v684, slC api_CounterC v685, slC api_StateC v686, slC api_RuleC v687]), (1, .blk (Cod.enc api_PlaceC v688)), (2, .blk (Cod.enc api_PlaceC v689))], 3⟩
def sP_Step_x2_0 (v689 : api_Place) (q0 : api_Place) : St := ⟨(un 4 ((.ptr 0 0) :: (un 1 ((.ptr 1 0) :: (un 47 []))))), [(0, .blk (Cod.enc api_PlaceC q0)), (1, .blk (Cod.enc api_PlaceC v689))], 2⟩
def sP_Step_b2 {R : Type} (N : Nat) (rc : Int → Arr api_Rule → Int → Int → Arr ByteArray → Arr ByteArray → Arr api_Counter → Arr api_State → Arr api_Rule → api_Place → api_Place → Option R) (v679 : Int) (v680 : Arr api_Rule) (v681 : Int) (v682 : Int) (v683 : Arr ByteArray) (v684 : Arr ByteArray) (v685 : Arr api_Counter) (v686 : Arr api_State) (v687 : Arr api_Rule) (v688 : api_Place) (v689 : api_Place) (k0 : api_Place → Option R) : Option R :=
 bif decide (v682 < v681) then
 bif decide ((0 : Int) ≤ v682) && decide (v682 < (↑(Arr.n v680) : Int)) then
 bif api_Rule.From (Arr.f v680 (Int.toNat v682)) != (-1 : Int) then
 bif api_Rule.From (Arr.f v680 (Int.toNat v682)) != api_Place.State v688 then
 rc v679 v680 v681 (w64 (v682 + (1 : Int))) v683 v684 v685 v686 v687 v688 v689
 else
 sP_Holds N v683 v684 v685 v686 v687 (api_Rule.When (Arr.f v680 (Int.toNat v682))) v688 v679 (fun r690 =>
 bif !r690 then
 rc v679 v680 v681 (w64 (v682 + (1 : Int))) v683 v684 v685 v686 v687 v688 v689
 else
 sP_Step_l6 N N (api_Rule.Sets (Arr.f v680 (Int.toNat v682))) ((↑(Arr.n (api_Rule.Sets (Arr.f v680 (Int.toNat v682)))) : Int)) (0 : Int) v683 v684 v685 v686 v687 v688 v689 (Arr.f v680 (Int.toNat v682)) (fun r710 =>
 k0 (api_Place.mk (api_Rule.To (Arr.f v680 (Int.toNat v682))) (api_Place.Values r710))))
 else
 sP_Holds N v683 v684 v685 v686 v687 (api_Rule.When (Arr.f v680 (Int.toNat v682))) v688 v679 (fun r711 =>
 bif !r711 then
 rc v679 v680 v681 (w64 (v682 + (1 : Int))) v683 v684 v685 v686 v687 v688 v689
 else
 sP_Step_l6 N N (api_Rule.Sets (Arr.f v680 (Int.toNat v682))) ((↑(Arr.n (api_Rule.Sets (Arr.f v680 (Int.toNat v682)))) : Int)) (0 : Int) v683 v684 v685 v686 v687 v688 v689 (Arr.f v680 (Int.toNat v682)) (fun r712 =>
 k0 (api_Place.mk (api_Rule.To (Arr.f v680 (Int.toNat v682))) (api_Place.Values r712))))
 else
 Option.none
 else
 k0 v688
def sP_Step_l2 {R : Type} (N : Nat) : Nat → Int → Arr api_Rule → Int → Int → Arr ByteArray → Arr ByteArray → Arr api_Counter → Arr api_State → Arr api_Rule → api_Place → api_Place → (api_Place → Option R) → Option R
  | 0, _, _, _, _, _, _, _, _, _, _, _, _ => Option.none
  | n + 1, v679, v680, v681, v682, v683, v684, v685, v686, v687, v688, v689, k0 => sP_Step_b2 N (fun v679 v680 v681 v682 v683 v684 v685 v686 v687 v688 v689 => sP_Step_l2 N n v679 v680 v681 v682 v683 v684 v685 v686 v687 v688 v689 k0) v679 v680 v681 v682 v683 v684 v685 v686 v687 v688 v689 k0
def sP_Step_m {R : Type} (N : Nat) (a672 : Arr ByteArray) (a673 : Arr ByteArray) (a674 : Arr api_Counter) (a675 : Arr api_State) (a676 : Arr api_Rule) (a677 : api_Place) (a678 : Int) (k : api_Place → Option R) : Option R :=
 sP_Step_l2 N N a678 a676 ((↑(Arr.n a676) : Int)) (0 : Int) a672 a673 a674 a675 a676 a677 (api_Place.mk (0 : Int) (Arr2_int.mk (0 : Int) (0 : Int))) (fun r713 =>
 k r713)
noncomputable def sP_Step {R : Type} : Nat → Arr ByteArray → Arr ByteArray → Arr api_Counter → Arr api_State → Arr api_Rule → api_Place → Int → (api_Place → Option R) → Option R := lock (@sP_Step_m R)
theorem sP_Step_def {R : Type} (N : Nat) (a672 : Arr ByteArray) (a673 : Arr ByteArray) (a674 : Arr api_Counter) (a675 : Arr api_State) (a676 : Arr api_Rule) (a677 : api_Place) (a678 : Int) (k : api_Place → Option R) : sP_Step N a672 a673 a674 a675 a676 a677 a678 k = sP_Step_m N a672 a673 a674 a675 a676 a677 a678 k := by unfold sP_Step; rw [lock_eq]
def sP_Step_sp : Sp := ⟨[rAggs [rSl strC, rSl strC, rSl api_CounterC, rSl api_StateC, rSl api_RuleC], rAgg api_PlaceC, rInt .i64], []⟩
theorem sP_Step_sp_ok : sP_Step_sp.Ok := ⟨(allCons (rAggs_ok (allCons (rSl_ok strC_ok) (allCons (rSl_ok strC_ok) (allCons (rSl_ok api_CounterC_ok) (allCons (rSl_ok api_StateC_ok) (allCons (rSl_ok api_RuleC_ok) allNil)))))) (allCons (rAgg_ok api_PlaceC_ok api_PlaceC_len) (allCons (rInt_ok .i64) allNil))), eNil⟩
def sP_Step_rs : Sp := ⟨[rAgg api_PlaceC], []⟩
theorem sP_Step_rs_ok : sP_Step_rs.Ok := ⟨(allCons (rAgg_ok api_PlaceC_ok api_PlaceC_len) allNil), eNil⟩
def sP_Step_run {R : Type} (N : Nat) (args : List SV) (T : Tab) (kf : SV × Tab → Option R) : Option R :=
  sP_Step_m N (lstC strC (lget (toCs (lget args 0)) 0)) (lstC strC (lget (toCs (lget args 0)) 1)) (lstC api_CounterC (lget (toCs (lget args 0)) 2)) (lstC api_StateC (lget (toCs (lget args 0)) 3)) (lstC api_RuleC (lget (toCs (lget args 0)) 4)) (Cod.dec api_PlaceC (lget (toCs (lget args 1)))) (toI (lget args 2)) (fun q0 => kf (lget [.agg (Cod.enc api_PlaceC q0)] 0, []))
def sP_Step_d6 {R : Type} (N : Nat) (S0 : St) (k : Exit → St → Option R) : Option R :=
  sP_Step_l6 N N (lstC api_SetC (lget S0.tmps 39)) (toI (lget S0.tmps 40)) (toI (lget S0.tmps 41)) (lstC strC (lget (entCs (entAt S0.tab 0)) 0)) (lstC strC (lget (entCs (entAt S0.tab 0)) 1)) (lstC api_CounterC (lget (entCs (entAt S0.tab 0)) 2)) (lstC api_StateC (lget (entCs (entAt S0.tab 0)) 3)) (lstC api_RuleC (lget (entCs (entAt S0.tab 0)) 4)) (Cod.dec api_PlaceC (lget (entCs (entAt S0.tab 1)))) (Cod.dec api_PlaceC (lget (entCs (entAt S0.tab 2)))) (Cod.dec api_RuleC (lget (entCs (entAt S0.tab 3)))) (fun q0 => k (.exit 2) (sP_Step_x6_2 (Cod.dec api_PlaceC (lget (entCs (entAt S0.tab 2)))) (Cod.dec api_RuleC (lget (entCs (entAt S0.tab 3)))) q0))
def sP_Step_d2 {R : Type} (N : Nat) (S0 : St) (k : Exit → St → Option R) : Option R :=
  sP_Step_l2 N N (toI (lget S0.tmps 2)) (lstC api_RuleC (lget S0.tmps 13)) (toI (lget S0.tmps 14)) (toI (lget S0.tmps 15)) (lstC strC (lget (entCs (entAt S0.tab 0)) 0)) (lstC strC (lget (entCs (entAt S0.tab 0)) 1)) (lstC api_CounterC (lget (entCs (entAt S0.tab 0)) 2)) (lstC api_StateC (lget (entCs (entAt S0.tab 0)) 3)) (lstC api_RuleC (lget (entCs (entAt S0.tab 0)) 4)) (Cod.dec api_PlaceC (lget (entCs (entAt S0.tab 1)))) (Cod.dec api_PlaceC (lget (entCs (entAt S0.tab 2)))) (fun q0 => k (.exit 0) (sP_Step_x2_0 (Cod.dec api_PlaceC (lget (entCs (entAt S0.tab 2)))) q0))
def sP_Step_lp {R : Type} (N : Nat) : Lp R := fun body S k => bif (Go.Sx.keyOf body).getD 0 == 2 then (sP_Step_L2.head.raw 0 S (fun S0 => sP_Step_d2 N S0 k)) else bif (Go.Sx.keyOf body).getD 0 == 6 then (sP_Step_L6.head.raw 0 S (fun S0 => sP_Step_d6 N S0 k)) else Option.none
theorem sP_Step_l2_eq {R : Type} (N : Nat) (k : Exit → St → Option R) (n : Nat) : ∀ (v0 : Int) (v1 : Arr api_Rule) (v2 : Int) (v3 : Int) (v4 : Arr ByteArray) (v5 : Arr ByteArray) (v6 : Arr api_Counter) (v7 : Arr api_State) (v8 : Arr api_Rule) (v9 : api_Place) (v10 : api_Place), loopM E.Θ (sP_set_cal N) (sP_Step_lp N) (noJn) 0 sP_Step_L2 (bodyAt E 56 2) n (sP_Step_h2 v0 v1 v2 v3 v4 v5 v6 v7 v8 v9 v10) k = sP_Step_l2 N n v0 v1 v2 v3 v4 v5 v6 v7 v8 v9 v10 (fun q0 => k (.exit 0) (sP_Step_x2_0 v10 q0)) := by
  induction n with
  | zero => intro v0 v1 v2 v3 v4 v5 v6 v7 v8 v9 v10; rfl
  | succ n ih =>
    intro v0 v1 v2 v3 v4 v5 v6 v7 v8 v9 v10
    refine Eq.trans (b := sP_Step_b2 N (fun v0 v1 v2 v3 v4 v5 v6 v7 v8 v9 v10 => loopM E.Θ (sP_set_cal N) (sP_Step_lp N) (noJn) 0 sP_Step_L2 (bodyAt E 56 2) n (sP_Step_h2 v0 v1 v2 v3 v4 v5 v6 v7 v8 v9 v10) k) v0 v1 v2 v3 v4 v5 v6 v7 v8 v9 v10 (fun q0 => k (.exit 0) (sP_Step_x2_0 v10 q0))) (by kernel_rfl) ?_
    have h : (fun (v0 : Int) (v1 : Arr api_Rule) (v2 : Int) (v3 : Int) (v4 : Arr ByteArray) (v5 : Arr ByteArray) (v6 : Arr api_Counter) (v7 : Arr api_State) (v8 : Arr api_Rule) (v9 : api_Place) (v10 : api_Place) => loopM E.Θ (sP_set_cal N) (sP_Step_lp N) (noJn) 0 sP_Step_L2 (bodyAt E 56 2) n (sP_Step_h2 v0 v1 v2 v3 v4 v5 v6 v7 v8 v9 v10) k) = (fun (v0 : Int) (v1 : Arr api_Rule) (v2 : Int) (v3 : Int) (v4 : Arr ByteArray) (v5 : Arr ByteArray) (v6 : Arr api_Counter) (v7 : Arr api_State) (v8 : Arr api_Rule) (v9 : api_Place) (v10 : api_Place) => sP_Step_l2 N n v0 v1 v2 v3 v4 v5 v6 v7 v8 v9 v10 (fun q0 => k (.exit 0) (sP_Step_x2_0 v10 q0))) := funext fun v0 => funext fun v1 => funext fun v2 => funext fun v3 => funext fun v4 => funext fun v5 => funext fun v6 => funext fun v7 => funext fun v8 => funext fun v9 => funext fun v10 => ih v0 v1 v2 v3 v4 v5 v6 v7 v8 v9 v10
    rw [h]
    rfl
theorem sP_Step_l6_eq {R : Type} (N : Nat) (k : Exit → St → Option R) (n : Nat) : ∀ (v0 : Arr api_Set) (v1 : Int) (v2 : Int) (v3 : Arr ByteArray) (v4 : Arr ByteArray) (v5 : Arr api_Counter) (v6 : Arr api_State) (v7 : Arr api_Rule) (v8 : api_Place) (v9 : api_Place) (v10 : api_Rule), loopM E.Θ (sP_set_cal N) (sP_Step_lp N) (noJn) 0 sP_Step_L6 (bodyAt E 56 6) n (sP_Step_h6 v0 v1 v2 v3 v4 v5 v6 v7 v8 v9 v10) k = sP_Step_l6 N n v0 v1 v2 v3 v4 v5 v6 v7 v8 v9 v10 (fun q0 => k (.exit 2) (sP_Step_x6_2 v9 v10 q0)) := by
  induction n with
  | zero => intro v0 v1 v2 v3 v4 v5 v6 v7 v8 v9 v10; rfl
  | succ n ih =>
    intro v0 v1 v2 v3 v4 v5 v6 v7 v8 v9 v10
    refine Eq.trans (b := sP_Step_b6 N (fun v0 v1 v2 v3 v4 v5 v6 v7 v8 v9 v10 => loopM E.Θ (sP_set_cal N) (sP_Step_lp N) (noJn) 0 sP_Step_L6 (bodyAt E 56 6) n (sP_Step_h6 v0 v1 v2 v3 v4 v5 v6 v7 v8 v9 v10) k) v0 v1 v2 v3 v4 v5 v6 v7 v8 v9 v10 (fun q0 => k (.exit 2) (sP_Step_x6_2 v9 v10 q0))) (by kernel_rfl) ?_
    have h : (fun (v0 : Arr api_Set) (v1 : Int) (v2 : Int) (v3 : Arr ByteArray) (v4 : Arr ByteArray) (v5 : Arr api_Counter) (v6 : Arr api_State) (v7 : Arr api_Rule) (v8 : api_Place) (v9 : api_Place) (v10 : api_Rule) => loopM E.Θ (sP_set_cal N) (sP_Step_lp N) (noJn) 0 sP_Step_L6 (bodyAt E 56 6) n (sP_Step_h6 v0 v1 v2 v3 v4 v5 v6 v7 v8 v9 v10) k) = (fun (v0 : Arr api_Set) (v1 : Int) (v2 : Int) (v3 : Arr ByteArray) (v4 : Arr ByteArray) (v5 : Arr api_Counter) (v6 : Arr api_State) (v7 : Arr api_Rule) (v8 : api_Place) (v9 : api_Place) (v10 : api_Rule) => sP_Step_l6 N n v0 v1 v2 v3 v4 v5 v6 v7 v8 v9 v10 (fun q0 => k (.exit 2) (sP_Step_x6_2 v9 v10 q0))) := funext fun v0 => funext fun v1 => funext fun v2 => funext fun v3 => funext fun v4 => funext fun v5 => funext fun v6 => funext fun v7 => funext fun v8 => funext fun v9 => funext fun v10 => ih v0 v1 v2 v3 v4 v5 v6 v7 v8 v9 v10
    rw [h]
    rfl
theorem sP_Step_k6 {R : Type} (N : Nat) : LpKey (R := R) E 56 0 (sP_Step_lp N) 6 :=
  lpKey_of hE (sP_set_cal_ok N) (lp := sP_Step_lp N) (jn := noJn) sP_Step_L6_ok [] kNil (by kernel_rfl) [] jNil (by kernel_rfl) N fun S k =>
    Eq.trans (b := sP_Step_L6.head.raw 0 S (fun S0 => sP_Step_d6 N S0 k)) (by kernel_rfl) (congrArg (sP_Step_L6.head.raw 0 S) (funext fun S0 => Eq.trans (sP_Step_l6_eq N k N (lstC api_SetC (lget S0.tmps 39)) (toI (lget S0.tmps 40)) (toI (lget S0.tmps 41)) (lstC strC (lget (entCs (entAt S0.tab 0)) 0)) (lstC strC (lget (entCs (entAt S0.tab 0)) 1)) (lstC api_CounterC (lget (entCs (entAt S0.tab 0)) 2)) (lstC api_StateC (lget (entCs (entAt S0.tab 0)) 3)) (lstC api_RuleC (lget (entCs (entAt S0.tab 0)) 4)) (Cod.dec api_PlaceC (lget (entCs (entAt S0.tab 1)))) (Cod.dec api_PlaceC (lget (entCs (entAt S0.tab 2)))) (Cod.dec api_RuleC (lget (entCs (entAt S0.tab 3))))).symm (by kernel_rfl)))
theorem sP_Step_k2 {R : Type} (N : Nat) : LpKey (R := R) E 56 0 (sP_Step_lp N) 2 :=
  lpKey_of hE (sP_set_cal_ok N) (lp := sP_Step_lp N) (jn := noJn) sP_Step_L2_ok [6] (kCons (sP_Step_k6 N) kNil) (by kernel_rfl) [] jNil (by kernel_rfl) N fun S k =>
    Eq.trans (b := sP_Step_L2.head.raw 0 S (fun S0 => sP_Step_d2 N S0 k)) (by kernel_rfl) (congrArg (sP_Step_L2.head.raw 0 S) (funext fun S0 => Eq.trans (sP_Step_l2_eq N k N (toI (lget S0.tmps 2)) (lstC api_RuleC (lget S0.tmps 13)) (toI (lget S0.tmps 14)) (toI (lget S0.tmps 15)) (lstC strC (lget (entCs (entAt S0.tab 0)) 0)) (lstC strC (lget (entCs (entAt S0.tab 0)) 1)) (lstC api_CounterC (lget (entCs (entAt S0.tab 0)) 2)) (lstC api_StateC (lget (entCs (entAt S0.tab 0)) 3)) (lstC api_RuleC (lget (entCs (entAt S0.tab 0)) 4)) (Cod.dec api_PlaceC (lget (entCs (entAt S0.tab 1)))) (Cod.dec api_PlaceC (lget (entCs (entAt S0.tab 2))))).symm (by kernel_rfl)))
noncomputable def sP_Step_go {R : Type} (N : Nat) (args : List SV) (T : Tab) (kf : SV × Tab → Option R) : Option R :=
  sP_Step N (lstC strC (lget (toCs (lget args 0)) 0)) (lstC strC (lget (toCs (lget args 0)) 1)) (lstC api_CounterC (lget (toCs (lget args 0)) 2)) (lstC api_StateC (lget (toCs (lget args 0)) 3)) (lstC api_RuleC (lget (toCs (lget args 0)) 4)) (Cod.dec api_PlaceC (lget (toCs (lget args 1)))) (toI (lget args 2)) (fun q0 => kf (lget [.agg (Cod.enc api_PlaceC q0)] 0, []))
noncomputable def sP_Step_cal {R : Type} (N : Nat) : Cal R := callM (sP_set_cal N) 56 0 sP_Step_sp (sP_Step_go N)
theorem sP_Step_cal_ok {R : Type} (N : Nat) : CalOk E.P (sP_Step_cal (R := R) N) :=
  callM_ok hE (sP_set_cal_ok N) (lp := sP_Step_lp N) (jn := noJn) (keys := [2, 6]) (kCons (sP_Step_k2 N) (kCons (sP_Step_k6 N) kNil)) (by kernel_rfl) (js := []) jNil (by kernel_rfl) sP_Step_sp_ok sP_Step_rs_ok (fun args T kf => Eq.trans (sP_Step_def N (lstC strC (lget (toCs (lget args 0)) 0)) (lstC strC (lget (toCs (lget args 0)) 1)) (lstC api_CounterC (lget (toCs (lget args 0)) 2)) (lstC api_StateC (lget (toCs (lget args 0)) 3)) (lstC api_RuleC (lget (toCs (lget args 0)) 4)) (Cod.dec api_PlaceC (lget (toCs (lget args 1)))) (toI (lget args 2)) (fun q0 => kf (lget [.agg (Cod.enc api_PlaceC q0)] 0, []))) (by kernel_rfl : sP_Step_run N args T kf = fnM E (sP_set_cal N) (sP_Step_lp N) (noJn) 56 (sP_Step_sp.vs args) (sP_Step_sp.tab T) 0 (resK sP_Step_rs kf)))
def cP_explore_L9 : LoopSp := ⟨⟨[1, 2, 3, 7, 8, 9, 10, 11, 46, 47], ⟨(dr 1 ((rSl (lsC api_LiteralC)) :: (rFunc 52 0 []) :: (rPtr 0 0) :: (dr 3 ((rPtr 1 0) :: (rRow 2) :: (rInt .i64) :: (rPtr 3 0) :: (rRow 4) :: (dr 34 ((rInt .i64) :: (rInt .i64) :: (dr 81 []))))))), [(0, eBlk [rSl strC, rSl strC, rSl api_CounterC, rSl api_StateC, rSl api_RuleC]), (1, eBlk [rRow 5, rRow 6, rRow 7, rRow 8]), (2, eMp true false api_PlaceC intC), (3, eBlkC api_PlaceC), (4, eRow intC), (5, eRow api_PlaceC), (6, eRow intC), (7, eRow intC), (8, eRow (lsC intC))]⟩, 9⟩, [(some 2, ⟨[1, 2, 3, 7, 8, 9, 11], ⟨(dr 1 ((rSl (lsC api_LiteralC)) :: (rFunc 52 0 []) :: (rPtr 0 0) :: (dr 3 ((rPtr 1 0) :: (rRow 2) :: (rInt .i64) :: (dr 1 ((rRow 3) :: (dr 117 []))))))), [(0, eBlk [rSl strC, rSl strC, rSl api_CounterC, rSl api_StateC, rSl api_RuleC]), (1, eBlk [rRow 4, rRow 5, rRow 6, rRow 7]), (2, eMp true false api_PlaceC intC), (3, eRow intC), (4, eRow api_PlaceC), (5, eRow intC), (6, eRow intC), (7, eRow (lsC intC))]⟩, 8⟩)]⟩
theorem cP_explore_L9_ok : cP_explore_L9.Ok := ⟨⟨(drCons 1 (allCons (rSl_ok (lsC_ok api_LiteralC_ok)) (allCons (rFunc_ok 52 0 allNil) (allCons (rPtr_ok 0 0) (drCons 3 (allCons (rPtr_ok 1 0) (allCons (rRow_ok 2) (allCons (rInt_ok .i64) (allCons (rPtr_ok 3 0) (allCons (rRow_ok 4) (drCons 34 (allCons (rInt_ok .i64) (allCons (rInt_ok .i64) (drCons 81 allNil)))))))))))))), (eCons (eBlk_ok (allCons (rSl_ok strC_ok) (allCons (rSl_ok strC_ok) (allCons (rSl_ok api_CounterC_ok) (allCons (rSl_ok api_StateC_ok) (allCons (rSl_ok api_RuleC_ok) allNil)))))) (eCons (eBlk_ok (allCons (rRow_ok 5) (allCons (rRow_ok 6) (allCons (rRow_ok 7) (allCons (rRow_ok 8) allNil))))) (eCons (eMp_ok api_PlaceC_flat intC_flat) (eCons (eBlkC_ok api_PlaceC_ok api_PlaceC_len) (eCons (eRow_ok intC_ok) (eCons (eRow_ok api_PlaceC_ok) (eCons (eRow_ok intC_ok) (eCons (eRow_ok intC_ok) (eCons (eRow_ok (lsC_ok intC_ok)) eNil)))))))))⟩, (xCons ⟨(drCons 1 (allCons (rSl_ok (lsC_ok api_LiteralC_ok)) (allCons (rFunc_ok 52 0 allNil) (allCons (rPtr_ok 0 0) (drCons 3 (allCons (rPtr_ok 1 0) (allCons (rRow_ok 2) (allCons (rInt_ok .i64) (drCons 1 (allCons (rRow_ok 3) (drCons 117 allNil))))))))))), (eCons (eBlk_ok (allCons (rSl_ok strC_ok) (allCons (rSl_ok strC_ok) (allCons (rSl_ok api_CounterC_ok) (allCons (rSl_ok api_StateC_ok) (allCons (rSl_ok api_RuleC_ok) allNil)))))) (eCons (eBlk_ok (allCons (rRow_ok 4) (allCons (rRow_ok 5) (allCons (rRow_ok 6) (allCons (rRow_ok 7) allNil))))) (eCons (eMp_ok api_PlaceC_flat intC_flat) (eCons (eRow_ok intC_ok) (eCons (eRow_ok api_PlaceC_ok) (eCons (eRow_ok intC_ok) (eCons (eRow_ok intC_ok) (eCons (eRow_ok (lsC_ok intC_ok)) eNil))))))))⟩ xNil)⟩
def cP_explore_h9 (v524 : Arr (Arr api_Literal)) (v525 : Int) (v526 : Int) (v527 : Int) (v528 : Arr ByteArray) (v529 : Arr ByteArray) (v530 : Arr api_Counter) (v531 : Arr api_State) (v532 : Arr api_Rule) (v533 : Mp api_Place Int) (v534 : api_Place) (v535 : Bool) (v536 : Arr Int) (v537 : Bool) (v538 : Arr api_Place) (v539 : Bool) (v540 : Arr Int) (v541 : Bool) (v542 : Arr Int) (v543 : Bool) (v544 : Arr (Arr Int)) : St := ⟨(un 1 ((slC (lsC api_LiteralC) v524) :: (.func 52 0 []) :: (.ptr 0 0) :: (un 3 ((.ptr 1 0) :: (.row 2) :: (.int .i64 v525) :: (.ptr 3 0) :: (.row 4) :: (un 34 ((.int .i64 v526) :: (.int .i64 v527) :: (un 81 []))))))), [(0, .blk [slC strC v528, slC strC v529, slC api_CounterC v530, slC api_StateC v531, slC api_RuleC v532]), (1, .blk [.row 5, .row 6, .row 7, .row 8]), (2, mpE true false api_PlaceC intC v533), (3, .blk (Cod.enc api_PlaceC v534)), (4, rowE intC v535 v536), (5, rowE api_PlaceC v537 v538), (6, rowE intC v539 v540), (7, rowE intC v541 v542), (8, rowE (lsC intC) v543 v544)], 9⟩
def cP_explore_x9_2 (v524 : Arr (Arr api_Literal)) (v525 : Int) (v528 : Arr ByteArray) (v529 : Arr ByteArray) (v530 : Arr api_Counter) (v531 : Arr api_State) (v532 : Arr api_Rule) (v535 : Bool) (v543 : Bool) (v544 : Arr (Arr Int)) (q7 : Mp api_Place Int) (q9 : Arr Int) (q10 : Bool) (q11 : Arr api_Place) (q12 : Bool) (q13 : Arr Int) (q14 : Bool) (q15 : Arr Int) : St := ⟨(un 1 ((slC (lsC api_LiteralC) v524) :: (.func 52 0 []) :: (.ptr 0 0) :: (un 3 ((.ptr 1 0) :: (.row 2) :: (.int .i64 v525) :: (un 1 ((.row 3) :: (un 117 []))))))), [(0, .blk [slC strC v528, slC strC v529, slC api_CounterC v530, slC api_StateC v531, slC api_RuleC v532]), (1, .blk [.row 4, .row 5, .row 6, .row 7]), (2, mpE true false api_PlaceC intC q7), (3, rowE intC v535 q9), (4, rowE api_PlaceC q10 q11), (5, rowE intC q12 q13), (6, rowE intC q14 q15), (7, rowE (lsC intC) v543 v544)], 8⟩
def cP_explore_b9 {R : Type} (N : Nat) (rc : Arr (Arr api_Literal) → Int → Int → Int → Arr ByteArray → Arr ByteArray → Arr api_Counter → Arr api_State → Arr api_Rule → Mp api_Place Int → api_Place → Bool → Arr Int → Bool → Arr api_Place → Bool → Arr Int → Bool → Arr Int → Bool → Arr (Arr Int) → Option R) (v524 : Arr (Arr api_Literal)) (v525 : Int) (v526 : Int) (v527 : Int) (v528 : Arr ByteArray) (v529 : Arr ByteArray) (v530 : Arr api_Counter) (v531 : Arr api_State) (v532 : Arr api_Rule) (v533 : Mp api_Place Int) (v534 : api_Place) (v535 : Bool) (v536 : Arr Int) (v537 : Bool) (v538 : Arr api_Place) (v539 : Bool) (v540 : Arr Int) (v541 : Bool) (v542 : Arr Int) (v543 : Bool) (v544 : Arr (Arr Int)) (k2 : Mp api_Place Int → Arr Int → Bool → Arr api_Place → Bool → Arr Int → Bool → Arr Int → Option R) : Option R :=
 bif decide (v527 < v526) then
 bif decide ((0 : Int) ≤ v527) && decide (v527 < (↑(Arr.n v536) : Int)) then
 sP_Allowed N v528 v529 v530 v531 v532 v524 v534 v527 (fun r670 =>
 bif !r670 then
 rc v524 v525 v526 (w64 (v527 + (1 : Int))) v528 v529 v530 v531 v532 v533 v534 v535 (lst intC (Arr.n v536) (setCs (Int.toNat v527) (0 : Nat) (Cod.cell intC (Arr.f v536)) [SV.int IntKind.i64 (-1 : Int)])) v537 v538 v539 v540 v541 v542 v543 v544
 else
 control_same N v527 (fun (_ : Unit) =>
 sP_Step N v528 v529 v530 v531 v532 v534 v527 (fun r714 =>
 bif !Mp.has v533 (api_Place.mk (api_Place.State r714) (Arr2_int.mk (Arr2_int.a0 (api_Place.Values r714)) (Arr2_int.a1 (api_Place.Values r714)))) then
 bif room (Arr.n v538 + (1 : Nat)) then
 bif room (Arr.n v540 + (1 : Nat)) then
 bif room (Arr.n v542 + (1 : Nat)) then
 bif decide ((0 : Int) ≤ v527) && decide (v527 < (↑(Arr.n v536) : Int)) then
 rc v524 v525 v526 (w64 (v527 + (1 : Int))) v528 v529 v530 v531 v532 (mpD api_PlaceC intC (putH [SV.int IntKind.i64 (api_Place.State r714), SV.int IntKind.i64 (Arr2_int.a0 (api_Place.Values r714)), SV.int IntKind.i64 (Arr2_int.a1 (api_Place.Values r714))] (mpH api_PlaceC v533)) (putG [SV.int IntKind.i64 (api_Place.State r714), SV.int IntKind.i64 (Arr2_int.a0 (api_Place.Values r714)), SV.int IntKind.i64 (Arr2_int.a1 (api_Place.Values r714))] [SV.int IntKind.i64 (↑(Arr.n v538) : Int)] (mpG api_PlaceC intC v533))) v534 v535 (lst intC (Arr.n v536) (setCs (Int.toNat v527) (0 : Nat) (setCs (Int.toNat v527) (0 : Nat) (Cod.cell intC (Arr.f v536)) [SV.int IntKind.i64 (-1 : Int)]) [SV.int IntKind.i64 (↑(Arr.n v538) : Int)])) false (lst api_PlaceC (Arr.n v538 + (1 : Nat)) (catC (Arr.n v538) (Cod.cell api_PlaceC (Arr.f v538)) (litC [SV.int .i64 0, SV.int .i64 0, SV.int .i64 0] [[SV.int IntKind.i64 (api_Place.State r714), SV.int IntKind.i64 (Arr2_int.a0 (api_Place.Values r714)), SV.int IntKind.i64 (Arr2_int.a1 (api_Place.Values r714))]]))) false (lst intC (Arr.n v540 + (1 : Nat)) (catC (Arr.n v540) (Cod.cell intC (Arr.f v540)) (litC [SV.int .i64 0] [[SV.int IntKind.i64 v525]]))) false (lst intC (Arr.n v542 + (1 : Nat)) (catC (Arr.n v542) (Cod.cell intC (Arr.f v542)) (litC [SV.int .i64 0] [[SV.int IntKind.i64 v527]]))) v543 v544
 else
 Option.none
 else
 Option.none
 else
 Option.none
 else
 Option.none
 else
 bif decide ((0 : Int) ≤ v527) && decide (v527 < (↑(Arr.n v536) : Int)) then
 rc v524 v525 v526 (w64 (v527 + (1 : Int))) v528 v529 v530 v531 v532 v533 v534 v535 (lst intC (Arr.n v536) (setCs (Int.toNat v527) (0 : Nat) (setCs (Int.toNat v527) (0 : Nat) (Cod.cell intC (Arr.f v536)) [SV.int IntKind.i64 (-1 : Int)]) [SV.int IntKind.i64 (Mp.get v533 (api_Place.mk (api_Place.State r714) (Arr2_int.mk (Arr2_int.a0 (api_Place.Values r714)) (Arr2_int.a1 (api_Place.Values r714)))))])) v537 v538 v539 v540 v541 v542 v543 v544
 else
 Option.none)))
 else
 Option.none
 else
 k2 v533 v536 v537 v538 v539 v540 v541 v542
def cP_explore_l9 {R : Type} (N : Nat) : Nat → Arr (Arr api_Literal) → Int → Int → Int → Arr ByteArray → Arr ByteArray → Arr api_Counter → Arr api_State → Arr api_Rule → Mp api_Place Int → api_Place → Bool → Arr Int → Bool → Arr api_Place → Bool → Arr Int → Bool → Arr Int → Bool → Arr (Arr Int) → (Mp api_Place Int → Arr Int → Bool → Arr api_Place → Bool → Arr Int → Bool → Arr Int → Option R) → Option R
  | 0, _, _, _, _, _, _, _, _, _, _, _, _, _, _, _, _, _, _, _, _, _, _ => Option.none
  | n + 1, v524, v525, v526, v527, v528, v529, v530, v531, v532, v533, v534, v535, v536, v537, v538, v539, v540, v541, v542, v543, v544, k2 => cP_explore_b9 N (fun v524 v525 v526 v527 v528 v529 v530 v531 v532 v533 v534 v535 v536 v537 v538 v539 v540 v541 v542 v543 v544 => cP_explore_l9 N n v524 v525 v526 v527 v528 v529 v530 v531 v532 v533 v534 v535 v536 v537 v538 v539 v540 v541 v542 v543 v544 k2) v524 v525 v526 v527 v528 v529 v530 v531 v532 v533 v534 v535 v536 v537 v538 v539 v540 v541 v542 v543 v544 k2
def cP_explore_L4 : LoopSp := ⟨⟨[1, 2, 3, 7, 8, 9], ⟨(dr 1 ((rSl (lsC api_LiteralC)) :: (rFunc 52 0 []) :: (rPtr 0 0) :: (dr 3 ((rPtr 1 0) :: (rRow 2) :: (rInt .i64) :: (dr 119 []))))), [(0, eBlk [rSl strC, rSl strC, rSl api_CounterC, rSl api_StateC, rSl api_RuleC]), (1, eBlk [rRow 3, rRow 4, rRow 5, rRow 6]), (2, eMp true false api_PlaceC intC), (3, eRow api_PlaceC), (4, eRow intC), (5, eRow intC), (6, eRow (lsC intC))]⟩, 7⟩, [(some 0, ⟨[7], ⟨(dr 7 ((rPtr 0 0) :: (dr 121 []))), [(0, eBlk [rRow 1, rRow 2, rRow 3, rRow 4]), (1, eRow api_PlaceC), (2, eRow intC), (3, eRow intC), (4, eRow (lsC intC))]⟩, 5⟩)]⟩
theorem cP_explore_L4_ok : cP_explore_L4.Ok := ⟨⟨(drCons 1 (allCons (rSl_ok (lsC_ok api_LiteralC_ok)) (allCons (rFunc_ok 52 0 allNil) (allCons (rPtr_ok 0 0) (drCons 3 (allCons (rPtr_ok 1 0) (allCons (rRow_ok 2) (allCons (rInt_ok .i64) (drCons 119 allNil))))))))), (eCons (eBlk_ok (allCons (rSl_ok strC_ok) (allCons (rSl_ok strC_ok) (allCons (rSl_ok api_CounterC_ok) (allCons (rSl_ok api_StateC_ok) (allCons (rSl_ok api_RuleC_ok) allNil)))))) (eCons (eBlk_ok (allCons (rRow_ok 3) (allCons (rRow_ok 4) (allCons (rRow_ok 5) (allCons (rRow_ok 6) allNil))))) (eCons (eMp_ok api_PlaceC_flat intC_flat) (eCons (eRow_ok api_PlaceC_ok) (eCons (eRow_ok intC_ok) (eCons (eRow_ok intC_ok) (eCons (eRow_ok (lsC_ok intC_ok)) eNil)))))))⟩, (xCons ⟨(drCons 7 (allCons (rPtr_ok 0 0) (drCons 121 allNil))), (eCons (eBlk_ok (allCons (rRow_ok 1) (allCons (rRow_ok 2) (allCons (rRow_ok 3) (allCons (rRow_ok 4) allNil))))) (eCons (eRow_ok api_PlaceC_ok) (eCons (eRow_ok intC_ok) (eCons (eRow_ok intC_ok) (eCons (eRow_ok (lsC_ok intC_ok)) eNil)))))⟩ xNil)⟩
def cP_explore_h4 (v502 : Arr (Arr api_Literal)) (v503 : Int) (v504 : Arr ByteArray) (v505 : Arr ByteArray) (v506 : Arr api_Counter) (v507 : Arr api_State) (v508 : Arr api_Rule) (v509 : Mp api_Place Int) (v510 : Bool) (v511 : Arr api_Place) (v512 : Bool) (v513 : Arr Int) (v514 : Bool) (v515 : Arr Int) (v516 : Bool) (v517 : Arr (Arr Int)) : St := ⟨(un 1 ((slC (lsC api_LiteralC) v502) :: (.func 52 0 []) :: (.ptr 0 0) :: (un 3 ((.ptr 1 0) :: (.row 2) :: (.int .i64 v503) :: (un 119 []))))), [(0, .blk [slC strC v504, slC strC v505, slC api_CounterC v506, slC api_StateC v507, slC api_RuleC v508]), (1, .blk [.row 3, .row 4, .row 5, .row 6]), (2, mpE true false api_PlaceC intC v509), (3, rowE api_PlaceC v510 v511), (4, rowE intC v512 v513), (5, rowE intC v514 v515), (6, rowE (lsC intC) v516 v517)], 7⟩
def cP_explore_x4_0 (q0 : Bool) (q1 : Arr api_Place) (q2 : Bool) (q3 : Arr Int) (q4 : Bool) (q5 : Arr Int) (q6 : Bool) (q7 : Arr (Arr Int)) : St := ⟨(un 7 ((.ptr 0 0) :: (un 121 []))), [(0, .blk [.row 1, .row 2, .row 3, .row 4]), (1, rowE api_PlaceC q0 q1), (2, rowE intC q2 q3), (3, rowE intC q4 q5), (4, rowE (lsC intC) q6 q7)], 5⟩
def cP_explore_b4 {R : Type} (N : Nat) (rc : Arr (Arr api_Literal) → Int → Arr ByteArray → Arr ByteArray → Arr api_Counter → Arr api_State → Arr api_Rule → Mp api_Place Int → Bool → Arr api_Place → Bool → Arr Int → Bool → Arr Int → Bool → Arr (Arr Int) → Option R) (v502 : Arr (Arr api_Literal)) (v503 : Int) (v504 : Arr ByteArray) (v505 : Arr ByteArray) (v506 : Arr api_Counter) (v507 : Arr api_State) (v508 : Arr api_Rule) (v509 : Mp api_Place Int) (v510 : Bool) (v511 : Arr api_Place) (v512 : Bool) (v513 : Arr Int) (v514 : Bool) (v515 : Arr Int) (v516 : Bool) (v517 : Arr (Arr Int)) (k0 : Bool → Arr api_Place → Bool → Arr Int → Bool → Arr Int → Bool → Arr (Arr Int) → Option R) : Option R :=
 bif decide (v503 < (↑(Arr.n v511) : Int)) then
 bif decide ((0 : Int) ≤ v503) && decide (v503 < (↑(Arr.n v511) : Int)) then
 sP_All N v504 v505 v506 v507 v508 (fun r523 =>
 bif decide ((0 : Int) ≤ r523) && decide (r523 ≤ r523) && decide (r523 ≤ (1073741824 : Int)) then
 cP_explore_l9 N N v502 v503 ((↑(Int.toNat r523) : Int)) (0 : Int) v504 v505 v506 v507 v508 v509 (Arr.f v511 (Int.toNat v503)) false (lst intC (Int.toNat r523) (zeroC [SV.int .i64 0])) v510 v511 v512 v513 v514 v515 v516 v517 (fun r715 r716 r717 r718 r719 r720 r721 r722 =>
 bif room (Arr.n v517 + (1 : Nat)) then
 rc v502 (w64 (v503 + (1 : Int))) v504 v505 v506 v507 v508 r715 r717 r718 r719 r720 r721 r722 false (lst (lsC intC) (Arr.n v517 + (1 : Nat)) (catC (Arr.n v517) (Cod.cell (lsC intC) (Arr.f v517)) (litC [SV.sl SK.nil (CK.cons (CK.int IntKind.i64) CK.nil) (1 : Nat) (0 : Nat) (zeroC [SV.int .i64 0])] [[slC intC r716]])))
 else
 Option.none)
 else
 Option.none)
 else
 Option.none
 else
 k0 v510 v511 v512 v513 v514 v515 v516 v517
def cP_explore_l4 {R : Type} (N : Nat) : Nat → Arr (Arr api_Literal) → Int → Arr ByteArray → Arr ByteArray → Arr api_Counter → Arr api_State → Arr api_Rule → Mp api_Place Int → Bool → Arr api_Place → Bool → Arr Int → Bool → Arr Int → Bool → Arr (Arr Int) → (Bool → Arr api_Place → Bool → Arr Int → Bool → Arr Int → Bool → Arr (Arr Int) → Option R) → Option R
  | 0, _, _, _, _, _, _, _, _, _, _, _, _, _, _, _, _, _ => Option.none
  | n + 1, v502, v503, v504, v505, v506, v507, v508, v509, v510, v511, v512, v513, v514, v515, v516, v517, k0 => cP_explore_b4 N (fun v502 v503 v504 v505 v506 v507 v508 v509 v510 v511 v512 v513 v514 v515 v516 v517 => cP_explore_l4 N n v502 v503 v504 v505 v506 v507 v508 v509 v510 v511 v512 v513 v514 v515 v516 v517 k0) v502 v503 v504 v505 v506 v507 v508 v509 v510 v511 v512 v513 v514 v515 v516 v517 k0
def cP_explore_m {R : Type} (N : Nat) (a496 : Arr ByteArray) (a497 : Arr ByteArray) (a498 : Arr api_Counter) (a499 : Arr api_State) (a500 : Arr api_Rule) (a501 : Arr (Arr api_Literal)) (k : Bool → Arr api_Place → Bool → Arr Int → Bool → Arr Int → Bool → Arr (Arr Int) → Option R) : Option R :=
 cP_explore_l4 N N a501 (0 : Int) a496 a497 a498 a499 a500 (mpD api_PlaceC intC (putH [SV.int .i64 0, SV.int .i64 0, SV.int .i64 0] noH) (putG [SV.int .i64 0, SV.int .i64 0, SV.int .i64 0] [SV.int .i64 0] (noG (CK.cons (CK.int IntKind.i64) CK.nil)))) false (lst api_PlaceC (1 : Nat) (litC [SV.int .i64 0, SV.int .i64 0, SV.int .i64 0] [[SV.int .i64 0, SV.int .i64 0, SV.int .i64 0]])) false (lst intC (1 : Nat) (litC [SV.int .i64 0] [[SV.int IntKind.i64 (-1 : Int)]])) false (lst intC (1 : Nat) (litC [SV.int .i64 0] [[SV.int .i64 0]])) true (lst (lsC intC) (0 : Nat) (zeroC [SV.sl SK.nil (CK.cons (CK.int IntKind.i64) CK.nil) (1 : Nat) (0 : Nat) (zeroC [SV.int .i64 0])])) (fun r723 r724 r725 r726 r727 r728 r729 r730 =>
 k r723 r724 r725 r726 r727 r728 r729 r730)
noncomputable def cP_explore {R : Type} : Nat → Arr ByteArray → Arr ByteArray → Arr api_Counter → Arr api_State → Arr api_Rule → Arr (Arr api_Literal) → (Bool → Arr api_Place → Bool → Arr Int → Bool → Arr Int → Bool → Arr (Arr Int) → Option R) → Option R := lock (@cP_explore_m R)
theorem cP_explore_def {R : Type} (N : Nat) (a496 : Arr ByteArray) (a497 : Arr ByteArray) (a498 : Arr api_Counter) (a499 : Arr api_State) (a500 : Arr api_Rule) (a501 : Arr (Arr api_Literal)) (k : Bool → Arr api_Place → Bool → Arr Int → Bool → Arr Int → Bool → Arr (Arr Int) → Option R) : cP_explore N a496 a497 a498 a499 a500 a501 k = cP_explore_m N a496 a497 a498 a499 a500 a501 k := by unfold cP_explore; rw [lock_eq]
def cP_explore_sp : Sp := ⟨[rAggs [rSl strC, rSl strC, rSl api_CounterC, rSl api_StateC, rSl api_RuleC], rSl (lsC api_LiteralC), rFunc 52 0 []], []⟩
theorem cP_explore_sp_ok : cP_explore_sp.Ok := ⟨(allCons (rAggs_ok (allCons (rSl_ok strC_ok) (allCons (rSl_ok strC_ok) (allCons (rSl_ok api_CounterC_ok) (allCons (rSl_ok api_StateC_ok) (allCons (rSl_ok api_RuleC_ok) allNil)))))) (allCons (rSl_ok (lsC_ok api_LiteralC_ok)) (allCons (rFunc_ok 52 0 allNil) allNil))), eNil⟩
def cP_explore_rs : Sp := ⟨[rPtr 0 0], [(0, eBlk [rRow 1, rRow 2, rRow 3, rRow 4]), (1, eRow api_PlaceC), (2, eRow intC), (3, eRow intC), (4, eRow (lsC intC))]⟩
theorem cP_explore_rs_ok : cP_explore_rs.Ok := ⟨(allCons (rPtr_ok 0 0) allNil), (eCons (eBlk_ok (allCons (rRow_ok 1) (allCons (rRow_ok 2) (allCons (rRow_ok 3) (allCons (rRow_ok 4) allNil))))) (eCons (eRow_ok api_PlaceC_ok) (eCons (eRow_ok intC_ok) (eCons (eRow_ok intC_ok) (eCons (eRow_ok (lsC_ok intC_ok)) eNil)))))⟩
def cP_explore_run {R : Type} (N : Nat) (args : List SV) (T : Tab) (kf : SV × Tab → Option R) : Option R :=
  cP_explore_m N (lstC strC (lget (toCs (lget args 0)) 0)) (lstC strC (lget (toCs (lget args 0)) 1)) (lstC api_CounterC (lget (toCs (lget args 0)) 2)) (lstC api_StateC (lget (toCs (lget args 0)) 3)) (lstC api_RuleC (lget (toCs (lget args 0)) 4)) (lstC (lsC api_LiteralC) (lget args 1)) (fun q0 q1 q2 q3 q4 q5 q6 q7 => kf (lget [.ptr 0 0] 0, [(0, .blk [.row 1, .row 2, .row 3, .row 4]), (1, rowE api_PlaceC q0 q1), (2, rowE intC q2 q3), (3, rowE intC q4 q5), (4, rowE (lsC intC) q6 q7)]))
def cP_explore_d9 {R : Type} (N : Nat) (S0 : St) (k : Exit → St → Option R) : Option R :=
  cP_explore_l9 N N (lstC (lsC api_LiteralC) (lget S0.tmps 1)) (toI (lget S0.tmps 9)) (toI (lget S0.tmps 46)) (toI (lget S0.tmps 47)) (lstC strC (lget (entCs (entAt S0.tab 0)) 0)) (lstC strC (lget (entCs (entAt S0.tab 0)) 1)) (lstC api_CounterC (lget (entCs (entAt S0.tab 0)) 2)) (lstC api_StateC (lget (entCs (entAt S0.tab 0)) 3)) (lstC api_RuleC (lget (entCs (entAt S0.tab 0)) 4)) (mpD api_PlaceC intC (entHs (entAt S0.tab 2)) (entGt (entAt S0.tab 2))) (Cod.dec api_PlaceC (lget (entCs (entAt S0.tab 3)))) (entNl (entAt S0.tab 4)) (lst intC (entN (entAt S0.tab 4)) (entC (entAt S0.tab 4))) (entNl (entAt S0.tab 5)) (lst api_PlaceC (entN (entAt S0.tab 5)) (entC (entAt S0.tab 5))) (entNl (entAt S0.tab 6)) (lst intC (entN (entAt S0.tab 6)) (entC (entAt S0.tab 6))) (entNl (entAt S0.tab 7)) (lst intC (entN (entAt S0.tab 7)) (entC (entAt S0.tab 7))) (entNl (entAt S0.tab 8)) (lst (lsC intC) (entN (entAt S0.tab 8)) (entC (entAt S0.tab 8))) (fun q7 q9 q10 q11 q12 q13 q14 q15 => k (.exit 2) (cP_explore_x9_2 (lstC (lsC api_LiteralC) (lget S0.tmps 1)) (toI (lget S0.tmps 9)) (lstC strC (lget (entCs (entAt S0.tab 0)) 0)) (lstC strC (lget (entCs (entAt S0.tab 0)) 1)) (lstC api_CounterC (lget (entCs (entAt S0.tab 0)) 2)) (lstC api_StateC (lget (entCs (entAt S0.tab 0)) 3)) (lstC api_RuleC (lget (entCs (entAt S0.tab 0)) 4)) (entNl (entAt S0.tab 4)) (entNl (entAt S0.tab 8)) (lst (lsC intC) (entN (entAt S0.tab 8)) (entC (entAt S0.tab 8))) q7 q9 q10 q11 q12 q13 q14 q15))
def cP_explore_d4 {R : Type} (N : Nat) (S0 : St) (k : Exit → St → Option R) : Option R :=
  cP_explore_l4 N N (lstC (lsC api_LiteralC) (lget S0.tmps 1)) (toI (lget S0.tmps 9)) (lstC strC (lget (entCs (entAt S0.tab 0)) 0)) (lstC strC (lget (entCs (entAt S0.tab 0)) 1)) (lstC api_CounterC (lget (entCs (entAt S0.tab 0)) 2)) (lstC api_StateC (lget (entCs (entAt S0.tab 0)) 3)) (lstC api_RuleC (lget (entCs (entAt S0.tab 0)) 4)) (mpD api_PlaceC intC (entHs (entAt S0.tab 2)) (entGt (entAt S0.tab 2))) (entNl (entAt S0.tab 3)) (lst api_PlaceC (entN (entAt S0.tab 3)) (entC (entAt S0.tab 3))) (entNl (entAt S0.tab 4)) (lst intC (entN (entAt S0.tab 4)) (entC (entAt S0.tab 4))) (entNl (entAt S0.tab 5)) (lst intC (entN (entAt S0.tab 5)) (entC (entAt S0.tab 5))) (entNl (entAt S0.tab 6)) (lst (lsC intC) (entN (entAt S0.tab 6)) (entC (entAt S0.tab 6))) (fun q0 q1 q2 q3 q4 q5 q6 q7 => k (.exit 0) (cP_explore_x4_0 q0 q1 q2 q3 q4 q5 q6 q7))
def cP_explore_lp {R : Type} (N : Nat) : Lp R := fun body S k => bif (Go.Sx.keyOf body).getD 0 == 4 then (cP_explore_L4.head.raw 0 S (fun S0 => cP_explore_d4 N S0 k)) else bif (Go.Sx.keyOf body).getD 0 == 9 then (cP_explore_L9.head.raw 0 S (fun S0 => cP_explore_d9 N S0 k)) else Option.none
theorem cP_explore_l4_eq {R : Type} (N : Nat) (k : Exit → St → Option R) (n : Nat) : ∀ (v0 : Arr (Arr api_Literal)) (v1 : Int) (v2 : Arr ByteArray) (v3 : Arr ByteArray) (v4 : Arr api_Counter) (v5 : Arr api_State) (v6 : Arr api_Rule) (v7 : Mp api_Place Int) (v8 : Bool) (v9 : Arr api_Place) (v10 : Bool) (v11 : Arr Int) (v12 : Bool) (v13 : Arr Int) (v14 : Bool) (v15 : Arr (Arr Int)), loopM E.Θ (sP_Step_cal N) (cP_explore_lp N) (noJn) 0 cP_explore_L4 (bodyAt E 51 4) n (cP_explore_h4 v0 v1 v2 v3 v4 v5 v6 v7 v8 v9 v10 v11 v12 v13 v14 v15) k = cP_explore_l4 N n v0 v1 v2 v3 v4 v5 v6 v7 v8 v9 v10 v11 v12 v13 v14 v15 (fun q0 q1 q2 q3 q4 q5 q6 q7 => k (.exit 0) (cP_explore_x4_0 q0 q1 q2 q3 q4 q5 q6 q7)) := by
  induction n with
  | zero => intro v0 v1 v2 v3 v4 v5 v6 v7 v8 v9 v10 v11 v12 v13 v14 v15; rfl
  | succ n ih =>
    intro v0 v1 v2 v3 v4 v5 v6 v7 v8 v9 v10 v11 v12 v13 v14 v15
    refine Eq.trans (b := cP_explore_b4 N (fun v0 v1 v2 v3 v4 v5 v6 v7 v8 v9 v10 v11 v12 v13 v14 v15 => loopM E.Θ (sP_Step_cal N) (cP_explore_lp N) (noJn) 0 cP_explore_L4 (bodyAt E 51 4) n (cP_explore_h4 v0 v1 v2 v3 v4 v5 v6 v7 v8 v9 v10 v11 v12 v13 v14 v15) k) v0 v1 v2 v3 v4 v5 v6 v7 v8 v9 v10 v11 v12 v13 v14 v15 (fun q0 q1 q2 q3 q4 q5 q6 q7 => k (.exit 0) (cP_explore_x4_0 q0 q1 q2 q3 q4 q5 q6 q7))) (by kernel_rfl) ?_
    have h : (fun (v0 : Arr (Arr api_Literal)) (v1 : Int) (v2 : Arr ByteArray) (v3 : Arr ByteArray) (v4 : Arr api_Counter) (v5 : Arr api_State) (v6 : Arr api_Rule) (v7 : Mp api_Place Int) (v8 : Bool) (v9 : Arr api_Place) (v10 : Bool) (v11 : Arr Int) (v12 : Bool) (v13 : Arr Int) (v14 : Bool) (v15 : Arr (Arr Int)) => loopM E.Θ (sP_Step_cal N) (cP_explore_lp N) (noJn) 0 cP_explore_L4 (bodyAt E 51 4) n (cP_explore_h4 v0 v1 v2 v3 v4 v5 v6 v7 v8 v9 v10 v11 v12 v13 v14 v15) k) = (fun (v0 : Arr (Arr api_Literal)) (v1 : Int) (v2 : Arr ByteArray) (v3 : Arr ByteArray) (v4 : Arr api_Counter) (v5 : Arr api_State) (v6 : Arr api_Rule) (v7 : Mp api_Place Int) (v8 : Bool) (v9 : Arr api_Place) (v10 : Bool) (v11 : Arr Int) (v12 : Bool) (v13 : Arr Int) (v14 : Bool) (v15 : Arr (Arr Int)) => cP_explore_l4 N n v0 v1 v2 v3 v4 v5 v6 v7 v8 v9 v10 v11 v12 v13 v14 v15 (fun q0 q1 q2 q3 q4 q5 q6 q7 => k (.exit 0) (cP_explore_x4_0 q0 q1 q2 q3 q4 q5 q6 q7))) := funext fun v0 => funext fun v1 => funext fun v2 => funext fun v3 => funext fun v4 => funext fun v5 => funext fun v6 => funext fun v7 => funext fun v8 => funext fun v9 => funext fun v10 => funext fun v11 => funext fun v12 => funext fun v13 => funext fun v14 => funext fun v15 => ih v0 v1 v2 v3 v4 v5 v6 v7 v8 v9 v10 v11 v12 v13 v14 v15
    rw [h]
    rfl
theorem cP_explore_l9_eq {R : Type} (N : Nat) (k : Exit → St → Option R) (n : Nat) : ∀ (v0 : Arr (Arr api_Literal)) (v1 : Int) (v2 : Int) (v3 : Int) (v4 : Arr ByteArray) (v5 : Arr ByteArray) (v6 : Arr api_Counter) (v7 : Arr api_State) (v8 : Arr api_Rule) (v9 : Mp api_Place Int) (v10 : api_Place) (v11 : Bool) (v12 : Arr Int) (v13 : Bool) (v14 : Arr api_Place) (v15 : Bool) (v16 : Arr Int) (v17 : Bool) (v18 : Arr Int) (v19 : Bool) (v20 : Arr (Arr Int)), loopM E.Θ (sP_Step_cal N) (cP_explore_lp N) (noJn) 0 cP_explore_L9 (bodyAt E 51 9) n (cP_explore_h9 v0 v1 v2 v3 v4 v5 v6 v7 v8 v9 v10 v11 v12 v13 v14 v15 v16 v17 v18 v19 v20) k = cP_explore_l9 N n v0 v1 v2 v3 v4 v5 v6 v7 v8 v9 v10 v11 v12 v13 v14 v15 v16 v17 v18 v19 v20 (fun q7 q9 q10 q11 q12 q13 q14 q15 => k (.exit 2) (cP_explore_x9_2 v0 v1 v4 v5 v6 v7 v8 v11 v19 v20 q7 q9 q10 q11 q12 q13 q14 q15)) := by
  induction n with
  | zero => intro v0 v1 v2 v3 v4 v5 v6 v7 v8 v9 v10 v11 v12 v13 v14 v15 v16 v17 v18 v19 v20; rfl
  | succ n ih =>
    intro v0 v1 v2 v3 v4 v5 v6 v7 v8 v9 v10 v11 v12 v13 v14 v15 v16 v17 v18 v19 v20
    refine Eq.trans (b := cP_explore_b9 N (fun v0 v1 v2 v3 v4 v5 v6 v7 v8 v9 v10 v11 v12 v13 v14 v15 v16 v17 v18 v19 v20 => loopM E.Θ (sP_Step_cal N) (cP_explore_lp N) (noJn) 0 cP_explore_L9 (bodyAt E 51 9) n (cP_explore_h9 v0 v1 v2 v3 v4 v5 v6 v7 v8 v9 v10 v11 v12 v13 v14 v15 v16 v17 v18 v19 v20) k) v0 v1 v2 v3 v4 v5 v6 v7 v8 v9 v10 v11 v12 v13 v14 v15 v16 v17 v18 v19 v20 (fun q7 q9 q10 q11 q12 q13 q14 q15 => k (.exit 2) (cP_explore_x9_2 v0 v1 v4 v5 v6 v7 v8 v11 v19 v20 q7 q9 q10 q11 q12 q13 q14 q15))) (by kernel_rfl) ?_
    have h : (fun (v0 : Arr (Arr api_Literal)) (v1 : Int) (v2 : Int) (v3 : Int) (v4 : Arr ByteArray) (v5 : Arr ByteArray) (v6 : Arr api_Counter) (v7 : Arr api_State) (v8 : Arr api_Rule) (v9 : Mp api_Place Int) (v10 : api_Place) (v11 : Bool) (v12 : Arr Int) (v13 : Bool) (v14 : Arr api_Place) (v15 : Bool) (v16 : Arr Int) (v17 : Bool) (v18 : Arr Int) (v19 : Bool) (v20 : Arr (Arr Int)) => loopM E.Θ (sP_Step_cal N) (cP_explore_lp N) (noJn) 0 cP_explore_L9 (bodyAt E 51 9) n (cP_explore_h9 v0 v1 v2 v3 v4 v5 v6 v7 v8 v9 v10 v11 v12 v13 v14 v15 v16 v17 v18 v19 v20) k) = (fun (v0 : Arr (Arr api_Literal)) (v1 : Int) (v2 : Int) (v3 : Int) (v4 : Arr ByteArray) (v5 : Arr ByteArray) (v6 : Arr api_Counter) (v7 : Arr api_State) (v8 : Arr api_Rule) (v9 : Mp api_Place Int) (v10 : api_Place) (v11 : Bool) (v12 : Arr Int) (v13 : Bool) (v14 : Arr api_Place) (v15 : Bool) (v16 : Arr Int) (v17 : Bool) (v18 : Arr Int) (v19 : Bool) (v20 : Arr (Arr Int)) => cP_explore_l9 N n v0 v1 v2 v3 v4 v5 v6 v7 v8 v9 v10 v11 v12 v13 v14 v15 v16 v17 v18 v19 v20 (fun q7 q9 q10 q11 q12 q13 q14 q15 => k (.exit 2) (cP_explore_x9_2 v0 v1 v4 v5 v6 v7 v8 v11 v19 v20 q7 q9 q10 q11 q12 q13 q14 q15))) := funext fun v0 => funext fun v1 => funext fun v2 => funext fun v3 => funext fun v4 => funext fun v5 => funext fun v6 => funext fun v7 => funext fun v8 => funext fun v9 => funext fun v10 => funext fun v11 => funext fun v12 => funext fun v13 => funext fun v14 => funext fun v15 => funext fun v16 => funext fun v17 => funext fun v18 => funext fun v19 => funext fun v20 => ih v0 v1 v2 v3 v4 v5 v6 v7 v8 v9 v10 v11 v12 v13 v14 v15 v16 v17 v18 v19 v20
    rw [h]
    rfl
theorem cP_explore_k9 {R : Type} (N : Nat) : LpKey (R := R) E 51 0 (cP_explore_lp N) 9 :=
  lpKey_of hE (sP_Step_cal_ok N) (lp := cP_explore_lp N) (jn := noJn) cP_explore_L9_ok [] kNil (by kernel_rfl) [] jNil (by kernel_rfl) N fun S k =>
    Eq.trans (b := cP_explore_L9.head.raw 0 S (fun S0 => cP_explore_d9 N S0 k)) (by kernel_rfl) (congrArg (cP_explore_L9.head.raw 0 S) (funext fun S0 => Eq.trans (cP_explore_l9_eq N k N (lstC (lsC api_LiteralC) (lget S0.tmps 1)) (toI (lget S0.tmps 9)) (toI (lget S0.tmps 46)) (toI (lget S0.tmps 47)) (lstC strC (lget (entCs (entAt S0.tab 0)) 0)) (lstC strC (lget (entCs (entAt S0.tab 0)) 1)) (lstC api_CounterC (lget (entCs (entAt S0.tab 0)) 2)) (lstC api_StateC (lget (entCs (entAt S0.tab 0)) 3)) (lstC api_RuleC (lget (entCs (entAt S0.tab 0)) 4)) (mpD api_PlaceC intC (entHs (entAt S0.tab 2)) (entGt (entAt S0.tab 2))) (Cod.dec api_PlaceC (lget (entCs (entAt S0.tab 3)))) (entNl (entAt S0.tab 4)) (lst intC (entN (entAt S0.tab 4)) (entC (entAt S0.tab 4))) (entNl (entAt S0.tab 5)) (lst api_PlaceC (entN (entAt S0.tab 5)) (entC (entAt S0.tab 5))) (entNl (entAt S0.tab 6)) (lst intC (entN (entAt S0.tab 6)) (entC (entAt S0.tab 6))) (entNl (entAt S0.tab 7)) (lst intC (entN (entAt S0.tab 7)) (entC (entAt S0.tab 7))) (entNl (entAt S0.tab 8)) (lst (lsC intC) (entN (entAt S0.tab 8)) (entC (entAt S0.tab 8)))).symm (by kernel_rfl)))
theorem cP_explore_k4 {R : Type} (N : Nat) : LpKey (R := R) E 51 0 (cP_explore_lp N) 4 :=
  lpKey_of hE (sP_Step_cal_ok N) (lp := cP_explore_lp N) (jn := noJn) cP_explore_L4_ok [9] (kCons (cP_explore_k9 N) kNil) (by kernel_rfl) [] jNil (by kernel_rfl) N fun S k =>
    Eq.trans (b := cP_explore_L4.head.raw 0 S (fun S0 => cP_explore_d4 N S0 k)) (by kernel_rfl) (congrArg (cP_explore_L4.head.raw 0 S) (funext fun S0 => Eq.trans (cP_explore_l4_eq N k N (lstC (lsC api_LiteralC) (lget S0.tmps 1)) (toI (lget S0.tmps 9)) (lstC strC (lget (entCs (entAt S0.tab 0)) 0)) (lstC strC (lget (entCs (entAt S0.tab 0)) 1)) (lstC api_CounterC (lget (entCs (entAt S0.tab 0)) 2)) (lstC api_StateC (lget (entCs (entAt S0.tab 0)) 3)) (lstC api_RuleC (lget (entCs (entAt S0.tab 0)) 4)) (mpD api_PlaceC intC (entHs (entAt S0.tab 2)) (entGt (entAt S0.tab 2))) (entNl (entAt S0.tab 3)) (lst api_PlaceC (entN (entAt S0.tab 3)) (entC (entAt S0.tab 3))) (entNl (entAt S0.tab 4)) (lst intC (entN (entAt S0.tab 4)) (entC (entAt S0.tab 4))) (entNl (entAt S0.tab 5)) (lst intC (entN (entAt S0.tab 5)) (entC (entAt S0.tab 5))) (entNl (entAt S0.tab 6)) (lst (lsC intC) (entN (entAt S0.tab 6)) (entC (entAt S0.tab 6)))).symm (by kernel_rfl)))
noncomputable def cP_explore_go {R : Type} (N : Nat) (args : List SV) (T : Tab) (kf : SV × Tab → Option R) : Option R :=
  cP_explore N (lstC strC (lget (toCs (lget args 0)) 0)) (lstC strC (lget (toCs (lget args 0)) 1)) (lstC api_CounterC (lget (toCs (lget args 0)) 2)) (lstC api_StateC (lget (toCs (lget args 0)) 3)) (lstC api_RuleC (lget (toCs (lget args 0)) 4)) (lstC (lsC api_LiteralC) (lget args 1)) (fun q0 q1 q2 q3 q4 q5 q6 q7 => kf (lget [.ptr 0 0] 0, [(0, .blk [.row 1, .row 2, .row 3, .row 4]), (1, rowE api_PlaceC q0 q1), (2, rowE intC q2 q3), (3, rowE intC q4 q5), (4, rowE (lsC intC) q6 q7)]))
noncomputable def cP_explore_cal {R : Type} (N : Nat) : Cal R := callM (sP_Step_cal N) 51 0 cP_explore_sp (cP_explore_go N)
theorem cP_explore_cal_ok {R : Type} (N : Nat) : CalOk E.P (cP_explore_cal (R := R) N) :=
  callM_ok hE (sP_Step_cal_ok N) (lp := cP_explore_lp N) (jn := noJn) (keys := [4, 9]) (kCons (cP_explore_k4 N) (kCons (cP_explore_k9 N) kNil)) (by kernel_rfl) (js := []) jNil (by kernel_rfl) cP_explore_sp_ok cP_explore_rs_ok (fun args T kf => Eq.trans (cP_explore_def N (lstC strC (lget (toCs (lget args 0)) 0)) (lstC strC (lget (toCs (lget args 0)) 1)) (lstC api_CounterC (lget (toCs (lget args 0)) 2)) (lstC api_StateC (lget (toCs (lget args 0)) 3)) (lstC api_RuleC (lget (toCs (lget args 0)) 4)) (lstC (lsC api_LiteralC) (lget args 1)) (fun q0 q1 q2 q3 q4 q5 q6 q7 => kf (lget [.ptr 0 0] 0, [(0, .blk [.row 1, .row 2, .row 3, .row 4]), (1, rowE api_PlaceC q0 q1), (2, rowE intC q2 q3), (3, rowE intC q4 q5), (4, rowE (lsC intC) q6 q7)]))) (by kernel_rfl : cP_explore_run N args T kf = fnM E (sP_Step_cal N) (cP_explore_lp N) (noJn) 51 (cP_explore_sp.vs args) (cP_explore_sp.tab T) 0 (resK cP_explore_rs kf)))
def control_Reach_m {R : Type} (N : Nat) (a339 : api_Machine) (a340 : Arr (Arr api_Literal)) (k : Int → Bool → Arr api_Place → Option R) : Option R :=
 control_check N a339 (lst (lsC (lsC api_LiteralC)) (1 : Nat) (litC [SV.sl SK.nil (CK.cons (CK.sl (CK.cons (CK.int IntKind.i64) (CK.cons (CK.int IntKind.i64) (CK.cons (CK.int IntKind.i64) (CK.cons CK.bool CK.nil))))) CK.nil) (1 : Nat) (0 : Nat) (zeroC [SV.sl SK.nil (CK.cons (CK.int IntKind.i64) (CK.cons (CK.int IntKind.i64) (CK.cons (CK.int IntKind.i64) (CK.cons CK.bool CK.nil)))) (4 : Nat) (0 : Nat) (zeroC [SV.int .i64 0, SV.int .i64 0, SV.int .i64 0, SV.bool false])])] [[slC (lsC api_LiteralC) a340]])) (fun r489 =>
 bif r489 != (0 : Int) then
 k r489 true (lst api_PlaceC (0 : Nat) (zeroC [SV.int .i64 0, SV.int .i64 0, SV.int .i64 0]))
 else
 control_of N a339 (fun r491 r492 r493 r494 r495 =>
 cP_explore N r491 r492 r493 r494 r495 a340 (fun r731 r732 r733 r734 r735 r736 r737 r738 =>
 k (0 : Int) r731 r732)))
noncomputable def control_Reach {R : Type} : Nat → api_Machine → Arr (Arr api_Literal) → (Int → Bool → Arr api_Place → Option R) → Option R := lock (@control_Reach_m R)
theorem control_Reach_def {R : Type} (N : Nat) (a339 : api_Machine) (a340 : Arr (Arr api_Literal)) (k : Int → Bool → Arr api_Place → Option R) : control_Reach N a339 a340 k = control_Reach_m N a339 a340 k := by unfold control_Reach; rw [lock_eq]
def control_Reach_sp : Sp := ⟨[rAgg api_MachineC, rSl (lsC api_LiteralC)], []⟩
theorem control_Reach_sp_ok : control_Reach_sp.Ok := ⟨(allCons (rAgg_ok api_MachineC_ok api_MachineC_len) (allCons (rSl_ok (lsC_ok api_LiteralC_ok)) allNil)), eNil⟩
def control_Reach_rs : Sp := ⟨[rTup [rRow 0, rInt .i64]], [(0, eRow api_PlaceC)]⟩
theorem control_Reach_rs_ok : control_Reach_rs.Ok := ⟨(allCons (rTup_ok (allCons (rRow_ok 0) (allCons (rInt_ok .i64) allNil))) allNil), (eCons (eRow_ok api_PlaceC_ok) eNil)⟩
def control_Reach_run {R : Type} (N : Nat) (args : List SV) (T : Tab) (kf : SV × Tab → Option R) : Option R :=
  control_Reach_m N (Cod.dec api_MachineC (lget (toCs (lget args 0)))) (lstC (lsC api_LiteralC) (lget args 1)) (fun q0 q1 q2 => kf (lget [.tup [.row 0, .int .i64 q0]] 0, [(0, rowE api_PlaceC q1 q2)]))
def control_Reach_lp {R : Type} (N : Nat) : Lp R := fun body S k => Option.none
noncomputable def control_Reach_go {R : Type} (N : Nat) (args : List SV) (T : Tab) (kf : SV × Tab → Option R) : Option R :=
  control_Reach N (Cod.dec api_MachineC (lget (toCs (lget args 0)))) (lstC (lsC api_LiteralC) (lget args 1)) (fun q0 q1 q2 => kf (lget [.tup [.row 0, .int .i64 q0]] 0, [(0, rowE api_PlaceC q1 q2)]))
noncomputable def control_Reach_cal {R : Type} (N : Nat) : Cal R := callM (cP_explore_cal N) 20 0 control_Reach_sp (control_Reach_go N)
theorem control_Reach_cal_ok {R : Type} (N : Nat) : CalOk E.P (control_Reach_cal (R := R) N) :=
  callM_ok hE (cP_explore_cal_ok N) (lp := control_Reach_lp N) (jn := noJn) (keys := []) kNil (by kernel_rfl) (js := []) jNil (by kernel_rfl) control_Reach_sp_ok control_Reach_rs_ok (fun args T kf => Eq.trans (control_Reach_def N (Cod.dec api_MachineC (lget (toCs (lget args 0)))) (lstC (lsC api_LiteralC) (lget args 1)) (fun q0 q1 q2 => kf (lget [.tup [.row 0, .int .i64 q0]] 0, [(0, rowE api_PlaceC q1 q2)]))) (by kernel_rfl : control_Reach_run N args T kf = fnM E (cP_explore_cal N) (control_Reach_lp N) (noJn) 20 (control_Reach_sp.vs args) (control_Reach_sp.tab T) 0 (resK control_Reach_rs kf)))
def sP_Place_L2 : LoopSp := ⟨⟨[2, 3, 9, 10], ⟨(dr 2 ((rPtr 0 0) :: (rPtr 1 0) :: (dr 5 ((rAgg Arr2_intC) :: (rInt .i64) :: (dr 29 []))))), [(0, eBlk [rSl strC, rSl strC, rSl api_CounterC, rSl api_StateC, rSl api_RuleC]), (1, eBlkC api_PlaceC)]⟩, 2⟩, [(Option.none, ⟨[4], ⟨(dr 4 ((rBool) :: (dr 35 []))), []⟩, 0⟩), (some 0, ⟨[2, 3], ⟨(dr 2 ((rPtr 0 0) :: (rPtr 1 0) :: (dr 36 []))), [(0, eBlk [rSl strC, rSl strC, rSl api_CounterC, rSl api_StateC, rSl api_RuleC]), (1, eBlkC api_PlaceC)]⟩, 2⟩)]⟩
theorem sP_Place_L2_ok : sP_Place_L2.Ok := ⟨⟨(drCons 2 (allCons (rPtr_ok 0 0) (allCons (rPtr_ok 1 0) (drCons 5 (allCons (rAgg_ok Arr2_intC_ok Arr2_intC_len) (allCons (rInt_ok .i64) (drCons 29 allNil))))))), (eCons (eBlk_ok (allCons (rSl_ok strC_ok) (allCons (rSl_ok strC_ok) (allCons (rSl_ok api_CounterC_ok) (allCons (rSl_ok api_StateC_ok) (allCons (rSl_ok api_RuleC_ok) allNil)))))) (eCons (eBlkC_ok api_PlaceC_ok api_PlaceC_len) eNil))⟩, (xCons ⟨(drCons 4 (allCons rBool_ok (drCons 35 allNil))), eNil⟩ (xCons ⟨(drCons 2 (allCons (rPtr_ok 0 0) (allCons (rPtr_ok 1 0) (drCons 36 allNil)))), (eCons (eBlk_ok (allCons (rSl_ok strC_ok) (allCons (rSl_ok strC_ok) (allCons (rSl_ok api_CounterC_ok) (allCons (rSl_ok api_StateC_ok) (allCons (rSl_ok api_RuleC_ok) allNil)))))) (eCons (eBlkC_ok api_PlaceC_ok api_PlaceC_len) eNil))⟩ xNil))⟩
def sP_Place_h2 (v754 : Arr2_int) (v755 : Int) (v756 : Arr ByteArray) (v757 : Arr ByteArray) (v758 : Arr api_Counter) (v759 : Arr api_State) (v760 : Arr api_Rule) (v761 : api_Place) : St := ⟨(un 2 ((.ptr 0 0) :: (.ptr 1 0) :: (un 5 ((.agg (Cod.enc Arr2_intC v754)) :: (.int .i64 v755) :: (un 29 []))))), [(0, .blk [slC strC v756, slC strC v757, slC api_CounterC v758, slC api_StateC v759, slC api_RuleC v760]), (1, .blk (Cod.enc api_PlaceC v761))], 2⟩
def sP_Place_x2_r (q0 : Bool) : St := ⟨(un 4 ((.bool q0) :: (un 35 []))), [], 0⟩
def sP_Place_x2_0 (v756 : Arr ByteArray) (v757 : Arr ByteArray) (v758 : Arr api_Counter) (v759 : Arr api_State) (v760 : Arr api_Rule) (v761 : api_Place) : St := ⟨(un 2 ((.ptr 0 0) :: (.ptr 1 0) :: (un 36 []))), [(0, .blk [slC strC v756, slC strC v757, slC api_CounterC v758, slC api_StateC v759, slC api_RuleC v760]), (1, .blk (Cod.enc api_PlaceC v761))], 2⟩
def sP_Place_b2 {R : Type} (N : Nat) (rc : Arr2_int → Int → Arr ByteArray → Arr ByteArray → Arr api_Counter → Arr api_State → Arr api_Rule → api_Place → Option R) (v754 : Arr2_int) (v755 : Int) (v756 : Arr ByteArray) (v757 : Arr ByteArray) (v758 : Arr api_Counter) (v759 : Arr api_State) (v760 : Arr api_Rule) (v761 : api_Place) (kr : Bool → Option R) (k0 : Unit → Option R) : Option R :=
 bif decide (v755 < (2 : Int)) then
 bif decide ((0 : Int) ≤ v755) && decide (v755 < (↑(2 : Nat) : Int)) then
 bif decide (v755 < (↑(Arr.n v758) : Int)) then
 bif decide ((0 : Int) ≤ v755) && decide (v755 < (↑(Arr.n v758) : Int)) then
 sT_within N (pickI v755 (0 : Nat) [Arr2_int.a0 v754, Arr2_int.a1 v754]) (0 : Int) (api_Counter.Max (Arr.f v758 (Int.toNat v755))) (fun r762 =>
 bif !r762 then
 kr false
 else
 rc v754 (w64 (v755 + (1 : Int))) v756 v757 v758 v759 v760 v761)
 else
 Option.none
 else
 sT_within N (pickI v755 (0 : Nat) [Arr2_int.a0 v754, Arr2_int.a1 v754]) (0 : Int) (0 : Int) (fun r763 =>
 bif !r763 then
 kr false
 else
 rc v754 (w64 (v755 + (1 : Int))) v756 v757 v758 v759 v760 v761)
 else
 Option.none
 else
 k0 ()
def sP_Place_l2 {R : Type} (N : Nat) : Nat → Arr2_int → Int → Arr ByteArray → Arr ByteArray → Arr api_Counter → Arr api_State → Arr api_Rule → api_Place → (Bool → Option R) → (Unit → Option R) → Option R
  | 0, _, _, _, _, _, _, _, _, _, _ => Option.none
  | n + 1, v754, v755, v756, v757, v758, v759, v760, v761, kr, k0 => sP_Place_b2 N (fun v754 v755 v756 v757 v758 v759 v760 v761 => sP_Place_l2 N n v754 v755 v756 v757 v758 v759 v760 v761 kr k0) v754 v755 v756 v757 v758 v759 v760 v761 kr k0
def sP_Place_m {R : Type} (N : Nat) (a748 : Arr ByteArray) (a749 : Arr ByteArray) (a750 : Arr api_Counter) (a751 : Arr api_State) (a752 : Arr api_Rule) (a753 : api_Place) (k : Bool → Option R) : Option R :=
 sP_Place_l2 N N (api_Place.Values a753) (0 : Int) a748 a749 a750 a751 a752 a753 (fun r764 =>
 k r764) (fun (_ : Unit) =>
 sT_within N (api_Place.State a753) (0 : Int) (w64 ((↑(Arr.n a751) : Int) - (1 : Int))) (fun r765 =>
 k r765))
noncomputable def sP_Place {R : Type} : Nat → Arr ByteArray → Arr ByteArray → Arr api_Counter → Arr api_State → Arr api_Rule → api_Place → (Bool → Option R) → Option R := lock (@sP_Place_m R)
theorem sP_Place_def {R : Type} (N : Nat) (a748 : Arr ByteArray) (a749 : Arr ByteArray) (a750 : Arr api_Counter) (a751 : Arr api_State) (a752 : Arr api_Rule) (a753 : api_Place) (k : Bool → Option R) : sP_Place N a748 a749 a750 a751 a752 a753 k = sP_Place_m N a748 a749 a750 a751 a752 a753 k := by unfold sP_Place; rw [lock_eq]
def sP_Place_sp : Sp := ⟨[rAggs [rSl strC, rSl strC, rSl api_CounterC, rSl api_StateC, rSl api_RuleC], rAgg api_PlaceC], []⟩
theorem sP_Place_sp_ok : sP_Place_sp.Ok := ⟨(allCons (rAggs_ok (allCons (rSl_ok strC_ok) (allCons (rSl_ok strC_ok) (allCons (rSl_ok api_CounterC_ok) (allCons (rSl_ok api_StateC_ok) (allCons (rSl_ok api_RuleC_ok) allNil)))))) (allCons (rAgg_ok api_PlaceC_ok api_PlaceC_len) allNil)), eNil⟩
def sP_Place_rs : Sp := ⟨[rBool], []⟩
theorem sP_Place_rs_ok : sP_Place_rs.Ok := ⟨(allCons rBool_ok allNil), eNil⟩
def sP_Place_run {R : Type} (N : Nat) (args : List SV) (T : Tab) (kf : SV × Tab → Option R) : Option R :=
  sP_Place_m N (lstC strC (lget (toCs (lget args 0)) 0)) (lstC strC (lget (toCs (lget args 0)) 1)) (lstC api_CounterC (lget (toCs (lget args 0)) 2)) (lstC api_StateC (lget (toCs (lget args 0)) 3)) (lstC api_RuleC (lget (toCs (lget args 0)) 4)) (Cod.dec api_PlaceC (lget (toCs (lget args 1)))) (fun q0 => kf (lget [.bool q0] 0, []))
def sP_Place_d2 {R : Type} (N : Nat) (S0 : St) (k : Exit → St → Option R) : Option R :=
  sP_Place_l2 N N (Cod.dec Arr2_intC (lget (toCs (lget S0.tmps 9)))) (toI (lget S0.tmps 10)) (lstC strC (lget (entCs (entAt S0.tab 0)) 0)) (lstC strC (lget (entCs (entAt S0.tab 0)) 1)) (lstC api_CounterC (lget (entCs (entAt S0.tab 0)) 2)) (lstC api_StateC (lget (entCs (entAt S0.tab 0)) 3)) (lstC api_RuleC (lget (entCs (entAt S0.tab 0)) 4)) (Cod.dec api_PlaceC (lget (entCs (entAt S0.tab 1)))) (fun q0 => k .ret (sP_Place_x2_r q0)) (fun (_ : Unit) => k (.exit 0) (sP_Place_x2_0 (lstC strC (lget (entCs (entAt S0.tab 0)) 0)) (lstC strC (lget (entCs (entAt S0.tab 0)) 1)) (lstC api_CounterC (lget (entCs (entAt S0.tab 0)) 2)) (lstC api_StateC (lget (entCs (entAt S0.tab 0)) 3)) (lstC api_RuleC (lget (entCs (entAt S0.tab 0)) 4)) (Cod.dec api_PlaceC (lget (entCs (entAt S0.tab 1))))))
def sP_Place_lp {R : Type} (N : Nat) : Lp R := fun body S k => bif (Go.Sx.keyOf body).getD 0 == 2 then (sP_Place_L2.head.raw 0 S (fun S0 => sP_Place_d2 N S0 k)) else Option.none
theorem sP_Place_l2_eq {R : Type} (N : Nat) (k : Exit → St → Option R) (n : Nat) : ∀ (v0 : Arr2_int) (v1 : Int) (v2 : Arr ByteArray) (v3 : Arr ByteArray) (v4 : Arr api_Counter) (v5 : Arr api_State) (v6 : Arr api_Rule) (v7 : api_Place), loopM E.Θ (control_Reach_cal N) (sP_Place_lp N) (noJn) 0 sP_Place_L2 (bodyAt E 54 2) n (sP_Place_h2 v0 v1 v2 v3 v4 v5 v6 v7) k = sP_Place_l2 N n v0 v1 v2 v3 v4 v5 v6 v7 (fun q0 => k .ret (sP_Place_x2_r q0)) (fun (_ : Unit) => k (.exit 0) (sP_Place_x2_0 v2 v3 v4 v5 v6 v7)) := by
  induction n with
  | zero => intro v0 v1 v2 v3 v4 v5 v6 v7; rfl
  | succ n ih =>
    intro v0 v1 v2 v3 v4 v5 v6 v7
    refine Eq.trans (b := sP_Place_b2 N (fun v0 v1 v2 v3 v4 v5 v6 v7 => loopM E.Θ (control_Reach_cal N) (sP_Place_lp N) (noJn) 0 sP_Place_L2 (bodyAt E 54 2) n (sP_Place_h2 v0 v1 v2 v3 v4 v5 v6 v7) k) v0 v1 v2 v3 v4 v5 v6 v7 (fun q0 => k .ret (sP_Place_x2_r q0)) (fun (_ : Unit) => k (.exit 0) (sP_Place_x2_0 v2 v3 v4 v5 v6 v7))) (by kernel_rfl) ?_
    have h : (fun (v0 : Arr2_int) (v1 : Int) (v2 : Arr ByteArray) (v3 : Arr ByteArray) (v4 : Arr api_Counter) (v5 : Arr api_State) (v6 : Arr api_Rule) (v7 : api_Place) => loopM E.Θ (control_Reach_cal N) (sP_Place_lp N) (noJn) 0 sP_Place_L2 (bodyAt E 54 2) n (sP_Place_h2 v0 v1 v2 v3 v4 v5 v6 v7) k) = (fun (v0 : Arr2_int) (v1 : Int) (v2 : Arr ByteArray) (v3 : Arr ByteArray) (v4 : Arr api_Counter) (v5 : Arr api_State) (v6 : Arr api_Rule) (v7 : api_Place) => sP_Place_l2 N n v0 v1 v2 v3 v4 v5 v6 v7 (fun q0 => k .ret (sP_Place_x2_r q0)) (fun (_ : Unit) => k (.exit 0) (sP_Place_x2_0 v2 v3 v4 v5 v6 v7))) := funext fun v0 => funext fun v1 => funext fun v2 => funext fun v3 => funext fun v4 => funext fun v5 => funext fun v6 => funext fun v7 => ih v0 v1 v2 v3 v4 v5 v6 v7
    rw [h]
    rfl
theorem sP_Place_k2 {R : Type} (N : Nat) : LpKey (R := R) E 54 0 (sP_Place_lp N) 2 :=
  lpKey_of hE (control_Reach_cal_ok N) (lp := sP_Place_lp N) (jn := noJn) sP_Place_L2_ok [] kNil (by kernel_rfl) [] jNil (by kernel_rfl) N fun S k =>
    Eq.trans (b := sP_Place_L2.head.raw 0 S (fun S0 => sP_Place_d2 N S0 k)) (by kernel_rfl) (congrArg (sP_Place_L2.head.raw 0 S) (funext fun S0 => Eq.trans (sP_Place_l2_eq N k N (Cod.dec Arr2_intC (lget (toCs (lget S0.tmps 9)))) (toI (lget S0.tmps 10)) (lstC strC (lget (entCs (entAt S0.tab 0)) 0)) (lstC strC (lget (entCs (entAt S0.tab 0)) 1)) (lstC api_CounterC (lget (entCs (entAt S0.tab 0)) 2)) (lstC api_StateC (lget (entCs (entAt S0.tab 0)) 3)) (lstC api_RuleC (lget (entCs (entAt S0.tab 0)) 4)) (Cod.dec api_PlaceC (lget (entCs (entAt S0.tab 1))))).symm (by kernel_rfl)))
noncomputable def sP_Place_go {R : Type} (N : Nat) (args : List SV) (T : Tab) (kf : SV × Tab → Option R) : Option R :=
  sP_Place N (lstC strC (lget (toCs (lget args 0)) 0)) (lstC strC (lget (toCs (lget args 0)) 1)) (lstC api_CounterC (lget (toCs (lget args 0)) 2)) (lstC api_StateC (lget (toCs (lget args 0)) 3)) (lstC api_RuleC (lget (toCs (lget args 0)) 4)) (Cod.dec api_PlaceC (lget (toCs (lget args 1)))) (fun q0 => kf (lget [.bool q0] 0, []))
noncomputable def sP_Place_cal {R : Type} (N : Nat) : Cal R := callM (control_Reach_cal N) 54 0 sP_Place_sp (sP_Place_go N)
theorem sP_Place_cal_ok {R : Type} (N : Nat) : CalOk E.P (sP_Place_cal (R := R) N) :=
  callM_ok hE (control_Reach_cal_ok N) (lp := sP_Place_lp N) (jn := noJn) (keys := [2]) (kCons (sP_Place_k2 N) kNil) (by kernel_rfl) (js := []) jNil (by kernel_rfl) sP_Place_sp_ok sP_Place_rs_ok (fun args T kf => Eq.trans (sP_Place_def N (lstC strC (lget (toCs (lget args 0)) 0)) (lstC strC (lget (toCs (lget args 0)) 1)) (lstC api_CounterC (lget (toCs (lget args 0)) 2)) (lstC api_StateC (lget (toCs (lget args 0)) 3)) (lstC api_RuleC (lget (toCs (lget args 0)) 4)) (Cod.dec api_PlaceC (lget (toCs (lget args 1)))) (fun q0 => kf (lget [.bool q0] 0, []))) (by kernel_rfl : sP_Place_run N args T kf = fnM E (control_Reach_cal N) (sP_Place_lp N) (noJn) 54 (sP_Place_sp.vs args) (sP_Place_sp.tab T) 0 (resK sP_Place_rs kf)))
def sP_Input_m {R : Type} (N : Nat) (a767 : Arr ByteArray) (a768 : Arr ByteArray) (a769 : Arr api_Counter) (a770 : Arr api_State) (a771 : Arr api_Rule) (a772 : Int) (k : Bool → Option R) : Option R :=
 sP_All N a767 a768 a769 a770 a771 (fun r773 =>
 sT_within N a772 (0 : Int) (w64 (r773 - (1 : Int))) (fun r774 =>
 k r774))
noncomputable def sP_Input {R : Type} : Nat → Arr ByteArray → Arr ByteArray → Arr api_Counter → Arr api_State → Arr api_Rule → Int → (Bool → Option R) → Option R := lock (@sP_Input_m R)
theorem sP_Input_def {R : Type} (N : Nat) (a767 : Arr ByteArray) (a768 : Arr ByteArray) (a769 : Arr api_Counter) (a770 : Arr api_State) (a771 : Arr api_Rule) (a772 : Int) (k : Bool → Option R) : sP_Input N a767 a768 a769 a770 a771 a772 k = sP_Input_m N a767 a768 a769 a770 a771 a772 k := by unfold sP_Input; rw [lock_eq]
def sP_Input_sp : Sp := ⟨[rAggs [rSl strC, rSl strC, rSl api_CounterC, rSl api_StateC, rSl api_RuleC], rInt .i64], []⟩
theorem sP_Input_sp_ok : sP_Input_sp.Ok := ⟨(allCons (rAggs_ok (allCons (rSl_ok strC_ok) (allCons (rSl_ok strC_ok) (allCons (rSl_ok api_CounterC_ok) (allCons (rSl_ok api_StateC_ok) (allCons (rSl_ok api_RuleC_ok) allNil)))))) (allCons (rInt_ok .i64) allNil)), eNil⟩
def sP_Input_rs : Sp := ⟨[rBool], []⟩
theorem sP_Input_rs_ok : sP_Input_rs.Ok := ⟨(allCons rBool_ok allNil), eNil⟩
def sP_Input_run {R : Type} (N : Nat) (args : List SV) (T : Tab) (kf : SV × Tab → Option R) : Option R :=
  sP_Input_m N (lstC strC (lget (toCs (lget args 0)) 0)) (lstC strC (lget (toCs (lget args 0)) 1)) (lstC api_CounterC (lget (toCs (lget args 0)) 2)) (lstC api_StateC (lget (toCs (lget args 0)) 3)) (lstC api_RuleC (lget (toCs (lget args 0)) 4)) (toI (lget args 1)) (fun q0 => kf (lget [.bool q0] 0, []))
def sP_Input_lp {R : Type} (N : Nat) : Lp R := fun body S k => Option.none
noncomputable def sP_Input_go {R : Type} (N : Nat) (args : List SV) (T : Tab) (kf : SV × Tab → Option R) : Option R :=
  sP_Input N (lstC strC (lget (toCs (lget args 0)) 0)) (lstC strC (lget (toCs (lget args 0)) 1)) (lstC api_CounterC (lget (toCs (lget args 0)) 2)) (lstC api_StateC (lget (toCs (lget args 0)) 3)) (lstC api_RuleC (lget (toCs (lget args 0)) 4)) (toI (lget args 1)) (fun q0 => kf (lget [.bool q0] 0, []))
noncomputable def sP_Input_cal {R : Type} (N : Nat) : Cal R := callM (sP_Place_cal N) 55 0 sP_Input_sp (sP_Input_go N)
theorem sP_Input_cal_ok {R : Type} (N : Nat) : CalOk E.P (sP_Input_cal (R := R) N) :=
  callM_ok hE (sP_Place_cal_ok N) (lp := sP_Input_lp N) (jn := noJn) (keys := []) kNil (by kernel_rfl) (js := []) jNil (by kernel_rfl) sP_Input_sp_ok sP_Input_rs_ok (fun args T kf => Eq.trans (sP_Input_def N (lstC strC (lget (toCs (lget args 0)) 0)) (lstC strC (lget (toCs (lget args 0)) 1)) (lstC api_CounterC (lget (toCs (lget args 0)) 2)) (lstC api_StateC (lget (toCs (lget args 0)) 3)) (lstC api_RuleC (lget (toCs (lget args 0)) 4)) (toI (lget args 1)) (fun q0 => kf (lget [.bool q0] 0, []))) (by kernel_rfl : sP_Input_run N args T kf = fnM E (sP_Place_cal N) (sP_Input_lp N) (noJn) 55 (sP_Input_sp.vs args) (sP_Input_sp.tab T) 0 (resK sP_Input_rs kf)))
def control_Step_m {R : Type} (N : Nat) (a739 : api_Machine) (a740 : api_Place) (a741 : Int) (k : api_Place → Int → Option R) : Option R :=
 control_Check N a739 (fun r742 =>
 bif r742 != (0 : Int) then
 k (api_Place.mk (0 : Int) (Arr2_int.mk (0 : Int) (0 : Int))) r742
 else
 control_of N a739 (fun r743 r744 r745 r746 r747 =>
 sP_Place N r743 r744 r745 r746 r747 a740 (fun r766 =>
 bif !r766 then
 k (api_Place.mk (0 : Int) (Arr2_int.mk (0 : Int) (0 : Int))) (1 : Int)
 else
 sP_Input N r743 r744 r745 r746 r747 a741 (fun r775 =>
 bif !r775 then
 k (api_Place.mk (0 : Int) (Arr2_int.mk (0 : Int) (0 : Int))) (1 : Int)
 else
 sP_Step N r743 r744 r745 r746 r747 a740 a741 (fun r776 =>
 k r776 (0 : Int))))))
noncomputable def control_Step {R : Type} : Nat → api_Machine → api_Place → Int → (api_Place → Int → Option R) → Option R := lock (@control_Step_m R)
theorem control_Step_def {R : Type} (N : Nat) (a739 : api_Machine) (a740 : api_Place) (a741 : Int) (k : api_Place → Int → Option R) : control_Step N a739 a740 a741 k = control_Step_m N a739 a740 a741 k := by unfold control_Step; rw [lock_eq]
def control_Step_sp : Sp := ⟨[rAgg api_MachineC, rAgg api_PlaceC, rInt .i64], []⟩
theorem control_Step_sp_ok : control_Step_sp.Ok := ⟨(allCons (rAgg_ok api_MachineC_ok api_MachineC_len) (allCons (rAgg_ok api_PlaceC_ok api_PlaceC_len) (allCons (rInt_ok .i64) allNil))), eNil⟩
def control_Step_rs : Sp := ⟨[rTup [rAgg api_PlaceC, rInt .i64]], []⟩
theorem control_Step_rs_ok : control_Step_rs.Ok := ⟨(allCons (rTup_ok (allCons (rAgg_ok api_PlaceC_ok api_PlaceC_len) (allCons (rInt_ok .i64) allNil))) allNil), eNil⟩
def control_Step_run {R : Type} (N : Nat) (args : List SV) (T : Tab) (kf : SV × Tab → Option R) : Option R :=
  control_Step_m N (Cod.dec api_MachineC (lget (toCs (lget args 0)))) (Cod.dec api_PlaceC (lget (toCs (lget args 1)))) (toI (lget args 2)) (fun q0 q1 => kf (lget [.tup [.agg (Cod.enc api_PlaceC q0), .int .i64 q1]] 0, []))
def control_Step_lp {R : Type} (N : Nat) : Lp R := fun body S k => Option.none
noncomputable def control_Step_go {R : Type} (N : Nat) (args : List SV) (T : Tab) (kf : SV × Tab → Option R) : Option R :=
  control_Step N (Cod.dec api_MachineC (lget (toCs (lget args 0)))) (Cod.dec api_PlaceC (lget (toCs (lget args 1)))) (toI (lget args 2)) (fun q0 q1 => kf (lget [.tup [.agg (Cod.enc api_PlaceC q0), .int .i64 q1]] 0, []))
noncomputable def control_Step_cal {R : Type} (N : Nat) : Cal R := callM (sP_Input_cal N) 21 0 control_Step_sp (control_Step_go N)
theorem control_Step_cal_ok {R : Type} (N : Nat) : CalOk E.P (control_Step_cal (R := R) N) :=
  callM_ok hE (sP_Input_cal_ok N) (lp := control_Step_lp N) (jn := noJn) (keys := []) kNil (by kernel_rfl) (js := []) jNil (by kernel_rfl) control_Step_sp_ok control_Step_rs_ok (fun args T kf => Eq.trans (control_Step_def N (Cod.dec api_MachineC (lget (toCs (lget args 0)))) (Cod.dec api_PlaceC (lget (toCs (lget args 1)))) (toI (lget args 2)) (fun q0 q1 => kf (lget [.tup [.agg (Cod.enc api_PlaceC q0), .int .i64 q1]] 0, []))) (by kernel_rfl : control_Step_run N args T kf = fnM E (sP_Input_cal N) (control_Step_lp N) (noJn) 21 (control_Step_sp.vs args) (control_Step_sp.tab T) 0 (resK control_Step_rs kf)))
def r4_IsPlace_L4 : LoopSp := ⟨⟨[2, 3, 5], ⟨(dr 2 ((rPtr 0 0) :: (rPtr 1 0) :: (dr 1 ((rInt .i64) :: (dr 31 []))))), [(0, eBlkC api_MachineC), (1, eBlkC api_PlaceC)]⟩, 2⟩, [(Option.none, ⟨[4], ⟨(dr 4 ((rBool) :: (dr 32 []))), []⟩, 0⟩), (some 0, ⟨[], ⟨(dr 37 []), []⟩, 0⟩)]⟩
theorem r4_IsPlace_L4_ok : r4_IsPlace_L4.Ok := ⟨⟨(drCons 2 (allCons (rPtr_ok 0 0) (allCons (rPtr_ok 1 0) (drCons 1 (allCons (rInt_ok .i64) (drCons 31 allNil)))))), (eCons (eBlkC_ok api_MachineC_ok api_MachineC_len) (eCons (eBlkC_ok api_PlaceC_ok api_PlaceC_len) eNil))⟩, (xCons ⟨(drCons 4 (allCons rBool_ok (drCons 32 allNil))), eNil⟩ (xCons ⟨(drCons 37 allNil), eNil⟩ xNil))⟩
def r4_IsPlace_h4 (v780 : Int) (v781 : api_Machine) (v782 : api_Place) : St := ⟨(un 2 ((.ptr 0 0) :: (.ptr 1 0) :: (un 1 ((.int .i64 v780) :: (un 31 []))))), [(0, .blk (Cod.enc api_MachineC v781)), (1, .blk (Cod.enc api_PlaceC v782))], 2⟩
def r4_IsPlace_x4_r (q0 : Bool) : St := ⟨(un 4 ((.bool q0) :: (un 32 []))), [], 0⟩
def r4_IsPlace_x4_0  : St := ⟨(un 37 []), [], 0⟩
def r4_IsPlace_b4 {R : Type} (N : Nat) (rc : Int → api_Machine → api_Place → Option R) (v780 : Int) (v781 : api_Machine) (v782 : api_Place) (kr : Bool → Option R) (k0 : Unit → Option R) : Option R :=
 bif decide (v780 < (2 : Int)) then
 bif decide (v780 < (↑(Arr.n (api_Machine.Counters v781)) : Int)) then
 bif decide ((0 : Int) ≤ v780) && decide (v780 < (↑(Arr.n (api_Machine.Counters v781)) : Int)) then
 bif decide ((0 : Int) ≤ v780) && decide (v780 < (↑(2 : Nat) : Int)) then
 r4_from N (pickI v780 (0 : Nat) [Arr2_int.a0 (api_Place.Values v782), Arr2_int.a1 (api_Place.Values v782)]) (0 : Int) (api_Counter.Max (Arr.f (api_Machine.Counters v781) (Int.toNat v780))) (fun r783 =>
 bif !r783 then
 kr false
 else
 rc (w64 (v780 + (1 : Int))) v781 v782)
 else
 Option.none
 else
 Option.none
 else
 bif decide ((0 : Int) ≤ v780) && decide (v780 < (↑(2 : Nat) : Int)) then
 r4_from N (pickI v780 (0 : Nat) [Arr2_int.a0 (api_Place.Values v782), Arr2_int.a1 (api_Place.Values v782)]) (0 : Int) (0 : Int) (fun r784 =>
 bif !r784 then
 kr false
 else
 rc (w64 (v780 + (1 : Int))) v781 v782)
 else
 Option.none
 else
 k0 ()
def r4_IsPlace_l4 {R : Type} (N : Nat) : Nat → Int → api_Machine → api_Place → (Bool → Option R) → (Unit → Option R) → Option R
  | 0, _, _, _, _, _ => Option.none
  | n + 1, v780, v781, v782, kr, k0 => r4_IsPlace_b4 N (fun v780 v781 v782 => r4_IsPlace_l4 N n v780 v781 v782 kr k0) v780 v781 v782 kr k0
def r4_IsPlace_m {R : Type} (N : Nat) (a777 : api_Machine) (a778 : api_Place) (k : Bool → Option R) : Option R :=
 r4_from N (api_Place.State a778) (0 : Int) (w64 ((↑(Arr.n (api_Machine.States a777)) : Int) - (1 : Int))) (fun r779 =>
 bif !r779 then
 k false
 else
 r4_IsPlace_l4 N N (0 : Int) a777 a778 (fun r785 =>
 k r785) (fun (_ : Unit) =>
 k true))
noncomputable def r4_IsPlace {R : Type} : Nat → api_Machine → api_Place → (Bool → Option R) → Option R := lock (@r4_IsPlace_m R)
theorem r4_IsPlace_def {R : Type} (N : Nat) (a777 : api_Machine) (a778 : api_Place) (k : Bool → Option R) : r4_IsPlace N a777 a778 k = r4_IsPlace_m N a777 a778 k := by unfold r4_IsPlace; rw [lock_eq]
def r4_IsPlace_sp : Sp := ⟨[rAgg api_MachineC, rAgg api_PlaceC], []⟩
theorem r4_IsPlace_sp_ok : r4_IsPlace_sp.Ok := ⟨(allCons (rAgg_ok api_MachineC_ok api_MachineC_len) (allCons (rAgg_ok api_PlaceC_ok api_PlaceC_len) allNil)), eNil⟩
def r4_IsPlace_rs : Sp := ⟨[rBool], []⟩
theorem r4_IsPlace_rs_ok : r4_IsPlace_rs.Ok := ⟨(allCons rBool_ok allNil), eNil⟩
def r4_IsPlace_run {R : Type} (N : Nat) (args : List SV) (T : Tab) (kf : SV × Tab → Option R) : Option R :=
  r4_IsPlace_m N (Cod.dec api_MachineC (lget (toCs (lget args 0)))) (Cod.dec api_PlaceC (lget (toCs (lget args 1)))) (fun q0 => kf (lget [.bool q0] 0, []))
def r4_IsPlace_d4 {R : Type} (N : Nat) (S0 : St) (k : Exit → St → Option R) : Option R :=
  r4_IsPlace_l4 N N (toI (lget S0.tmps 5)) (Cod.dec api_MachineC (lget (entCs (entAt S0.tab 0)))) (Cod.dec api_PlaceC (lget (entCs (entAt S0.tab 1)))) (fun q0 => k .ret (r4_IsPlace_x4_r q0)) (fun (_ : Unit) => k (.exit 0) (r4_IsPlace_x4_0 ))
def r4_IsPlace_lp {R : Type} (N : Nat) : Lp R := fun body S k => bif (Go.Sx.keyOf body).getD 0 == 4 then (r4_IsPlace_L4.head.raw 0 S (fun S0 => r4_IsPlace_d4 N S0 k)) else Option.none
theorem r4_IsPlace_l4_eq {R : Type} (N : Nat) (k : Exit → St → Option R) (n : Nat) : ∀ (v0 : Int) (v1 : api_Machine) (v2 : api_Place), loopM E.Θ (control_Step_cal N) (r4_IsPlace_lp N) (noJn) 0 r4_IsPlace_L4 (bodyAt E 22 4) n (r4_IsPlace_h4 v0 v1 v2) k = r4_IsPlace_l4 N n v0 v1 v2 (fun q0 => k .ret (r4_IsPlace_x4_r q0)) (fun (_ : Unit) => k (.exit 0) (r4_IsPlace_x4_0 )) := by
  induction n with
  | zero => intro v0 v1 v2; rfl
  | succ n ih =>
    intro v0 v1 v2
    refine Eq.trans (b := r4_IsPlace_b4 N (fun v0 v1 v2 => loopM E.Θ (control_Step_cal N) (r4_IsPlace_lp N) (noJn) 0 r4_IsPlace_L4 (bodyAt E 22 4) n (r4_IsPlace_h4 v0 v1 v2) k) v0 v1 v2 (fun q0 => k .ret (r4_IsPlace_x4_r q0)) (fun (_ : Unit) => k (.exit 0) (r4_IsPlace_x4_0 ))) (by kernel_rfl) ?_
    have h : (fun (v0 : Int) (v1 : api_Machine) (v2 : api_Place) => loopM E.Θ (control_Step_cal N) (r4_IsPlace_lp N) (noJn) 0 r4_IsPlace_L4 (bodyAt E 22 4) n (r4_IsPlace_h4 v0 v1 v2) k) = (fun (v0 : Int) (v1 : api_Machine) (v2 : api_Place) => r4_IsPlace_l4 N n v0 v1 v2 (fun q0 => k .ret (r4_IsPlace_x4_r q0)) (fun (_ : Unit) => k (.exit 0) (r4_IsPlace_x4_0 ))) := funext fun v0 => funext fun v1 => funext fun v2 => ih v0 v1 v2
    rw [h]
    rfl
theorem r4_IsPlace_k4 {R : Type} (N : Nat) : LpKey (R := R) E 22 0 (r4_IsPlace_lp N) 4 :=
  lpKey_of hE (control_Step_cal_ok N) (lp := r4_IsPlace_lp N) (jn := noJn) r4_IsPlace_L4_ok [] kNil (by kernel_rfl) [] jNil (by kernel_rfl) N fun S k =>
    Eq.trans (b := r4_IsPlace_L4.head.raw 0 S (fun S0 => r4_IsPlace_d4 N S0 k)) (by kernel_rfl) (congrArg (r4_IsPlace_L4.head.raw 0 S) (funext fun S0 => Eq.trans (r4_IsPlace_l4_eq N k N (toI (lget S0.tmps 5)) (Cod.dec api_MachineC (lget (entCs (entAt S0.tab 0)))) (Cod.dec api_PlaceC (lget (entCs (entAt S0.tab 1))))).symm (by kernel_rfl)))
noncomputable def r4_IsPlace_go {R : Type} (N : Nat) (args : List SV) (T : Tab) (kf : SV × Tab → Option R) : Option R :=
  r4_IsPlace N (Cod.dec api_MachineC (lget (toCs (lget args 0)))) (Cod.dec api_PlaceC (lget (toCs (lget args 1)))) (fun q0 => kf (lget [.bool q0] 0, []))
noncomputable def r4_IsPlace_cal {R : Type} (N : Nat) : Cal R := callM (control_Step_cal N) 22 0 r4_IsPlace_sp (r4_IsPlace_go N)
theorem r4_IsPlace_cal_ok {R : Type} (N : Nat) : CalOk E.P (r4_IsPlace_cal (R := R) N) :=
  callM_ok hE (control_Step_cal_ok N) (lp := r4_IsPlace_lp N) (jn := noJn) (keys := [4]) (kCons (r4_IsPlace_k4 N) kNil) (by kernel_rfl) (js := []) jNil (by kernel_rfl) r4_IsPlace_sp_ok r4_IsPlace_rs_ok (fun args T kf => Eq.trans (r4_IsPlace_def N (Cod.dec api_MachineC (lget (toCs (lget args 0)))) (Cod.dec api_PlaceC (lget (toCs (lget args 1)))) (fun q0 => kf (lget [.bool q0] 0, []))) (by kernel_rfl : r4_IsPlace_run N args T kf = fnM E (control_Step_cal N) (r4_IsPlace_lp N) (noJn) 22 (r4_IsPlace_sp.vs args) (r4_IsPlace_sp.tab T) 0 (resK r4_IsPlace_rs kf)))
def r3_Hazards_m {R : Type} (N : Nat) (a786 : api_Circuit) (a787 : Int) (k : Bool → Option R) : Option R :=
 bif decide (IntKind.wrap IntKind.u64 (api_Circuit.Hazards a786) < (0 : Int)) then
 Option.none
 else
 r3_within N a787 (0 : Int) (w64 (w64 ((1 : Int) * (2 : Int) ^ min (Int.toNat (IntKind.wrap IntKind.u64 (api_Circuit.Hazards a786))) (IntKind.bits IntKind.i64)) - (1 : Int))) (fun r788 =>
 k r788)
noncomputable def r3_Hazards {R : Type} : Nat → api_Circuit → Int → (Bool → Option R) → Option R := lock (@r3_Hazards_m R)
theorem r3_Hazards_def {R : Type} (N : Nat) (a786 : api_Circuit) (a787 : Int) (k : Bool → Option R) : r3_Hazards N a786 a787 k = r3_Hazards_m N a786 a787 k := by unfold r3_Hazards; rw [lock_eq]
def r3_Hazards_sp : Sp := ⟨[rAgg api_CircuitC, rInt .i64], []⟩
theorem r3_Hazards_sp_ok : r3_Hazards_sp.Ok := ⟨(allCons (rAgg_ok api_CircuitC_ok api_CircuitC_len) (allCons (rInt_ok .i64) allNil)), eNil⟩
def r3_Hazards_rs : Sp := ⟨[rBool], []⟩
theorem r3_Hazards_rs_ok : r3_Hazards_rs.Ok := ⟨(allCons rBool_ok allNil), eNil⟩
def r3_Hazards_run {R : Type} (N : Nat) (args : List SV) (T : Tab) (kf : SV × Tab → Option R) : Option R :=
  r3_Hazards_m N (Cod.dec api_CircuitC (lget (toCs (lget args 0)))) (toI (lget args 1)) (fun q0 => kf (lget [.bool q0] 0, []))
def r3_Hazards_lp {R : Type} (N : Nat) : Lp R := fun body S k => Option.none
noncomputable def r3_Hazards_go {R : Type} (N : Nat) (args : List SV) (T : Tab) (kf : SV × Tab → Option R) : Option R :=
  r3_Hazards N (Cod.dec api_CircuitC (lget (toCs (lget args 0)))) (toI (lget args 1)) (fun q0 => kf (lget [.bool q0] 0, []))
noncomputable def r3_Hazards_cal {R : Type} (N : Nat) : Cal R := callM (r4_IsPlace_cal N) 23 0 r3_Hazards_sp (r3_Hazards_go N)
theorem r3_Hazards_cal_ok {R : Type} (N : Nat) : CalOk E.P (r3_Hazards_cal (R := R) N) :=
  callM_ok hE (r4_IsPlace_cal_ok N) (lp := r3_Hazards_lp N) (jn := noJn) (keys := []) kNil (by kernel_rfl) (js := []) jNil (by kernel_rfl) r3_Hazards_sp_ok r3_Hazards_rs_ok (fun args T kf => Eq.trans (r3_Hazards_def N (Cod.dec api_CircuitC (lget (toCs (lget args 0)))) (toI (lget args 1)) (fun q0 => kf (lget [.bool q0] 0, []))) (by kernel_rfl : r3_Hazards_run N args T kf = fnM E (r4_IsPlace_cal N) (r3_Hazards_lp N) (noJn) 23 (r3_Hazards_sp.vs args) (r3_Hazards_sp.tab T) 0 (resK r3_Hazards_rs kf)))
def circuit_Runs_m {R : Type} (N : Nat) (a789 : api_Circuit) (a790 : Int) (a791 : Int) (a792 : Int) (k : Bool → Int → Option R) : Option R :=
 circuit_Check N a789 (fun r793 =>
 bif r793 != (0 : Int) then
 k false r793
 else
 circuit_isSet N a790 (api_Circuit.Hazards a789) (fun r794 =>
 bif !r794 then
 k false (1 : Int)
 else
 circuit_isSet N a791 ((↑(Arr.n (api_Circuit.Switches a789)) : Int)) (fun r795 =>
 bif !r795 then
 k false (1 : Int)
 else
 circuit_isSet N a792 ((↑(Arr.n (api_Circuit.Switches a789)) : Int)) (fun r796 =>
 bif !r796 then
 k false (1 : Int)
 else
 circuit_state_wire N (circuit_state.mk a789 a790 a791 a792) (0 : Int) (fun r797 =>
 k r797 (0 : Int))))))
noncomputable def circuit_Runs {R : Type} : Nat → api_Circuit → Int → Int → Int → (Bool → Int → Option R) → Option R := lock (@circuit_Runs_m R)
theorem circuit_Runs_def {R : Type} (N : Nat) (a789 : api_Circuit) (a790 : Int) (a791 : Int) (a792 : Int) (k : Bool → Int → Option R) : circuit_Runs N a789 a790 a791 a792 k = circuit_Runs_m N a789 a790 a791 a792 k := by unfold circuit_Runs; rw [lock_eq]
def circuit_Runs_sp : Sp := ⟨[rAgg api_CircuitC, rInt .i64, rInt .i64, rInt .i64], []⟩
theorem circuit_Runs_sp_ok : circuit_Runs_sp.Ok := ⟨(allCons (rAgg_ok api_CircuitC_ok api_CircuitC_len) (allCons (rInt_ok .i64) (allCons (rInt_ok .i64) (allCons (rInt_ok .i64) allNil)))), eNil⟩
def circuit_Runs_rs : Sp := ⟨[rTup [rBool, rInt .i64]], []⟩
theorem circuit_Runs_rs_ok : circuit_Runs_rs.Ok := ⟨(allCons (rTup_ok (allCons rBool_ok (allCons (rInt_ok .i64) allNil))) allNil), eNil⟩
def circuit_Runs_run {R : Type} (N : Nat) (args : List SV) (T : Tab) (kf : SV × Tab → Option R) : Option R :=
  circuit_Runs_m N (Cod.dec api_CircuitC (lget (toCs (lget args 0)))) (toI (lget args 1)) (toI (lget args 2)) (toI (lget args 3)) (fun q0 q1 => kf (lget [.tup [.bool q0, .int .i64 q1]] 0, []))
def circuit_Runs_lp {R : Type} (N : Nat) : Lp R := fun body S k => Option.none
noncomputable def circuit_Runs_go {R : Type} (N : Nat) (args : List SV) (T : Tab) (kf : SV × Tab → Option R) : Option R :=
  circuit_Runs N (Cod.dec api_CircuitC (lget (toCs (lget args 0)))) (toI (lget args 1)) (toI (lget args 2)) (toI (lget args 3)) (fun q0 q1 => kf (lget [.tup [.bool q0, .int .i64 q1]] 0, []))
noncomputable def circuit_Runs_cal {R : Type} (N : Nat) : Cal R := callM (r3_Hazards_cal N) 24 0 circuit_Runs_sp (circuit_Runs_go N)
theorem circuit_Runs_cal_ok {R : Type} (N : Nat) : CalOk E.P (circuit_Runs_cal (R := R) N) :=
  callM_ok hE (r3_Hazards_cal_ok N) (lp := circuit_Runs_lp N) (jn := noJn) (keys := []) kNil (by kernel_rfl) (js := []) jNil (by kernel_rfl) circuit_Runs_sp_ok circuit_Runs_rs_ok (fun args T kf => Eq.trans (circuit_Runs_def N (Cod.dec api_CircuitC (lget (toCs (lget args 0)))) (toI (lget args 1)) (toI (lget args 2)) (toI (lget args 3)) (fun q0 q1 => kf (lget [.tup [.bool q0, .int .i64 q1]] 0, []))) (by kernel_rfl : circuit_Runs_run N args T kf = fnM E (r3_Hazards_cal N) (circuit_Runs_lp N) (noJn) 24 (circuit_Runs_sp.vs args) (circuit_Runs_sp.tab T) 0 (resK circuit_Runs_rs kf)))
end
end Go.Proofs.YtpillmoddoccfabDoor
