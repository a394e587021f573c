import Derived.Test.YtlphgonhenegoaaG2
set_option maxRecDepth 100000
set_option maxHeartbeats 0
set_option linter.unusedVariables false
namespace Go.Proofs.Ytlphgonhenegoaa
open Go.Sx
noncomputable section
def calls_Share_1_L5 : LoopSp := ⟨⟨[0, 1, 2, 3, 6, 29, 30, 1000007], ⟨((rInt .i64) :: (rPtr 0 0) :: (rPtr 1 0) :: (rPtr 2 0) :: (dr 2 ((rPtr 5 0) :: (dr 22 ((rInt .i64) :: (rInt .i64) :: (dr 18 [])))))), [(0, eBlk [rSl api_PressC]), (1, eBlk [rSl api_CarC]), (2, eBlk [rRow 6]), (3, eBlk [rInt .i64]), (4, eBlk [rRow 8]), (5, eBlk [rFunc 68 0 [rPtr 0 0, rPtr 1 0, rPtr 2 0, rPtr 3 0, rPtr 4 0, rPtr 5 0]]), (6, eRow intC), (8, eRow intC)]⟩, 9⟩, [(some 0, ⟨[1000007], ⟨(dr 49 []), [(0, eBlk [rSl api_PressC]), (1, eBlk [rSl api_CarC]), (2, eBlk [rRow 6]), (3, eBlk [rInt .i64]), (4, eBlk [rRow 8]), (5, eBlk [rFunc 68 0 [rPtr 0 0, rPtr 1 0, rPtr 2 0, rPtr 3 0, rPtr 4 0, rPtr 5 0]]), (6, eRow intC), (8, eRow intC)]⟩, 9⟩)]⟩
theorem calls_Share_1_L5_ok : calls_Share_1_L5.Ok := ⟨⟨(allCons (rInt_ok .i64) (allCons (rPtr_ok 0 0) (allCons (rPtr_ok 1 0) (allCons (rPtr_ok 2 0) (drCons 2 (allCons (rPtr_ok 5 0) (drCons 22 (allCons (rInt_ok .i64) (allCons (rInt_ok .i64) (drCons 18 allNil)))))))))), (eCons (eBlk_ok (allCons (rSl_ok api_PressC_ok) allNil)) (eCons (eBlk_ok (allCons (rSl_ok api_CarC_ok) allNil)) (eCons (eBlk_ok (allCons (rRow_ok 6) allNil)) (eCons (eBlk_ok (allCons (rInt_ok .i64) allNil)) (eCons (eBlk_ok (allCons (rRow_ok 8) allNil)) (eCons (eBlk_ok (allCons (rFunc_ok 68 0 (allCons (rPtr_ok 0 0) (allCons (rPtr_ok 1 0) (allCons (rPtr_ok 2 0) (allCons (rPtr_ok 3 0) (allCons (rPtr_ok 4 0) (allCons (rPtr_ok 5 0) allNil))))))) allNil)) (eCons (eRow_ok intC_ok) (eCons (eRow_ok intC_ok) eNil))))))))⟩, (xCons ⟨(drCons 49 allNil), (eCons (eBlk_ok (allCons (rSl_ok api_PressC_ok) allNil)) (eCons (eBlk_ok (allCons (rSl_ok api_CarC_ok) allNil)) (eCons (eBlk_ok (allCons (rRow_ok 6) allNil)) (eCons (eBlk_ok (allCons (rInt_ok .i64) allNil)) (eCons (eBlk_ok (allCons (rRow_ok 8) allNil)) (eCons (eBlk_ok (allCons (rFunc_ok 68 0 (allCons (rPtr_ok 0 0) (allCons (rPtr_ok 1 0) (allCons (rPtr_ok 2 0) (allCons (rPtr_ok 3 0) (allCons (rPtr_ok 4 0) (allCons (rPtr_ok 5 0) allNil))))))) allNil)) (eCons (eRow_ok intC_ok) (eCons (eRow_ok intC_ok) eNil))))))))⟩ xNil)⟩
def calls_Share_1_h5 (v743 : Int) (v744 : Int) (v745 : Int) (v746 : Arr api_Press) (v747 : Arr api_Car) (v748 : Int) (v749 : Bool) (v750 : Arr Int) (v751 : Bool) (v752 : Arr Int) : St := ⟨((.int .i64 v743) :: (.ptr 0 0) :: (.ptr 1 0) :: (.ptr 2 0) :: (un 2 ((.ptr 5 0) :: (un 22 ((.int .i64 v744) :: (.int .i64 v745) :: (un 18 [])))))), [(0, .blk [slC api_PressC v746]), (1, .blk [slC api_CarC v747]), (2, .blk [.row 6]), (3, .blk [.int .i64 v748]), (4, .blk [.row 8]), (5, .blk [.func 68 0 [.ptr 0 0, .ptr 1 0, .ptr 2 0, .ptr 3 0, .ptr 4 0, .ptr 5 0]]), (6, rowE intC v749 v750), (8, rowE intC v751 v752)], 9⟩
def calls_Share_1_x5_0 (v746 : Arr api_Press) (v747 : Arr api_Car) (v749 : Bool) (q2 : Int) (q4 : Arr Int) (q5 : Bool) (q6 : Arr Int) : St := ⟨(un 49 []), [(0, .blk [slC api_PressC v746]), (1, .blk [slC api_CarC v747]), (2, .blk [.row 6]), (3, .blk [.int .i64 q2]), (4, .blk [.row 8]), (5, .blk [.func 68 0 [.ptr 0 0, .ptr 1 0, .ptr 2 0, .ptr 3 0, .ptr 4 0, .ptr 5 0]]), (6, rowE intC v749 q4), (8, rowE intC q5 q6)], 9⟩
def calls_Share_1_b5 {R : Type} (N : Nat) (rf : Int → Arr api_Press → Arr api_Car → Int → Bool → Arr Int → Bool → Arr Int → (Int → Arr Int → Bool → Arr Int → Option R) → Option R) (rc : Int → Int → Int → Arr api_Press → Arr api_Car → Int → Bool → Arr Int → Bool → Arr Int → Option R) (v743 : Int) (v744 : Int) (v745 : Int) (v746 : Arr api_Press) (v747 : Arr api_Car) (v748 : Int) (v749 : Bool) (v750 : Arr Int) (v751 : Bool) (v752 : Arr Int) (k0 : Int → Arr Int → Bool → Arr Int → Option R) : Option R :=
  bif decide (v745 < v744) then
   bif decide ((0 : Int) ≤ v743) && decide (v743 < (↑(Arr.n v746) : Int)) then
    calls_given N v747 (Arr.f v746 (Int.toNat v743)) v745 (fun r753 =>
    bif r753 then
     bif decide ((0 : Int) ≤ v743) && decide (v743 < (↑(Arr.n v750) : Int)) then
      rf (w64 (v743 + (1 : Int))) v746 v747 v748 v749 (lst intC (Arr.n v750) (setCs (Int.toNat v743) (0 : Nat) (Cod.cell intC (Arr.f v750)) [SV.int IntKind.i64 v745])) v751 v752 (fun r754 r755 r756 r757 =>
      rc v743 v744 (w64 (v745 + (1 : Int))) v746 v747 r754 v749 r755 r756 r757)
     else
      Option.none
    else
     rc v743 v744 (w64 (v745 + (1 : Int))) v746 v747 v748 v749 v750 v751 v752)
   else
    Option.none
  else
   k0 v748 v750 v751 v752
def calls_Share_1_l5 {R : Type} (N : Nat) (rf : Int → Arr api_Press → Arr api_Car → Int → Bool → Arr Int → Bool → Arr Int → (Int → Arr Int → Bool → Arr Int → Option R) → Option R) : Nat → Int → Int → Int → Arr api_Press → Arr api_Car → Int → Bool → Arr Int → Bool → Arr Int → (Int → Arr Int → Bool → Arr Int → Option R) → Option R
  | 0, _, _, _, _, _, _, _, _, _, _, _ => Option.none
  | n + 1, v743, v744, v745, v746, v747, v748, v749, v750, v751, v752, k0 => calls_Share_1_b5 N rf (fun v743 v744 v745 v746 v747 v748 v749 v750 v751 v752 => calls_Share_1_l5 N rf n v743 v744 v745 v746 v747 v748 v749 v750 v751 v752 k0) v743 v744 v745 v746 v747 v748 v749 v750 v751 v752 k0
def calls_Share_1_t {R : Type} (N : Nat) (rf : Int → Arr api_Press → Arr api_Car → Int → Bool → Arr Int → Bool → Arr Int → (Int → Arr Int → Bool → Arr Int → Option R) → Option R) (a730 : Int) (a731 : Arr api_Press) (a732 : Arr api_Car) (a733 : Int) (a734 : Bool) (a735 : Arr Int) (a736 : Bool) (a737 : Arr Int) (k : Int → Arr Int → Bool → Arr Int → Option R) : Option R :=
  bif a730 == (↑(Arr.n a731) : Int) then
   calls_longest N a732 a731 a735 (fun r738 =>
   bif decide (a733 < (0 : Int)) then
    slices_Clone___int_int_ N a734 a735 (fun r739 r740 =>
    k r738 a735 r739 r740)
   else
    bif decide (r738 < a733) then
     slices_Clone___int_int_ N a734 a735 (fun r741 r742 =>
     k r738 a735 r741 r742)
    else
     k a733 a735 a736 a737)
  else
   calls_Share_1_l5 N rf N a730 ((↑(Arr.n a732) : Int)) (0 : Int) a731 a732 a733 a734 a735 a736 a737 (fun r758 r759 r760 r761 =>
    k r758 r759 r760 r761)
def calls_Share_1_r {R : Type} (N : Nat) : Nat → Int → Arr api_Press → Arr api_Car → Int → Bool → Arr Int → Bool → Arr Int → (Int → Arr Int → Bool → Arr Int → Option R) → Option R
  | 0, _, _, _, _, _, _, _, _, _ => Option.none
  | d + 1, a730, a731, a732, a733, a734, a735, a736, a737, k => calls_Share_1_t N (calls_Share_1_r N d) a730 a731 a732 a733 a734 a735 a736 a737 k
def calls_Share_1_m {R : Type} (N : Nat) (a730 : Int) (a731 : Arr api_Press) (a732 : Arr api_Car) (a733 : Int) (a734 : Bool) (a735 : Arr Int) (a736 : Bool) (a737 : Arr Int) (k : Int → Arr Int → Bool → Arr Int → Option R) : Option R := calls_Share_1_r N N a730 a731 a732 a733 a734 a735 a736 a737 k
noncomputable def calls_Share_1 {R : Type} : Nat → Int → Arr api_Press → Arr api_Car → Int → Bool → Arr Int → Bool → Arr Int → (Int → Arr Int → Bool → Arr Int → Option R) → Option R := lock (@calls_Share_1_m R)
theorem calls_Share_1_def {R : Type} (N : Nat) (a730 : Int) (a731 : Arr api_Press) (a732 : Arr api_Car) (a733 : Int) (a734 : Bool) (a735 : Arr Int) (a736 : Bool) (a737 : Arr Int) (k : Int → Arr Int → Bool → Arr Int → Option R) : calls_Share_1 N a730 a731 a732 a733 a734 a735 a736 a737 k = calls_Share_1_m N a730 a731 a732 a733 a734 a735 a736 a737 k := by unfold calls_Share_1; rw [lock_eq]
def calls_Share_1_sp : Sp := ⟨[rInt .i64, rPtr 0 0, rPtr 1 0, rPtr 2 0, rPtr 3 0, rPtr 4 0, rPtr 5 0], [(0, eBlk [rSl api_PressC]), (1, eBlk [rSl api_CarC]), (2, eBlk [rRow 6]), (3, eBlk [rInt .i64]), (4, eBlk [rRow 7]), (5, eBlk [rFunc 68 0 [rPtr 0 0, rPtr 1 0, rPtr 2 0, rPtr 3 0, rPtr 4 0, rPtr 5 0]]), (6, eRow intC), (7, eRow intC)]⟩
theorem calls_Share_1_sp_ok : calls_Share_1_sp.Ok := ⟨(allCons (rInt_ok .i64) (allCons (rPtr_ok 0 0) (allCons (rPtr_ok 1 0) (allCons (rPtr_ok 2 0) (allCons (rPtr_ok 3 0) (allCons (rPtr_ok 4 0) (allCons (rPtr_ok 5 0) allNil))))))), (eCons (eBlk_ok (allCons (rSl_ok api_PressC_ok) allNil)) (eCons (eBlk_ok (allCons (rSl_ok api_CarC_ok) allNil)) (eCons (eBlk_ok (allCons (rRow_ok 6) allNil)) (eCons (eBlk_ok (allCons (rInt_ok .i64) allNil)) (eCons (eBlk_ok (allCons (rRow_ok 7) allNil)) (eCons (eBlk_ok (allCons (rFunc_ok 68 0 (allCons (rPtr_ok 0 0) (allCons (rPtr_ok 1 0) (allCons (rPtr_ok 2 0) (allCons (rPtr_ok 3 0) (allCons (rPtr_ok 4 0) (allCons (rPtr_ok 5 0) allNil))))))) allNil)) (eCons (eRow_ok intC_ok) (eCons (eRow_ok intC_ok) eNil))))))))⟩
def calls_Share_1_rs : Sp := ⟨[rTup []], [(0, eBlk [rSl api_PressC]), (1, eBlk [rSl api_CarC]), (2, eBlk [rRow 6]), (3, eBlk [rInt .i64]), (4, eBlk [rRow 8]), (5, eBlk [rFunc 68 0 [rPtr 0 0, rPtr 1 0, rPtr 2 0, rPtr 3 0, rPtr 4 0, rPtr 5 0]]), (6, eRow intC), (8, eRow intC)]⟩
theorem calls_Share_1_rs_ok : calls_Share_1_rs.Ok := ⟨(allCons (rTup_ok allNil) allNil), (eCons (eBlk_ok (allCons (rSl_ok api_PressC_ok) allNil)) (eCons (eBlk_ok (allCons (rSl_ok api_CarC_ok) allNil)) (eCons (eBlk_ok (allCons (rRow_ok 6) allNil)) (eCons (eBlk_ok (allCons (rInt_ok .i64) allNil)) (eCons (eBlk_ok (allCons (rRow_ok 8) allNil)) (eCons (eBlk_ok (allCons (rFunc_ok 68 0 (allCons (rPtr_ok 0 0) (allCons (rPtr_ok 1 0) (allCons (rPtr_ok 2 0) (allCons (rPtr_ok 3 0) (allCons (rPtr_ok 4 0) (allCons (rPtr_ok 5 0) allNil))))))) allNil)) (eCons (eRow_ok intC_ok) (eCons (eRow_ok intC_ok) eNil))))))))⟩
def calls_Share_1_run {R : Type} (N : Nat) (d : Nat) (args : List SV) (T : Tab) (kf : SV × Tab → Option R) : Option R :=
  calls_Share_1_r N d (toI (lget args 0)) (lstC api_PressC (lget (entCs (entAt T 0)) 0)) (lstC api_CarC (lget (entCs (entAt T 1)) 0)) (toI (lget (entCs (entAt T 3)) 0)) (entNl (entAt T 6)) (lst intC (entN (entAt T 6)) (entC (entAt T 6))) (entNl (entAt T 7)) (lst intC (entN (entAt T 7)) (entC (entAt T 7))) (fun q2 q4 q5 q6 => kf (lget [.tup []] 0, [(0, .blk [slC api_PressC (lstC api_PressC (lget (entCs (entAt T 0)) 0))]), (1, .blk [slC api_CarC (lstC api_CarC (lget (entCs (entAt T 1)) 0))]), (2, .blk [.row 6]), (3, .blk [.int .i64 q2]), (4, .blk [.row 8]), (5, .blk [.func 68 0 [.ptr 0 0, .ptr 1 0, .ptr 2 0, .ptr 3 0, .ptr 4 0, .ptr 5 0]]), (6, rowE intC (entNl (entAt T 6)) q4), (8, rowE intC q5 q6)]))
noncomputable def calls_Share_1_cald {R : Type} (N : Nat) (d : Nat) : Cal R := callM (slices_Clone___int_int__cal N) 68 8 calls_Share_1_sp (calls_Share_1_run N d)
def calls_Share_1_d5 {R : Type} (N : Nat) (rf : Int → Arr api_Press → Arr api_Car → Int → Bool → Arr Int → Bool → Arr Int → (Int → Arr Int → Bool → Arr Int → Option R) → Option R) (S0 : St) (k : Exit → St → Option R) : Option R :=
  calls_Share_1_l5 N rf N (toI (lget S0.tmps 0)) (toI (lget S0.tmps 29)) (toI (lget S0.tmps 30)) (lstC api_PressC (lget (entCs (entAt S0.tab 0)) 0)) (lstC api_CarC (lget (entCs (entAt S0.tab 1)) 0)) (toI (lget (entCs (entAt S0.tab 3)) 0)) (entNl (entAt S0.tab 6)) (lst intC (entN (entAt S0.tab 6)) (entC (entAt S0.tab 6))) (entNl (entAt S0.tab 7)) (lst intC (entN (entAt S0.tab 7)) (entC (entAt S0.tab 7))) (fun q2 q4 q5 q6 => k (.exit 0) (calls_Share_1_x5_0 (lstC api_PressC (lget (entCs (entAt S0.tab 0)) 0)) (lstC api_CarC (lget (entCs (entAt S0.tab 1)) 0)) (entNl (entAt S0.tab 6)) q2 q4 q5 q6))
def calls_Share_1_lp {R : Type} (N : Nat) (rf : Int → Arr api_Press → Arr api_Car → Int → Bool → Arr Int → Bool → Arr Int → (Int → Arr Int → Bool → Arr Int → Option R) → Option R) : Lp R := fun body S k => bif (Go.Sx.keyOf body).getD 0 == 5 then (calls_Share_1_L5.head.raw 8 S (fun S0 => calls_Share_1_d5 N rf S0 k)) else Option.none
theorem calls_Share_1_l5_eq {R : Type} (N : Nat) (d : Nat) (k : Exit → St → Option R) (n : Nat) : ∀ (v0 : Int) (v1 : Int) (v2 : Int) (v3 : Arr api_Press) (v4 : Arr api_Car) (v5 : Int) (v6 : Bool) (v7 : Arr Int) (v8 : Bool) (v9 : Arr Int), loopM E.Θ (calls_Share_1_cald N d) (calls_Share_1_lp N (calls_Share_1_r N d)) (noJn) 8 calls_Share_1_L5 (bodyAt E 68 5) n (calls_Share_1_h5 v0 v1 v2 v3 v4 v5 v6 v7 v8 v9) k = calls_Share_1_l5 N (calls_Share_1_r N d) n v0 v1 v2 v3 v4 v5 v6 v7 v8 v9 (fun q2 q4 q5 q6 => k (.exit 0) (calls_Share_1_x5_0 v3 v4 v6 q2 q4 q5 q6)) := by
  induction n with
  | zero => intro v0 v1 v2 v3 v4 v5 v6 v7 v8 v9; rfl
  | succ n ih =>
    intro v0 v1 v2 v3 v4 v5 v6 v7 v8 v9
    refine Eq.trans (b := calls_Share_1_b5 N (calls_Share_1_r N d) (fun v0 v1 v2 v3 v4 v5 v6 v7 v8 v9 => loopM E.Θ (calls_Share_1_cald N d) (calls_Share_1_lp N (calls_Share_1_r N d)) (noJn) 8 calls_Share_1_L5 (bodyAt E 68 5) n (calls_Share_1_h5 v0 v1 v2 v3 v4 v5 v6 v7 v8 v9) k) v0 v1 v2 v3 v4 v5 v6 v7 v8 v9 (fun q2 q4 q5 q6 => k (.exit 0) (calls_Share_1_x5_0 v3 v4 v6 q2 q4 q5 q6))) (by kernel_rfl) ?_
    have h : (fun (v0 : Int) (v1 : Int) (v2 : Int) (v3 : Arr api_Press) (v4 : Arr api_Car) (v5 : Int) (v6 : Bool) (v7 : Arr Int) (v8 : Bool) (v9 : Arr Int) => loopM E.Θ (calls_Share_1_cald N d) (calls_Share_1_lp N (calls_Share_1_r N d)) (noJn) 8 calls_Share_1_L5 (bodyAt E 68 5) n (calls_Share_1_h5 v0 v1 v2 v3 v4 v5 v6 v7 v8 v9) k) = (fun (v0 : Int) (v1 : Int) (v2 : Int) (v3 : Arr api_Press) (v4 : Arr api_Car) (v5 : Int) (v6 : Bool) (v7 : Arr Int) (v8 : Bool) (v9 : Arr Int) => calls_Share_1_l5 N (calls_Share_1_r N d) n v0 v1 v2 v3 v4 v5 v6 v7 v8 v9 (fun q2 q4 q5 q6 => k (.exit 0) (calls_Share_1_x5_0 v3 v4 v6 q2 q4 q5 q6))) := funext fun v0 => funext fun v1 => funext fun v2 => funext fun v3 => funext fun v4 => funext fun v5 => funext fun v6 => funext fun v7 => funext fun v8 => funext fun v9 => ih v0 v1 v2 v3 v4 v5 v6 v7 v8 v9
    rw [h]
    rfl
theorem calls_Share_1_k5 {R : Type} (N : Nat) (d : Nat) (hc : CalOk E.P (calls_Share_1_cald (R := R) N d)) : LpKey (R := R) E 68 8 (calls_Share_1_lp N (calls_Share_1_r N d)) 5 :=
  lpKey_of hE hc (lp := calls_Share_1_lp N (calls_Share_1_r N d)) (jn := noJn) calls_Share_1_L5_ok [] kNil (by kernel_rfl) [] jNil (by kernel_rfl) N fun S k =>
    Eq.trans (b := calls_Share_1_L5.head.raw 8 S (fun S0 => calls_Share_1_d5 N (calls_Share_1_r N d) S0 k)) (by kernel_rfl) (congrArg (calls_Share_1_L5.head.raw 8 S) (funext fun S0 => Eq.trans (calls_Share_1_l5_eq N d k N (toI (lget S0.tmps 0)) (toI (lget S0.tmps 29)) (toI (lget S0.tmps 30)) (lstC api_PressC (lget (entCs (entAt S0.tab 0)) 0)) (lstC api_CarC (lget (entCs (entAt S0.tab 1)) 0)) (toI (lget (entCs (entAt S0.tab 3)) 0)) (entNl (entAt S0.tab 6)) (lst intC (entN (entAt S0.tab 6)) (entC (entAt S0.tab 6))) (entNl (entAt S0.tab 7)) (lst intC (entN (entAt S0.tab 7)) (entC (entAt S0.tab 7)))).symm (by kernel_rfl)))
theorem calls_Share_1_cald_ok {R : Type} (N : Nat) (d : Nat) : CalOk E.P (calls_Share_1_cald (R := R) N d) := by
  induction d with
  | zero => exact callM_none (slices_Clone___int_int__cal_ok N) (fun args T kf => rfl)
  | succ d ih => exact callM_rec hE (slices_Clone___int_int__cal_ok N) ih (lp := calls_Share_1_lp N (calls_Share_1_r N d)) (jn := noJn) (keys := [5]) (kCons (calls_Share_1_k5 N d ih) kNil) (by kernel_rfl) (js := []) jNil (by kernel_rfl) calls_Share_1_sp_ok calls_Share_1_rs_ok (fun args T kf => by kernel_rfl)
noncomputable def calls_Share_1_go {R : Type} (N : Nat) (args : List SV) (T : Tab) (kf : SV × Tab → Option R) : Option R :=
  calls_Share_1 N (toI (lget args 0)) (lstC api_PressC (lget (entCs (entAt T 0)) 0)) (lstC api_CarC (lget (entCs (entAt T 1)) 0)) (toI (lget (entCs (entAt T 3)) 0)) (entNl (entAt T 6)) (lst intC (entN (entAt T 6)) (entC (entAt T 6))) (entNl (entAt T 7)) (lst intC (entN (entAt T 7)) (entC (entAt T 7))) (fun q2 q4 q5 q6 => kf (lget [.tup []] 0, [(0, .blk [slC api_PressC (lstC api_PressC (lget (entCs (entAt T 0)) 0))]), (1, .blk [slC api_CarC (lstC api_CarC (lget (entCs (entAt T 1)) 0))]), (2, .blk [.row 6]), (3, .blk [.int .i64 q2]), (4, .blk [.row 8]), (5, .blk [.func 68 0 [.ptr 0 0, .ptr 1 0, .ptr 2 0, .ptr 3 0, .ptr 4 0, .ptr 5 0]]), (6, rowE intC (entNl (entAt T 6)) q4), (8, rowE intC q5 q6)]))
noncomputable def calls_Share_1_cal {R : Type} (N : Nat) : Cal R := callM (slices_Clone___int_int__cal N) 68 8 calls_Share_1_sp (calls_Share_1_go N)
theorem calls_Share_1_cal_ok {R : Type} (N : Nat) : CalOk E.P (calls_Share_1_cal (R := R) N) :=
  callM_eq (fun args T kf => calls_Share_1_def N (toI (lget args 0)) (lstC api_PressC (lget (entCs (entAt T 0)) 0)) (lstC api_CarC (lget (entCs (entAt T 1)) 0)) (toI (lget (entCs (entAt T 3)) 0)) (entNl (entAt T 6)) (lst intC (entN (entAt T 6)) (entC (entAt T 6))) (entNl (entAt T 7)) (lst intC (entN (entAt T 7)) (entC (entAt T 7))) (fun q2 q4 q5 q6 => kf (lget [.tup []] 0, [(0, .blk [slC api_PressC (lstC api_PressC (lget (entCs (entAt T 0)) 0))]), (1, .blk [slC api_CarC (lstC api_CarC (lget (entCs (entAt T 1)) 0))]), (2, .blk [.row 6]), (3, .blk [.int .i64 q2]), (4, .blk [.row 8]), (5, .blk [.func 68 0 [.ptr 0 0, .ptr 1 0, .ptr 2 0, .ptr 3 0, .ptr 4 0, .ptr 5 0]]), (6, rowE intC (entNl (entAt T 6)) q4), (8, rowE intC q5 q6)]))) (calls_Share_1_cald_ok N N)
def calls_Share_m {R : Type} (N : Nat) (a670 : Arr api_Car) (a671 : Arr api_Press) (k : Int → Bool → Arr Int → Option R) : Option R :=
  calls_group N a670 a671 (fun r672 =>
  bif r672 != (0 : Int) then
   k r672 true (lst intC (0 : Nat) (zeroC [SV.int IntKind.i64 (0 : Int)]))
  else
   bif decide ((↑(Arr.n a671) : Int) > (6 : Int)) then
    k (2 : Int) true (lst intC (0 : Nat) (zeroC [SV.int IntKind.i64 (0 : Int)]))
   else
    bif decide ((↑(Arr.n a671) : Int) ≤ (↑(Arr.n a671) : Int)) && decide ((↑(Arr.n a671) : Int) ≤ (1073741824 : Int)) then
     calls_Share_1 N (0 : Int) a671 a670 (-1 : Int) false (lst intC (Int.toNat (↑(Arr.n a671) : Int)) (zeroC [SV.int IntKind.i64 (0 : Int)])) true (lst intC (0 : Nat) (zeroC [SV.int IntKind.i64 (0 : Int)])) (fun r762 r763 r764 r765 =>
     k (0 : Int) r764 r765)
    else
     Option.none)
noncomputable def calls_Share {R : Type} : Nat → Arr api_Car → Arr api_Press → (Int → Bool → Arr Int → Option R) → Option R := lock (@calls_Share_m R)
theorem calls_Share_def {R : Type} (N : Nat) (a670 : Arr api_Car) (a671 : Arr api_Press) (k : Int → Bool → Arr Int → Option R) : calls_Share N a670 a671 k = calls_Share_m N a670 a671 k := by unfold calls_Share; rw [lock_eq]
def calls_Share_sp : Sp := ⟨[rSl api_CarC, rSl api_PressC], []⟩
theorem calls_Share_sp_ok : calls_Share_sp.Ok := ⟨(allCons (rSl_ok api_CarC_ok) (allCons (rSl_ok api_PressC_ok) allNil)), eNil⟩
def calls_Share_rs : Sp := ⟨[rTup [rRow 0, rInt .i64]], [(0, eRow intC)]⟩
theorem calls_Share_rs_ok : calls_Share_rs.Ok := ⟨(allCons (rTup_ok (allCons (rRow_ok 0) (allCons (rInt_ok .i64) allNil))) allNil), (eCons (eRow_ok intC_ok) eNil)⟩
def calls_Share_run {R : Type} (N : Nat) (args : List SV) (T : Tab) (kf : SV × Tab → Option R) : Option R :=
  calls_Share_m N (lstC api_CarC (lget args 0)) (lstC api_PressC (lget args 1)) (fun q0 q1 q2 => kf (lget [.tup [.row 0, .int .i64 q0]] 0, [(0, rowE intC q1 q2)]))
def calls_Share_lp {R : Type} (N : Nat) : Lp R := fun body S k => Option.none
noncomputable def calls_Share_go {R : Type} (N : Nat) (args : List SV) (T : Tab) (kf : SV × Tab → Option R) : Option R :=
  calls_Share N (lstC api_CarC (lget args 0)) (lstC api_PressC (lget args 1)) (fun q0 q1 q2 => kf (lget [.tup [.row 0, .int .i64 q0]] 0, [(0, rowE intC q1 q2)]))
noncomputable def calls_Share_cal {R : Type} (N : Nat) : Cal R := callM (calls_Share_1_cal N) 35 0 calls_Share_sp (calls_Share_go N)
theorem calls_Share_cal_ok {R : Type} (N : Nat) : CalOk E.P (calls_Share_cal (R := R) N) :=
  callM_ok hE (calls_Share_1_cal_ok N) (lp := calls_Share_lp N) (jn := noJn) (keys := []) kNil (by kernel_rfl) (js := []) jNil (by kernel_rfl) calls_Share_sp_ok calls_Share_rs_ok (fun args T kf => Eq.trans (calls_Share_def N (lstC api_CarC (lget args 0)) (lstC api_PressC (lget args 1)) (fun q0 q1 q2 => kf (lget [.tup [.row 0, .int .i64 q0]] 0, [(0, rowE intC q1 q2)]))) (by kernel_rfl : calls_Share_run N args T kf = fnM E (calls_Share_1_cal N) (calls_Share_lp N) (noJn) 35 (calls_Share_sp.vs args) (calls_Share_sp.tab T) 0 (resK calls_Share_rs kf)))
def newelref07_Share_L8 : LoopSp := ⟨⟨[0, 1, 7, 8], ⟨((rSl api_CarC) :: (rSl api_PressC) :: (dr 5 ((rInt .i64) :: (rInt .i64) :: (dr 71 [])))), []⟩, 0⟩, [(some 0, ⟨[0, 1, 7], ⟨((rSl api_CarC) :: (rSl api_PressC) :: (dr 5 ((rInt .i64) :: (dr 72 [])))), []⟩, 0⟩)]⟩
theorem newelref07_Share_L8_ok : newelref07_Share_L8.Ok := ⟨⟨(allCons (rSl_ok api_CarC_ok) (allCons (rSl_ok api_PressC_ok) (drCons 5 (allCons (rInt_ok .i64) (allCons (rInt_ok .i64) (drCons 71 allNil)))))), eNil⟩, (xCons ⟨(allCons (rSl_ok api_CarC_ok) (allCons (rSl_ok api_PressC_ok) (drCons 5 (allCons (rInt_ok .i64) (drCons 72 allNil))))), eNil⟩ xNil)⟩
def newelref07_Share_h8 (v769 : Arr api_Car) (v770 : Arr api_Press) (v771 : Int) (v772 : Int) : St := ⟨((slC api_CarC v769) :: (slC api_PressC v770) :: (un 5 ((.int .i64 v771) :: (.int .i64 v772) :: (un 71 [])))), [], 0⟩
def newelref07_Share_x8_0 (v769 : Arr api_Car) (v770 : Arr api_Press) (q2 : Int) : St := ⟨((slC api_CarC v769) :: (slC api_PressC v770) :: (un 5 ((.int .i64 q2) :: (un 72 [])))), [], 0⟩
def newelref07_Share_b8 {R : Type} (N : Nat) (rc : Arr api_Car → Arr api_Press → Int → Int → Option R) (v769 : Arr api_Car) (v770 : Arr api_Press) (v771 : Int) (v772 : Int) (k0 : Int → Option R) : Option R :=
  bif decide (v772 < (↑(Arr.n v770) : Int)) then
   rc v769 v770 (w64 (v771 * (↑(Arr.n v769) : Int))) (w64 (v772 + (1 : Int)))
  else
   k0 v771
def newelref07_Share_l8 {R : Type} (N : Nat) : Nat → Arr api_Car → Arr api_Press → Int → Int → (Int → Option R) → Option R
  | 0, _, _, _, _, _ => Option.none
  | n + 1, v769, v770, v771, v772, k0 => newelref07_Share_b8 N (fun v769 v770 v771 v772 => newelref07_Share_l8 N n v769 v770 v771 v772 k0) v769 v770 v771 v772 k0
def newelref07_Share_L19 : LoopSp := ⟨⟨[0, 1, 7, 9, 10, 11, 12, 13, 14], ⟨((rSl api_CarC) :: (rSl api_PressC) :: (dr 5 ((rInt .i64) :: (dr 1 ((rRow 0) :: (rInt .i64) :: (rInt .i64) :: (rRow 1) :: (rInt .i64) :: (rInt .i64) :: (dr 65 [])))))), [(0, eRow intC), (1, eRow intC)]⟩, 2⟩, [(some 4, ⟨[0, 1, 7, 9, 10, 11, 12], ⟨((rSl api_CarC) :: (rSl api_PressC) :: (dr 5 ((rInt .i64) :: (dr 1 ((rRow 0) :: (rInt .i64) :: (rInt .i64) :: (rRow 1) :: (dr 67 [])))))), [(0, eRow intC), (1, eRow intC)]⟩, 2⟩)]⟩
theorem newelref07_Share_L19_ok : newelref07_Share_L19.Ok := ⟨⟨(allCons (rSl_ok api_CarC_ok) (allCons (rSl_ok api_PressC_ok) (drCons 5 (allCons (rInt_ok .i64) (drCons 1 (allCons (rRow_ok 0) (allCons (rInt_ok .i64) (allCons (rInt_ok .i64) (allCons (rRow_ok 1) (allCons (rInt_ok .i64) (allCons (rInt_ok .i64) (drCons 65 allNil)))))))))))), (eCons (eRow_ok intC_ok) (eCons (eRow_ok intC_ok) eNil))⟩, (xCons ⟨(allCons (rSl_ok api_CarC_ok) (allCons (rSl_ok api_PressC_ok) (drCons 5 (allCons (rInt_ok .i64) (drCons 1 (allCons (rRow_ok 0) (allCons (rInt_ok .i64) (allCons (rInt_ok .i64) (allCons (rRow_ok 1) (drCons 67 allNil)))))))))), (eCons (eRow_ok intC_ok) (eCons (eRow_ok intC_ok) eNil))⟩ xNil)⟩
def newelref07_Share_h19 (v781 : Arr api_Car) (v782 : Arr api_Press) (v783 : Int) (v784 : Int) (v785 : Int) (v786 : Int) (v787 : Int) (v788 : Bool) (v789 : Arr Int) (v790 : Bool) (v791 : Arr Int) : St := ⟨((slC api_CarC v781) :: (slC api_PressC v782) :: (un 5 ((.int .i64 v783) :: (un 1 ((.row 0) :: (.int .i64 v784) :: (.int .i64 v785) :: (.row 1) :: (.int .i64 v786) :: (.int .i64 v787) :: (un 65 [])))))), [(0, rowE intC v788 v789), (1, rowE intC v790 v791)], 2⟩
def newelref07_Share_x19_4 (v781 : Arr api_Car) (v782 : Arr api_Press) (v783 : Int) (v784 : Int) (v785 : Int) (v788 : Bool) (v789 : Arr Int) (v790 : Bool) (q8 : Arr Int) : St := ⟨((slC api_CarC v781) :: (slC api_PressC v782) :: (un 5 ((.int .i64 v783) :: (un 1 ((.row 0) :: (.int .i64 v784) :: (.int .i64 v785) :: (.row 1) :: (un 67 [])))))), [(0, rowE intC v788 v789), (1, rowE intC v790 q8)], 2⟩
def newelref07_Share_b19 {R : Type} (N : Nat) (rc : Arr api_Car → Arr api_Press → Int → Int → Int → Int → Int → Bool → Arr Int → Bool → Arr Int → Option R) (v781 : Arr api_Car) (v782 : Arr api_Press) (v783 : Int) (v784 : Int) (v785 : Int) (v786 : Int) (v787 : Int) (v788 : Bool) (v789 : Arr Int) (v790 : Bool) (v791 : Arr Int) (k4 : Arr Int → Option R) : Option R :=
  bif decide (v787 ≥ (0 : Int)) then
   bif (↑(Arr.n v781) : Int) == (0 : Int) then
    Option.none
   else
    bif decide ((0 : Int) ≤ v787) && decide (v787 < (↑(Arr.n v791) : Int)) then
     bif (↑(Arr.n v781) : Int) == (0 : Int) then
      Option.none
     else
      rc v781 v782 v783 v784 v785 (w64 (Int.tdiv v786 (↑(Arr.n v781) : Int))) (w64 (v787 - (1 : Int))) v788 v789 v790 (lst intC (Arr.n v791) (setCs (Int.toNat v787) (0 : Nat) (Cod.cell intC (Arr.f v791)) [SV.int IntKind.i64 (Int.tmod v786 (↑(Arr.n v781) : Int))]))
    else
     Option.none
  else
   k4 v791
def newelref07_Share_l19 {R : Type} (N : Nat) : Nat → Arr api_Car → Arr api_Press → Int → Int → Int → Int → Int → Bool → Arr Int → Bool → Arr Int → (Arr Int → Option R) → Option R
  | 0, _, _, _, _, _, _, _, _, _, _, _, _ => Option.none
  | n + 1, v781, v782, v783, v784, v785, v786, v787, v788, v789, v790, v791, k4 => newelref07_Share_b19 N (fun v781 v782 v783 v784 v785 v786 v787 v788 v789 v790 v791 => newelref07_Share_l19 N n v781 v782 v783 v784 v785 v786 v787 v788 v789 v790 v791 k4) v781 v782 v783 v784 v785 v786 v787 v788 v789 v790 v791 k4
def newelref07_Share_L14 : LoopSp := ⟨⟨[0, 1, 7, 9, 10, 11], ⟨((rSl api_CarC) :: (rSl api_PressC) :: (dr 5 ((rInt .i64) :: (dr 1 ((rRow 0) :: (rInt .i64) :: (rInt .i64) :: (dr 68 [])))))), [(0, eRow intC)]⟩, 1⟩, [(some 2, ⟨[9], ⟨(dr 9 ((rRow 0) :: (dr 70 []))), [(0, eRow intC)]⟩, 1⟩)]⟩
theorem newelref07_Share_L14_ok : newelref07_Share_L14.Ok := ⟨⟨(allCons (rSl_ok api_CarC_ok) (allCons (rSl_ok api_PressC_ok) (drCons 5 (allCons (rInt_ok .i64) (drCons 1 (allCons (rRow_ok 0) (allCons (rInt_ok .i64) (allCons (rInt_ok .i64) (drCons 68 allNil))))))))), (eCons (eRow_ok intC_ok) eNil)⟩, (xCons ⟨(drCons 9 (allCons (rRow_ok 0) (drCons 70 allNil))), (eCons (eRow_ok intC_ok) eNil)⟩ xNil)⟩
def newelref07_Share_h14 (v774 : Arr api_Car) (v775 : Arr api_Press) (v776 : Int) (v777 : Int) (v778 : Int) (v779 : Bool) (v780 : Arr Int) : St := ⟨((slC api_CarC v774) :: (slC api_PressC v775) :: (un 5 ((.int .i64 v776) :: (un 1 ((.row 0) :: (.int .i64 v777) :: (.int .i64 v778) :: (un 68 [])))))), [(0, rowE intC v779 v780)], 1⟩
def newelref07_Share_x14_2 (q0 : Bool) (q1 : Arr Int) : St := ⟨(un 9 ((.row 0) :: (un 70 []))), [(0, rowE intC q0 q1)], 1⟩
def newelref07_Share_b14 {R : Type} (N : Nat) (rc : Arr api_Car → Arr api_Press → Int → Int → Int → Bool → Arr Int → Option R) (v774 : Arr api_Car) (v775 : Arr api_Press) (v776 : Int) (v777 : Int) (v778 : Int) (v779 : Bool) (v780 : Arr Int) (k2 : Bool → Arr Int → Option R) : Option R :=
  bif decide (v778 < v776) then
   bif decide ((↑(Arr.n v775) : Int) ≤ (↑(Arr.n v775) : Int)) && decide ((↑(Arr.n v775) : Int) ≤ (1073741824 : Int)) then
    newelref07_Share_l19 N N v774 v775 v776 v777 v778 v778 (w64 ((↑(Arr.n v775) : Int) - (1 : Int))) v779 v780 false (lst intC (Int.toNat (↑(Arr.n v775) : Int)) (zeroC [SV.int IntKind.i64 (0 : Int)])) (fun r792 =>
     newelref07_longest N v774 v775 r792 (fun r793 =>
     bif decide (r793 ≥ (0 : Int)) then
      bif decide (v777 < (0 : Int)) then
       rc v774 v775 v776 r793 (w64 (v778 + (1 : Int))) false r792
      else
       bif decide (r793 < v777) then
        rc v774 v775 v776 r793 (w64 (v778 + (1 : Int))) false r792
       else
        rc v774 v775 v776 v777 (w64 (v778 + (1 : Int))) v779 v780
     else
      rc v774 v775 v776 v777 (w64 (v778 + (1 : Int))) v779 v780))
   else
    Option.none
  else
   k2 v779 v780
def newelref07_Share_l14 {R : Type} (N : Nat) : Nat → Arr api_Car → Arr api_Press → Int → Int → Int → Bool → Arr Int → (Bool → Arr Int → Option R) → Option R
  | 0, _, _, _, _, _, _, _, _ => Option.none
  | n + 1, v774, v775, v776, v777, v778, v779, v780, k2 => newelref07_Share_b14 N (fun v774 v775 v776 v777 v778 v779 v780 => newelref07_Share_l14 N n v774 v775 v776 v777 v778 v779 v780 k2) v774 v775 v776 v777 v778 v779 v780 k2
def newelref07_Share_m {R : Type} (N : Nat) (a766 : Arr api_Car) (a767 : Arr api_Press) (k : Int → Bool → Arr Int → Option R) : Option R :=
  newelref07_CheckGroup N a766 a767 (fun r768 =>
  bif r768 != (0 : Int) then
   k r768 true (lst intC (0 : Nat) (zeroC [SV.int IntKind.i64 (0 : Int)]))
  else
   bif decide ((↑(Arr.n a767) : Int) > (6 : Int)) then
    k (2 : Int) true (lst intC (0 : Nat) (zeroC [SV.int IntKind.i64 (0 : Int)]))
   else
    newelref07_Share_l8 N N a766 a767 (1 : Int) (0 : Int) (fun r773 =>
     newelref07_Share_l14 N N a766 a767 r773 (-1 : Int) (0 : Int) true (lst intC (0 : Nat) (zeroC [SV.int IntKind.i64 (0 : Int)])) (fun r794 r795 =>
      k (0 : Int) r794 r795)))
noncomputable def newelref07_Share {R : Type} : Nat → Arr api_Car → Arr api_Press → (Int → Bool → Arr Int → Option R) → Option R := lock (@newelref07_Share_m R)
theorem newelref07_Share_def {R : Type} (N : Nat) (a766 : Arr api_Car) (a767 : Arr api_Press) (k : Int → Bool → Arr Int → Option R) : newelref07_Share N a766 a767 k = newelref07_Share_m N a766 a767 k := by unfold newelref07_Share; rw [lock_eq]
def newelref07_Share_sp : Sp := ⟨[rSl api_CarC, rSl api_PressC], []⟩
theorem newelref07_Share_sp_ok : newelref07_Share_sp.Ok := ⟨(allCons (rSl_ok api_CarC_ok) (allCons (rSl_ok api_PressC_ok) allNil)), eNil⟩
def newelref07_Share_rs : Sp := ⟨[rTup [rRow 0, rInt .i64]], [(0, eRow intC)]⟩
theorem newelref07_Share_rs_ok : newelref07_Share_rs.Ok := ⟨(allCons (rTup_ok (allCons (rRow_ok 0) (allCons (rInt_ok .i64) allNil))) allNil), (eCons (eRow_ok intC_ok) eNil)⟩
def newelref07_Share_run {R : Type} (N : Nat) (args : List SV) (T : Tab) (kf : SV × Tab → Option R) : Option R :=
  newelref07_Share_m N (lstC api_CarC (lget args 0)) (lstC api_PressC (lget args 1)) (fun q0 q1 q2 => kf (lget [.tup [.row 0, .int .i64 q0]] 0, [(0, rowE intC q1 q2)]))
def newelref07_Share_d19 {R : Type} (N : Nat) (S0 : St) (k : Exit → St → Option R) : Option R :=
  newelref07_Share_l19 N N (lstC api_CarC (lget S0.tmps 0)) (lstC api_PressC (lget S0.tmps 1)) (toI (lget S0.tmps 7)) (toI (lget S0.tmps 10)) (toI (lget S0.tmps 11)) (toI (lget S0.tmps 13)) (toI (lget S0.tmps 14)) (entNl (entAt S0.tab 0)) (lst intC (entN (entAt S0.tab 0)) (entC (entAt S0.tab 0))) (entNl (entAt S0.tab 1)) (lst intC (entN (entAt S0.tab 1)) (entC (entAt S0.tab 1))) (fun q8 => k (.exit 4) (newelref07_Share_x19_4 (lstC api_CarC (lget S0.tmps 0)) (lstC api_PressC (lget S0.tmps 1)) (toI (lget S0.tmps 7)) (toI (lget S0.tmps 10)) (toI (lget S0.tmps 11)) (entNl (entAt S0.tab 0)) (lst intC (entN (entAt S0.tab 0)) (entC (entAt S0.tab 0))) (entNl (entAt S0.tab 1)) q8))
def newelref07_Share_d14 {R : Type} (N : Nat) (S0 : St) (k : Exit → St → Option R) : Option R :=
  newelref07_Share_l14 N N (lstC api_CarC (lget S0.tmps 0)) (lstC api_PressC (lget S0.tmps 1)) (toI (lget S0.tmps 7)) (toI (lget S0.tmps 10)) (toI (lget S0.tmps 11)) (entNl (entAt S0.tab 0)) (lst intC (entN (entAt S0.tab 0)) (entC (entAt S0.tab 0))) (fun q0 q1 => k (.exit 2) (newelref07_Share_x14_2 q0 q1))
def newelref07_Share_d8 {R : Type} (N : Nat) (S0 : St) (k : Exit → St → Option R) : Option R :=
  newelref07_Share_l8 N N (lstC api_CarC (lget S0.tmps 0)) (lstC api_PressC (lget S0.tmps 1)) (toI (lget S0.tmps 7)) (toI (lget S0.tmps 8)) (fun q2 => k (.exit 0) (newelref07_Share_x8_0 (lstC api_CarC (lget S0.tmps 0)) (lstC api_PressC (lget S0.tmps 1)) q2))
def newelref07_Share_lp {R : Type} (N : Nat) : Lp R := fun body S k => bif (Go.Sx.keyOf body).getD 0 == 8 then (newelref07_Share_L8.head.raw 0 S (fun S0 => newelref07_Share_d8 N S0 k)) else bif (Go.Sx.keyOf body).getD 0 == 14 then (newelref07_Share_L14.head.raw 0 S (fun S0 => newelref07_Share_d14 N S0 k)) else bif (Go.Sx.keyOf body).getD 0 == 19 then (newelref07_Share_L19.head.raw 0 S (fun S0 => newelref07_Share_d19 N S0 k)) else Option.none
theorem newelref07_Share_l8_eq {R : Type} (N : Nat) (k : Exit → St → Option R) (n : Nat) : ∀ (v0 : Arr api_Car) (v1 : Arr api_Press) (v2 : Int) (v3 : Int), loopM E.Θ (calls_Share_cal N) (newelref07_Share_lp N) (noJn) 0 newelref07_Share_L8 (bodyAt E 36 8) n (newelref07_Share_h8 v0 v1 v2 v3) k = newelref07_Share_l8 N n v0 v1 v2 v3 (fun q2 => k (.exit 0) (newelref07_Share_x8_0 v0 v1 q2)) := by
  induction n with
  | zero => intro v0 v1 v2 v3; rfl
  | succ n ih =>
    intro v0 v1 v2 v3
    refine Eq.trans (b := newelref07_Share_b8 N (fun v0 v1 v2 v3 => loopM E.Θ (calls_Share_cal N) (newelref07_Share_lp N) (noJn) 0 newelref07_Share_L8 (bodyAt E 36 8) n (newelref07_Share_h8 v0 v1 v2 v3) k) v0 v1 v2 v3 (fun q2 => k (.exit 0) (newelref07_Share_x8_0 v0 v1 q2))) (by kernel_rfl) ?_
    have h : (fun (v0 : Arr api_Car) (v1 : Arr api_Press) (v2 : Int) (v3 : Int) => loopM E.Θ (calls_Share_cal N) (newelref07_Share_lp N) (noJn) 0 newelref07_Share_L8 (bodyAt E 36 8) n (newelref07_Share_h8 v0 v1 v2 v3) k) = (fun (v0 : Arr api_Car) (v1 : Arr api_Press) (v2 : Int) (v3 : Int) => newelref07_Share_l8 N n v0 v1 v2 v3 (fun q2 => k (.exit 0) (newelref07_Share_x8_0 v0 v1 q2))) := funext fun v0 => funext fun v1 => funext fun v2 => funext fun v3 => ih v0 v1 v2 v3
    rw [h]
    rfl
theorem newelref07_Share_l14_eq {R : Type} (N : Nat) (k : Exit → St → Option R) (n : Nat) : ∀ (v0 : Arr api_Car) (v1 : Arr api_Press) (v2 : Int) (v3 : Int) (v4 : Int) (v5 : Bool) (v6 : Arr Int), loopM E.Θ (calls_Share_cal N) (newelref07_Share_lp N) (noJn) 0 newelref07_Share_L14 (bodyAt E 36 14) n (newelref07_Share_h14 v0 v1 v2 v3 v4 v5 v6) k = newelref07_Share_l14 N n v0 v1 v2 v3 v4 v5 v6 (fun q0 q1 => k (.exit 2) (newelref07_Share_x14_2 q0 q1)) := by
  induction n with
  | zero => intro v0 v1 v2 v3 v4 v5 v6; rfl
  | succ n ih =>
    intro v0 v1 v2 v3 v4 v5 v6
    refine Eq.trans (b := newelref07_Share_b14 N (fun v0 v1 v2 v3 v4 v5 v6 => loopM E.Θ (calls_Share_cal N) (newelref07_Share_lp N) (noJn) 0 newelref07_Share_L14 (bodyAt E 36 14) n (newelref07_Share_h14 v0 v1 v2 v3 v4 v5 v6) k) v0 v1 v2 v3 v4 v5 v6 (fun q0 q1 => k (.exit 2) (newelref07_Share_x14_2 q0 q1))) (by kernel_rfl) ?_
    have h : (fun (v0 : Arr api_Car) (v1 : Arr api_Press) (v2 : Int) (v3 : Int) (v4 : Int) (v5 : Bool) (v6 : Arr Int) => loopM E.Θ (calls_Share_cal N) (newelref07_Share_lp N) (noJn) 0 newelref07_Share_L14 (bodyAt E 36 14) n (newelref07_Share_h14 v0 v1 v2 v3 v4 v5 v6) k) = (fun (v0 : Arr api_Car) (v1 : Arr api_Press) (v2 : Int) (v3 : Int) (v4 : Int) (v5 : Bool) (v6 : Arr Int) => newelref07_Share_l14 N n v0 v1 v2 v3 v4 v5 v6 (fun q0 q1 => k (.exit 2) (newelref07_Share_x14_2 q0 q1))) := funext fun v0 => funext fun v1 => funext fun v2 => funext fun v3 => funext fun v4 => funext fun v5 => funext fun v6 => ih v0 v1 v2 v3 v4 v5 v6
    rw [h]
    rfl
theorem newelref07_Share_l19_eq {R : Type} (N : Nat) (k : Exit → St → Option R) (n : Nat) : ∀ (v0 : Arr api_Car) (v1 : Arr api_Press) (v2 : Int) (v3 : Int) (v4 : Int) (v5 : Int) (v6 : Int) (v7 : Bool) (v8 : Arr Int) (v9 : Bool) (v10 : Arr Int), loopM E.Θ (calls_Share_cal N) (newelref07_Share_lp N) (noJn) 0 newelref07_Share_L19 (bodyAt E 36 19) n (newelref07_Share_h19 v0 v1 v2 v3 v4 v5 v6 v7 v8 v9 v10) k = newelref07_Share_l19 N n v0 v1 v2 v3 v4 v5 v6 v7 v8 v9 v10 (fun q8 => k (.exit 4) (newelref07_Share_x19_4 v0 v1 v2 v3 v4 v7 v8 v9 q8)) := by
  induction n with
  | zero => intro v0 v1 v2 v3 v4 v5 v6 v7 v8 v9 v10; rfl
  | succ n ih =>
    intro v0 v1 v2 v3 v4 v5 v6 v7 v8 v9 v10
    refine Eq.trans (b := newelref07_Share_b19 N (fun v0 v1 v2 v3 v4 v5 v6 v7 v8 v9 v10 => loopM E.Θ (calls_Share_cal N) (newelref07_Share_lp N) (noJn) 0 newelref07_Share_L19 (bodyAt E 36 19) n (newelref07_Share_h19 v0 v1 v2 v3 v4 v5 v6 v7 v8 v9 v10) k) v0 v1 v2 v3 v4 v5 v6 v7 v8 v9 v10 (fun q8 => k (.exit 4) (newelref07_Share_x19_4 v0 v1 v2 v3 v4 v7 v8 v9 q8))) (by kernel_rfl) ?_
    have h : (fun (v0 : Arr api_Car) (v1 : Arr api_Press) (v2 : Int) (v3 : Int) (v4 : Int) (v5 : Int) (v6 : Int) (v7 : Bool) (v8 : Arr Int) (v9 : Bool) (v10 : Arr Int) => loopM E.Θ (calls_Share_cal N) (newelref07_Share_lp N) (noJn) 0 newelref07_Share_L19 (bodyAt E 36 19) n (newelref07_Share_h19 v0 v1 v2 v3 v4 v5 v6 v7 v8 v9 v10) k) = (fun (v0 : Arr api_Car) (v1 : Arr api_Press) (v2 : Int) (v3 : Int) (v4 : Int) (v5 : Int) (v6 : Int) (v7 : Bool) (v8 : Arr Int) (v9 : Bool) (v10 : Arr Int) => newelref07_Share_l19 N n v0 v1 v2 v3 v4 v5 v6 v7 v8 v9 v10 (fun q8 => k (.exit 4) (newelref07_Share_x19_4 v0 v1 v2 v3 v4 v7 v8 v9 q8))) := funext fun v0 => funext fun v1 => funext fun v2 => funext fun v3 => funext fun v4 => funext fun v5 => funext fun v6 => funext fun v7 => funext fun v8 => funext fun v9 => funext fun v10 => ih v0 v1 v2 v3 v4 v5 v6 v7 v8 v9 v10
    rw [h]
    rfl
theorem newelref07_Share_k8 {R : Type} (N : Nat) : LpKey (R := R) E 36 0 (newelref07_Share_lp N) 8 :=
  lpKey_of hE (calls_Share_cal_ok N) (lp := newelref07_Share_lp N) (jn := noJn) newelref07_Share_L8_ok [] kNil (by kernel_rfl) [] jNil (by kernel_rfl) N fun S k =>
    Eq.trans (b := newelref07_Share_L8.head.raw 0 S (fun S0 => newelref07_Share_d8 N S0 k)) (by kernel_rfl) (congrArg (newelref07_Share_L8.head.raw 0 S) (funext fun S0 => Eq.trans (newelref07_Share_l8_eq N k N (lstC api_CarC (lget S0.tmps 0)) (lstC api_PressC (lget S0.tmps 1)) (toI (lget S0.tmps 7)) (toI (lget S0.tmps 8))).symm (by kernel_rfl)))
theorem newelref07_Share_k19 {R : Type} (N : Nat) : LpKey (R := R) E 36 0 (newelref07_Share_lp N) 19 :=
  lpKey_of hE (calls_Share_cal_ok N) (lp := newelref07_Share_lp N) (jn := noJn) newelref07_Share_L19_ok [] kNil (by kernel_rfl) [] jNil (by kernel_rfl) N fun S k =>
    Eq.trans (b := newelref07_Share_L19.head.raw 0 S (fun S0 => newelref07_Share_d19 N S0 k)) (by kernel_rfl) (congrArg (newelref07_Share_L19.head.raw 0 S) (funext fun S0 => Eq.trans (newelref07_Share_l19_eq N k N (lstC api_CarC (lget S0.tmps 0)) (lstC api_PressC (lget S0.tmps 1)) (toI (lget S0.tmps 7)) (toI (lget S0.tmps 10)) (toI (lget S0.tmps 11)) (toI (lget S0.tmps 13)) (toI (lget S0.tmps 14)) (entNl (entAt S0.tab 0)) (lst intC (entN (entAt S0.tab 0)) (entC (entAt S0.tab 0))) (entNl (entAt S0.tab 1)) (lst intC (entN (entAt S0.tab 1)) (entC (entAt S0.tab 1)))).symm (by kernel_rfl)))
theorem newelref07_Share_k14 {R : Type} (N : Nat) : LpKey (R := R) E 36 0 (newelref07_Share_lp N) 14 :=
  lpKey_of hE (calls_Share_cal_ok N) (lp := newelref07_Share_lp N) (jn := noJn) newelref07_Share_L14_ok [19] (kCons (newelref07_Share_k19 N) kNil) (by kernel_rfl) [] jNil (by kernel_rfl) N fun S k =>
    Eq.trans (b := newelref07_Share_L14.head.raw 0 S (fun S0 => newelref07_Share_d14 N S0 k)) (by kernel_rfl) (congrArg (newelref07_Share_L14.head.raw 0 S) (funext fun S0 => Eq.trans (newelref07_Share_l14_eq N k N (lstC api_CarC (lget S0.tmps 0)) (lstC api_PressC (lget S0.tmps 1)) (toI (lget S0.tmps 7)) (toI (lget S0.tmps 10)) (toI (lget S0.tmps 11)) (entNl (entAt S0.tab 0)) (lst intC (entN (entAt S0.tab 0)) (entC (entAt S0.tab 0)))).symm (by kernel_rfl)))
noncomputable def newelref07_Share_go {R : Type} (N : Nat) (args : List SV) (T : Tab) (kf : SV × Tab → Option R) : Option R :=
  newelref07_Share N (lstC api_CarC (lget args 0)) (lstC api_PressC (lget args 1)) (fun q0 q1 q2 => kf (lget [.tup [.row 0, .int .i64 q0]] 0, [(0, rowE intC q1 q2)]))
noncomputable def newelref07_Share_cal {R : Type} (N : Nat) : Cal R := callM (calls_Share_cal N) 36 0 newelref07_Share_sp (newelref07_Share_go N)
theorem newelref07_Share_cal_ok {R : Type} (N : Nat) : CalOk E.P (newelref07_Share_cal (R := R) N) :=
  callM_ok hE (calls_Share_cal_ok N) (lp := newelref07_Share_lp N) (jn := noJn) (keys := [8, 14, 19]) (kCons (newelref07_Share_k8 N) (kCons (newelref07_Share_k14 N) (kCons (newelref07_Share_k19 N) kNil))) (by kernel_rfl) (js := []) jNil (by kernel_rfl) newelref07_Share_sp_ok newelref07_Share_rs_ok (fun args T kf => Eq.trans (newelref07_Share_def N (lstC api_CarC (lget args 0)) (lstC api_PressC (lget args 1)) (fun q0 q1 q2 => kf (lget [.tup [.row 0, .int .i64 q0]] 0, [(0, rowE intC q1 q2)]))) (by kernel_rfl : newelref07_Share_run N args T kf = fnM E (calls_Share_cal N) (newelref07_Share_lp N) (noJn) 36 (newelref07_Share_sp.vs args) (newelref07_Share_sp.tab T) 0 (resK newelref07_Share_rs kf)))
end
end Go.Proofs.Ytlphgonhenegoaa
