/-
  The model of the statement LiftQuick, that it is what the code does (written by a program), and that it answers true.
-/
import Derived.Test.YtceeaimmelaenaaP8
set_option maxRecDepth 100000
set_option maxHeartbeats 0
set_option linter.unusedVariables false
set_option linter.unusedSimpArgs false
namespace Go.Proofs.Ytceeaimmelaenaa
open Go.Sx
noncomputable section

def newellaw05_LiftQuick_L10 : LoopSp := ⟨⟨[2, 3, 7, 11, 12, 13], ⟨(dr 2 ((rSl intC) :: (rPtr 0 0) :: (dr 3 ((rRow 1) :: (dr 3 ((rInt .i64) :: (rInt .i64) :: (rInt .i64) :: (dr 132 []))))))), [(0, eBlkC api_LiftC), (1, eRow intC)]⟩, 2⟩, [(some 0, ⟨[2, 3, 7, 11, 12], ⟨(dr 2 ((rSl intC) :: (rPtr 0 0) :: (dr 3 ((rRow 1) :: (dr 3 ((rInt .i64) :: (rInt .i64) :: (dr 133 []))))))), [(0, eBlkC api_LiftC), (1, eRow intC)]⟩, 2⟩)]⟩
theorem newellaw05_LiftQuick_L10_ok : newellaw05_LiftQuick_L10.Ok := ⟨⟨(drCons 2 (allCons (rSl_ok intC_ok) (allCons (rPtr_ok 0 0) (drCons 3 (allCons (rRow_ok 1) (drCons 3 (allCons (rInt_ok .i64) (allCons (rInt_ok .i64) (allCons (rInt_ok .i64) (drCons 132 allNil)))))))))), (eCons (eBlkC_ok api_LiftC_ok api_LiftC_len) (eCons (eRow_ok intC_ok) eNil))⟩, (xCons ⟨(drCons 2 (allCons (rSl_ok intC_ok) (allCons (rPtr_ok 0 0) (drCons 3 (allCons (rRow_ok 1) (drCons 3 (allCons (rInt_ok .i64) (allCons (rInt_ok .i64) (drCons 133 allNil))))))))), (eCons (eBlkC_ok api_LiftC_ok api_LiftC_len) (eCons (eRow_ok intC_ok) eNil))⟩ xNil)⟩
def newellaw05_LiftQuick_h10 (v1136 : Arr Int) (v1137 : Int) (v1138 : Int) (v1139 : Int) (v1140 : api_Lift) (v1141 : Bool) (v1142 : Arr Int) : St := ⟨(un 2 ((slC intC v1136) :: (.ptr 0 0) :: (un 3 ((.row 1) :: (un 3 ((.int .i64 v1137) :: (.int .i64 v1138) :: (.int .i64 v1139) :: (un 132 []))))))), [(0, .blk (Cod.enc api_LiftC v1140)), (1, rowE intC v1141 v1142)], 2⟩
def newellaw05_LiftQuick_x10_0 (v1136 : Arr Int) (v1137 : Int) (v1140 : api_Lift) (v1141 : Bool) (v1142 : Arr Int) (q2 : Int) : St := ⟨(un 2 ((slC intC v1136) :: (.ptr 0 0) :: (un 3 ((.row 1) :: (un 3 ((.int .i64 v1137) :: (.int .i64 q2) :: (un 133 []))))))), [(0, .blk (Cod.enc api_LiftC v1140)), (1, rowE intC v1141 v1142)], 2⟩
def newellaw05_LiftQuick_b10 {R : Type} (N : Nat) (rc : Arr Int → Int → Int → Int → api_Lift → Bool → Arr Int → Option R) (v1136 : Arr Int) (v1137 : Int) (v1138 : Int) (v1139 : Int) (v1140 : api_Lift) (v1141 : Bool) (v1142 : Arr Int) (k0 : Int → Option R) : Option R :=
  bif decide (v1139 < (↑(Arr.n v1142) : Int)) then
   bif decide ((0 : Int) ≤ v1139) && decide (v1139 < (↑(Arr.n v1142) : Int)) then
    rc v1136 v1137 (w64 (v1138 + Arr.f v1142 (Int.toNat v1139))) (w64 (v1139 + (1 : Int))) v1140 v1141 v1142
   else
    Option.none
  else
   k0 v1138
def newellaw05_LiftQuick_l10 {R : Type} (N : Nat) : Nat → Arr Int → Int → Int → Int → api_Lift → Bool → Arr Int → (Int → Option R) → Option R
  | 0, _, _, _, _, _, _, _, _ => Option.none
  | n + 1, v1136, v1137, v1138, v1139, v1140, v1141, v1142, k0 => newellaw05_LiftQuick_b10 N (fun v1136 v1137 v1138 v1139 v1140 v1141 v1142 => newellaw05_LiftQuick_l10 N n v1136 v1137 v1138 v1139 v1140 v1141 v1142 k0) v1136 v1137 v1138 v1139 v1140 v1141 v1142 k0

def newellaw05_LiftQuick_L19 : LoopSp := ⟨⟨[2, 7, 11, 12, 14], ⟨(dr 2 ((rSl intC) :: (dr 4 ((rRow 0) :: (dr 3 ((rInt .i64) :: (rInt .i64) :: (dr 1 ((rInt .i64) :: (dr 131 []))))))))), [(0, eRow intC)]⟩, 1⟩, [(some 2, ⟨[2, 7, 11, 12], ⟨(dr 2 ((rSl intC) :: (dr 4 ((rRow 0) :: (dr 3 ((rInt .i64) :: (rInt .i64) :: (dr 133 []))))))), [(0, eRow intC)]⟩, 1⟩)]⟩
theorem newellaw05_LiftQuick_L19_ok : newellaw05_LiftQuick_L19.Ok := ⟨⟨(drCons 2 (allCons (rSl_ok intC_ok) (drCons 4 (allCons (rRow_ok 0) (drCons 3 (allCons (rInt_ok .i64) (allCons (rInt_ok .i64) (drCons 1 (allCons (rInt_ok .i64) (drCons 131 allNil)))))))))), (eCons (eRow_ok intC_ok) eNil)⟩, (xCons ⟨(drCons 2 (allCons (rSl_ok intC_ok) (drCons 4 (allCons (rRow_ok 0) (drCons 3 (allCons (rInt_ok .i64) (allCons (rInt_ok .i64) (drCons 133 allNil)))))))), (eCons (eRow_ok intC_ok) eNil)⟩ xNil)⟩
def newellaw05_LiftQuick_h19 (v1146 : Arr Int) (v1147 : Int) (v1148 : Int) (v1149 : Int) (v1150 : Bool) (v1151 : Arr Int) : St := ⟨(un 2 ((slC intC v1146) :: (un 4 ((.row 0) :: (un 3 ((.int .i64 v1147) :: (.int .i64 v1148) :: (un 1 ((.int .i64 v1149) :: (un 131 []))))))))), [(0, rowE intC v1150 v1151)], 1⟩
def newellaw05_LiftQuick_x19_2 (v1146 : Arr Int) (v1147 : Int) (v1150 : Bool) (v1151 : Arr Int) (q2 : Int) : St := ⟨(un 2 ((slC intC v1146) :: (un 4 ((.row 0) :: (un 3 ((.int .i64 v1147) :: (.int .i64 q2) :: (un 133 []))))))), [(0, rowE intC v1150 v1151)], 1⟩
def newellaw05_LiftQuick_b19 {R : Type} (N : Nat) (rc : Arr Int → Int → Int → Int → Bool → Arr Int → Option R) (v1146 : Arr Int) (v1147 : Int) (v1148 : Int) (v1149 : Int) (v1150 : Bool) (v1151 : Arr Int) (k2 : Int → Option R) : Option R :=
  bif decide (v1149 < (↑(Arr.n v1146) : Int)) then
   bif decide ((0 : Int) ≤ v1149) && decide (v1149 < (↑(Arr.n v1146) : Int)) then
    rc v1146 v1147 (w64 (v1148 + Arr.f v1146 (Int.toNat v1149))) (w64 (v1149 + (1 : Int))) v1150 v1151
   else
    Option.none
  else
   k2 v1148
def newellaw05_LiftQuick_l19 {R : Type} (N : Nat) : Nat → Arr Int → Int → Int → Int → Bool → Arr Int → (Int → Option R) → Option R
  | 0, _, _, _, _, _, _, _ => Option.none
  | n + 1, v1146, v1147, v1148, v1149, v1150, v1151, k2 => newellaw05_LiftQuick_b19 N (fun v1146 v1147 v1148 v1149 v1150 v1151 => newellaw05_LiftQuick_l19 N n v1146 v1147 v1148 v1149 v1150 v1151 k2) v1146 v1147 v1148 v1149 v1150 v1151 k2


def newellaw05_LiftQuick_m {R : Type} (N : Nat) (a1119 : api_Lift) (a1120 : newellaw05_Way) (a1121 : Arr Int) (k : Bool → Option R) : Option R :=
  newellaw05_Far N a1119 (fun r1122 =>
  bif r1122 then
   newellaw05_works N  (fun r1123 =>
   k r1123)
  else
   bif decide ((↑(Arr.n a1121) : Int) > (1200 : Int)) then
    newellaw05_works N  (fun r1124 =>
    k r1124)
   else
    newelref05_Check N a1119 (fun r1125 =>
    bif r1125 != (0 : Int) then
     newellaw05_works N  (fun r1126 =>
     k r1126)
    else
     newelref05_Floors N a1119 (newellaw05_Way.From a1120) (newellaw05_Way.To a1120) (fun r1127 =>
     bif !r1127 then
      newellaw05_works N  (fun r1128 =>
      k r1128)
     else
      lift_Trip N a1119 (newellaw05_Way.From a1120) (newellaw05_Way.To a1120) (fun r1129 r1130 r1131 =>
      lift_Trip N a1119 (newellaw05_Way.To a1120) (newellaw05_Way.From a1120) (fun r1132 r1133 r1134 =>
      bif r1129 != (0 : Int) then
       k false
      else
       bif r1132 != (0 : Int) then
        k false
       else
        bif (↑(Arr.n r1131) : Int) != (↑(Arr.n r1134) : Int) then
         k false
        else
         newelref05_IsTrip N a1119 r1131 (fun r1135 =>
         bif !r1135 then
          k false
         else
          bif decide ((0 : Int) ≤ newellaw05_Way.From a1120) && decide (newellaw05_Way.From a1120 < (↑(Arr.n (api_Lift.Floors a1119)) : Int)) then
           bif decide ((0 : Int) ≤ newellaw05_Way.To a1120) && decide (newellaw05_Way.To a1120 < (↑(Arr.n (api_Lift.Floors a1119)) : Int)) then
            bif decide ((0 : Int) ≤ newellaw05_Way.To a1120) && decide (newellaw05_Way.To a1120 < (↑(Arr.n (api_Lift.Floors a1119)) : Int)) then
             bif decide ((0 : Int) ≤ newellaw05_Way.From a1120) && decide (newellaw05_Way.From a1120 < (↑(Arr.n (api_Lift.Floors a1119)) : Int)) then
              newellaw05_LiftQuick_l10 N N a1121 (if w64 (Arr.f (api_Lift.Floors a1119) (Int.toNat (newellaw05_Way.To a1120)) - Arr.f (api_Lift.Floors a1119) (Int.toNat (newellaw05_Way.From a1120))) > w64 (Arr.f (api_Lift.Floors a1119) (Int.toNat (newellaw05_Way.From a1120)) - Arr.f (api_Lift.Floors a1119) (Int.toNat (newellaw05_Way.To a1120))) then w64 (Arr.f (api_Lift.Floors a1119) (Int.toNat (newellaw05_Way.To a1120)) - Arr.f (api_Lift.Floors a1119) (Int.toNat (newellaw05_Way.From a1120))) else w64 (Arr.f (api_Lift.Floors a1119) (Int.toNat (newellaw05_Way.From a1120)) - Arr.f (api_Lift.Floors a1119) (Int.toNat (newellaw05_Way.To a1120)))) (0 : Int) (0 : Int) a1119 r1130 r1131 (fun r1143 =>
               bif r1143 != if w64 (Arr.f (api_Lift.Floors a1119) (Int.toNat (newellaw05_Way.To a1120)) - Arr.f (api_Lift.Floors a1119) (Int.toNat (newellaw05_Way.From a1120))) > w64 (Arr.f (api_Lift.Floors a1119) (Int.toNat (newellaw05_Way.From a1120)) - Arr.f (api_Lift.Floors a1119) (Int.toNat (newellaw05_Way.To a1120))) then w64 (Arr.f (api_Lift.Floors a1119) (Int.toNat (newellaw05_Way.To a1120)) - Arr.f (api_Lift.Floors a1119) (Int.toNat (newellaw05_Way.From a1120))) else w64 (Arr.f (api_Lift.Floors a1119) (Int.toNat (newellaw05_Way.From a1120)) - Arr.f (api_Lift.Floors a1119) (Int.toNat (newellaw05_Way.To a1120))) then
                k false
               else
                newelref05_IsTrip N a1119 a1121 (fun r1144 =>
                bif !r1144 then
                 newellaw05_works N  (fun r1145 =>
                 k r1145)
                else
                 newellaw05_LiftQuick_l19 N N a1121 (if w64 (Arr.f (api_Lift.Floors a1119) (Int.toNat (newellaw05_Way.To a1120)) - Arr.f (api_Lift.Floors a1119) (Int.toNat (newellaw05_Way.From a1120))) > w64 (Arr.f (api_Lift.Floors a1119) (Int.toNat (newellaw05_Way.From a1120)) - Arr.f (api_Lift.Floors a1119) (Int.toNat (newellaw05_Way.To a1120))) then w64 (Arr.f (api_Lift.Floors a1119) (Int.toNat (newellaw05_Way.To a1120)) - Arr.f (api_Lift.Floors a1119) (Int.toNat (newellaw05_Way.From a1120))) else w64 (Arr.f (api_Lift.Floors a1119) (Int.toNat (newellaw05_Way.From a1120)) - Arr.f (api_Lift.Floors a1119) (Int.toNat (newellaw05_Way.To a1120)))) (0 : Int) (0 : Int) r1130 r1131 (fun r1152 =>
                  bif r1152 != if w64 (Arr.f (api_Lift.Floors a1119) (Int.toNat (newellaw05_Way.To a1120)) - Arr.f (api_Lift.Floors a1119) (Int.toNat (newellaw05_Way.From a1120))) > w64 (Arr.f (api_Lift.Floors a1119) (Int.toNat (newellaw05_Way.From a1120)) - Arr.f (api_Lift.Floors a1119) (Int.toNat (newellaw05_Way.To a1120))) then w64 (Arr.f (api_Lift.Floors a1119) (Int.toNat (newellaw05_Way.To a1120)) - Arr.f (api_Lift.Floors a1119) (Int.toNat (newellaw05_Way.From a1120))) else w64 (Arr.f (api_Lift.Floors a1119) (Int.toNat (newellaw05_Way.From a1120)) - Arr.f (api_Lift.Floors a1119) (Int.toNat (newellaw05_Way.To a1120))) then
                   newellaw05_works N  (fun r1153 =>
                   k r1153)
                  else
                   bif decide ((↑(Arr.n a1121) : Int) ≥ (↑(Arr.n r1131) : Int)) then
                    newellaw05_works N  (fun r1154 =>
                    k r1154)
                   else
                    k false)))
             else
              Option.none
            else
             Option.none
           else
            Option.none
          else
           Option.none))))))
noncomputable def newellaw05_LiftQuick {R : Type} : Nat → api_Lift → newellaw05_Way → Arr Int → (Bool → Option R) → Option R := lock (@newellaw05_LiftQuick_m R)
theorem newellaw05_LiftQuick_def {R : Type} (N : Nat) (a1119 : api_Lift) (a1120 : newellaw05_Way) (a1121 : Arr Int) (k : Bool → Option R) : newellaw05_LiftQuick N a1119 a1120 a1121 k = newellaw05_LiftQuick_m N a1119 a1120 a1121 k := by unfold newellaw05_LiftQuick; rw [lock_eq]
def newellaw05_LiftQuick_sp : Sp := ⟨[rAgg api_LiftC, rAgg newellaw05_WayC, rSl intC], []⟩
theorem newellaw05_LiftQuick_sp_ok : newellaw05_LiftQuick_sp.Ok := ⟨(allCons (rAgg_ok api_LiftC_ok api_LiftC_len) (allCons (rAgg_ok newellaw05_WayC_ok newellaw05_WayC_len) (allCons (rSl_ok intC_ok) allNil))), eNil⟩
def newellaw05_LiftQuick_rs : Sp := ⟨[rBool], []⟩
theorem newellaw05_LiftQuick_rs_ok : newellaw05_LiftQuick_rs.Ok := ⟨(allCons rBool_ok allNil), eNil⟩
def newellaw05_LiftQuick_run {R : Type} (N : Nat) (args : List SV) (T : Tab) (kf : SV × Tab → Option R) : Option R :=
  newellaw05_LiftQuick_m N (Cod.dec api_LiftC (lget (toCs (lget args 0)))) (Cod.dec newellaw05_WayC (lget (toCs (lget args 1)))) (lstC intC (lget args 2)) (fun q0 => kf (lget [.bool q0] 0, []))
def newellaw05_LiftQuick_d19 {R : Type} (N : Nat) (S0 : St) (k : Exit → St → Option R) : Option R :=
  newellaw05_LiftQuick_l19 N N (lstC intC (lget S0.tmps 2)) (toI (lget S0.tmps 11)) (toI (lget S0.tmps 12)) (toI (lget S0.tmps 14)) (entNl (entAt S0.tab 0)) (lst intC (entN (entAt S0.tab 0)) (entC (entAt S0.tab 0))) (fun q2 => k (.exit 2) (newellaw05_LiftQuick_x19_2 (lstC intC (lget S0.tmps 2)) (toI (lget S0.tmps 11)) (entNl (entAt S0.tab 0)) (lst intC (entN (entAt S0.tab 0)) (entC (entAt S0.tab 0))) q2))
def newellaw05_LiftQuick_d10 {R : Type} (N : Nat) (S0 : St) (k : Exit → St → Option R) : Option R :=
  newellaw05_LiftQuick_l10 N N (lstC intC (lget S0.tmps 2)) (toI (lget S0.tmps 11)) (toI (lget S0.tmps 12)) (toI (lget S0.tmps 13)) (Cod.dec api_LiftC (lget (entCs (entAt S0.tab 0)))) (entNl (entAt S0.tab 1)) (lst intC (entN (entAt S0.tab 1)) (entC (entAt S0.tab 1))) (fun q2 => k (.exit 0) (newellaw05_LiftQuick_x10_0 (lstC intC (lget S0.tmps 2)) (toI (lget S0.tmps 11)) (Cod.dec api_LiftC (lget (entCs (entAt S0.tab 0)))) (entNl (entAt S0.tab 1)) (lst intC (entN (entAt S0.tab 1)) (entC (entAt S0.tab 1))) q2))
def newellaw05_LiftQuick_lp {R : Type} (N : Nat) : Lp R := fun body S k => bif (Go.Sx.keyOf body).getD 0 == 10 then newellaw05_LiftQuick_L10.head.raw 0 S (fun S0 => newellaw05_LiftQuick_d10 N S0 k) else bif (Go.Sx.keyOf body).getD 0 == 19 then newellaw05_LiftQuick_L19.head.raw 0 S (fun S0 => newellaw05_LiftQuick_d19 N S0 k) else Option.none
theorem newellaw05_LiftQuick_l10_eq {R : Type} (N : Nat) (k : Exit → St → Option R) (n : Nat) : ∀ (v0 : Arr Int) (v1 : Int) (v2 : Int) (v3 : Int) (v4 : api_Lift) (v5 : Bool) (v6 : Arr Int), loopM E.Θ (newellaw05_works_cal N) (newellaw05_LiftQuick_lp N) 0 newellaw05_LiftQuick_L10 (bodyAt E 5 10) n (newellaw05_LiftQuick_h10 v0 v1 v2 v3 v4 v5 v6) k = newellaw05_LiftQuick_l10 N n v0 v1 v2 v3 v4 v5 v6 (fun q2 => k (.exit 0) (newellaw05_LiftQuick_x10_0 v0 v1 v4 v5 v6 q2)) := by
  induction n with
  | zero => intro v0 v1 v2 v3 v4 v5 v6; rfl
  | succ n ih =>
    intro v0 v1 v2 v3 v4 v5 v6
    refine Eq.trans (b := newellaw05_LiftQuick_b10 N (fun v0 v1 v2 v3 v4 v5 v6 => loopM E.Θ (newellaw05_works_cal N) (newellaw05_LiftQuick_lp N) 0 newellaw05_LiftQuick_L10 (bodyAt E 5 10) n (newellaw05_LiftQuick_h10 v0 v1 v2 v3 v4 v5 v6) k) v0 v1 v2 v3 v4 v5 v6 (fun q2 => k (.exit 0) (newellaw05_LiftQuick_x10_0 v0 v1 v4 v5 v6 q2))) (by kernel_rfl) ?_
    have h : (fun (v0 : Arr Int) (v1 : Int) (v2 : Int) (v3 : Int) (v4 : api_Lift) (v5 : Bool) (v6 : Arr Int) => loopM E.Θ (newellaw05_works_cal N) (newellaw05_LiftQuick_lp N) 0 newellaw05_LiftQuick_L10 (bodyAt E 5 10) n (newellaw05_LiftQuick_h10 v0 v1 v2 v3 v4 v5 v6) k) = (fun (v0 : Arr Int) (v1 : Int) (v2 : Int) (v3 : Int) (v4 : api_Lift) (v5 : Bool) (v6 : Arr Int) => newellaw05_LiftQuick_l10 N n v0 v1 v2 v3 v4 v5 v6 (fun q2 => k (.exit 0) (newellaw05_LiftQuick_x10_0 v0 v1 v4 v5 v6 q2))) := funext fun v0 => funext fun v1 => funext fun v2 => funext fun v3 => funext fun v4 => funext fun v5 => funext fun v6 => ih v0 v1 v2 v3 v4 v5 v6
    rw [h]
    rfl
theorem newellaw05_LiftQuick_l19_eq {R : Type} (N : Nat) (k : Exit → St → Option R) (n : Nat) : ∀ (v0 : Arr Int) (v1 : Int) (v2 : Int) (v3 : Int) (v4 : Bool) (v5 : Arr Int), loopM E.Θ (newellaw05_works_cal N) (newellaw05_LiftQuick_lp N) 0 newellaw05_LiftQuick_L19 (bodyAt E 5 19) n (newellaw05_LiftQuick_h19 v0 v1 v2 v3 v4 v5) k = newellaw05_LiftQuick_l19 N n v0 v1 v2 v3 v4 v5 (fun q2 => k (.exit 2) (newellaw05_LiftQuick_x19_2 v0 v1 v4 v5 q2)) := by
  induction n with
  | zero => intro v0 v1 v2 v3 v4 v5; rfl
  | succ n ih =>
    intro v0 v1 v2 v3 v4 v5
    refine Eq.trans (b := newellaw05_LiftQuick_b19 N (fun v0 v1 v2 v3 v4 v5 => loopM E.Θ (newellaw05_works_cal N) (newellaw05_LiftQuick_lp N) 0 newellaw05_LiftQuick_L19 (bodyAt E 5 19) n (newellaw05_LiftQuick_h19 v0 v1 v2 v3 v4 v5) k) v0 v1 v2 v3 v4 v5 (fun q2 => k (.exit 2) (newellaw05_LiftQuick_x19_2 v0 v1 v4 v5 q2))) (by kernel_rfl) ?_
    have h : (fun (v0 : Arr Int) (v1 : Int) (v2 : Int) (v3 : Int) (v4 : Bool) (v5 : Arr Int) => loopM E.Θ (newellaw05_works_cal N) (newellaw05_LiftQuick_lp N) 0 newellaw05_LiftQuick_L19 (bodyAt E 5 19) n (newellaw05_LiftQuick_h19 v0 v1 v2 v3 v4 v5) k) = (fun (v0 : Arr Int) (v1 : Int) (v2 : Int) (v3 : Int) (v4 : Bool) (v5 : Arr Int) => newellaw05_LiftQuick_l19 N n v0 v1 v2 v3 v4 v5 (fun q2 => k (.exit 2) (newellaw05_LiftQuick_x19_2 v0 v1 v4 v5 q2))) := funext fun v0 => funext fun v1 => funext fun v2 => funext fun v3 => funext fun v4 => funext fun v5 => ih v0 v1 v2 v3 v4 v5
    rw [h]
    rfl
theorem newellaw05_LiftQuick_k19 {R : Type} (N : Nat) : LpKey (R := R) E 5 0 (newellaw05_LiftQuick_lp N) 19 :=
  lpKey_of hE (newellaw05_works_cal_ok N) newellaw05_LiftQuick_L19_ok [] kNil (by kernel_rfl) N fun S k =>
    Eq.trans (b := newellaw05_LiftQuick_L19.head.raw 0 S (fun S0 => newellaw05_LiftQuick_d19 N S0 k)) (by kernel_rfl) (congrArg (newellaw05_LiftQuick_L19.head.raw 0 S) (funext fun S0 => Eq.trans (newellaw05_LiftQuick_l19_eq N k N (lstC intC (lget S0.tmps 2)) (toI (lget S0.tmps 11)) (toI (lget S0.tmps 12)) (toI (lget S0.tmps 14)) (entNl (entAt S0.tab 0)) (lst intC (entN (entAt S0.tab 0)) (entC (entAt S0.tab 0)))).symm (by kernel_rfl)))
theorem newellaw05_LiftQuick_k10 {R : Type} (N : Nat) : LpKey (R := R) E 5 0 (newellaw05_LiftQuick_lp N) 10 :=
  lpKey_of hE (newellaw05_works_cal_ok N) newellaw05_LiftQuick_L10_ok [] kNil (by kernel_rfl) N fun S k =>
    Eq.trans (b := newellaw05_LiftQuick_L10.head.raw 0 S (fun S0 => newellaw05_LiftQuick_d10 N S0 k)) (by kernel_rfl) (congrArg (newellaw05_LiftQuick_L10.head.raw 0 S) (funext fun S0 => Eq.trans (newellaw05_LiftQuick_l10_eq N k N (lstC intC (lget S0.tmps 2)) (toI (lget S0.tmps 11)) (toI (lget S0.tmps 12)) (toI (lget S0.tmps 13)) (Cod.dec api_LiftC (lget (entCs (entAt S0.tab 0)))) (entNl (entAt S0.tab 1)) (lst intC (entN (entAt S0.tab 1)) (entC (entAt S0.tab 1)))).symm (by kernel_rfl)))
noncomputable def newellaw05_LiftQuick_go {R : Type} (N : Nat) (args : List SV) (T : Tab) (kf : SV × Tab → Option R) : Option R :=
  newellaw05_LiftQuick N (Cod.dec api_LiftC (lget (toCs (lget args 0)))) (Cod.dec newellaw05_WayC (lget (toCs (lget args 1)))) (lstC intC (lget args 2)) (fun q0 => kf (lget [.bool q0] 0, []))
noncomputable def newellaw05_LiftQuick_cal {R : Type} (N : Nat) : Cal R := callM (newellaw05_works_cal N) 5 0 newellaw05_LiftQuick_sp (newellaw05_LiftQuick_go N)
theorem newellaw05_LiftQuick_cal_ok {R : Type} (N : Nat) : CalOk E.P (newellaw05_LiftQuick_cal (R := R) N) :=
  callM_ok hE (newellaw05_works_cal_ok N) (lp := newellaw05_LiftQuick_lp N) (keys := [10, 19]) (kCons (newellaw05_LiftQuick_k10 N) (kCons (newellaw05_LiftQuick_k19 N) kNil)) (by kernel_rfl) newellaw05_LiftQuick_sp_ok newellaw05_LiftQuick_rs_ok (fun args T kf => Eq.trans (newellaw05_LiftQuick_def N (Cod.dec api_LiftC (lget (toCs (lget args 0)))) (Cod.dec newellaw05_WayC (lget (toCs (lget args 1)))) (lstC intC (lget args 2)) (fun q0 => kf (lget [.bool q0] 0, []))) (by kernel_rfl : newellaw05_LiftQuick_run N args T kf = fnM E (newellaw05_works_cal N) (newellaw05_LiftQuick_lp N) 5 (newellaw05_LiftQuick_sp.vs args) (newellaw05_LiftQuick_sp.tab T) 0 (resK newellaw05_LiftQuick_rs kf)))

section
variable {R : Type}
theorem quick_l10 {N : Nat} (o : Arr Int) (way : Int) (l : api_Lift) (b : Bool) (a : Arr Int) (hn : a.n ≤ 100000) (hb : ∀ i, i ≤ a.n → 0 ≤ sumA a.f i ∧ sumA a.f i ≤ (i : Int) * 100) (k0 : Int → Option R) : ∀ (r i n : Nat), i + r = a.n → r < n →
    newellaw05_LiftQuick_l10 N n o way (sumA a.f i) (i : Int) l b a k0 = k0 (sumA a.f a.n) := by
  intro r
  induction r with
  | zero =>
    intro i n h1 h2
    obtain ⟨n, rfl⟩ : ∃ m, n = m + 1 := ⟨n - 1, by omega⟩
    unfold newellaw05_LiftQuick_l10 newellaw05_LiftQuick_b10
    have e1 : decide ((i : Int) < (a.n : Int)) = false := by simp; omega
    simp only [e1, cond_false]
    rw [show i = a.n by omega]
  | succ r ih =>
    intro i n h1 h2
    obtain ⟨n, rfl⟩ : ∃ m, n = m + 1 := ⟨n - 1, by omega⟩
    unfold newellaw05_LiftQuick_l10 newellaw05_LiftQuick_b10
    have e1 : decide ((i : Int) < (a.n : Int)) = true := by simp; omega
    have hs := hb (i + 1) (by omega)
    rw [sumA_succ] at hs
    simp only [e1, nat_nonneg, Bool.and_self, cond_true, Int.toNat_natCast, w64_succ (show i < 1000000000000 by omega)]
    rw [w64_eq (by omega) (by omega), ← sumA_succ]
    exact ih (i + 1) n (by omega) (by omega)
theorem quick_l19 {N : Nat} (way : Int) (b : Bool) (c a : Arr Int) (hn : a.n ≤ 100000) (hb : ∀ i, i ≤ a.n → 0 ≤ sumA a.f i ∧ sumA a.f i ≤ (i : Int) * 100) (k0 : Int → Option R) : ∀ (r i n : Nat), i + r = a.n → r < n →
    newellaw05_LiftQuick_l19 N n a way (sumA a.f i) (i : Int) b c k0 = k0 (sumA a.f a.n) := by
  intro r
  induction r with
  | zero =>
    intro i n h1 h2
    obtain ⟨n, rfl⟩ : ∃ m, n = m + 1 := ⟨n - 1, by omega⟩
    unfold newellaw05_LiftQuick_l19 newellaw05_LiftQuick_b19
    have e1 : decide ((i : Int) < (a.n : Int)) = false := by simp; omega
    simp only [e1, cond_false]
    rw [show i = a.n by omega]
  | succ r ih =>
    intro i n h1 h2
    obtain ⟨n, rfl⟩ : ∃ m, n = m + 1 := ⟨n - 1, by omega⟩
    unfold newellaw05_LiftQuick_l19 newellaw05_LiftQuick_b19
    have e1 : decide ((i : Int) < (a.n : Int)) = true := by simp; omega
    have hs := hb (i + 1) (by omega)
    rw [sumA_succ] at hs
    simp only [e1, nat_nonneg, Bool.and_self, cond_true, Int.toNat_natCast, w64_succ (show i < 1000000000000 by omega)]
    rw [w64_eq (by omega) (by omega), ← sumA_succ]
    exact ih (i + 1) n (by omega) (by omega)
end

theorem sumA_is {a : Arr Int} {n : Nat} {f : Nat → Int} (h : a.Is n f) : sumA a.f n = sumA f n := by
  unfold sumA
  exact sumTo_congr fun k k1 k2 => h.get _ (by omega)

theorem liftQuick_true (l : api_Lift) (w : newellaw05_Way) (o : Arr Int) (hl : l.wf) (hw : w.wf) (ho : o.n ≤ maxLen) (hoi : ∀ i, i < o.n → i64 (o.f i)) : ∃ N, newellaw05_LiftQuick N l w o (fun q0 => okK (lget [.bool q0] 0, [])) = some () := by
  refine ⟨NN, ?_⟩
  have hNN : NN = 20000 := rfl
  rw [newellaw05_LiftQuick_def]
  unfold newellaw05_LiftQuick_m
  simp only [Far_eq, works_eq]
  cases decide ((l.Floors.n : Int) > 30)
  rotate_left
  · rfl
  by_cases hon : (o.n : Int) > 1200
  · simp only [hon, decide_true, cond_true, cond_false]; rfl
  simp only [hon, decide_false, cond_false, refCheck_eq (show 20 ≤ NN by decide)]
  by_cases hv : VL l
  rotate_left
  · rw [checkV_ne hv]; rfl
  simp only [checkV_pos hv, bne_self_eq_false, cond_false, Floors_eq hv]
  by_cases hp : floorsP l w.From w.To
  rotate_left
  · simp only [hp, decide_false, Bool.not_false, cond_true]; rfl
  obtain ⟨e1, n1, c1, n2, m1, m2⟩ := tripF_all hv hp
  have e2 := (tripF_all hv (floorsP_comm hp)).1
  obtain ⟨b1, t1, i1, q1⟩ := Trip_eq (show 1001 ≤ NN by decide) l w.From w.To
  obtain ⟨b2, t2, i2, q2⟩ := Trip_eq (show 1001 ≤ NN by decide) l w.To w.From
  have hle := tripN_le l w.From w.To
  have hS := hv.s2
  have hi1 : t1.Is (tripN l w.From w.To) (tripE l.Speed l.Accel (wayS l w.From w.To) (tripN l w.From w.To)) := by rw [n1]; rw [n1] at i1; exact i1
  have ht1 : isTripP l.Speed l.Accel t1 := tripE_is c1 hi1
  have hl1 := i1.len
  have hl2 := i2.len
  have hlen : ((t1.n : Int) != (t2.n : Int)) = false := by rw [hl1, hl2, n2]; simp
  have hf := floor_in hp
  have hs1 : sumA t1.f t1.n = wayS l w.From w.To := by
    rw [hl1, sumA_is hi1]; exact tripE_sum c1
  have L10 : ∀ k0 : Int → Option Unit, newellaw05_LiftQuick_l10 NN NN o (wayS l w.From w.To) (0 : Int) (0 : Int) l b1 t1 k0 = k0 (wayS l w.From w.To) := fun k0 => by
    rw [← hs1]
    exact quick_l10 o _ l b1 t1 (by omega) (trip_sumB hS ht1) k0 t1.n 0 NN (by omega) (by omega)
  simp only [hp, decide_true, Bool.not_true, cond_false, q1, q2, e1, e2, bne_self_eq_false, hlen, IsTrip_eq hv.sa t1 (by omega) (show t1.n + 1 < NN by omega), ht1, hf.1, hf.2, cond_true, way_w hv hp, L10, IsTrip_eq hv.sa o (by omega) (show o.n + 1 < NN by omega)]
  by_cases ht2 : isTripP l.Speed l.Accel o
  rotate_left
  · simp only [ht2, decide_false, Bool.not_false, cond_true]; rfl
  have L19 : ∀ (k0 : Int → Option Unit), newellaw05_LiftQuick_l19 NN NN o (wayS l w.From w.To) (0 : Int) (0 : Int) b1 t1 k0 = k0 (sumA o.f o.n) := fun k0 =>
    quick_l19 _ b1 t1 o (by omega) (trip_sumB hS ht2) k0 o.n 0 NN (by omega) (by omega)
  simp only [ht2, decide_true, Bool.not_true, cond_false, L19]
  by_cases hso : sumA o.f o.n = wayS l w.From w.To
  · have hge : (o.n : Int) ≥ (t1.n : Int) := by
      have h1 := trip_most ht2
      rcases Nat.lt_or_ge o.n (tripN l w.From w.To) with h2 | h2
      · have := m1 o.n h2; omega
      · omega
    simp only [hso, bne_self_eq_false, cond_false, hge, decide_true, cond_true]
    rfl
  · have : (sumA o.f o.n != wayS l w.From w.To) = true := by simpa using hso
    simp only [this, cond_true]
    rfl
end
end Go.Proofs.Ytceeaimmelaenaa
