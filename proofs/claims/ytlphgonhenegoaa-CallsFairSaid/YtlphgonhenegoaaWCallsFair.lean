import Derived.Test.YtlphgonhenegoaaQ4
set_option maxRecDepth 100000
set_option maxHeartbeats 0
set_option linter.unusedSectionVars false
set_option linter.unusedVariables false
set_option linter.unusedSimpArgs false
namespace Go.Proofs.Ytlphgonhenegoaa
open Go.Sx
noncomputable section
def newellaw07_CallsFair_L11 : LoopSp := ⟨⟨[0, 1, 12], ⟨((rSl api_CarC) :: (rSl api_PressC) :: (dr 10 ((rInt .i64) :: (dr 168 [])))), []⟩, 0⟩, [(Option.none, ⟨[6], ⟨(dr 6 ((rBool) :: (dr 174 []))), []⟩, 0⟩), (some 0, ⟨[0, 1], ⟨((rSl api_CarC) :: (rSl api_PressC) :: (dr 179 [])), []⟩, 0⟩)]⟩
theorem newellaw07_CallsFair_L11_ok : newellaw07_CallsFair_L11.Ok := ⟨⟨(allCons (rSl_ok api_CarC_ok) (allCons (rSl_ok api_PressC_ok) (drCons 10 (allCons (rInt_ok .i64) (drCons 168 allNil))))), eNil⟩, (xCons ⟨(drCons 6 (allCons rBool_ok (drCons 174 allNil))), eNil⟩ (xCons ⟨(allCons (rSl_ok api_CarC_ok) (allCons (rSl_ok api_PressC_ok) (drCons 179 allNil))), eNil⟩ xNil))⟩
def newellaw07_CallsFair_h11 (v1117 : Arr api_Car) (v1118 : Arr api_Press) (v1119 : Int) : St := ⟨((slC api_CarC v1117) :: (slC api_PressC v1118) :: (un 10 ((.int .i64 v1119) :: (un 168 [])))), [], 0⟩
def newellaw07_CallsFair_x11_r (q0 : Bool) : St := ⟨(un 6 ((.bool q0) :: (un 174 []))), [], 0⟩
def newellaw07_CallsFair_x11_0 (v1117 : Arr api_Car) (v1118 : Arr api_Press) : St := ⟨((slC api_CarC v1117) :: (slC api_PressC v1118) :: (un 179 [])), [], 0⟩
def newellaw07_CallsFair_b11 {R : Type} (N : Nat) (rc : Arr api_Car → Arr api_Press → Int → Option R) (v1117 : Arr api_Car) (v1118 : Arr api_Press) (v1119 : Int) (kr : Bool → Option R) (k0 : Unit → Option R) : Option R :=
  bif decide (v1119 < (↑(Arr.n v1117) : Int)) then
   bif decide ((0 : Int) ≤ v1119) && decide (v1119 < (↑(Arr.n v1117) : Int)) then
    bif decide ((0 : Int) ≤ v1119) && decide (v1119 < (↑(Arr.n v1117) : Int)) then
     bif decide (w64 (api_Car.Move (Arr.f v1117 (Int.toNat v1119)) + api_Car.Stop (Arr.f v1117 (Int.toNat v1119))) > (4 : Int)) then
      newellaw07_works N  (fun r1120 =>
      kr r1120)
     else
      rc v1117 v1118 (w64 (v1119 + (1 : Int)))
    else
     Option.none
   else
    Option.none
  else
   k0 ()
def newellaw07_CallsFair_l11 {R : Type} (N : Nat) : Nat → Arr api_Car → Arr api_Press → Int → (Bool → Option R) → (Unit → Option R) → Option R
  | 0, _, _, _, _, _ => Option.none
  | n + 1, v1117, v1118, v1119, kr, k0 => newellaw07_CallsFair_b11 N (fun v1117 v1118 v1119 => newellaw07_CallsFair_l11 N n v1117 v1118 v1119 kr k0) v1117 v1118 v1119 kr k0
def newellaw07_CallsFair_L25 : LoopSp := ⟨⟨[1, 15, 16, 18, 19, 20], ⟨(dr 1 ((rSl api_PressC) :: (dr 13 ((rInt .i64) :: (rRow 0) :: (dr 1 ((rInt .i64) :: (rRow 1) :: (rInt .i64) :: (dr 160 []))))))), [(0, eRow api_CarC), (1, eRow api_PressC)]⟩, 2⟩, [(some 4, ⟨[1, 15, 16, 18, 19], ⟨(dr 1 ((rSl api_PressC) :: (dr 13 ((rInt .i64) :: (rRow 0) :: (dr 1 ((rInt .i64) :: (rRow 1) :: (dr 161 []))))))), [(0, eRow api_CarC), (1, eRow api_PressC)]⟩, 2⟩)]⟩
theorem newellaw07_CallsFair_L25_ok : newellaw07_CallsFair_L25.Ok := ⟨⟨(drCons 1 (allCons (rSl_ok api_PressC_ok) (drCons 13 (allCons (rInt_ok .i64) (allCons (rRow_ok 0) (drCons 1 (allCons (rInt_ok .i64) (allCons (rRow_ok 1) (allCons (rInt_ok .i64) (drCons 160 allNil)))))))))), (eCons (eRow_ok api_CarC_ok) (eCons (eRow_ok api_PressC_ok) eNil))⟩, (xCons ⟨(drCons 1 (allCons (rSl_ok api_PressC_ok) (drCons 13 (allCons (rInt_ok .i64) (allCons (rRow_ok 0) (drCons 1 (allCons (rInt_ok .i64) (allCons (rRow_ok 1) (drCons 161 allNil))))))))), (eCons (eRow_ok api_CarC_ok) (eCons (eRow_ok api_PressC_ok) eNil))⟩ xNil)⟩
def newellaw07_CallsFair_h25 (v1134 : Arr api_Press) (v1135 : Int) (v1136 : Int) (v1137 : Int) (v1138 : Bool) (v1139 : Arr api_Car) (v1140 : Bool) (v1141 : Arr api_Press) : St := ⟨(un 1 ((slC api_PressC v1134) :: (un 13 ((.int .i64 v1135) :: (.row 0) :: (un 1 ((.int .i64 v1136) :: (.row 1) :: (.int .i64 v1137) :: (un 160 []))))))), [(0, rowE api_CarC v1138 v1139), (1, rowE api_PressC v1140 v1141)], 2⟩
def newellaw07_CallsFair_x25_4 (v1134 : Arr api_Press) (v1135 : Int) (v1136 : Int) (v1138 : Bool) (v1139 : Arr api_Car) (q5 : Bool) (q6 : Arr api_Press) : St := ⟨(un 1 ((slC api_PressC v1134) :: (un 13 ((.int .i64 v1135) :: (.row 0) :: (un 1 ((.int .i64 v1136) :: (.row 1) :: (un 161 []))))))), [(0, rowE api_CarC v1138 v1139), (1, rowE api_PressC q5 q6)], 2⟩
def newellaw07_CallsFair_b25 {R : Type} (N : Nat) (rc : Arr api_Press → Int → Int → Int → Bool → Arr api_Car → Bool → Arr api_Press → Option R) (v1134 : Arr api_Press) (v1135 : Int) (v1136 : Int) (v1137 : Int) (v1138 : Bool) (v1139 : Arr api_Car) (v1140 : Bool) (v1141 : Arr api_Press) (k4 : Bool → Arr api_Press → Option R) : Option R :=
  bif decide (v1137 < (↑(Arr.n v1134) : Int)) then
   bif decide ((0 : Int) ≤ v1137) && decide (v1137 < (↑(Arr.n v1134) : Int)) then
    bif decide ((0 : Int) ≤ v1136) && decide (v1136 < (↑(Arr.n v1139) : Int)) then
     bif decide (api_Press.Floor (Arr.f v1134 (Int.toNat v1137)) ≥ api_Car.Low (Arr.f v1139 (Int.toNat v1136))) then
      bif decide ((0 : Int) ≤ v1137) && decide (v1137 < (↑(Arr.n v1134) : Int)) then
       bif decide ((0 : Int) ≤ v1136) && decide (v1136 < (↑(Arr.n v1139) : Int)) then
        bif decide (api_Press.Floor (Arr.f v1134 (Int.toNat v1137)) ≤ api_Car.High (Arr.f v1139 (Int.toNat v1136))) then
         bif decide ((0 : Int) ≤ v1137) && decide (v1137 < (↑(Arr.n v1134) : Int)) then
          bif room (Arr.n v1141 + (1 : Nat)) then
           rc v1134 v1135 v1136 (w64 (v1137 + (1 : Int))) v1138 v1139 false (lst api_PressC (Arr.n v1141 + (1 : Nat)) (catC (Arr.n v1141) (Cod.cell api_PressC (Arr.f v1141)) (litC [SV.int IntKind.i64 (0 : Int), SV.int IntKind.i64 (0 : Int)] [[SV.int IntKind.i64 (api_Press.At (Arr.f v1134 (Int.toNat v1137))), SV.int IntKind.i64 (api_Press.Floor (Arr.f v1134 (Int.toNat v1137)))]])))
          else
           Option.none
         else
          Option.none
        else
         rc v1134 v1135 v1136 (w64 (v1137 + (1 : Int))) v1138 v1139 v1140 v1141
       else
        Option.none
      else
       Option.none
     else
      rc v1134 v1135 v1136 (w64 (v1137 + (1 : Int))) v1138 v1139 v1140 v1141
    else
     Option.none
   else
    Option.none
  else
   k4 v1140 v1141
def newellaw07_CallsFair_l25 {R : Type} (N : Nat) : Nat → Arr api_Press → Int → Int → Int → Bool → Arr api_Car → Bool → Arr api_Press → (Bool → Arr api_Press → Option R) → Option R
  | 0, _, _, _, _, _, _, _, _, _ => Option.none
  | n + 1, v1134, v1135, v1136, v1137, v1138, v1139, v1140, v1141, k4 => newellaw07_CallsFair_b25 N (fun v1134 v1135 v1136 v1137 v1138 v1139 v1140 v1141 => newellaw07_CallsFair_l25 N n v1134 v1135 v1136 v1137 v1138 v1139 v1140 v1141 k4) v1134 v1135 v1136 v1137 v1138 v1139 v1140 v1141 k4
def newellaw07_CallsFair_L33 : LoopSp := ⟨⟨[1, 15, 16, 18, 21, 23], ⟨(dr 1 ((rSl api_PressC) :: (dr 13 ((rInt .i64) :: (rRow 0) :: (dr 1 ((rInt .i64) :: (dr 2 ((rRow 1) :: (dr 1 ((rInt .i64) :: (dr 157 []))))))))))), [(0, eRow api_CarC), (1, eRow intC)]⟩, 2⟩, [(Option.none, ⟨[6], ⟨(dr 6 ((rBool) :: (dr 174 []))), []⟩, 0⟩), (some 6, ⟨[1, 15, 16, 18], ⟨(dr 1 ((rSl api_PressC) :: (dr 13 ((rInt .i64) :: (rRow 0) :: (dr 1 ((rInt .i64) :: (dr 162 []))))))), [(0, eRow api_CarC)]⟩, 1⟩)]⟩
theorem newellaw07_CallsFair_L33_ok : newellaw07_CallsFair_L33.Ok := ⟨⟨(drCons 1 (allCons (rSl_ok api_PressC_ok) (drCons 13 (allCons (rInt_ok .i64) (allCons (rRow_ok 0) (drCons 1 (allCons (rInt_ok .i64) (drCons 2 (allCons (rRow_ok 1) (drCons 1 (allCons (rInt_ok .i64) (drCons 157 allNil)))))))))))), (eCons (eRow_ok api_CarC_ok) (eCons (eRow_ok intC_ok) eNil))⟩, (xCons ⟨(drCons 6 (allCons rBool_ok (drCons 174 allNil))), eNil⟩ (xCons ⟨(drCons 1 (allCons (rSl_ok api_PressC_ok) (drCons 13 (allCons (rInt_ok .i64) (allCons (rRow_ok 0) (drCons 1 (allCons (rInt_ok .i64) (drCons 162 allNil)))))))), (eCons (eRow_ok api_CarC_ok) eNil)⟩ xNil))⟩
def newellaw07_CallsFair_h33 (v1147 : Arr api_Press) (v1148 : Int) (v1149 : Int) (v1150 : Int) (v1151 : Bool) (v1152 : Arr api_Car) (v1153 : Bool) (v1154 : Arr Int) : St := ⟨(un 1 ((slC api_PressC v1147) :: (un 13 ((.int .i64 v1148) :: (.row 0) :: (un 1 ((.int .i64 v1149) :: (un 2 ((.row 1) :: (un 1 ((.int .i64 v1150) :: (un 157 []))))))))))), [(0, rowE api_CarC v1151 v1152), (1, rowE intC v1153 v1154)], 2⟩
def newellaw07_CallsFair_x33_r (q0 : Bool) : St := ⟨(un 6 ((.bool q0) :: (un 174 []))), [], 0⟩
def newellaw07_CallsFair_x33_6 (v1147 : Arr api_Press) (v1148 : Int) (v1149 : Int) (v1151 : Bool) (v1152 : Arr api_Car) : St := ⟨(un 1 ((slC api_PressC v1147) :: (un 13 ((.int .i64 v1148) :: (.row 0) :: (un 1 ((.int .i64 v1149) :: (un 162 []))))))), [(0, rowE api_CarC v1151 v1152)], 1⟩
def newellaw07_CallsFair_b33 {R : Type} (N : Nat) (rc : Arr api_Press → Int → Int → Int → Bool → Arr api_Car → Bool → Arr Int → Option R) (v1147 : Arr api_Press) (v1148 : Int) (v1149 : Int) (v1150 : Int) (v1151 : Bool) (v1152 : Arr api_Car) (v1153 : Bool) (v1154 : Arr Int) (kr : Bool → Option R) (k6 : Unit → Option R) : Option R :=
  bif decide (v1150 < (↑(Arr.n v1154) : Int)) then
   bif decide ((0 : Int) ≤ v1150) && decide (v1150 < (↑(Arr.n v1154) : Int)) then
    bif decide (Arr.f v1154 (Int.toNat v1150) > v1148) then
     kr false
    else
     rc v1147 v1148 v1149 (w64 (v1150 + (1 : Int))) v1151 v1152 v1153 v1154
   else
    Option.none
  else
   k6 ()
def newellaw07_CallsFair_l33 {R : Type} (N : Nat) : Nat → Arr api_Press → Int → Int → Int → Bool → Arr api_Car → Bool → Arr Int → (Bool → Option R) → (Unit → Option R) → Option R
  | 0, _, _, _, _, _, _, _, _, _, _ => Option.none
  | n + 1, v1147, v1148, v1149, v1150, v1151, v1152, v1153, v1154, kr, k6 => newellaw07_CallsFair_b33 N (fun v1147 v1148 v1149 v1150 v1151 v1152 v1153 v1154 => newellaw07_CallsFair_l33 N n v1147 v1148 v1149 v1150 v1151 v1152 v1153 v1154 kr k6) v1147 v1148 v1149 v1150 v1151 v1152 v1153 v1154 kr k6
def newellaw07_CallsFair_L21 : LoopSp := ⟨⟨[1, 15, 16, 18], ⟨(dr 1 ((rSl api_PressC) :: (dr 13 ((rInt .i64) :: (rRow 0) :: (dr 1 ((rInt .i64) :: (dr 162 []))))))), [(0, eRow api_CarC)]⟩, 1⟩, [(Option.none, ⟨[6], ⟨(dr 6 ((rBool) :: (dr 174 []))), []⟩, 0⟩), (some 2, ⟨[], ⟨(dr 181 []), []⟩, 0⟩)]⟩
theorem newellaw07_CallsFair_L21_ok : newellaw07_CallsFair_L21.Ok := ⟨⟨(drCons 1 (allCons (rSl_ok api_PressC_ok) (drCons 13 (allCons (rInt_ok .i64) (allCons (rRow_ok 0) (drCons 1 (allCons (rInt_ok .i64) (drCons 162 allNil)))))))), (eCons (eRow_ok api_CarC_ok) eNil)⟩, (xCons ⟨(drCons 6 (allCons rBool_ok (drCons 174 allNil))), eNil⟩ (xCons ⟨(drCons 181 allNil), eNil⟩ xNil))⟩
def newellaw07_CallsFair_h21 (v1129 : Arr api_Press) (v1130 : Int) (v1131 : Int) (v1132 : Bool) (v1133 : Arr api_Car) : St := ⟨(un 1 ((slC api_PressC v1129) :: (un 13 ((.int .i64 v1130) :: (.row 0) :: (un 1 ((.int .i64 v1131) :: (un 162 []))))))), [(0, rowE api_CarC v1132 v1133)], 1⟩
def newellaw07_CallsFair_x21_r (q0 : Bool) : St := ⟨(un 6 ((.bool q0) :: (un 174 []))), [], 0⟩
def newellaw07_CallsFair_x21_2  : St := ⟨(un 181 []), [], 0⟩
def newellaw07_CallsFair_b21 {R : Type} (N : Nat) (rc : Arr api_Press → Int → Int → Bool → Arr api_Car → Option R) (v1129 : Arr api_Press) (v1130 : Int) (v1131 : Int) (v1132 : Bool) (v1133 : Arr api_Car) (kr : Bool → Option R) (k2 : Unit → Option R) : Option R :=
  bif decide (v1131 < (↑(Arr.n v1133) : Int)) then
   newellaw07_CallsFair_l25 N N v1129 v1130 v1131 (0 : Int) v1132 v1133 true (lst api_PressC (0 : Nat) (zeroC [SV.int IntKind.i64 (0 : Int), SV.int IntKind.i64 (0 : Int)])) (fun r1142 r1143 =>
    bif decide ((0 : Int) ≤ v1131) && decide (v1131 < (↑(Arr.n v1133) : Int)) then
     calls_Waits N (Arr.f v1133 (Int.toNat v1131)) r1143 (fun r1144 r1145 r1146 =>
     bif r1144 != (0 : Int) then
      kr false
     else
      newellaw07_CallsFair_l33 N N v1129 v1130 v1131 (0 : Int) v1132 v1133 r1145 r1146 (fun r1155 =>
       kr r1155) (fun (_ : Unit) =>
       rc v1129 v1130 (w64 (v1131 + (1 : Int))) v1132 v1133))
    else
     Option.none)
  else
   k2 ()
def newellaw07_CallsFair_l21 {R : Type} (N : Nat) : Nat → Arr api_Press → Int → Int → Bool → Arr api_Car → (Bool → Option R) → (Unit → Option R) → Option R
  | 0, _, _, _, _, _, _, _ => Option.none
  | n + 1, v1129, v1130, v1131, v1132, v1133, kr, k2 => newellaw07_CallsFair_b21 N (fun v1129 v1130 v1131 v1132 v1133 => newellaw07_CallsFair_l21 N n v1129 v1130 v1131 v1132 v1133 kr k2) v1129 v1130 v1131 v1132 v1133 kr k2
def newellaw07_CallsFair_m {R : Type} (N : Nat) (a1104 : Arr api_Car) (a1105 : Arr api_Press) (a1106 : Arr Int) (k : Bool → Option R) : Option R :=
  bif decide ((↑(Arr.n a1105) : Int) > (5 : Int)) then
   newellaw07_works N  (fun r1107 =>
   k r1107)
  else
   newelref07_CheckGroup N a1104 a1105 (fun r1108 =>
   bif r1108 != (0 : Int) then
    newellaw07_works N  (fun r1109 =>
    k r1109)
   else
    calls_Share N a1104 a1105 (fun r1110 r1111 r1112 =>
    calls_Longest N a1104 a1105 r1112 (fun r1113 r1114 =>
    bif r1110 != (0 : Int) then
     k false
    else
     bif r1114 != (0 : Int) then
      k false
     else
      calls_Longest N a1104 a1105 a1106 (fun r1115 r1116 =>
      bif r1116 == (0 : Int) then
       bif decide (r1115 < r1113) then
        k false
       else
        bif r1116 != (0 : Int) then
         bif r1116 != (1 : Int) then
          k false
         else
          newellaw07_CallsFair_l11 N N a1104 a1105 (0 : Int) (fun r1121 =>
           k r1121) (fun (_ : Unit) =>
           calls_Divide N a1104 (4 : Int) (fun r1122 r1123 r1124 r1125 =>
           newelref07_Cars N a1104 (4 : Int) r1125 (fun r1126 r1127 r1128 =>
           bif r1123 != (0 : Int) then
            k false
           else
            bif !r1126 then
             k false
            else
             newellaw07_CallsFair_l21 N N a1105 r1122 (0 : Int) r1127 r1128 (fun r1156 =>
              k r1156) (fun (_ : Unit) =>
              newellaw07_works N  (fun r1157 =>
              k r1157)))))
        else
         newellaw07_CallsFair_l11 N N a1104 a1105 (0 : Int) (fun r1158 =>
          k r1158) (fun (_ : Unit) =>
          calls_Divide N a1104 (4 : Int) (fun r1159 r1160 r1161 r1162 =>
          newelref07_Cars N a1104 (4 : Int) r1162 (fun r1163 r1164 r1165 =>
          bif r1160 != (0 : Int) then
           k false
          else
           bif !r1163 then
            k false
           else
            newellaw07_CallsFair_l21 N N a1105 r1159 (0 : Int) r1164 r1165 (fun r1166 =>
             k r1166) (fun (_ : Unit) =>
             newellaw07_works N  (fun r1167 =>
             k r1167)))))
      else
       bif r1116 != (0 : Int) then
        bif r1116 != (1 : Int) then
         k false
        else
         newellaw07_CallsFair_l11 N N a1104 a1105 (0 : Int) (fun r1168 =>
          k r1168) (fun (_ : Unit) =>
          calls_Divide N a1104 (4 : Int) (fun r1169 r1170 r1171 r1172 =>
          newelref07_Cars N a1104 (4 : Int) r1172 (fun r1173 r1174 r1175 =>
          bif r1170 != (0 : Int) then
           k false
          else
           bif !r1173 then
            k false
           else
            newellaw07_CallsFair_l21 N N a1105 r1169 (0 : Int) r1174 r1175 (fun r1176 =>
             k r1176) (fun (_ : Unit) =>
             newellaw07_works N  (fun r1177 =>
             k r1177)))))
       else
        newellaw07_CallsFair_l11 N N a1104 a1105 (0 : Int) (fun r1178 =>
         k r1178) (fun (_ : Unit) =>
         calls_Divide N a1104 (4 : Int) (fun r1179 r1180 r1181 r1182 =>
         newelref07_Cars N a1104 (4 : Int) r1182 (fun r1183 r1184 r1185 =>
         bif r1180 != (0 : Int) then
          k false
         else
          bif !r1183 then
           k false
          else
           newellaw07_CallsFair_l21 N N a1105 r1179 (0 : Int) r1184 r1185 (fun r1186 =>
            k r1186) (fun (_ : Unit) =>
            newellaw07_works N  (fun r1187 =>
            k r1187)))))))))
noncomputable def newellaw07_CallsFair {R : Type} : Nat → Arr api_Car → Arr api_Press → Arr Int → (Bool → Option R) → Option R := lock (@newellaw07_CallsFair_m R)
theorem newellaw07_CallsFair_def {R : Type} (N : Nat) (a1104 : Arr api_Car) (a1105 : Arr api_Press) (a1106 : Arr Int) (k : Bool → Option R) : newellaw07_CallsFair N a1104 a1105 a1106 k = newellaw07_CallsFair_m N a1104 a1105 a1106 k := by unfold newellaw07_CallsFair; rw [lock_eq]
def newellaw07_CallsFair_sp : Sp := ⟨[rSl api_CarC, rSl api_PressC, rSl intC], []⟩
theorem newellaw07_CallsFair_sp_ok : newellaw07_CallsFair_sp.Ok := ⟨(allCons (rSl_ok api_CarC_ok) (allCons (rSl_ok api_PressC_ok) (allCons (rSl_ok intC_ok) allNil))), eNil⟩
def newellaw07_CallsFair_rs : Sp := ⟨[rBool], []⟩
theorem newellaw07_CallsFair_rs_ok : newellaw07_CallsFair_rs.Ok := ⟨(allCons rBool_ok allNil), eNil⟩
def newellaw07_CallsFair_run {R : Type} (N : Nat) (args : List SV) (T : Tab) (kf : SV × Tab → Option R) : Option R :=
  newellaw07_CallsFair_m N (lstC api_CarC (lget args 0)) (lstC api_PressC (lget args 1)) (lstC intC (lget args 2)) (fun q0 => kf (lget [.bool q0] 0, []))
def newellaw07_CallsFair_d33 {R : Type} (N : Nat) (S0 : St) (k : Exit → St → Option R) : Option R :=
  newellaw07_CallsFair_l33 N N (lstC api_PressC (lget S0.tmps 1)) (toI (lget S0.tmps 15)) (toI (lget S0.tmps 18)) (toI (lget S0.tmps 23)) (entNl (entAt S0.tab 0)) (lst api_CarC (entN (entAt S0.tab 0)) (entC (entAt S0.tab 0))) (entNl (entAt S0.tab 1)) (lst intC (entN (entAt S0.tab 1)) (entC (entAt S0.tab 1))) (fun q0 => k .ret (newellaw07_CallsFair_x33_r q0)) (fun (_ : Unit) => k (.exit 6) (newellaw07_CallsFair_x33_6 (lstC api_PressC (lget S0.tmps 1)) (toI (lget S0.tmps 15)) (toI (lget S0.tmps 18)) (entNl (entAt S0.tab 0)) (lst api_CarC (entN (entAt S0.tab 0)) (entC (entAt S0.tab 0)))))
def newellaw07_CallsFair_d25 {R : Type} (N : Nat) (S0 : St) (k : Exit → St → Option R) : Option R :=
  newellaw07_CallsFair_l25 N N (lstC api_PressC (lget S0.tmps 1)) (toI (lget S0.tmps 15)) (toI (lget S0.tmps 18)) (toI (lget S0.tmps 20)) (entNl (entAt S0.tab 0)) (lst api_CarC (entN (entAt S0.tab 0)) (entC (entAt S0.tab 0))) (entNl (entAt S0.tab 1)) (lst api_PressC (entN (entAt S0.tab 1)) (entC (entAt S0.tab 1))) (fun q5 q6 => k (.exit 4) (newellaw07_CallsFair_x25_4 (lstC api_PressC (lget S0.tmps 1)) (toI (lget S0.tmps 15)) (toI (lget S0.tmps 18)) (entNl (entAt S0.tab 0)) (lst api_CarC (entN (entAt S0.tab 0)) (entC (entAt S0.tab 0))) q5 q6))
def newellaw07_CallsFair_d21 {R : Type} (N : Nat) (S0 : St) (k : Exit → St → Option R) : Option R :=
  newellaw07_CallsFair_l21 N N (lstC api_PressC (lget S0.tmps 1)) (toI (lget S0.tmps 15)) (toI (lget S0.tmps 18)) (entNl (entAt S0.tab 0)) (lst api_CarC (entN (entAt S0.tab 0)) (entC (entAt S0.tab 0))) (fun q0 => k .ret (newellaw07_CallsFair_x21_r q0)) (fun (_ : Unit) => k (.exit 2) (newellaw07_CallsFair_x21_2 ))
def newellaw07_CallsFair_d11 {R : Type} (N : Nat) (S0 : St) (k : Exit → St → Option R) : Option R :=
  newellaw07_CallsFair_l11 N N (lstC api_CarC (lget S0.tmps 0)) (lstC api_PressC (lget S0.tmps 1)) (toI (lget S0.tmps 12)) (fun q0 => k .ret (newellaw07_CallsFair_x11_r q0)) (fun (_ : Unit) => k (.exit 0) (newellaw07_CallsFair_x11_0 (lstC api_CarC (lget S0.tmps 0)) (lstC api_PressC (lget S0.tmps 1))))
def newellaw07_CallsFair_lp {R : Type} (N : Nat) : Lp R := fun body S k => bif (Go.Sx.keyOf body).getD 0 == 11 then (newellaw07_CallsFair_L11.head.raw 0 S (fun S0 => newellaw07_CallsFair_d11 N S0 k)) else bif (Go.Sx.keyOf body).getD 0 == 21 then (newellaw07_CallsFair_L21.head.raw 0 S (fun S0 => newellaw07_CallsFair_d21 N S0 k)) else bif (Go.Sx.keyOf body).getD 0 == 25 then (newellaw07_CallsFair_L25.head.raw 0 S (fun S0 => newellaw07_CallsFair_d25 N S0 k)) else bif (Go.Sx.keyOf body).getD 0 == 33 then (newellaw07_CallsFair_L33.head.raw 0 S (fun S0 => newellaw07_CallsFair_d33 N S0 k)) else Option.none
theorem newellaw07_CallsFair_l11_eq {R : Type} (N : Nat) (k : Exit → St → Option R) (n : Nat) : ∀ (v0 : Arr api_Car) (v1 : Arr api_Press) (v2 : Int), loopM E.Θ (newelref07_Cars_cal N) (newellaw07_CallsFair_lp N) (noJn) 0 newellaw07_CallsFair_L11 (bodyAt E 12 11) n (newellaw07_CallsFair_h11 v0 v1 v2) k = newellaw07_CallsFair_l11 N n v0 v1 v2 (fun q0 => k .ret (newellaw07_CallsFair_x11_r q0)) (fun (_ : Unit) => k (.exit 0) (newellaw07_CallsFair_x11_0 v0 v1)) := by
  induction n with
  | zero => intro v0 v1 v2; rfl
  | succ n ih =>
    intro v0 v1 v2
    refine Eq.trans (b := newellaw07_CallsFair_b11 N (fun v0 v1 v2 => loopM E.Θ (newelref07_Cars_cal N) (newellaw07_CallsFair_lp N) (noJn) 0 newellaw07_CallsFair_L11 (bodyAt E 12 11) n (newellaw07_CallsFair_h11 v0 v1 v2) k) v0 v1 v2 (fun q0 => k .ret (newellaw07_CallsFair_x11_r q0)) (fun (_ : Unit) => k (.exit 0) (newellaw07_CallsFair_x11_0 v0 v1))) (by kernel_rfl) ?_
    have h : (fun (v0 : Arr api_Car) (v1 : Arr api_Press) (v2 : Int) => loopM E.Θ (newelref07_Cars_cal N) (newellaw07_CallsFair_lp N) (noJn) 0 newellaw07_CallsFair_L11 (bodyAt E 12 11) n (newellaw07_CallsFair_h11 v0 v1 v2) k) = (fun (v0 : Arr api_Car) (v1 : Arr api_Press) (v2 : Int) => newellaw07_CallsFair_l11 N n v0 v1 v2 (fun q0 => k .ret (newellaw07_CallsFair_x11_r q0)) (fun (_ : Unit) => k (.exit 0) (newellaw07_CallsFair_x11_0 v0 v1))) := funext fun v0 => funext fun v1 => funext fun v2 => ih v0 v1 v2
    rw [h]
    rfl
theorem newellaw07_CallsFair_l21_eq {R : Type} (N : Nat) (k : Exit → St → Option R) (n : Nat) : ∀ (v0 : Arr api_Press) (v1 : Int) (v2 : Int) (v3 : Bool) (v4 : Arr api_Car), loopM E.Θ (newelref07_Cars_cal N) (newellaw07_CallsFair_lp N) (noJn) 0 newellaw07_CallsFair_L21 (bodyAt E 12 21) n (newellaw07_CallsFair_h21 v0 v1 v2 v3 v4) k = newellaw07_CallsFair_l21 N n v0 v1 v2 v3 v4 (fun q0 => k .ret (newellaw07_CallsFair_x21_r q0)) (fun (_ : Unit) => k (.exit 2) (newellaw07_CallsFair_x21_2 )) := by
  induction n with
  | zero => intro v0 v1 v2 v3 v4; rfl
  | succ n ih =>
    intro v0 v1 v2 v3 v4
    refine Eq.trans (b := newellaw07_CallsFair_b21 N (fun v0 v1 v2 v3 v4 => loopM E.Θ (newelref07_Cars_cal N) (newellaw07_CallsFair_lp N) (noJn) 0 newellaw07_CallsFair_L21 (bodyAt E 12 21) n (newellaw07_CallsFair_h21 v0 v1 v2 v3 v4) k) v0 v1 v2 v3 v4 (fun q0 => k .ret (newellaw07_CallsFair_x21_r q0)) (fun (_ : Unit) => k (.exit 2) (newellaw07_CallsFair_x21_2 ))) (by kernel_rfl) ?_
    have h : (fun (v0 : Arr api_Press) (v1 : Int) (v2 : Int) (v3 : Bool) (v4 : Arr api_Car) => loopM E.Θ (newelref07_Cars_cal N) (newellaw07_CallsFair_lp N) (noJn) 0 newellaw07_CallsFair_L21 (bodyAt E 12 21) n (newellaw07_CallsFair_h21 v0 v1 v2 v3 v4) k) = (fun (v0 : Arr api_Press) (v1 : Int) (v2 : Int) (v3 : Bool) (v4 : Arr api_Car) => newellaw07_CallsFair_l21 N n v0 v1 v2 v3 v4 (fun q0 => k .ret (newellaw07_CallsFair_x21_r q0)) (fun (_ : Unit) => k (.exit 2) (newellaw07_CallsFair_x21_2 ))) := funext fun v0 => funext fun v1 => funext fun v2 => funext fun v3 => funext fun v4 => ih v0 v1 v2 v3 v4
    rw [h]
    rfl
theorem newellaw07_CallsFair_l25_eq {R : Type} (N : Nat) (k : Exit → St → Option R) (n : Nat) : ∀ (v0 : Arr api_Press) (v1 : Int) (v2 : Int) (v3 : Int) (v4 : Bool) (v5 : Arr api_Car) (v6 : Bool) (v7 : Arr api_Press), loopM E.Θ (newelref07_Cars_cal N) (newellaw07_CallsFair_lp N) (noJn) 0 newellaw07_CallsFair_L25 (bodyAt E 12 25) n (newellaw07_CallsFair_h25 v0 v1 v2 v3 v4 v5 v6 v7) k = newellaw07_CallsFair_l25 N n v0 v1 v2 v3 v4 v5 v6 v7 (fun q5 q6 => k (.exit 4) (newellaw07_CallsFair_x25_4 v0 v1 v2 v4 v5 q5 q6)) := by
  induction n with
  | zero => intro v0 v1 v2 v3 v4 v5 v6 v7; rfl
  | succ n ih =>
    intro v0 v1 v2 v3 v4 v5 v6 v7
    refine Eq.trans (b := newellaw07_CallsFair_b25 N (fun v0 v1 v2 v3 v4 v5 v6 v7 => loopM E.Θ (newelref07_Cars_cal N) (newellaw07_CallsFair_lp N) (noJn) 0 newellaw07_CallsFair_L25 (bodyAt E 12 25) n (newellaw07_CallsFair_h25 v0 v1 v2 v3 v4 v5 v6 v7) k) v0 v1 v2 v3 v4 v5 v6 v7 (fun q5 q6 => k (.exit 4) (newellaw07_CallsFair_x25_4 v0 v1 v2 v4 v5 q5 q6))) (by kernel_rfl) ?_
    have h : (fun (v0 : Arr api_Press) (v1 : Int) (v2 : Int) (v3 : Int) (v4 : Bool) (v5 : Arr api_Car) (v6 : Bool) (v7 : Arr api_Press) => loopM E.Θ (newelref07_Cars_cal N) (newellaw07_CallsFair_lp N) (noJn) 0 newellaw07_CallsFair_L25 (bodyAt E 12 25) n (newellaw07_CallsFair_h25 v0 v1 v2 v3 v4 v5 v6 v7) k) = (fun (v0 : Arr api_Press) (v1 : Int) (v2 : Int) (v3 : Int) (v4 : Bool) (v5 : Arr api_Car) (v6 : Bool) (v7 : Arr api_Press) => newellaw07_CallsFair_l25 N n v0 v1 v2 v3 v4 v5 v6 v7 (fun q5 q6 => k (.exit 4) (newellaw07_CallsFair_x25_4 v0 v1 v2 v4 v5 q5 q6))) := funext fun v0 => funext fun v1 => funext fun v2 => funext fun v3 => funext fun v4 => funext fun v5 => funext fun v6 => funext fun v7 => ih v0 v1 v2 v3 v4 v5 v6 v7
    rw [h]
    rfl
theorem newellaw07_CallsFair_l33_eq {R : Type} (N : Nat) (k : Exit → St → Option R) (n : Nat) : ∀ (v0 : Arr api_Press) (v1 : Int) (v2 : Int) (v3 : Int) (v4 : Bool) (v5 : Arr api_Car) (v6 : Bool) (v7 : Arr Int), loopM E.Θ (newelref07_Cars_cal N) (newellaw07_CallsFair_lp N) (noJn) 0 newellaw07_CallsFair_L33 (bodyAt E 12 33) n (newellaw07_CallsFair_h33 v0 v1 v2 v3 v4 v5 v6 v7) k = newellaw07_CallsFair_l33 N n v0 v1 v2 v3 v4 v5 v6 v7 (fun q0 => k .ret (newellaw07_CallsFair_x33_r q0)) (fun (_ : Unit) => k (.exit 6) (newellaw07_CallsFair_x33_6 v0 v1 v2 v4 v5)) := by
  induction n with
  | zero => intro v0 v1 v2 v3 v4 v5 v6 v7; rfl
  | succ n ih =>
    intro v0 v1 v2 v3 v4 v5 v6 v7
    refine Eq.trans (b := newellaw07_CallsFair_b33 N (fun v0 v1 v2 v3 v4 v5 v6 v7 => loopM E.Θ (newelref07_Cars_cal N) (newellaw07_CallsFair_lp N) (noJn) 0 newellaw07_CallsFair_L33 (bodyAt E 12 33) n (newellaw07_CallsFair_h33 v0 v1 v2 v3 v4 v5 v6 v7) k) v0 v1 v2 v3 v4 v5 v6 v7 (fun q0 => k .ret (newellaw07_CallsFair_x33_r q0)) (fun (_ : Unit) => k (.exit 6) (newellaw07_CallsFair_x33_6 v0 v1 v2 v4 v5))) (by kernel_rfl) ?_
    have h : (fun (v0 : Arr api_Press) (v1 : Int) (v2 : Int) (v3 : Int) (v4 : Bool) (v5 : Arr api_Car) (v6 : Bool) (v7 : Arr Int) => loopM E.Θ (newelref07_Cars_cal N) (newellaw07_CallsFair_lp N) (noJn) 0 newellaw07_CallsFair_L33 (bodyAt E 12 33) n (newellaw07_CallsFair_h33 v0 v1 v2 v3 v4 v5 v6 v7) k) = (fun (v0 : Arr api_Press) (v1 : Int) (v2 : Int) (v3 : Int) (v4 : Bool) (v5 : Arr api_Car) (v6 : Bool) (v7 : Arr Int) => newellaw07_CallsFair_l33 N n v0 v1 v2 v3 v4 v5 v6 v7 (fun q0 => k .ret (newellaw07_CallsFair_x33_r q0)) (fun (_ : Unit) => k (.exit 6) (newellaw07_CallsFair_x33_6 v0 v1 v2 v4 v5))) := funext fun v0 => funext fun v1 => funext fun v2 => funext fun v3 => funext fun v4 => funext fun v5 => funext fun v6 => funext fun v7 => ih v0 v1 v2 v3 v4 v5 v6 v7
    rw [h]
    rfl
theorem newellaw07_CallsFair_k25 {R : Type} (N : Nat) : LpKey (R := R) E 12 0 (newellaw07_CallsFair_lp N) 25 :=
  lpKey_of hE (newelref07_Cars_cal_ok N) (lp := newellaw07_CallsFair_lp N) (jn := noJn) newellaw07_CallsFair_L25_ok [] kNil (by kernel_rfl) [] jNil (by kernel_rfl) N fun S k =>
    Eq.trans (b := newellaw07_CallsFair_L25.head.raw 0 S (fun S0 => newellaw07_CallsFair_d25 N S0 k)) (by kernel_rfl) (congrArg (newellaw07_CallsFair_L25.head.raw 0 S) (funext fun S0 => Eq.trans (newellaw07_CallsFair_l25_eq N k N (lstC api_PressC (lget S0.tmps 1)) (toI (lget S0.tmps 15)) (toI (lget S0.tmps 18)) (toI (lget S0.tmps 20)) (entNl (entAt S0.tab 0)) (lst api_CarC (entN (entAt S0.tab 0)) (entC (entAt S0.tab 0))) (entNl (entAt S0.tab 1)) (lst api_PressC (entN (entAt S0.tab 1)) (entC (entAt S0.tab 1)))).symm (by kernel_rfl)))
theorem newellaw07_CallsFair_k33 {R : Type} (N : Nat) : LpKey (R := R) E 12 0 (newellaw07_CallsFair_lp N) 33 :=
  lpKey_of hE (newelref07_Cars_cal_ok N) (lp := newellaw07_CallsFair_lp N) (jn := noJn) newellaw07_CallsFair_L33_ok [] kNil (by kernel_rfl) [] jNil (by kernel_rfl) N fun S k =>
    Eq.trans (b := newellaw07_CallsFair_L33.head.raw 0 S (fun S0 => newellaw07_CallsFair_d33 N S0 k)) (by kernel_rfl) (congrArg (newellaw07_CallsFair_L33.head.raw 0 S) (funext fun S0 => Eq.trans (newellaw07_CallsFair_l33_eq N k N (lstC api_PressC (lget S0.tmps 1)) (toI (lget S0.tmps 15)) (toI (lget S0.tmps 18)) (toI (lget S0.tmps 23)) (entNl (entAt S0.tab 0)) (lst api_CarC (entN (entAt S0.tab 0)) (entC (entAt S0.tab 0))) (entNl (entAt S0.tab 1)) (lst intC (entN (entAt S0.tab 1)) (entC (entAt S0.tab 1)))).symm (by kernel_rfl)))
theorem newellaw07_CallsFair_k11 {R : Type} (N : Nat) : LpKey (R := R) E 12 0 (newellaw07_CallsFair_lp N) 11 :=
  lpKey_of hE (newelref07_Cars_cal_ok N) (lp := newellaw07_CallsFair_lp N) (jn := noJn) newellaw07_CallsFair_L11_ok [] kNil (by kernel_rfl) [] jNil (by kernel_rfl) N fun S k =>
    Eq.trans (b := newellaw07_CallsFair_L11.head.raw 0 S (fun S0 => newellaw07_CallsFair_d11 N S0 k)) (by kernel_rfl) (congrArg (newellaw07_CallsFair_L11.head.raw 0 S) (funext fun S0 => Eq.trans (newellaw07_CallsFair_l11_eq N k N (lstC api_CarC (lget S0.tmps 0)) (lstC api_PressC (lget S0.tmps 1)) (toI (lget S0.tmps 12))).symm (by kernel_rfl)))
theorem newellaw07_CallsFair_k21 {R : Type} (N : Nat) : LpKey (R := R) E 12 0 (newellaw07_CallsFair_lp N) 21 :=
  lpKey_of hE (newelref07_Cars_cal_ok N) (lp := newellaw07_CallsFair_lp N) (jn := noJn) newellaw07_CallsFair_L21_ok [25, 33] (kCons (newellaw07_CallsFair_k25 N) (kCons (newellaw07_CallsFair_k33 N) kNil)) (by kernel_rfl) [] jNil (by kernel_rfl) N fun S k =>
    Eq.trans (b := newellaw07_CallsFair_L21.head.raw 0 S (fun S0 => newellaw07_CallsFair_d21 N S0 k)) (by kernel_rfl) (congrArg (newellaw07_CallsFair_L21.head.raw 0 S) (funext fun S0 => Eq.trans (newellaw07_CallsFair_l21_eq N k N (lstC api_PressC (lget S0.tmps 1)) (toI (lget S0.tmps 15)) (toI (lget S0.tmps 18)) (entNl (entAt S0.tab 0)) (lst api_CarC (entN (entAt S0.tab 0)) (entC (entAt S0.tab 0)))).symm (by kernel_rfl)))
noncomputable def newellaw07_CallsFair_go {R : Type} (N : Nat) (args : List SV) (T : Tab) (kf : SV × Tab → Option R) : Option R :=
  newellaw07_CallsFair N (lstC api_CarC (lget args 0)) (lstC api_PressC (lget args 1)) (lstC intC (lget args 2)) (fun q0 => kf (lget [.bool q0] 0, []))
noncomputable def newellaw07_CallsFair_cal {R : Type} (N : Nat) : Cal R := callM (newelref07_Cars_cal N) 12 0 newellaw07_CallsFair_sp (newellaw07_CallsFair_go N)
theorem newellaw07_CallsFair_cal_ok {R : Type} (N : Nat) : CalOk E.P (newellaw07_CallsFair_cal (R := R) N) :=
  callM_ok hE (newelref07_Cars_cal_ok N) (lp := newellaw07_CallsFair_lp N) (jn := noJn) (keys := [11, 21, 25, 33]) (kCons (newellaw07_CallsFair_k11 N) (kCons (newellaw07_CallsFair_k21 N) (kCons (newellaw07_CallsFair_k25 N) (kCons (newellaw07_CallsFair_k33 N) kNil)))) (by kernel_rfl) (js := []) jNil (by kernel_rfl) newellaw07_CallsFair_sp_ok newellaw07_CallsFair_rs_ok (fun args T kf => Eq.trans (newellaw07_CallsFair_def N (lstC api_CarC (lget args 0)) (lstC api_PressC (lget args 1)) (lstC intC (lget args 2)) (fun q0 => kf (lget [.bool q0] 0, []))) (by kernel_rfl : newellaw07_CallsFair_run N args T kf = fnM E (newelref07_Cars_cal N) (newellaw07_CallsFair_lp N) (noJn) 12 (newellaw07_CallsFair_sp.vs args) (newellaw07_CallsFair_sp.tab T) 0 (resK newellaw07_CallsFair_rs kf)))
theorem refGroup_long (N : Nat) {g : Arr api_Car} (h : 3 < g.n) (l : Arr api_Press) {R : Type} (k : Int → Option R) : newelref07_CheckGroup N g l k = k 70 := by
  rw [newelref07_CheckGroup_def]
  unfold newelref07_CheckGroup_m
  rw [from_eq, decide_eq_false (show ¬ ((1 : Int) ≤ (g.n : Int) ∧ (g.n : Int) ≤ 3) by omega), Bool.not_false, cond_true]
theorem fa_l11 {N : Nat} (hN : 2000 < N) {g : Arr api_Car} (hg : carsP g) (hgn : g.n ≤ 100) (l : Arr api_Press) {R : Type} (kr : Bool → Option R) (k0 : Unit → Option R) (z : Option R) (hr : kr true = z) : ∀ (q i n : Nat), i + q = g.n → q < n → (∀ j, j < i → (g.f j).Move + (g.f j).Stop ≤ 4) →
    ((∀ j, j < g.n → (g.f j).Move + (g.f j).Stop ≤ 4) → k0 () = z) → newellaw07_CallsFair_l11 N n g l (i : Int) kr k0 = z := by
  intro q
  induction q with
  | zero =>
    intro i n h1 h2 h3 h4
    obtain ⟨n, rfl⟩ : ∃ m, n = m + 1 := ⟨n - 1, by omega⟩
    unfold newellaw07_CallsFair_l11 newellaw07_CallsFair_b11
    rw [ltF (show g.n ≤ i by omega), cond_false]
    exact h4 fun j hj => h3 j (by omega)
  | succ q ih =>
    intro i n h1 h2 h3 h4
    obtain ⟨n, rfl⟩ : ∃ m, n = m + 1 := ⟨n - 1, by omega⟩
    have hi : i < g.n := by omega
    obtain ⟨c, hc, e⟩ := (hg i hi).cn
    have a1 := hc.m1
    have a2 := hc.m3
    have a3 := hc.s1
    have a4 := hc.s4
    have em : (g.f i).Move = (c.M : Int) := by rw [e]; rfl
    have es : (g.f i).Stop = (c.S : Int) := by rw [e]; rfl
    have hw : w64 ((g.f i).Move + (g.f i).Stop) = (g.f i).Move + (g.f i).Stop := w64_eq (by omega) (by omega)
    unfold newellaw07_CallsFair_l11 newellaw07_CallsFair_b11
    rw [ltT hi, cond_true, nat_nonneg, Bool.and_self, cond_true, cond_true, Int.toNat_natCast, hw]
    by_cases h5 : (g.f i).Move + (g.f i).Stop > 4
    · rw [decide_eq_true h5, cond_true]
      exact (works_eq hN _).trans hr
    · rw [decide_eq_false h5, cond_false, w64_succ (show i < 1000000000000 by omega)]
      exact ih (i + 1) n (by omega) (by omega) (fun j hj => by
        by_cases e : j = i
        · subst e; omega
        · exact h3 j (by omega)) h4
theorem fa_l25 (N : Nat) {l : Arr api_Press} (hln : l.n ≤ 200) (m : Int) {ca : Arr api_Car} {i : Nat} (hi : i < ca.n) {c : Cn} (hca : ca.f i = c.car) (b : Bool) : ∀ (q j n : Nat) (bb : Bool) (l' : Arr api_Press) (ix : Nat → Nat), j + q = l.n → q < n → Flt l (inC c l) j l' ix →
    ∃ (b' : Bool) (l2 : Arr api_Press) (ix' : Nat → Nat), Flt l (inC c l) l.n l2 ix' ∧ ∀ {R : Type} (k4 : Bool → Arr api_Press → Option R), newellaw07_CallsFair_l25 N n l m (i : Int) (j : Int) b ca bb l' k4 = k4 b' l2 := by
  have e1 : decide ((i : Int) < (ca.n : Int)) = true := ltT hi
  intro q
  induction q with
  | zero =>
    intro j n bb l' ix h1 h2 h3
    obtain ⟨n, rfl⟩ : ∃ m, n = m + 1 := ⟨n - 1, by omega⟩
    have : j = l.n := by omega
    subst this
    refine ⟨bb, l', ix, h3, fun {R} k4 => ?_⟩
    unfold newellaw07_CallsFair_l25 newellaw07_CallsFair_b25
    rw [ltF (Nat.le_refl _), cond_false]
  | succ q ih =>
    intro j n bb l' ix h1 h2 h3
    obtain ⟨n, rfl⟩ : ∃ m, n = m + 1 := ⟨n - 1, by omega⟩
    have e0 : decide ((j : Int) < (l.n : Int)) = true := ltT (by omega)
    have elo : (ca.f i).Low = (c.L : Int) := by rw [hca]; rfl
    have ehi : (ca.f i).High = (c.H : Int) := by rw [hca]; rfl
    by_cases hp : (c.L : Int) ≤ (l.f j).Floor ∧ (l.f j).Floor ≤ (c.H : Int)
    · have hpt : inC c l j = true := decide_eq_true hp
      have hpu := Arr.Is.push (C := api_PressC) pressDec (a := l') (n := l'.n) (g := fun k => if k < l'.n then l'.f k else l.f j) ⟨rfl, fun k hk => by simp [hk]⟩ (z := [SV.int IntKind.i64 (0 : Int), SV.int IntKind.i64 (0 : Int)]) (e := api_PressC.enc (l.f j)) (by simp only [Nat.lt_irrefl, if_false]; rfl)
      obtain ⟨b', l2, ix', g1, g2⟩ := ih (j + 1) n false _ _ (by omega) (by omega) (h3.take hpt hpu)
      refine ⟨b', l2, ix', g1, fun {R} k4 => ?_⟩
      have hle := h3.le
      unfold newellaw07_CallsFair_l25 newellaw07_CallsFair_b25
      rw [e0, cond_true, nat_nonneg, nat_nonneg, e1, Bool.and_self, cond_true, cond_true, Int.toNat_natCast, Int.toNat_natCast, elo, ehi, decide_eq_true (show (l.f j).Floor ≥ (c.L : Int) from hp.1), cond_true, cond_true, cond_true, decide_eq_true hp.2, cond_true, cond_true, room_of (by omega), cond_true, w64_succ (show j < 1000000000000 by omega)]
      exact g2 k4
    · have hpf : inC c l j = false := decide_eq_false hp
      obtain ⟨b', l2, ix', g1, g2⟩ := ih (j + 1) n bb l' ix (by omega) (by omega) (h3.skip hpf)
      refine ⟨b', l2, ix', g1, fun {R} k4 => ?_⟩
      unfold newellaw07_CallsFair_l25 newellaw07_CallsFair_b25
      rw [e0, cond_true, nat_nonneg, nat_nonneg, e1, Bool.and_self, cond_true, cond_true, Int.toNat_natCast, Int.toNat_natCast, elo, ehi, w64_succ (show j < 1000000000000 by omega)]
      by_cases h5 : (l.f j).Floor ≥ (c.L : Int)
      · rw [decide_eq_true h5, cond_true, cond_true, cond_true, decide_eq_false (show ¬ (l.f j).Floor ≤ (c.H : Int) from fun h => hp ⟨h5, h⟩), cond_false]
        exact g2 k4
      · rw [decide_eq_false h5, cond_false]
        exact g2 k4
theorem fa_l33 (N : Nat) (l : Arr api_Press) (m i : Int) (b b2 : Bool) (ca : Arr api_Car) {w : Arr Int} (hwn : w.n ≤ 200) (hw : ∀ j, j < w.n → w.f j ≤ m) {R : Type} (kr : Bool → Option R) (k6 : Unit → Option R) : ∀ (q j n : Nat), j + q = w.n → q < n →
    newellaw07_CallsFair_l33 N n l m i (j : Int) b ca b2 w kr k6 = k6 () := by
  intro q
  induction q with
  | zero =>
    intro j n h1 h2
    obtain ⟨n, rfl⟩ : ∃ m, n = m + 1 := ⟨n - 1, by omega⟩
    unfold newellaw07_CallsFair_l33 newellaw07_CallsFair_b33
    rw [ltF (show w.n ≤ j by omega), cond_false]
  | succ q ih =>
    intro j n h1 h2
    obtain ⟨n, rfl⟩ : ∃ m, n = m + 1 := ⟨n - 1, by omega⟩
    have hj : j < w.n := by omega
    have := hw j hj
    unfold newellaw07_CallsFair_l33 newellaw07_CallsFair_b33
    rw [ltT hj, cond_true, nat_nonneg, Bool.and_self, cond_true, Int.toNat_natCast, decide_eq_false (show ¬ w.f j > m by omega), cond_false, w64_succ (show j < 1000000000000 by omega)]
    exact ih (j + 1) n (by omega) (by omega)
theorem fa_l21 {N : Nat} (hN : 2000 < N) {g : Arr api_Car} (hg : carsP g) (hgn : g.n ≤ 3) {l : Arr api_Press} (ht : tAll l) {x : Nat → Int} (hd : DOk g.n 4 x) {ca : Arr api_Car} (hca : ca.Is g.n fun i => (carD g x i).car) (b : Bool) {R : Type} (kr : Bool → Option R) (k2 : Unit → Option R) : ∀ (q i n : Nat), i + q = g.n → q < n →
    newellaw07_CallsFair_l21 N n l ((gD g x : Nat) : Int) (i : Int) b ca kr k2 = k2 () := by
  have hln := ht.1
  intro q
  induction q with
  | zero =>
    intro i n h1 h2
    obtain ⟨n, rfl⟩ : ∃ m, n = m + 1 := ⟨n - 1, by omega⟩
    unfold newellaw07_CallsFair_l21 newellaw07_CallsFair_b21
    rw [hca.1, ltF (show g.n ≤ i by omega), cond_false]
  | succ q ih =>
    intro i n h1 h2
    obtain ⟨n, rfl⟩ : ∃ m, n = m + 1 := ⟨n - 1, by omega⟩
    have hi : i < g.n := by omega
    have hci : i < ca.n := by rw [hca.1]; exact hi
    obtain ⟨c1, c2, c3, c4, c5⟩ := carD_fact hg (by decide) hd.1 hi hi
    have hcar := hca.2 i hi
    obtain ⟨b', l2, ix', g1, g2⟩ := fa_l25 N hln ((gD g x : Nat) : Int) hci hcar b l.n 0 N true (lst api_PressC (0 : Nat) (zeroC [SV.int IntKind.i64 (0 : Int), SV.int IntKind.i64 (0 : Int)])) (fun k => k) (by omega) (by omega) ⟨fun j hj => absurd hj (Nat.not_lt_zero _), fun j j' h1 h2 => absurd h2 (Nat.not_lt_zero _), fun x hx => absurd hx (Nat.not_lt_zero _)⟩
    have hvl := g1.vl (inC_vq ht (carD g x i))
    obtain ⟨w, w1, w2⟩ := waits_eq hN c5 hvl
    have hle := (mxD_le (g := g) (x := x) g.n 0 0).2 i (Nat.zero_le _) (by omega)
    have hw := waits_le c5 hvl w1 (m := gD g x) hle
    have hwn : w.n ≤ 200 := by rw [w1.n]; exact hvl.n
    unfold newellaw07_CallsFair_l21 newellaw07_CallsFair_b21
    rw [ltT hci, cond_true]
    refine (g2 _).trans ?_
    rw [nat_nonneg, Bool.and_self, cond_true, Int.toNat_natCast, hcar, w2, show ((0 : Int) != 0) = false from rfl, cond_false]
    refine (fa_l33 N l ((gD g x : Nat) : Int) (i : Int) b false ca hwn hw _ _ w.n 0 N (by omega) (by omega)).trans ?_
    rw [w64_succ (show i < 1000000000000 by omega)]
    exact ih (i + 1) n (by omega) (by omega)
theorem errG_l0_of {g : Arr api_Car} (h1 : 1 ≤ g.n ∧ g.n ≤ 3) (hg : carsP g) : errG g l0 = 0 := by
  unfold errG
  rw [if_pos (show (1 ≤ (g.n : Int) ∧ (g.n : Int) ≤ 3) by omega), if_pos hg, if_pos (show tAll l0 from ⟨Nat.zero_le 200, fun i hi => absurd hi (Nat.not_lt_zero _)⟩), if_pos (show allOn g l0 from fun i hi => absurd hi (Nat.not_lt_zero _))]
theorem fair_tail {N : Nat} (hN : 2000 < N) {g : Arr api_Car} {l : Arr api_Press} (he : errG g l = 0) {R : Type} (k : Bool → Option R) :
    newellaw07_CallsFair_l11 N N g l (0 : Int) (fun r1121 =>
           k r1121) (fun (_ : Unit) =>
           calls_Divide N g (4 : Int) (fun r1122 r1123 r1124 r1125 =>
           newelref07_Cars N g (4 : Int) r1125 (fun r1126 r1127 r1128 =>
           bif r1123 != (0 : Int) then
            k false
           else
            bif !r1126 then
             k false
            else
             newellaw07_CallsFair_l21 N N l r1122 (0 : Int) r1127 r1128 (fun r1156 =>
              k r1156) (fun (_ : Unit) =>
              newellaw07_works N  (fun r1157 =>
              k r1157))))) = k true := by
  obtain ⟨h1, h2, h3, h4⟩ := errG_zero he
  refine fa_l11 hN h2 (by omega) l _ _ (k true) rfl g.n 0 N (by omega) (by omega) (fun j hj => by omega) fun hq => ?_
  have he0 := errG_l0_of h1 h2
  obtain ⟨best, b1, b2⟩ := divide_eq (by omega : 1000 < N) (show g.n ≤ 100 by omega) he0 (F := 4) (by omega) (by decide)
  obtain ⟨d1, d2, d3⟩ := bestD_is h1.1 h1.2 (F := 4) (by omega) (by decide)
  rw [d1] at b1
  obtain ⟨cb, ca, c1, c2⟩ := cars_good (by omega : 200 < N) h2 (show g.n ≤ 100 by omega) (by decide) b1 d2
  refine (b2 _).trans ?_
  refine (c2 _).trans ?_
  rw [show ((0 : Int) != 0) = false from rfl, cond_false, Bool.not_true, cond_false, d3]
  refine (fa_l21 hN h2 h1.2 h3 d2 c1 cb _ _ g.n 0 N (by omega) (by omega)).trans ?_
  exact works_eq hN _
theorem callsFair_true (g : Arr api_Car) (l : Arr api_Press) (sh : Arr Int) (hg : g.n ≤ maxLen) (hg2 : ∀ i, i < g.n → (g.f i).wf) (hl : l.n ≤ maxLen) (hl2 : ∀ i, i < l.n → (l.f i).wf) (hs : sh.n ≤ maxLen) (hs2 : ∀ i, i < sh.n → i64 (sh.f i)) :
    ∃ N, newellaw07_CallsFair N g l sh (fun q0 => okK (lget [.bool q0] 0, [])) = some () := by
  refine ⟨3000, ?_⟩
  rw [newellaw07_CallsFair_def]
  unfold newellaw07_CallsFair_m
  have wk : newellaw07_works 3000 (fun r => okK (lget [.bool r] 0, [])) = some () := works_eq (by decide) _
  by_cases h0 : (l.n : Int) > 5
  · rw [decide_eq_true h0, cond_true]
    exact wk
  rw [decide_eq_false h0, cond_false]
  by_cases hgn : g.n ≤ 100
  rotate_left
  · rw [refGroup_long 3000 (show 3 < g.n by omega), show ((70 : Int) != 0) = true from rfl, cond_true]
    exact wk
  rw [refGroup_eq (by decide) hgn (show l.n ≤ 1000 by omega)]
  by_cases he : errG g l = 0
  rotate_left
  · rw [show (errG g l != 0) = true by simpa using he, cond_true]
    exact wk
  have z0 : ((0 : Int) != 0) = false := rfl
  rw [he, z0, cond_false]
  obtain ⟨nl, best, s1, s2⟩ := share_eq (N := 3000) (by decide) hgn (show l.n ≤ 1000 by omega) he (by omega)
  obtain ⟨b1, b2⟩ := best_good (N := 3000) (by decide) hgn he s1
  refine (s2 _).trans ?_
  obtain ⟨m, m1, m2⟩ := longP_good (N := 3000) (by decide) hgn (show l.n ≤ 1000 by omega) he b1
  refine (m2 _).trans ?_
  rw [z0, cond_false, cond_false]
  have tail := fair_tail (N := 3000) (by decide) he (fun r => okK (lget [.bool r] 0, []))
  by_cases hsh : Shr g l sh
  · obtain ⟨n, n1, n2⟩ := longP_good (N := 3000) (by decide) hgn (show l.n ≤ 1000 by omega) he hsh
    refine (n2 _).trans ?_
    have hle := (bestS_le hsh n1).2
    rw [m1.unique b2, BEq.rfl, cond_true, decide_eq_false (show ¬ n < (bestS g l).m by omega), cond_false, z0, cond_false]
    exact tail
  · refine (longP_bad (N := 3000) (by decide) hgn (show l.n ≤ 1000 by omega) he hsh _).trans ?_
    rw [show ((1 : Int) == 0) = false from rfl, cond_false, show ((1 : Int) != 0) = true from rfl, cond_true, show ((1 : Int) != 1) = false from rfl, cond_false]
    exact tail
end
end Go.Proofs.Ytlphgonhenegoaa
