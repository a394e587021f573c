/-
  The model of the statement LiftFar, that it is what the code does (written by a program), and that it answers true.
-/
import Derived.Test.YtceeaimmelaenaaP8
set_option maxRecDepth 100000
set_option maxHeartbeats 0
set_option linter.unusedVariables false
set_option linter.unusedSimpArgs false
namespace Go.Proofs.Ytceeaimmelaenaa
open Go.Sx
noncomputable section

def newellaw05_LiftFar_L12 : LoopSp := ⟨⟨[2, 3, 4, 11, 12, 13, 14], ⟨(dr 2 ((rSl intC) :: (rPtr 0 0) :: (rPtr 1 0) :: (dr 6 ((rInt .i64) :: (rInt .i64) :: (rInt .i64) :: (rInt .i64) :: (dr 183 []))))), [(0, eBlkC api_LiftC), (1, eBlkC newellaw05_WayC)]⟩, 2⟩, [(some 0, ⟨[3, 4, 11, 12, 13], ⟨(dr 3 ((rPtr 0 0) :: (rPtr 1 0) :: (dr 6 ((rInt .i64) :: (rInt .i64) :: (rInt .i64) :: (dr 184 []))))), [(0, eBlkC api_LiftC), (1, eBlkC newellaw05_WayC)]⟩, 2⟩)]⟩
theorem newellaw05_LiftFar_L12_ok : newellaw05_LiftFar_L12.Ok := ⟨⟨(drCons 2 (allCons (rSl_ok intC_ok) (allCons (rPtr_ok 0 0) (allCons (rPtr_ok 1 0) (drCons 6 (allCons (rInt_ok .i64) (allCons (rInt_ok .i64) (allCons (rInt_ok .i64) (allCons (rInt_ok .i64) (drCons 183 allNil)))))))))), (eCons (eBlkC_ok api_LiftC_ok api_LiftC_len) (eCons (eBlkC_ok newellaw05_WayC_ok newellaw05_WayC_len) eNil))⟩, (xCons ⟨(drCons 3 (allCons (rPtr_ok 0 0) (allCons (rPtr_ok 1 0) (drCons 6 (allCons (rInt_ok .i64) (allCons (rInt_ok .i64) (allCons (rInt_ok .i64) (drCons 184 allNil)))))))), (eCons (eBlkC_ok api_LiftC_ok api_LiftC_len) (eCons (eBlkC_ok newellaw05_WayC_ok newellaw05_WayC_len) eNil))⟩ xNil)⟩
def newellaw05_LiftFar_h12 (v1170 : Arr Int) (v1171 : Int) (v1172 : Int) (v1173 : Int) (v1174 : Int) (v1175 : api_Lift) (v1176 : newellaw05_Way) : St := ⟨(un 2 ((slC intC v1170) :: (.ptr 0 0) :: (.ptr 1 0) :: (un 6 ((.int .i64 v1171) :: (.int .i64 v1172) :: (.int .i64 v1173) :: (.int .i64 v1174) :: (un 183 []))))), [(0, .blk (Cod.enc api_LiftC v1175)), (1, .blk (Cod.enc newellaw05_WayC v1176))], 2⟩
def newellaw05_LiftFar_x12_0 (v1171 : Int) (v1172 : Int) (v1175 : api_Lift) (v1176 : newellaw05_Way) (q2 : Int) : St := ⟨(un 3 ((.ptr 0 0) :: (.ptr 1 0) :: (un 6 ((.int .i64 v1171) :: (.int .i64 v1172) :: (.int .i64 q2) :: (un 184 []))))), [(0, .blk (Cod.enc api_LiftC v1175)), (1, .blk (Cod.enc newellaw05_WayC v1176))], 2⟩
def newellaw05_LiftFar_b12 {R : Type} (N : Nat) (rc : Arr Int → Int → Int → Int → Int → api_Lift → newellaw05_Way → Option R) (v1170 : Arr Int) (v1171 : Int) (v1172 : Int) (v1173 : Int) (v1174 : Int) (v1175 : api_Lift) (v1176 : newellaw05_Way) (k0 : Int → Option R) : Option R :=
  bif decide (v1174 < (↑(Arr.n v1170) : Int)) then
   bif decide ((0 : Int) ≤ v1174) && decide (v1174 < (↑(Arr.n v1170) : Int)) then
    rc v1170 v1171 v1172 (w64 (v1173 + Arr.f v1170 (Int.toNat v1174))) (w64 (v1174 + (1 : Int))) v1175 v1176
   else
    Option.none
  else
   k0 v1173
def newellaw05_LiftFar_l12 {R : Type} (N : Nat) : Nat → Arr Int → Int → Int → Int → Int → api_Lift → newellaw05_Way → (Int → Option R) → Option R
  | 0, _, _, _, _, _, _, _, _ => Option.none
  | n + 1, v1170, v1171, v1172, v1173, v1174, v1175, v1176, k0 => newellaw05_LiftFar_b12 N (fun v1170 v1171 v1172 v1173 v1174 v1175 v1176 => newellaw05_LiftFar_l12 N n v1170 v1171 v1172 v1173 v1174 v1175 v1176 k0) v1170 v1171 v1172 v1173 v1174 v1175 v1176 k0


def newellaw05_LiftFar_m {R : Type} (N : Nat) (a1155 : api_Lift) (a1156 : newellaw05_Way) (a1157 : Arr Int) (k : Bool → Option R) : Option R :=
  newellaw05_Far N a1155 (fun r1158 =>
  bif r1158 then
   newellaw05_works N  (fun r1159 =>
   k r1159)
  else
   bif decide ((↑(Arr.n a1157) : Int) > (1000 : Int)) then
    newellaw05_works N  (fun r1160 =>
    k r1160)
   else
    newelref05_Check N a1155 (fun r1161 =>
    bif r1161 != (0 : Int) then
     newellaw05_works N  (fun r1162 =>
     k r1162)
    else
     bif decide (newellaw05_Way.Ticks a1156 ≥ (0 : Int)) then
      bif decide (newellaw05_Way.Ticks a1156 < (1000 : Int)) then
       lift_Reach N a1155 (newellaw05_Way.Ticks a1156) (fun r1163 r1164 =>
       lift_Reach N a1155 (w64 (newellaw05_Way.Ticks a1156 + (1 : Int))) (fun r1165 r1166 =>
       bif r1164 != (0 : Int) then
        k false
       else
        bif r1166 != (0 : Int) then
         k false
        else
         bif decide (r1165 < r1163) then
          k false
         else
          bif decide (r1165 > w64 (r1163 + api_Lift.Speed a1155)) then
           k false
          else
           newelref05_IsTrip N a1155 a1157 (fun r1167 =>
           bif r1167 then
            lift_Reach N a1155 ((↑(Arr.n a1157) : Int)) (fun r1168 r1169 =>
            newellaw05_LiftFar_l12 N N a1157 r1168 r1169 (0 : Int) (0 : Int) a1155 a1156 (fun r1177 =>
             bif r1169 != (0 : Int) then
              k false
             else
              bif decide (r1177 > r1168) then
               k false
              else
               newelref05_Floors N a1155 (newellaw05_Way.From a1156) (newellaw05_Way.To a1156) (fun r1178 =>
               bif !r1178 then
                newellaw05_works N  (fun r1179 =>
                k r1179)
               else
                bif newellaw05_Way.From a1156 == newellaw05_Way.To a1156 then
                 newellaw05_works N  (fun r1180 =>
                 k r1180)
                else
                 lift_Trip N a1155 (newellaw05_Way.From a1156) (newellaw05_Way.To a1156) (fun r1181 r1182 r1183 =>
                 bif r1181 != (0 : Int) then
                  k false
                 else
                  bif (↑(Arr.n r1183) : Int) == (0 : Int) then
                   k false
                  else
                   bif decide ((0 : Int) ≤ newellaw05_Way.From a1156) && decide (newellaw05_Way.From a1156 < (↑(Arr.n (api_Lift.Floors a1155)) : Int)) then
                    bif decide ((0 : Int) ≤ newellaw05_Way.To a1156) && decide (newellaw05_Way.To a1156 < (↑(Arr.n (api_Lift.Floors a1155)) : Int)) then
                     bif decide ((0 : Int) ≤ newellaw05_Way.To a1156) && decide (newellaw05_Way.To a1156 < (↑(Arr.n (api_Lift.Floors a1155)) : Int)) then
                      bif decide ((0 : Int) ≤ newellaw05_Way.From a1156) && decide (newellaw05_Way.From a1156 < (↑(Arr.n (api_Lift.Floors a1155)) : Int)) then
                       lift_Reach N a1155 ((↑(Arr.n r1183) : Int)) (fun r1184 r1185 =>
                       lift_Reach N a1155 (w64 ((↑(Arr.n r1183) : Int) - (1 : Int))) (fun r1186 r1187 =>
                       bif r1185 == (0 : Int) then
                        bif r1187 == (0 : Int) then
                         bif decide (r1184 ≥ if w64 (Arr.f (api_Lift.Floors a1155) (Int.toNat (newellaw05_Way.To a1156)) - Arr.f (api_Lift.Floors a1155) (Int.toNat (newellaw05_Way.From a1156))) > w64 (Arr.f (api_Lift.Floors a1155) (Int.toNat (newellaw05_Way.From a1156)) - Arr.f (api_Lift.Floors a1155) (Int.toNat (newellaw05_Way.To a1156))) then w64 (Arr.f (api_Lift.Floors a1155) (Int.toNat (newellaw05_Way.To a1156)) - Arr.f (api_Lift.Floors a1155) (Int.toNat (newellaw05_Way.From a1156))) else w64 (Arr.f (api_Lift.Floors a1155) (Int.toNat (newellaw05_Way.From a1156)) - Arr.f (api_Lift.Floors a1155) (Int.toNat (newellaw05_Way.To a1156)))) then
                          bif decide (r1186 < if w64 (Arr.f (api_Lift.Floors a1155) (Int.toNat (newellaw05_Way.To a1156)) - Arr.f (api_Lift.Floors a1155) (Int.toNat (newellaw05_Way.From a1156))) > w64 (Arr.f (api_Lift.Floors a1155) (Int.toNat (newellaw05_Way.From a1156)) - Arr.f (api_Lift.Floors a1155) (Int.toNat (newellaw05_Way.To a1156))) then w64 (Arr.f (api_Lift.Floors a1155) (Int.toNat (newellaw05_Way.To a1156)) - Arr.f (api_Lift.Floors a1155) (Int.toNat (newellaw05_Way.From a1156))) else w64 (Arr.f (api_Lift.Floors a1155) (Int.toNat (newellaw05_Way.From a1156)) - Arr.f (api_Lift.Floors a1155) (Int.toNat (newellaw05_Way.To a1156)))) then
                           newellaw05_works N  (fun r1188 =>
                           k r1188)
                          else
                           k false
                         else
                          k false
                        else
                         k false
                       else
                        k false))
                      else
                       Option.none
                     else
                      Option.none
                    else
                     Option.none
                   else
                    Option.none))))
           else
            newelref05_Floors N a1155 (newellaw05_Way.From a1156) (newellaw05_Way.To a1156) (fun r1189 =>
            bif !r1189 then
             newellaw05_works N  (fun r1190 =>
             k r1190)
            else
             bif newellaw05_Way.From a1156 == newellaw05_Way.To a1156 then
              newellaw05_works N  (fun r1191 =>
              k r1191)
             else
              lift_Trip N a1155 (newellaw05_Way.From a1156) (newellaw05_Way.To a1156) (fun r1192 r1193 r1194 =>
              bif r1192 != (0 : Int) then
               k false
              else
               bif (↑(Arr.n r1194) : Int) == (0 : Int) then
                k false
               else
                bif decide ((0 : Int) ≤ newellaw05_Way.From a1156) && decide (newellaw05_Way.From a1156 < (↑(Arr.n (api_Lift.Floors a1155)) : Int)) then
                 bif decide ((0 : Int) ≤ newellaw05_Way.To a1156) && decide (newellaw05_Way.To a1156 < (↑(Arr.n (api_Lift.Floors a1155)) : Int)) then
                  bif decide ((0 : Int) ≤ newellaw05_Way.To a1156) && decide (newellaw05_Way.To a1156 < (↑(Arr.n (api_Lift.Floors a1155)) : Int)) then
                   bif decide ((0 : Int) ≤ newellaw05_Way.From a1156) && decide (newellaw05_Way.From a1156 < (↑(Arr.n (api_Lift.Floors a1155)) : Int)) then
                    lift_Reach N a1155 ((↑(Arr.n r1194) : Int)) (fun r1195 r1196 =>
                    lift_Reach N a1155 (w64 ((↑(Arr.n r1194) : Int) - (1 : Int))) (fun r1197 r1198 =>
                    bif r1196 == (0 : Int) then
                     bif r1198 == (0 : Int) then
                      bif decide (r1195 ≥ if w64 (Arr.f (api_Lift.Floors a1155) (Int.toNat (newellaw05_Way.To a1156)) - Arr.f (api_Lift.Floors a1155) (Int.toNat (newellaw05_Way.From a1156))) > w64 (Arr.f (api_Lift.Floors a1155) (Int.toNat (newellaw05_Way.From a1156)) - Arr.f (api_Lift.Floors a1155) (Int.toNat (newellaw05_Way.To a1156))) then w64 (Arr.f (api_Lift.Floors a1155) (Int.toNat (newellaw05_Way.To a1156)) - Arr.f (api_Lift.Floors a1155) (Int.toNat (newellaw05_Way.From a1156))) else w64 (Arr.f (api_Lift.Floors a1155) (Int.toNat (newellaw05_Way.From a1156)) - Arr.f (api_Lift.Floors a1155) (Int.toNat (newellaw05_Way.To a1156)))) then
                       bif decide (r1197 < if w64 (Arr.f (api_Lift.Floors a1155) (Int.toNat (newellaw05_Way.To a1156)) - Arr.f (api_Lift.Floors a1155) (Int.toNat (newellaw05_Way.From a1156))) > w64 (Arr.f (api_Lift.Floors a1155) (Int.toNat (newellaw05_Way.From a1156)) - Arr.f (api_Lift.Floors a1155) (Int.toNat (newellaw05_Way.To a1156))) then w64 (Arr.f (api_Lift.Floors a1155) (Int.toNat (newellaw05_Way.To a1156)) - Arr.f (api_Lift.Floors a1155) (Int.toNat (newellaw05_Way.From a1156))) else w64 (Arr.f (api_Lift.Floors a1155) (Int.toNat (newellaw05_Way.From a1156)) - Arr.f (api_Lift.Floors a1155) (Int.toNat (newellaw05_Way.To a1156)))) then
                        newellaw05_works N  (fun r1199 =>
                        k r1199)
                       else
                        k false
                      else
                       k false
                     else
                      k false
                    else
                     k false))
                   else
                    Option.none
                  else
                   Option.none
                 else
                  Option.none
                else
                 Option.none)))))
      else
       newelref05_IsTrip N a1155 a1157 (fun r1200 =>
       bif r1200 then
        lift_Reach N a1155 ((↑(Arr.n a1157) : Int)) (fun r1201 r1202 =>
        newellaw05_LiftFar_l12 N N a1157 r1201 r1202 (0 : Int) (0 : Int) a1155 a1156 (fun r1203 =>
         bif r1202 != (0 : Int) then
          k false
         else
          bif decide (r1203 > r1201) then
           k false
          else
           newelref05_Floors N a1155 (newellaw05_Way.From a1156) (newellaw05_Way.To a1156) (fun r1204 =>
           bif !r1204 then
            newellaw05_works N  (fun r1205 =>
            k r1205)
           else
            bif newellaw05_Way.From a1156 == newellaw05_Way.To a1156 then
             newellaw05_works N  (fun r1206 =>
             k r1206)
            else
             lift_Trip N a1155 (newellaw05_Way.From a1156) (newellaw05_Way.To a1156) (fun r1207 r1208 r1209 =>
             bif r1207 != (0 : Int) then
              k false
             else
              bif (↑(Arr.n r1209) : Int) == (0 : Int) then
               k false
              else
               bif decide ((0 : Int) ≤ newellaw05_Way.From a1156) && decide (newellaw05_Way.From a1156 < (↑(Arr.n (api_Lift.Floors a1155)) : Int)) then
                bif decide ((0 : Int) ≤ newellaw05_Way.To a1156) && decide (newellaw05_Way.To a1156 < (↑(Arr.n (api_Lift.Floors a1155)) : Int)) then
                 bif decide ((0 : Int) ≤ newellaw05_Way.To a1156) && decide (newellaw05_Way.To a1156 < (↑(Arr.n (api_Lift.Floors a1155)) : Int)) then
                  bif decide ((0 : Int) ≤ newellaw05_Way.From a1156) && decide (newellaw05_Way.From a1156 < (↑(Arr.n (api_Lift.Floors a1155)) : Int)) then
                   lift_Reach N a1155 ((↑(Arr.n r1209) : Int)) (fun r1210 r1211 =>
                   lift_Reach N a1155 (w64 ((↑(Arr.n r1209) : Int) - (1 : Int))) (fun r1212 r1213 =>
                   bif r1211 == (0 : Int) then
                    bif r1213 == (0 : Int) then
                     bif decide (r1210 ≥ if w64 (Arr.f (api_Lift.Floors a1155) (Int.toNat (newellaw05_Way.To a1156)) - Arr.f (api_Lift.Floors a1155) (Int.toNat (newellaw05_Way.From a1156))) > w64 (Arr.f (api_Lift.Floors a1155) (Int.toNat (newellaw05_Way.From a1156)) - Arr.f (api_Lift.Floors a1155) (Int.toNat (newellaw05_Way.To a1156))) then w64 (Arr.f (api_Lift.Floors a1155) (Int.toNat (newellaw05_Way.To a1156)) - Arr.f (api_Lift.Floors a1155) (Int.toNat (newellaw05_Way.From a1156))) else w64 (Arr.f (api_Lift.Floors a1155) (Int.toNat (newellaw05_Way.From a1156)) - Arr.f (api_Lift.Floors a1155) (Int.toNat (newellaw05_Way.To a1156)))) then
                      bif decide (r1212 < if w64 (Arr.f (api_Lift.Floors a1155) (Int.toNat (newellaw05_Way.To a1156)) - Arr.f (api_Lift.Floors a1155) (Int.toNat (newellaw05_Way.From a1156))) > w64 (Arr.f (api_Lift.Floors a1155) (Int.toNat (newellaw05_Way.From a1156)) - Arr.f (api_Lift.Floors a1155) (Int.toNat (newellaw05_Way.To a1156))) then w64 (Arr.f (api_Lift.Floors a1155) (Int.toNat (newellaw05_Way.To a1156)) - Arr.f (api_Lift.Floors a1155) (Int.toNat (newellaw05_Way.From a1156))) else w64 (Arr.f (api_Lift.Floors a1155) (Int.toNat (newellaw05_Way.From a1156)) - Arr.f (api_Lift.Floors a1155) (Int.toNat (newellaw05_Way.To a1156)))) then
                       newellaw05_works N  (fun r1214 =>
                       k r1214)
                      else
                       k false
                     else
                      k false
                    else
                     k false
                   else
                    k false))
                  else
                   Option.none
                 else
                  Option.none
                else
                 Option.none
               else
                Option.none))))
       else
        newelref05_Floors N a1155 (newellaw05_Way.From a1156) (newellaw05_Way.To a1156) (fun r1215 =>
        bif !r1215 then
         newellaw05_works N  (fun r1216 =>
         k r1216)
        else
         bif newellaw05_Way.From a1156 == newellaw05_Way.To a1156 then
          newellaw05_works N  (fun r1217 =>
          k r1217)
         else
          lift_Trip N a1155 (newellaw05_Way.From a1156) (newellaw05_Way.To a1156) (fun r1218 r1219 r1220 =>
          bif r1218 != (0 : Int) then
           k false
          else
           bif (↑(Arr.n r1220) : Int) == (0 : Int) then
            k false
           else
            bif decide ((0 : Int) ≤ newellaw05_Way.From a1156) && decide (newellaw05_Way.From a1156 < (↑(Arr.n (api_Lift.Floors a1155)) : Int)) then
             bif decide ((0 : Int) ≤ newellaw05_Way.To a1156) && decide (newellaw05_Way.To a1156 < (↑(Arr.n (api_Lift.Floors a1155)) : Int)) then
              bif decide ((0 : Int) ≤ newellaw05_Way.To a1156) && decide (newellaw05_Way.To a1156 < (↑(Arr.n (api_Lift.Floors a1155)) : Int)) then
               bif decide ((0 : Int) ≤ newellaw05_Way.From a1156) && decide (newellaw05_Way.From a1156 < (↑(Arr.n (api_Lift.Floors a1155)) : Int)) then
                lift_Reach N a1155 ((↑(Arr.n r1220) : Int)) (fun r1221 r1222 =>
                lift_Reach N a1155 (w64 ((↑(Arr.n r1220) : Int) - (1 : Int))) (fun r1223 r1224 =>
                bif r1222 == (0 : Int) then
                 bif r1224 == (0 : Int) then
                  bif decide (r1221 ≥ if w64 (Arr.f (api_Lift.Floors a1155) (Int.toNat (newellaw05_Way.To a1156)) - Arr.f (api_Lift.Floors a1155) (Int.toNat (newellaw05_Way.From a1156))) > w64 (Arr.f (api_Lift.Floors a1155) (Int.toNat (newellaw05_Way.From a1156)) - Arr.f (api_Lift.Floors a1155) (Int.toNat (newellaw05_Way.To a1156))) then w64 (Arr.f (api_Lift.Floors a1155) (Int.toNat (newellaw05_Way.To a1156)) - Arr.f (api_Lift.Floors a1155) (Int.toNat (newellaw05_Way.From a1156))) else w64 (Arr.f (api_Lift.Floors a1155) (Int.toNat (newellaw05_Way.From a1156)) - Arr.f (api_Lift.Floors a1155) (Int.toNat (newellaw05_Way.To a1156)))) then
                   bif decide (r1223 < if w64 (Arr.f (api_Lift.Floors a1155) (Int.toNat (newellaw05_Way.To a1156)) - Arr.f (api_Lift.Floors a1155) (Int.toNat (newellaw05_Way.From a1156))) > w64 (Arr.f (api_Lift.Floors a1155) (Int.toNat (newellaw05_Way.From a1156)) - Arr.f (api_Lift.Floors a1155) (Int.toNat (newellaw05_Way.To a1156))) then w64 (Arr.f (api_Lift.Floors a1155) (Int.toNat (newellaw05_Way.To a1156)) - Arr.f (api_Lift.Floors a1155) (Int.toNat (newellaw05_Way.From a1156))) else w64 (Arr.f (api_Lift.Floors a1155) (Int.toNat (newellaw05_Way.From a1156)) - Arr.f (api_Lift.Floors a1155) (Int.toNat (newellaw05_Way.To a1156)))) then
                    newellaw05_works N  (fun r1225 =>
                    k r1225)
                   else
                    k false
                  else
                   k false
                 else
                  k false
                else
                 k false))
               else
                Option.none
              else
               Option.none
             else
              Option.none
            else
             Option.none)))
     else
      newelref05_IsTrip N a1155 a1157 (fun r1226 =>
      bif r1226 then
       lift_Reach N a1155 ((↑(Arr.n a1157) : Int)) (fun r1227 r1228 =>
       newellaw05_LiftFar_l12 N N a1157 r1227 r1228 (0 : Int) (0 : Int) a1155 a1156 (fun r1229 =>
        bif r1228 != (0 : Int) then
         k false
        else
         bif decide (r1229 > r1227) then
          k false
         else
          newelref05_Floors N a1155 (newellaw05_Way.From a1156) (newellaw05_Way.To a1156) (fun r1230 =>
          bif !r1230 then
           newellaw05_works N  (fun r1231 =>
           k r1231)
          else
           bif newellaw05_Way.From a1156 == newellaw05_Way.To a1156 then
            newellaw05_works N  (fun r1232 =>
            k r1232)
           else
            lift_Trip N a1155 (newellaw05_Way.From a1156) (newellaw05_Way.To a1156) (fun r1233 r1234 r1235 =>
            bif r1233 != (0 : Int) then
             k false
            else
             bif (↑(Arr.n r1235) : Int) == (0 : Int) then
              k false
             else
              bif decide ((0 : Int) ≤ newellaw05_Way.From a1156) && decide (newellaw05_Way.From a1156 < (↑(Arr.n (api_Lift.Floors a1155)) : Int)) then
               bif decide ((0 : Int) ≤ newellaw05_Way.To a1156) && decide (newellaw05_Way.To a1156 < (↑(Arr.n (api_Lift.Floors a1155)) : Int)) then
                bif decide ((0 : Int) ≤ newellaw05_Way.To a1156) && decide (newellaw05_Way.To a1156 < (↑(Arr.n (api_Lift.Floors a1155)) : Int)) then
                 bif decide ((0 : Int) ≤ newellaw05_Way.From a1156) && decide (newellaw05_Way.From a1156 < (↑(Arr.n (api_Lift.Floors a1155)) : Int)) then
                  lift_Reach N a1155 ((↑(Arr.n r1235) : Int)) (fun r1236 r1237 =>
                  lift_Reach N a1155 (w64 ((↑(Arr.n r1235) : Int) - (1 : Int))) (fun r1238 r1239 =>
                  bif r1237 == (0 : Int) then
                   bif r1239 == (0 : Int) then
                    bif decide (r1236 ≥ if w64 (Arr.f (api_Lift.Floors a1155) (Int.toNat (newellaw05_Way.To a1156)) - Arr.f (api_Lift.Floors a1155) (Int.toNat (newellaw05_Way.From a1156))) > w64 (Arr.f (api_Lift.Floors a1155) (Int.toNat (newellaw05_Way.From a1156)) - Arr.f (api_Lift.Floors a1155) (Int.toNat (newellaw05_Way.To a1156))) then w64 (Arr.f (api_Lift.Floors a1155) (Int.toNat (newellaw05_Way.To a1156)) - Arr.f (api_Lift.Floors a1155) (Int.toNat (newellaw05_Way.From a1156))) else w64 (Arr.f (api_Lift.Floors a1155) (Int.toNat (newellaw05_Way.From a1156)) - Arr.f (api_Lift.Floors a1155) (Int.toNat (newellaw05_Way.To a1156)))) then
                     bif decide (r1238 < if w64 (Arr.f (api_Lift.Floors a1155) (Int.toNat (newellaw05_Way.To a1156)) - Arr.f (api_Lift.Floors a1155) (Int.toNat (newellaw05_Way.From a1156))) > w64 (Arr.f (api_Lift.Floors a1155) (Int.toNat (newellaw05_Way.From a1156)) - Arr.f (api_Lift.Floors a1155) (Int.toNat (newellaw05_Way.To a1156))) then w64 (Arr.f (api_Lift.Floors a1155) (Int.toNat (newellaw05_Way.To a1156)) - Arr.f (api_Lift.Floors a1155) (Int.toNat (newellaw05_Way.From a1156))) else w64 (Arr.f (api_Lift.Floors a1155) (Int.toNat (newellaw05_Way.From a1156)) - Arr.f (api_Lift.Floors a1155) (Int.toNat (newellaw05_Way.To a1156)))) then
                      newellaw05_works N  (fun r1240 =>
                      k r1240)
                     else
                      k false
                    else
                     k false
                   else
                    k false
                  else
                   k false))
                 else
                  Option.none
                else
                 Option.none
               else
                Option.none
              else
               Option.none))))
      else
       newelref05_Floors N a1155 (newellaw05_Way.From a1156) (newellaw05_Way.To a1156) (fun r1241 =>
       bif !r1241 then
        newellaw05_works N  (fun r1242 =>
        k r1242)
       else
        bif newellaw05_Way.From a1156 == newellaw05_Way.To a1156 then
         newellaw05_works N  (fun r1243 =>
         k r1243)
        else
         lift_Trip N a1155 (newellaw05_Way.From a1156) (newellaw05_Way.To a1156) (fun r1244 r1245 r1246 =>
         bif r1244 != (0 : Int) then
          k false
         else
          bif (↑(Arr.n r1246) : Int) == (0 : Int) then
           k false
          else
           bif decide ((0 : Int) ≤ newellaw05_Way.From a1156) && decide (newellaw05_Way.From a1156 < (↑(Arr.n (api_Lift.Floors a1155)) : Int)) then
            bif decide ((0 : Int) ≤ newellaw05_Way.To a1156) && decide (newellaw05_Way.To a1156 < (↑(Arr.n (api_Lift.Floors a1155)) : Int)) then
             bif decide ((0 : Int) ≤ newellaw05_Way.To a1156) && decide (newellaw05_Way.To a1156 < (↑(Arr.n (api_Lift.Floors a1155)) : Int)) then
              bif decide ((0 : Int) ≤ newellaw05_Way.From a1156) && decide (newellaw05_Way.From a1156 < (↑(Arr.n (api_Lift.Floors a1155)) : Int)) then
               lift_Reach N a1155 ((↑(Arr.n r1246) : Int)) (fun r1247 r1248 =>
               lift_Reach N a1155 (w64 ((↑(Arr.n r1246) : Int) - (1 : Int))) (fun r1249 r1250 =>
               bif r1248 == (0 : Int) then
                bif r1250 == (0 : Int) then
                 bif decide (r1247 ≥ if w64 (Arr.f (api_Lift.Floors a1155) (Int.toNat (newellaw05_Way.To a1156)) - Arr.f (api_Lift.Floors a1155) (Int.toNat (newellaw05_Way.From a1156))) > w64 (Arr.f (api_Lift.Floors a1155) (Int.toNat (newellaw05_Way.From a1156)) - Arr.f (api_Lift.Floors a1155) (Int.toNat (newellaw05_Way.To a1156))) then w64 (Arr.f (api_Lift.Floors a1155) (Int.toNat (newellaw05_Way.To a1156)) - Arr.f (api_Lift.Floors a1155) (Int.toNat (newellaw05_Way.From a1156))) else w64 (Arr.f (api_Lift.Floors a1155) (Int.toNat (newellaw05_Way.From a1156)) - Arr.f (api_Lift.Floors a1155) (Int.toNat (newellaw05_Way.To a1156)))) then
                  bif decide (r1249 < if w64 (Arr.f (api_Lift.Floors a1155) (Int.toNat (newellaw05_Way.To a1156)) - Arr.f (api_Lift.Floors a1155) (Int.toNat (newellaw05_Way.From a1156))) > w64 (Arr.f (api_Lift.Floors a1155) (Int.toNat (newellaw05_Way.From a1156)) - Arr.f (api_Lift.Floors a1155) (Int.toNat (newellaw05_Way.To a1156))) then w64 (Arr.f (api_Lift.Floors a1155) (Int.toNat (newellaw05_Way.To a1156)) - Arr.f (api_Lift.Floors a1155) (Int.toNat (newellaw05_Way.From a1156))) else w64 (Arr.f (api_Lift.Floors a1155) (Int.toNat (newellaw05_Way.From a1156)) - Arr.f (api_Lift.Floors a1155) (Int.toNat (newellaw05_Way.To a1156)))) then
                   newellaw05_works N  (fun r1251 =>
                   k r1251)
                  else
                   k false
                 else
                  k false
                else
                 k false
               else
                k false))
              else
               Option.none
             else
              Option.none
            else
             Option.none
           else
            Option.none)))))
noncomputable def newellaw05_LiftFar {R : Type} : Nat → api_Lift → newellaw05_Way → Arr Int → (Bool → Option R) → Option R := lock (@newellaw05_LiftFar_m R)
theorem newellaw05_LiftFar_def {R : Type} (N : Nat) (a1155 : api_Lift) (a1156 : newellaw05_Way) (a1157 : Arr Int) (k : Bool → Option R) : newellaw05_LiftFar N a1155 a1156 a1157 k = newellaw05_LiftFar_m N a1155 a1156 a1157 k := by unfold newellaw05_LiftFar; rw [lock_eq]
def newellaw05_LiftFar_sp : Sp := ⟨[rAgg api_LiftC, rAgg newellaw05_WayC, rSl intC], []⟩
theorem newellaw05_LiftFar_sp_ok : newellaw05_LiftFar_sp.Ok := ⟨(allCons (rAgg_ok api_LiftC_ok api_LiftC_len) (allCons (rAgg_ok newellaw05_WayC_ok newellaw05_WayC_len) (allCons (rSl_ok intC_ok) allNil))), eNil⟩
def newellaw05_LiftFar_rs : Sp := ⟨[rBool], []⟩
theorem newellaw05_LiftFar_rs_ok : newellaw05_LiftFar_rs.Ok := ⟨(allCons rBool_ok allNil), eNil⟩
def newellaw05_LiftFar_run {R : Type} (N : Nat) (args : List SV) (T : Tab) (kf : SV × Tab → Option R) : Option R :=
  newellaw05_LiftFar_m N (Cod.dec api_LiftC (lget (toCs (lget args 0)))) (Cod.dec newellaw05_WayC (lget (toCs (lget args 1)))) (lstC intC (lget args 2)) (fun q0 => kf (lget [.bool q0] 0, []))
def newellaw05_LiftFar_d12 {R : Type} (N : Nat) (S0 : St) (k : Exit → St → Option R) : Option R :=
  newellaw05_LiftFar_l12 N N (lstC intC (lget S0.tmps 2)) (toI (lget S0.tmps 11)) (toI (lget S0.tmps 12)) (toI (lget S0.tmps 13)) (toI (lget S0.tmps 14)) (Cod.dec api_LiftC (lget (entCs (entAt S0.tab 0)))) (Cod.dec newellaw05_WayC (lget (entCs (entAt S0.tab 1)))) (fun q2 => k (.exit 0) (newellaw05_LiftFar_x12_0 (toI (lget S0.tmps 11)) (toI (lget S0.tmps 12)) (Cod.dec api_LiftC (lget (entCs (entAt S0.tab 0)))) (Cod.dec newellaw05_WayC (lget (entCs (entAt S0.tab 1)))) q2))
def newellaw05_LiftFar_lp {R : Type} (N : Nat) : Lp R := fun body S k => bif (Go.Sx.keyOf body).getD 0 == 12 then newellaw05_LiftFar_L12.head.raw 0 S (fun S0 => newellaw05_LiftFar_d12 N S0 k) else Option.none
theorem newellaw05_LiftFar_l12_eq {R : Type} (N : Nat) (k : Exit → St → Option R) (n : Nat) : ∀ (v0 : Arr Int) (v1 : Int) (v2 : Int) (v3 : Int) (v4 : Int) (v5 : api_Lift) (v6 : newellaw05_Way), loopM E.Θ (newellaw05_works_cal N) (newellaw05_LiftFar_lp N) 0 newellaw05_LiftFar_L12 (bodyAt E 9 12) n (newellaw05_LiftFar_h12 v0 v1 v2 v3 v4 v5 v6) k = newellaw05_LiftFar_l12 N n v0 v1 v2 v3 v4 v5 v6 (fun q2 => k (.exit 0) (newellaw05_LiftFar_x12_0 v1 v2 v5 v6 q2)) := by
  induction n with
  | zero => intro v0 v1 v2 v3 v4 v5 v6; rfl
  | succ n ih =>
    intro v0 v1 v2 v3 v4 v5 v6
    refine Eq.trans (b := newellaw05_LiftFar_b12 N (fun v0 v1 v2 v3 v4 v5 v6 => loopM E.Θ (newellaw05_works_cal N) (newellaw05_LiftFar_lp N) 0 newellaw05_LiftFar_L12 (bodyAt E 9 12) n (newellaw05_LiftFar_h12 v0 v1 v2 v3 v4 v5 v6) k) v0 v1 v2 v3 v4 v5 v6 (fun q2 => k (.exit 0) (newellaw05_LiftFar_x12_0 v1 v2 v5 v6 q2))) (by kernel_rfl) ?_
    have h : (fun (v0 : Arr Int) (v1 : Int) (v2 : Int) (v3 : Int) (v4 : Int) (v5 : api_Lift) (v6 : newellaw05_Way) => loopM E.Θ (newellaw05_works_cal N) (newellaw05_LiftFar_lp N) 0 newellaw05_LiftFar_L12 (bodyAt E 9 12) n (newellaw05_LiftFar_h12 v0 v1 v2 v3 v4 v5 v6) k) = (fun (v0 : Arr Int) (v1 : Int) (v2 : Int) (v3 : Int) (v4 : Int) (v5 : api_Lift) (v6 : newellaw05_Way) => newellaw05_LiftFar_l12 N n v0 v1 v2 v3 v4 v5 v6 (fun q2 => k (.exit 0) (newellaw05_LiftFar_x12_0 v1 v2 v5 v6 q2))) := funext fun v0 => funext fun v1 => funext fun v2 => funext fun v3 => funext fun v4 => funext fun v5 => funext fun v6 => ih v0 v1 v2 v3 v4 v5 v6
    rw [h]
    rfl
theorem newellaw05_LiftFar_k12 {R : Type} (N : Nat) : LpKey (R := R) E 9 0 (newellaw05_LiftFar_lp N) 12 :=
  lpKey_of hE (newellaw05_works_cal_ok N) newellaw05_LiftFar_L12_ok [] kNil (by kernel_rfl) N fun S k =>
    Eq.trans (b := newellaw05_LiftFar_L12.head.raw 0 S (fun S0 => newellaw05_LiftFar_d12 N S0 k)) (by kernel_rfl) (congrArg (newellaw05_LiftFar_L12.head.raw 0 S) (funext fun S0 => Eq.trans (newellaw05_LiftFar_l12_eq N k N (lstC intC (lget S0.tmps 2)) (toI (lget S0.tmps 11)) (toI (lget S0.tmps 12)) (toI (lget S0.tmps 13)) (toI (lget S0.tmps 14)) (Cod.dec api_LiftC (lget (entCs (entAt S0.tab 0)))) (Cod.dec newellaw05_WayC (lget (entCs (entAt S0.tab 1))))).symm (by kernel_rfl)))
noncomputable def newellaw05_LiftFar_go {R : Type} (N : Nat) (args : List SV) (T : Tab) (kf : SV × Tab → Option R) : Option R :=
  newellaw05_LiftFar N (Cod.dec api_LiftC (lget (toCs (lget args 0)))) (Cod.dec newellaw05_WayC (lget (toCs (lget args 1)))) (lstC intC (lget args 2)) (fun q0 => kf (lget [.bool q0] 0, []))
noncomputable def newellaw05_LiftFar_cal {R : Type} (N : Nat) : Cal R := callM (newellaw05_works_cal N) 9 0 newellaw05_LiftFar_sp (newellaw05_LiftFar_go N)
theorem newellaw05_LiftFar_cal_ok {R : Type} (N : Nat) : CalOk E.P (newellaw05_LiftFar_cal (R := R) N) :=
  callM_ok hE (newellaw05_works_cal_ok N) (lp := newellaw05_LiftFar_lp N) (keys := [12]) (kCons (newellaw05_LiftFar_k12 N) kNil) (by kernel_rfl) newellaw05_LiftFar_sp_ok newellaw05_LiftFar_rs_ok (fun args T kf => Eq.trans (newellaw05_LiftFar_def N (Cod.dec api_LiftC (lget (toCs (lget args 0)))) (Cod.dec newellaw05_WayC (lget (toCs (lget args 1)))) (lstC intC (lget args 2)) (fun q0 => kf (lget [.bool q0] 0, []))) (by kernel_rfl : newellaw05_LiftFar_run N args T kf = fnM E (newellaw05_works_cal N) (newellaw05_LiftFar_lp N) 9 (newellaw05_LiftFar_sp.vs args) (newellaw05_LiftFar_sp.tab T) 0 (resK newellaw05_LiftFar_rs kf)))

theorem reachV_pos {l : api_Lift} (hv : VL l) {t : Nat} (ht : t ≤ 1000) : reachV l (t : Int) = (mostS l.Speed l.Accel 0 t, 0) := by
  unfold reachV
  rw [if_pos hv, if_pos ⟨by omega, by omega⟩, Int.toNat_natCast]

section
variable {R : Type}
theorem far_l12 {N : Nat} (x y : Int) (l : api_Lift) (w : newellaw05_Way) (a : Arr Int) (hn : a.n ≤ 100000) (hb : ∀ i, i ≤ a.n → 0 ≤ sumA a.f i ∧ sumA a.f i ≤ (i : Int) * 100) (k0 : Int → Option R) : ∀ (r i n : Nat), i + r = a.n → r < n →
    newellaw05_LiftFar_l12 N n a x y (sumA a.f i) (i : Int) l w k0 = k0 (sumA a.f a.n) := by
  intro r
  induction r with
  | zero =>
    intro i n h1 h2
    obtain ⟨n, rfl⟩ : ∃ m, n = m + 1 := ⟨n - 1, by omega⟩
    unfold newellaw05_LiftFar_l12 newellaw05_LiftFar_b12
    have e1 : decide ((i : Int) < (a.n : Int)) = false := by simp; omega
    simp only [e1, cond_false]
    rw [show i = a.n by omega]
  | succ r ih =>
    intro i n h1 h2
    obtain ⟨n, rfl⟩ : ∃ m, n = m + 1 := ⟨n - 1, by omega⟩
    unfold newellaw05_LiftFar_l12 newellaw05_LiftFar_b12
    have e1 : decide ((i : Int) < (a.n : Int)) = true := by simp; omega
    have hs := hb (i + 1) (by omega)
    rw [sumA_succ] at hs
    simp only [e1, nat_nonneg, Bool.and_self, cond_true, Int.toNat_natCast, w64_succ (show i < 1000000000000 by omega)]
    rw [w64_eq (by omega) (by omega), ← sumA_succ]
    exact ih (i + 1) n (by omega) (by omega)
end

theorem way_pos {l : api_Lift} (hv : VL l) {a b : Int} (hp : floorsP l a b) (hab : a ≠ b) : 1 ≤ wayS l a b := by
  obtain ⟨⟨a1, a2⟩, b1, b2⟩ := hp
  unfold wayS
  rcases Int.lt_or_gt_of_ne hab with h | h
  · have := up_lt hv.up (b.toNat - a.toNat) a.toNat (by omega)
    rw [show a.toNat + (b.toNat - a.toNat) = b.toNat by omega] at this
    omega
  · have := up_lt hv.up (a.toNat - b.toNat) b.toNat (by omega)
    rw [show b.toNat + (a.toNat - b.toNat) = a.toNat by omega] at this
    omega

open Classical in
theorem liftFar_true (l : api_Lift) (w : newellaw05_Way) (o : Arr Int) (hl : l.wf) (hw : w.wf) (ho : o.n ≤ maxLen) (hoi : ∀ i, i < o.n → i64 (o.f i)) : ∃ N, newellaw05_LiftFar N l w o (fun q0 => okK (lget [.bool q0] 0, [])) = some () := by
  refine ⟨NN, ?_⟩
  have hNN : NN = 20000 := rfl
  rw [newellaw05_LiftFar_def]
  unfold newellaw05_LiftFar_m
  simp only [Far_eq, works_eq]
  cases decide ((l.Floors.n : Int) > 30)
  rotate_left
  · rfl
  by_cases hon : (o.n : Int) > 1000
  · simp only [hon, decide_true, cond_true, cond_false]; rfl
  simp only [hon, decide_false, cond_false, refCheck_eq (show 20 ≤ NN by decide)]
  by_cases hv : VL l
  rotate_left
  · rw [checkV_ne hv]; rfl
  have hS := hv.s2
  have ht : okK (lget [SV.bool true] 0, []) = some () := rfl
  have e00 : ((0 : Int) != 0) = false := rfl
  have e01 : ((0 : Int) == 0) = true := rfl
  simp only [checkV_pos hv, e00, cond_false, Floors_eq hv, Reach_eq (show 1001 ≤ NN by decide), IsTrip_eq hv.sa o (by omega) (show o.n + 1 < NN by omega), reachV_pos hv (show o.n ≤ 1000 by omega)]
  -- the last part
  have tail : (bif !decide (floorsP l w.From w.To) then okK (lget [SV.bool true] 0, [])
      else bif w.From == w.To then okK (lget [SV.bool true] 0, [])
      else lift_Trip NN l w.From w.To (fun r1181 r1182 r1183 =>
                 bif r1181 != (0 : Int) then
                  okK (lget [SV.bool false] 0, [])
                 else
                  bif (↑(Arr.n r1183) : Int) == (0 : Int) then
                   okK (lget [SV.bool false] 0, [])
                  else
                   bif decide ((0 : Int) ≤ w.From) && decide (w.From < (↑(Arr.n l.Floors) : Int)) then
                    bif decide ((0 : Int) ≤ w.To) && decide (w.To < (↑(Arr.n l.Floors) : Int)) then
                     bif decide ((0 : Int) ≤ w.To) && decide (w.To < (↑(Arr.n l.Floors) : Int)) then
                      bif decide ((0 : Int) ≤ w.From) && decide (w.From < (↑(Arr.n l.Floors) : Int)) then
                       bif (reachV l (r1183.n : Int)).2 == (0 : Int) then
                        bif (reachV l (w64 ((r1183.n : Int) - 1))).2 == (0 : Int) then
                         bif decide ((reachV l (r1183.n : Int)).1 ≥ if w64 (l.Floors.f w.To.toNat - l.Floors.f w.From.toNat) > w64 (l.Floors.f w.From.toNat - l.Floors.f w.To.toNat) then w64 (l.Floors.f w.To.toNat - l.Floors.f w.From.toNat) else w64 (l.Floors.f w.From.toNat - l.Floors.f w.To.toNat)) then
                          bif decide ((reachV l (w64 ((r1183.n : Int) - 1))).1 < if w64 (l.Floors.f w.To.toNat - l.Floors.f w.From.toNat) > w64 (l.Floors.f w.From.toNat - l.Floors.f w.To.toNat) then w64 (l.Floors.f w.To.toNat - l.Floors.f w.From.toNat) else w64 (l.Floors.f w.From.toNat - l.Floors.f w.To.toNat)) then
                           okK (lget [SV.bool true] 0, [])
                          else
                           okK (lget [SV.bool false] 0, [])
                         else
                          okK (lget [SV.bool false] 0, [])
                        else
                         okK (lget [SV.bool false] 0, [])
                       else
                        okK (lget [SV.bool false] 0, [])
                      else
                       Option.none
                     else
                      Option.none
                    else
                     Option.none
                   else
                    Option.none)) = some () := by
    by_cases hp : floorsP l w.From w.To
    rotate_left
    · simp only [hp, decide_false, Bool.not_false, cond_true, ht]
    by_cases hab : w.From = w.To
    · have : (w.From == w.To) = true := by simpa using hab
      simp only [hp, decide_true, Bool.not_true, cond_false, this, cond_true, ht]
    have hne : (w.From == w.To) = false := by simpa using hab
    obtain ⟨e1, n1, c1, n2, m1, m2⟩ := tripF_all hv hp
    obtain ⟨b1, t1, i1, q1⟩ := Trip_eq (show 1001 ≤ NN by decide) l w.From w.To
    have hle := tripN_le l w.From w.To
    have hl1 := i1.len
    have hpos := way_pos hv hp hab
    have hn1 : 1 ≤ tripN l w.From w.To := by
      rcases Nat.eq_zero_or_pos (tripN l w.From w.To) with h | h
      · rw [h] at m2
        have : mostS l.Speed l.Accel 0 0 = 0 := rfl
        omega
      · exact h
    have hf := floor_in hp
    have hz : ((tripN l w.From w.To : Int) == (0 : Int)) = false := by simp; omega
    have hw1 : w64 ((tripN l w.From w.To : Int) - 1) = ((tripN l w.From w.To - 1 : Nat) : Int) := by rw [w64_eq (by omega) (by omega)]; omega
    have g1 : decide (mostS l.Speed l.Accel 0 (tripN l w.From w.To) ≥ wayS l w.From w.To) = true := by simpa using m2
    have g2 : decide (mostS l.Speed l.Accel 0 (tripN l w.From w.To - 1) < wayS l w.From w.To) = true := by
      have := m1 (tripN l w.From w.To - 1) (by omega)
      simpa using this
    simp only [hp, decide_true, Bool.not_true, cond_false, hne, q1, e1, e00, hl1, hz, hf.1, hf.2, cond_true, hw1, reachV_pos hv hle, reachV_pos hv (show tripN l w.From w.To - 1 ≤ 1000 by omega), e01, way_w hv hp, g1, g2, ht]
  -- the trip that is given
  have mid : (bif decide (isTripP l.Speed l.Accel o) then
      newellaw05_LiftFar_l12 NN NN o (mostS l.Speed l.Accel 0 o.n) 0 (0 : Int) (0 : Int) l w (fun r1229 =>
        bif (0 : Int) != (0 : Int) then okK (lget [SV.bool false] 0, [])
        else bif decide (r1229 > mostS l.Speed l.Accel 0 o.n) then okK (lget [SV.bool false] 0, [])
        else some ())
      else some ()) = some () := by
    by_cases ht2 : isTripP l.Speed l.Accel o
    · simp only [ht2, decide_true, cond_true]
      have := far_l12 (R := Unit) (N := NN) (mostS l.Speed l.Accel 0 o.n) 0 l w o (by omega) (trip_sumB hS ht2) (fun r1229 =>
        bif (0 : Int) != (0 : Int) then okK (lget [SV.bool false] 0, [])
        else bif decide (r1229 > mostS l.Speed l.Accel 0 o.n) then okK (lget [SV.bool false] 0, [])
        else some ()) o.n 0 NN (by omega) (by omega)
      refine Eq.trans this ?_
      have h1 := trip_most ht2
      have h2 : decide (sumA o.f o.n > mostS l.Speed l.Accel 0 o.n) = false := by simp; omega
      simp only [e00, cond_false, h2]
    · simp only [ht2, decide_false, cond_false]
  simp only [tail]
  by_cases k1 : w.Ticks ≥ 0
  rotate_left
  · simp only [k1, decide_false, cond_false]; exact mid
  by_cases k2 : w.Ticks < 1000
  rotate_left
  · simp only [k1, k2, decide_true, cond_true, decide_false, cond_false]; exact mid
  have hr1 := reachV_pos hv (t := w.Ticks.toNat) (by omega)
  have hr2 := reachV_pos hv (t := w.Ticks.toNat + 1) (by omega)
  rw [show ((w.Ticks.toNat : Nat) : Int) = w.Ticks by omega] at hr1
  have hw1 : w64 (w.Ticks + 1) = ((w.Ticks.toNat + 1 : Nat) : Int) := by rw [w64_eq (by omega) (by omega)]; omega
  have s1 := hv.s1
  have a1 := hv.a1
  have y1 := most_mono1 (S := l.Speed) (A := l.Accel) (by omega) (by omega) w.Ticks.toNat
  have y2 := most_grow (S := l.Speed) (A := l.Accel) (by omega) (by omega) w.Ticks.toNat
  have y3 := sum_m hv.sa (Int.le_refl 0) (Nat.le_refl w.Ticks.toNat) (by omega)
  change 0 ≤ mostS l.Speed l.Accel 0 w.Ticks.toNat ∧ mostS l.Speed l.Accel 0 w.Ticks.toNat ≤ 100000 at y3
  have z1 : decide (mostS l.Speed l.Accel 0 (w.Ticks.toNat + 1) < mostS l.Speed l.Accel 0 w.Ticks.toNat) = false := by simp; omega
  have z2 : decide (mostS l.Speed l.Accel 0 (w.Ticks.toNat + 1) > w64 (mostS l.Speed l.Accel 0 w.Ticks.toNat + l.Speed)) = false := by rw [w64_eq (by omega) (by omega)]; simp; omega
  simp only [k1, k2, decide_true, cond_true, hr1, hw1, hr2, e00, cond_false, z1, z2]
  exact mid
end
end Go.Proofs.Ytceeaimmelaenaa
