import Derived.Test.YtckkodiefpdmhaaDoorR2
set_option maxRecDepth 100000
set_option maxHeartbeats 0
set_option linter.unusedVariables false
set_option linter.unusedSimpArgs false
namespace Go.Proofs.YtckkodiefpdmhaaDoor
open Go.Sx
noncomputable section
def newellaw09_ShaftTighter_m {R : Type} (N : Nat) (a1032 : api_Works) (a1033 : newellaw09_Tighter) (k : Bool → Option R) : Option R :=
  newellaw09_FarWorks N a1032 (fun r1034 =>
  bif r1034 then
   newellaw09_works N  (fun r1035 =>
   k r1035)
  else
   newelref09_CheckWorks N a1032 (fun r1036 =>
   bif r1036 != (0 : Int) then
    newellaw09_works N  (fun r1037 =>
    k r1037)
   else
    bif decide (newellaw09_Tighter.Never a1033 ≥ (1 : Int)) then
     bif decide (IntKind.wrap IntKind.u64 (api_Works.Machines a1032) < (0 : Int)) then
      Option.none
     else
      bif decide (newellaw09_Tighter.Never a1033 ≤ w64 (w64 ((1 : Int) * (2 : Int) ^ min (Int.toNat (IntKind.wrap IntKind.u64 (api_Works.Machines a1032))) (IntKind.bits IntKind.i64)) - (1 : Int))) then
       bif decide ((↑(Arr.n (api_Works.Never a1032)) : Int) < (20 : Int)) then
        bif room ((0 : Nat) + Arr.n (api_Works.Never a1032)) then
         bif room ((0 : Nat) + Arr.n (api_Works.Never a1032) + (1 : Nat)) then
          bif decide (newellaw09_Tighter.Crews a1033 ≥ (1 : Int)) then
           bif decide (newellaw09_Tighter.Crews a1033 ≤ api_Works.Crews a1032) then
            bif decide (newellaw09_Tighter.Until a1033 ≥ (1 : Int)) then
             bif decide (newellaw09_Tighter.Until a1033 ≤ api_Works.Until a1032) then
              shaft_Plan N a1032 (fun r1038 r1039 r1040 r1041 =>
              shaft_Plan N (api_Works.mk (api_Works.Machines a1032) (api_Works.Jobs a1032) (lst intC ((0 : Nat) + Arr.n (api_Works.Never a1032) + (1 : Nat)) (catC ((0 : Nat) + Arr.n (api_Works.Never a1032)) (catC (0 : Nat) (litC [SV.int IntKind.i64 (0 : Int)] []) (Cod.cell intC (Arr.f (api_Works.Never a1032)))) (litC [SV.int IntKind.i64 (0 : Int)] [[SV.int IntKind.i64 (newellaw09_Tighter.Never a1033)]]))) (newellaw09_Tighter.Crews a1033) (newellaw09_Tighter.Until a1033)) (fun r1042 r1043 r1044 r1045 =>
              bif r1039 == (2 : Int) then
               newellaw09_works N  (fun r1046 =>
               k r1046)
              else
               bif r1043 == (2 : Int) then
                newellaw09_works N  (fun r1047 =>
                k r1047)
               else
                bif r1043 == (3 : Int) then
                 newellaw09_works N  (fun r1048 =>
                 k r1048)
                else
                 bif r1043 == (0 : Int) then
                  bif r1039 == (0 : Int) then
                   bif decide (r1042 ≥ r1038) then
                    newellaw09_works N  (fun r1049 =>
                    k r1049)
                   else
                    k false
                  else
                   k false
                 else
                  k false))
             else
              shaft_Plan N a1032 (fun r1050 r1051 r1052 r1053 =>
              shaft_Plan N (api_Works.mk (api_Works.Machines a1032) (api_Works.Jobs a1032) (lst intC ((0 : Nat) + Arr.n (api_Works.Never a1032) + (1 : Nat)) (catC ((0 : Nat) + Arr.n (api_Works.Never a1032)) (catC (0 : Nat) (litC [SV.int IntKind.i64 (0 : Int)] []) (Cod.cell intC (Arr.f (api_Works.Never a1032)))) (litC [SV.int IntKind.i64 (0 : Int)] [[SV.int IntKind.i64 (newellaw09_Tighter.Never a1033)]]))) (newellaw09_Tighter.Crews a1033) (api_Works.Until a1032)) (fun r1054 r1055 r1056 r1057 =>
              bif r1051 == (2 : Int) then
               newellaw09_works N  (fun r1058 =>
               k r1058)
              else
               bif r1055 == (2 : Int) then
                newellaw09_works N  (fun r1059 =>
                k r1059)
               else
                bif r1055 == (3 : Int) then
                 newellaw09_works N  (fun r1060 =>
                 k r1060)
                else
                 bif r1055 == (0 : Int) then
                  bif r1051 == (0 : Int) then
                   bif decide (r1054 ≥ r1050) then
                    newellaw09_works N  (fun r1061 =>
                    k r1061)
                   else
                    k false
                  else
                   k false
                 else
                  k false))
            else
             shaft_Plan N a1032 (fun r1062 r1063 r1064 r1065 =>
             shaft_Plan N (api_Works.mk (api_Works.Machines a1032) (api_Works.Jobs a1032) (lst intC ((0 : Nat) + Arr.n (api_Works.Never a1032) + (1 : Nat)) (catC ((0 : Nat) + Arr.n (api_Works.Never a1032)) (catC (0 : Nat) (litC [SV.int IntKind.i64 (0 : Int)] []) (Cod.cell intC (Arr.f (api_Works.Never a1032)))) (litC [SV.int IntKind.i64 (0 : Int)] [[SV.int IntKind.i64 (newellaw09_Tighter.Never a1033)]]))) (newellaw09_Tighter.Crews a1033) (api_Works.Until a1032)) (fun r1066 r1067 r1068 r1069 =>
             bif r1063 == (2 : Int) then
              newellaw09_works N  (fun r1070 =>
              k r1070)
             else
              bif r1067 == (2 : Int) then
               newellaw09_works N  (fun r1071 =>
               k r1071)
              else
               bif r1067 == (3 : Int) then
                newellaw09_works N  (fun r1072 =>
                k r1072)
               else
                bif r1067 == (0 : Int) then
                 bif r1063 == (0 : Int) then
                  bif decide (r1066 ≥ r1062) then
                   newellaw09_works N  (fun r1073 =>
                   k r1073)
                  else
                   k false
                 else
                  k false
                else
                 k false))
           else
            bif decide (newellaw09_Tighter.Until a1033 ≥ (1 : Int)) then
             bif decide (newellaw09_Tighter.Until a1033 ≤ api_Works.Until a1032) then
              shaft_Plan N a1032 (fun r1074 r1075 r1076 r1077 =>
              shaft_Plan N (api_Works.mk (api_Works.Machines a1032) (api_Works.Jobs a1032) (lst intC ((0 : Nat) + Arr.n (api_Works.Never a1032) + (1 : Nat)) (catC ((0 : Nat) + Arr.n (api_Works.Never a1032)) (catC (0 : Nat) (litC [SV.int IntKind.i64 (0 : Int)] []) (Cod.cell intC (Arr.f (api_Works.Never a1032)))) (litC [SV.int IntKind.i64 (0 : Int)] [[SV.int IntKind.i64 (newellaw09_Tighter.Never a1033)]]))) (api_Works.Crews a1032) (newellaw09_Tighter.Until a1033)) (fun r1078 r1079 r1080 r1081 =>
              bif r1075 == (2 : Int) then
               newellaw09_works N  (fun r1082 =>
               k r1082)
              else
               bif r1079 == (2 : Int) then
                newellaw09_works N  (fun r1083 =>
                k r1083)
               else
                bif r1079 == (3 : Int) then
                 newellaw09_works N  (fun r1084 =>
                 k r1084)
                else
                 bif r1079 == (0 : Int) then
                  bif r1075 == (0 : Int) then
                   bif decide (r1078 ≥ r1074) then
                    newellaw09_works N  (fun r1085 =>
                    k r1085)
                   else
                    k false
                  else
                   k false
                 else
                  k false))
             else
              shaft_Plan N a1032 (fun r1086 r1087 r1088 r1089 =>
              shaft_Plan N (api_Works.mk (api_Works.Machines a1032) (api_Works.Jobs a1032) (lst intC ((0 : Nat) + Arr.n (api_Works.Never a1032) + (1 : Nat)) (catC ((0 : Nat) + Arr.n (api_Works.Never a1032)) (catC (0 : Nat) (litC [SV.int IntKind.i64 (0 : Int)] []) (Cod.cell intC (Arr.f (api_Works.Never a1032)))) (litC [SV.int IntKind.i64 (0 : Int)] [[SV.int IntKind.i64 (newellaw09_Tighter.Never a1033)]]))) (api_Works.Crews a1032) (api_Works.Until a1032)) (fun r1090 r1091 r1092 r1093 =>
              bif r1087 == (2 : Int) then
               newellaw09_works N  (fun r1094 =>
               k r1094)
              else
               bif r1091 == (2 : Int) then
                newellaw09_works N  (fun r1095 =>
                k r1095)
               else
                bif r1091 == (3 : Int) then
                 newellaw09_works N  (fun r1096 =>
                 k r1096)
                else
                 bif r1091 == (0 : Int) then
                  bif r1087 == (0 : Int) then
                   bif decide (r1090 ≥ r1086) then
                    newellaw09_works N  (fun r1097 =>
                    k r1097)
                   else
                    k false
                  else
                   k false
                 else
                  k false))
            else
             shaft_Plan N a1032 (fun r1098 r1099 r1100 r1101 =>
             shaft_Plan N (api_Works.mk (api_Works.Machines a1032) (api_Works.Jobs a1032) (lst intC ((0 : Nat) + Arr.n (api_Works.Never a1032) + (1 : Nat)) (catC ((0 : Nat) + Arr.n (api_Works.Never a1032)) (catC (0 : Nat) (litC [SV.int IntKind.i64 (0 : Int)] []) (Cod.cell intC (Arr.f (api_Works.Never a1032)))) (litC [SV.int IntKind.i64 (0 : Int)] [[SV.int IntKind.i64 (newellaw09_Tighter.Never a1033)]]))) (api_Works.Crews a1032) (api_Works.Until a1032)) (fun r1102 r1103 r1104 r1105 =>
             bif r1099 == (2 : Int) then
              newellaw09_works N  (fun r1106 =>
              k r1106)
             else
              bif r1103 == (2 : Int) then
               newellaw09_works N  (fun r1107 =>
               k r1107)
              else
               bif r1103 == (3 : Int) then
                newellaw09_works N  (fun r1108 =>
                k r1108)
               else
                bif r1103 == (0 : Int) then
                 bif r1099 == (0 : Int) then
                  bif decide (r1102 ≥ r1098) then
                   newellaw09_works N  (fun r1109 =>
                   k r1109)
                  else
                   k false
                 else
                  k false
                else
                 k false))
          else
           bif decide (newellaw09_Tighter.Until a1033 ≥ (1 : Int)) then
            bif decide (newellaw09_Tighter.Until a1033 ≤ api_Works.Until a1032) then
             shaft_Plan N a1032 (fun r1110 r1111 r1112 r1113 =>
             shaft_Plan N (api_Works.mk (api_Works.Machines a1032) (api_Works.Jobs a1032) (lst intC ((0 : Nat) + Arr.n (api_Works.Never a1032) + (1 : Nat)) (catC ((0 : Nat) + Arr.n (api_Works.Never a1032)) (catC (0 : Nat) (litC [SV.int IntKind.i64 (0 : Int)] []) (Cod.cell intC (Arr.f (api_Works.Never a1032)))) (litC [SV.int IntKind.i64 (0 : Int)] [[SV.int IntKind.i64 (newellaw09_Tighter.Never a1033)]]))) (api_Works.Crews a1032) (newellaw09_Tighter.Until a1033)) (fun r1114 r1115 r1116 r1117 =>
             bif r1111 == (2 : Int) then
              newellaw09_works N  (fun r1118 =>
              k r1118)
             else
              bif r1115 == (2 : Int) then
               newellaw09_works N  (fun r1119 =>
               k r1119)
              else
               bif r1115 == (3 : Int) then
                newellaw09_works N  (fun r1120 =>
                k r1120)
               else
                bif r1115 == (0 : Int) then
                 bif r1111 == (0 : Int) then
                  bif decide (r1114 ≥ r1110) then
                   newellaw09_works N  (fun r1121 =>
                   k r1121)
                  else
                   k false
                 else
                  k false
                else
                 k false))
            else
             shaft_Plan N a1032 (fun r1122 r1123 r1124 r1125 =>
             shaft_Plan N (api_Works.mk (api_Works.Machines a1032) (api_Works.Jobs a1032) (lst intC ((0 : Nat) + Arr.n (api_Works.Never a1032) + (1 : Nat)) (catC ((0 : Nat) + Arr.n (api_Works.Never a1032)) (catC (0 : Nat) (litC [SV.int IntKind.i64 (0 : Int)] []) (Cod.cell intC (Arr.f (api_Works.Never a1032)))) (litC [SV.int IntKind.i64 (0 : Int)] [[SV.int IntKind.i64 (newellaw09_Tighter.Never a1033)]]))) (api_Works.Crews a1032) (api_Works.Until a1032)) (fun r1126 r1127 r1128 r1129 =>
             bif r1123 == (2 : Int) then
              newellaw09_works N  (fun r1130 =>
              k r1130)
             else
              bif r1127 == (2 : Int) then
               newellaw09_works N  (fun r1131 =>
               k r1131)
              else
               bif r1127 == (3 : Int) then
                newellaw09_works N  (fun r1132 =>
                k r1132)
               else
                bif r1127 == (0 : Int) then
                 bif r1123 == (0 : Int) then
                  bif decide (r1126 ≥ r1122) then
                   newellaw09_works N  (fun r1133 =>
                   k r1133)
                  else
                   k false
                 else
                  k false
                else
                 k false))
           else
            shaft_Plan N a1032 (fun r1134 r1135 r1136 r1137 =>
            shaft_Plan N (api_Works.mk (api_Works.Machines a1032) (api_Works.Jobs a1032) (lst intC ((0 : Nat) + Arr.n (api_Works.Never a1032) + (1 : Nat)) (catC ((0 : Nat) + Arr.n (api_Works.Never a1032)) (catC (0 : Nat) (litC [SV.int IntKind.i64 (0 : Int)] []) (Cod.cell intC (Arr.f (api_Works.Never a1032)))) (litC [SV.int IntKind.i64 (0 : Int)] [[SV.int IntKind.i64 (newellaw09_Tighter.Never a1033)]]))) (api_Works.Crews a1032) (api_Works.Until a1032)) (fun r1138 r1139 r1140 r1141 =>
            bif r1135 == (2 : Int) then
             newellaw09_works N  (fun r1142 =>
             k r1142)
            else
             bif r1139 == (2 : Int) then
              newellaw09_works N  (fun r1143 =>
              k r1143)
             else
              bif r1139 == (3 : Int) then
               newellaw09_works N  (fun r1144 =>
               k r1144)
              else
               bif r1139 == (0 : Int) then
                bif r1135 == (0 : Int) then
                 bif decide (r1138 ≥ r1134) then
                  newellaw09_works N  (fun r1145 =>
                  k r1145)
                 else
                  k false
                else
                 k false
               else
                k false))
         else
          Option.none
        else
         Option.none
       else
        bif decide (newellaw09_Tighter.Crews a1033 ≥ (1 : Int)) then
         bif decide (newellaw09_Tighter.Crews a1033 ≤ api_Works.Crews a1032) then
          bif decide (newellaw09_Tighter.Until a1033 ≥ (1 : Int)) then
           bif decide (newellaw09_Tighter.Until a1033 ≤ api_Works.Until a1032) then
            shaft_Plan N a1032 (fun r1146 r1147 r1148 r1149 =>
            shaft_Plan N (api_Works.mk (api_Works.Machines a1032) (api_Works.Jobs a1032) (api_Works.Never a1032) (newellaw09_Tighter.Crews a1033) (newellaw09_Tighter.Until a1033)) (fun r1150 r1151 r1152 r1153 =>
            bif r1147 == (2 : Int) then
             newellaw09_works N  (fun r1154 =>
             k r1154)
            else
             bif r1151 == (2 : Int) then
              newellaw09_works N  (fun r1155 =>
              k r1155)
             else
              bif r1151 == (3 : Int) then
               newellaw09_works N  (fun r1156 =>
               k r1156)
              else
               bif r1151 == (0 : Int) then
                bif r1147 == (0 : Int) then
                 bif decide (r1150 ≥ r1146) then
                  newellaw09_works N  (fun r1157 =>
                  k r1157)
                 else
                  k false
                else
                 k false
               else
                k false))
           else
            shaft_Plan N a1032 (fun r1158 r1159 r1160 r1161 =>
            shaft_Plan N (api_Works.mk (api_Works.Machines a1032) (api_Works.Jobs a1032) (api_Works.Never a1032) (newellaw09_Tighter.Crews a1033) (api_Works.Until a1032)) (fun r1162 r1163 r1164 r1165 =>
            bif r1159 == (2 : Int) then
             newellaw09_works N  (fun r1166 =>
             k r1166)
            else
             bif r1163 == (2 : Int) then
              newellaw09_works N  (fun r1167 =>
              k r1167)
             else
              bif r1163 == (3 : Int) then
               newellaw09_works N  (fun r1168 =>
               k r1168)
              else
               bif r1163 == (0 : Int) then
                bif r1159 == (0 : Int) then
                 bif decide (r1162 ≥ r1158) then
                  newellaw09_works N  (fun r1169 =>
                  k r1169)
                 else
                  k false
                else
                 k false
               else
                k false))
          else
           shaft_Plan N a1032 (fun r1170 r1171 r1172 r1173 =>
           shaft_Plan N (api_Works.mk (api_Works.Machines a1032) (api_Works.Jobs a1032) (api_Works.Never a1032) (newellaw09_Tighter.Crews a1033) (api_Works.Until a1032)) (fun r1174 r1175 r1176 r1177 =>
           bif r1171 == (2 : Int) then
            newellaw09_works N  (fun r1178 =>
            k r1178)
           else
            bif r1175 == (2 : Int) then
             newellaw09_works N  (fun r1179 =>
             k r1179)
            else
             bif r1175 == (3 : Int) then
              newellaw09_works N  (fun r1180 =>
              k r1180)
             else
              bif r1175 == (0 : Int) then
               bif r1171 == (0 : Int) then
                bif decide (r1174 ≥ r1170) then
                 newellaw09_works N  (fun r1181 =>
                 k r1181)
                else
                 k false
               else
                k false
              else
               k false))
         else
          bif decide (newellaw09_Tighter.Until a1033 ≥ (1 : Int)) then
           bif decide (newellaw09_Tighter.Until a1033 ≤ api_Works.Until a1032) then
            shaft_Plan N a1032 (fun r1182 r1183 r1184 r1185 =>
            shaft_Plan N (api_Works.mk (api_Works.Machines a1032) (api_Works.Jobs a1032) (api_Works.Never a1032) (api_Works.Crews a1032) (newellaw09_Tighter.Until a1033)) (fun r1186 r1187 r1188 r1189 =>
            bif r1183 == (2 : Int) then
             newellaw09_works N  (fun r1190 =>
             k r1190)
            else
             bif r1187 == (2 : Int) then
              newellaw09_works N  (fun r1191 =>
              k r1191)
             else
              bif r1187 == (3 : Int) then
               newellaw09_works N  (fun r1192 =>
               k r1192)
              else
               bif r1187 == (0 : Int) then
                bif r1183 == (0 : Int) then
                 bif decide (r1186 ≥ r1182) then
                  newellaw09_works N  (fun r1193 =>
                  k r1193)
                 else
                  k false
                else
                 k false
               else
                k false))
           else
            shaft_Plan N a1032 (fun r1194 r1195 r1196 r1197 =>
            shaft_Plan N a1032 (fun r1198 r1199 r1200 r1201 =>
            bif r1195 == (2 : Int) then
             newellaw09_works N  (fun r1202 =>
             k r1202)
            else
             bif r1199 == (2 : Int) then
              newellaw09_works N  (fun r1203 =>
              k r1203)
             else
              bif r1199 == (3 : Int) then
               newellaw09_works N  (fun r1204 =>
               k r1204)
              else
               bif r1199 == (0 : Int) then
                bif r1195 == (0 : Int) then
                 bif decide (r1198 ≥ r1194) then
                  newellaw09_works N  (fun r1205 =>
                  k r1205)
                 else
                  k false
                else
                 k false
               else
                k false))
          else
           shaft_Plan N a1032 (fun r1206 r1207 r1208 r1209 =>
           shaft_Plan N a1032 (fun r1210 r1211 r1212 r1213 =>
           bif r1207 == (2 : Int) then
            newellaw09_works N  (fun r1214 =>
            k r1214)
           else
            bif r1211 == (2 : Int) then
             newellaw09_works N  (fun r1215 =>
             k r1215)
            else
             bif r1211 == (3 : Int) then
              newellaw09_works N  (fun r1216 =>
              k r1216)
             else
              bif r1211 == (0 : Int) then
               bif r1207 == (0 : Int) then
                bif decide (r1210 ≥ r1206) then
                 newellaw09_works N  (fun r1217 =>
                 k r1217)
                else
                 k false
               else
                k false
              else
               k false))
        else
         bif decide (newellaw09_Tighter.Until a1033 ≥ (1 : Int)) then
          bif decide (newellaw09_Tighter.Until a1033 ≤ api_Works.Until a1032) then
           shaft_Plan N a1032 (fun r1218 r1219 r1220 r1221 =>
           shaft_Plan N (api_Works.mk (api_Works.Machines a1032) (api_Works.Jobs a1032) (api_Works.Never a1032) (api_Works.Crews a1032) (newellaw09_Tighter.Until a1033)) (fun r1222 r1223 r1224 r1225 =>
           bif r1219 == (2 : Int) then
            newellaw09_works N  (fun r1226 =>
            k r1226)
           else
            bif r1223 == (2 : Int) then
             newellaw09_works N  (fun r1227 =>
             k r1227)
            else
             bif r1223 == (3 : Int) then
              newellaw09_works N  (fun r1228 =>
              k r1228)
             else
              bif r1223 == (0 : Int) then
               bif r1219 == (0 : Int) then
                bif decide (r1222 ≥ r1218) then
                 newellaw09_works N  (fun r1229 =>
                 k r1229)
                else
                 k false
               else
                k false
              else
               k false))
          else
           shaft_Plan N a1032 (fun r1230 r1231 r1232 r1233 =>
           shaft_Plan N a1032 (fun r1234 r1235 r1236 r1237 =>
           bif r1231 == (2 : Int) then
            newellaw09_works N  (fun r1238 =>
            k r1238)
           else
            bif r1235 == (2 : Int) then
             newellaw09_works N  (fun r1239 =>
             k r1239)
            else
             bif r1235 == (3 : Int) then
              newellaw09_works N  (fun r1240 =>
              k r1240)
             else
              bif r1235 == (0 : Int) then
               bif r1231 == (0 : Int) then
                bif decide (r1234 ≥ r1230) then
                 newellaw09_works N  (fun r1241 =>
                 k r1241)
                else
                 k false
               else
                k false
              else
               k false))
         else
          shaft_Plan N a1032 (fun r1242 r1243 r1244 r1245 =>
          shaft_Plan N a1032 (fun r1246 r1247 r1248 r1249 =>
          bif r1243 == (2 : Int) then
           newellaw09_works N  (fun r1250 =>
           k r1250)
          else
           bif r1247 == (2 : Int) then
            newellaw09_works N  (fun r1251 =>
            k r1251)
           else
            bif r1247 == (3 : Int) then
             newellaw09_works N  (fun r1252 =>
             k r1252)
            else
             bif r1247 == (0 : Int) then
              bif r1243 == (0 : Int) then
               bif decide (r1246 ≥ r1242) then
                newellaw09_works N  (fun r1253 =>
                k r1253)
               else
                k false
              else
               k false
             else
              k false))
      else
       bif decide (newellaw09_Tighter.Crews a1033 ≥ (1 : Int)) then
        bif decide (newellaw09_Tighter.Crews a1033 ≤ api_Works.Crews a1032) then
         bif decide (newellaw09_Tighter.Until a1033 ≥ (1 : Int)) then
          bif decide (newellaw09_Tighter.Until a1033 ≤ api_Works.Until a1032) then
           shaft_Plan N a1032 (fun r1254 r1255 r1256 r1257 =>
           shaft_Plan N (api_Works.mk (api_Works.Machines a1032) (api_Works.Jobs a1032) (api_Works.Never a1032) (newellaw09_Tighter.Crews a1033) (newellaw09_Tighter.Until a1033)) (fun r1258 r1259 r1260 r1261 =>
           bif r1255 == (2 : Int) then
            newellaw09_works N  (fun r1262 =>
            k r1262)
           else
            bif r1259 == (2 : Int) then
             newellaw09_works N  (fun r1263 =>
             k r1263)
            else
             bif r1259 == (3 : Int) then
              newellaw09_works N  (fun r1264 =>
              k r1264)
             else
              bif r1259 == (0 : Int) then
               bif r1255 == (0 : Int) then
                bif decide (r1258 ≥ r1254) then
                 newellaw09_works N  (fun r1265 =>
                 k r1265)
                else
                 k false
               else
                k false
              else
               k false))
          else
           shaft_Plan N a1032 (fun r1266 r1267 r1268 r1269 =>
           shaft_Plan N (api_Works.mk (api_Works.Machines a1032) (api_Works.Jobs a1032) (api_Works.Never a1032) (newellaw09_Tighter.Crews a1033) (api_Works.Until a1032)) (fun r1270 r1271 r1272 r1273 =>
           bif r1267 == (2 : Int) then
            newellaw09_works N  (fun r1274 =>
            k r1274)
           else
            bif r1271 == (2 : Int) then
             newellaw09_works N  (fun r1275 =>
             k r1275)
            else
             bif r1271 == (3 : Int) then
              newellaw09_works N  (fun r1276 =>
              k r1276)
             else
              bif r1271 == (0 : Int) then
               bif r1267 == (0 : Int) then
                bif decide (r1270 ≥ r1266) then
                 newellaw09_works N  (fun r1277 =>
                 k r1277)
                else
                 k false
               else
                k false
              else
               k false))
         else
          shaft_Plan N a1032 (fun r1278 r1279 r1280 r1281 =>
          shaft_Plan N (api_Works.mk (api_Works.Machines a1032) (api_Works.Jobs a1032) (api_Works.Never a1032) (newellaw09_Tighter.Crews a1033) (api_Works.Until a1032)) (fun r1282 r1283 r1284 r1285 =>
          bif r1279 == (2 : Int) then
           newellaw09_works N  (fun r1286 =>
           k r1286)
          else
           bif r1283 == (2 : Int) then
            newellaw09_works N  (fun r1287 =>
            k r1287)
           else
            bif r1283 == (3 : Int) then
             newellaw09_works N  (fun r1288 =>
             k r1288)
            else
             bif r1283 == (0 : Int) then
              bif r1279 == (0 : Int) then
               bif decide (r1282 ≥ r1278) then
                newellaw09_works N  (fun r1289 =>
                k r1289)
               else
                k false
              else
               k false
             else
              k false))
        else
         bif decide (newellaw09_Tighter.Until a1033 ≥ (1 : Int)) then
          bif decide (newellaw09_Tighter.Until a1033 ≤ api_Works.Until a1032) then
           shaft_Plan N a1032 (fun r1290 r1291 r1292 r1293 =>
           shaft_Plan N (api_Works.mk (api_Works.Machines a1032) (api_Works.Jobs a1032) (api_Works.Never a1032) (api_Works.Crews a1032) (newellaw09_Tighter.Until a1033)) (fun r1294 r1295 r1296 r1297 =>
           bif r1291 == (2 : Int) then
            newellaw09_works N  (fun r1298 =>
            k r1298)
           else
            bif r1295 == (2 : Int) then
             newellaw09_works N  (fun r1299 =>
             k r1299)
            else
             bif r1295 == (3 : Int) then
              newellaw09_works N  (fun r1300 =>
              k r1300)
             else
              bif r1295 == (0 : Int) then
               bif r1291 == (0 : Int) then
                bif decide (r1294 ≥ r1290) then
                 newellaw09_works N  (fun r1301 =>
                 k r1301)
                else
                 k false
               else
                k false
              else
               k false))
          else
           shaft_Plan N a1032 (fun r1302 r1303 r1304 r1305 =>
           shaft_Plan N a1032 (fun r1306 r1307 r1308 r1309 =>
           bif r1303 == (2 : Int) then
            newellaw09_works N  (fun r1310 =>
            k r1310)
           else
            bif r1307 == (2 : Int) then
             newellaw09_works N  (fun r1311 =>
             k r1311)
            else
             bif r1307 == (3 : Int) then
              newellaw09_works N  (fun r1312 =>
              k r1312)
             else
              bif r1307 == (0 : Int) then
               bif r1303 == (0 : Int) then
                bif decide (r1306 ≥ r1302) then
                 newellaw09_works N  (fun r1313 =>
                 k r1313)
                else
                 k false
               else
                k false
              else
               k false))
         else
          shaft_Plan N a1032 (fun r1314 r1315 r1316 r1317 =>
          shaft_Plan N a1032 (fun r1318 r1319 r1320 r1321 =>
          bif r1315 == (2 : Int) then
           newellaw09_works N  (fun r1322 =>
           k r1322)
          else
           bif r1319 == (2 : Int) then
            newellaw09_works N  (fun r1323 =>
            k r1323)
           else
            bif r1319 == (3 : Int) then
             newellaw09_works N  (fun r1324 =>
             k r1324)
            else
             bif r1319 == (0 : Int) then
              bif r1315 == (0 : Int) then
               bif decide (r1318 ≥ r1314) then
                newellaw09_works N  (fun r1325 =>
                k r1325)
               else
                k false
              else
               k false
             else
              k false))
       else
        bif decide (newellaw09_Tighter.Until a1033 ≥ (1 : Int)) then
         bif decide (newellaw09_Tighter.Until a1033 ≤ api_Works.Until a1032) then
          shaft_Plan N a1032 (fun r1326 r1327 r1328 r1329 =>
          shaft_Plan N (api_Works.mk (api_Works.Machines a1032) (api_Works.Jobs a1032) (api_Works.Never a1032) (api_Works.Crews a1032) (newellaw09_Tighter.Until a1033)) (fun r1330 r1331 r1332 r1333 =>
          bif r1327 == (2 : Int) then
           newellaw09_works N  (fun r1334 =>
           k r1334)
          else
           bif r1331 == (2 : Int) then
            newellaw09_works N  (fun r1335 =>
            k r1335)
           else
            bif r1331 == (3 : Int) then
             newellaw09_works N  (fun r1336 =>
             k r1336)
            else
             bif r1331 == (0 : Int) then
              bif r1327 == (0 : Int) then
               bif decide (r1330 ≥ r1326) then
                newellaw09_works N  (fun r1337 =>
                k r1337)
               else
                k false
              else
               k false
             else
              k false))
         else
          shaft_Plan N a1032 (fun r1338 r1339 r1340 r1341 =>
          shaft_Plan N a1032 (fun r1342 r1343 r1344 r1345 =>
          bif r1339 == (2 : Int) then
           newellaw09_works N  (fun r1346 =>
           k r1346)
          else
           bif r1343 == (2 : Int) then
            newellaw09_works N  (fun r1347 =>
            k r1347)
           else
            bif r1343 == (3 : Int) then
             newellaw09_works N  (fun r1348 =>
             k r1348)
            else
             bif r1343 == (0 : Int) then
              bif r1339 == (0 : Int) then
               bif decide (r1342 ≥ r1338) then
                newellaw09_works N  (fun r1349 =>
                k r1349)
               else
                k false
              else
               k false
             else
              k false))
        else
         shaft_Plan N a1032 (fun r1350 r1351 r1352 r1353 =>
         shaft_Plan N a1032 (fun r1354 r1355 r1356 r1357 =>
         bif r1351 == (2 : Int) then
          newellaw09_works N  (fun r1358 =>
          k r1358)
         else
          bif r1355 == (2 : Int) then
           newellaw09_works N  (fun r1359 =>
           k r1359)
          else
           bif r1355 == (3 : Int) then
            newellaw09_works N  (fun r1360 =>
            k r1360)
           else
            bif r1355 == (0 : Int) then
             bif r1351 == (0 : Int) then
              bif decide (r1354 ≥ r1350) then
               newellaw09_works N  (fun r1361 =>
               k r1361)
              else
               k false
             else
              k false
            else
             k false))
    else
     bif decide (newellaw09_Tighter.Crews a1033 ≥ (1 : Int)) then
      bif decide (newellaw09_Tighter.Crews a1033 ≤ api_Works.Crews a1032) then
       bif decide (newellaw09_Tighter.Until a1033 ≥ (1 : Int)) then
        bif decide (newellaw09_Tighter.Until a1033 ≤ api_Works.Until a1032) then
         shaft_Plan N a1032 (fun r1362 r1363 r1364 r1365 =>
         shaft_Plan N (api_Works.mk (api_Works.Machines a1032) (api_Works.Jobs a1032) (api_Works.Never a1032) (newellaw09_Tighter.Crews a1033) (newellaw09_Tighter.Until a1033)) (fun r1366 r1367 r1368 r1369 =>
         bif r1363 == (2 : Int) then
          newellaw09_works N  (fun r1370 =>
          k r1370)
         else
          bif r1367 == (2 : Int) then
           newellaw09_works N  (fun r1371 =>
           k r1371)
          else
           bif r1367 == (3 : Int) then
            newellaw09_works N  (fun r1372 =>
            k r1372)
           else
            bif r1367 == (0 : Int) then
             bif r1363 == (0 : Int) then
              bif decide (r1366 ≥ r1362) then
               newellaw09_works N  (fun r1373 =>
               k r1373)
              else
               k false
             else
              k false
            else
             k false))
        else
         shaft_Plan N a1032 (fun r1374 r1375 r1376 r1377 =>
         shaft_Plan N (api_Works.mk (api_Works.Machines a1032) (api_Works.Jobs a1032) (api_Works.Never a1032) (newellaw09_Tighter.Crews a1033) (api_Works.Until a1032)) (fun r1378 r1379 r1380 r1381 =>
         bif r1375 == (2 : Int) then
          newellaw09_works N  (fun r1382 =>
          k r1382)
         else
          bif r1379 == (2 : Int) then
           newellaw09_works N  (fun r1383 =>
           k r1383)
          else
           bif r1379 == (3 : Int) then
            newellaw09_works N  (fun r1384 =>
            k r1384)
           else
            bif r1379 == (0 : Int) then
             bif r1375 == (0 : Int) then
              bif decide (r1378 ≥ r1374) then
               newellaw09_works N  (fun r1385 =>
               k r1385)
              else
               k false
             else
              k false
            else
             k false))
       else
        shaft_Plan N a1032 (fun r1386 r1387 r1388 r1389 =>
        shaft_Plan N (api_Works.mk (api_Works.Machines a1032) (api_Works.Jobs a1032) (api_Works.Never a1032) (newellaw09_Tighter.Crews a1033) (api_Works.Until a1032)) (fun r1390 r1391 r1392 r1393 =>
        bif r1387 == (2 : Int) then
         newellaw09_works N  (fun r1394 =>
         k r1394)
        else
         bif r1391 == (2 : Int) then
          newellaw09_works N  (fun r1395 =>
          k r1395)
         else
          bif r1391 == (3 : Int) then
           newellaw09_works N  (fun r1396 =>
           k r1396)
          else
           bif r1391 == (0 : Int) then
            bif r1387 == (0 : Int) then
             bif decide (r1390 ≥ r1386) then
              newellaw09_works N  (fun r1397 =>
              k r1397)
             else
              k false
            else
             k false
           else
            k false))
      else
       bif decide (newellaw09_Tighter.Until a1033 ≥ (1 : Int)) then
        bif decide (newellaw09_Tighter.Until a1033 ≤ api_Works.Until a1032) then
         shaft_Plan N a1032 (fun r1398 r1399 r1400 r1401 =>
         shaft_Plan N (api_Works.mk (api_Works.Machines a1032) (api_Works.Jobs a1032) (api_Works.Never a1032) (api_Works.Crews a1032) (newellaw09_Tighter.Until a1033)) (fun r1402 r1403 r1404 r1405 =>
         bif r1399 == (2 : Int) then
          newellaw09_works N  (fun r1406 =>
          k r1406)
         else
          bif r1403 == (2 : Int) then
           newellaw09_works N  (fun r1407 =>
           k r1407)
          else
           bif r1403 == (3 : Int) then
            newellaw09_works N  (fun r1408 =>
            k r1408)
           else
            bif r1403 == (0 : Int) then
             bif r1399 == (0 : Int) then
              bif decide (r1402 ≥ r1398) then
               newellaw09_works N  (fun r1409 =>
               k r1409)
              else
               k false
             else
              k false
            else
             k false))
        else
         shaft_Plan N a1032 (fun r1410 r1411 r1412 r1413 =>
         shaft_Plan N a1032 (fun r1414 r1415 r1416 r1417 =>
         bif r1411 == (2 : Int) then
          newellaw09_works N  (fun r1418 =>
          k r1418)
         else
          bif r1415 == (2 : Int) then
           newellaw09_works N  (fun r1419 =>
           k r1419)
          else
           bif r1415 == (3 : Int) then
            newellaw09_works N  (fun r1420 =>
            k r1420)
           else
            bif r1415 == (0 : Int) then
             bif r1411 == (0 : Int) then
              bif decide (r1414 ≥ r1410) then
               newellaw09_works N  (fun r1421 =>
               k r1421)
              else
               k false
             else
              k false
            else
             k false))
       else
        shaft_Plan N a1032 (fun r1422 r1423 r1424 r1425 =>
        shaft_Plan N a1032 (fun r1426 r1427 r1428 r1429 =>
        bif r1423 == (2 : Int) then
         newellaw09_works N  (fun r1430 =>
         k r1430)
        else
         bif r1427 == (2 : Int) then
          newellaw09_works N  (fun r1431 =>
          k r1431)
         else
          bif r1427 == (3 : Int) then
           newellaw09_works N  (fun r1432 =>
           k r1432)
          else
           bif r1427 == (0 : Int) then
            bif r1423 == (0 : Int) then
             bif decide (r1426 ≥ r1422) then
              newellaw09_works N  (fun r1433 =>
              k r1433)
             else
              k false
            else
             k false
           else
            k false))
     else
      bif decide (newellaw09_Tighter.Until a1033 ≥ (1 : Int)) then
       bif decide (newellaw09_Tighter.Until a1033 ≤ api_Works.Until a1032) then
        shaft_Plan N a1032 (fun r1434 r1435 r1436 r1437 =>
        shaft_Plan N (api_Works.mk (api_Works.Machines a1032) (api_Works.Jobs a1032) (api_Works.Never a1032) (api_Works.Crews a1032) (newellaw09_Tighter.Until a1033)) (fun r1438 r1439 r1440 r1441 =>
        bif r1435 == (2 : Int) then
         newellaw09_works N  (fun r1442 =>
         k r1442)
        else
         bif r1439 == (2 : Int) then
          newellaw09_works N  (fun r1443 =>
          k r1443)
         else
          bif r1439 == (3 : Int) then
           newellaw09_works N  (fun r1444 =>
           k r1444)
          else
           bif r1439 == (0 : Int) then
            bif r1435 == (0 : Int) then
             bif decide (r1438 ≥ r1434) then
              newellaw09_works N  (fun r1445 =>
              k r1445)
             else
              k false
            else
             k false
           else
            k false))
       else
        shaft_Plan N a1032 (fun r1446 r1447 r1448 r1449 =>
        shaft_Plan N a1032 (fun r1450 r1451 r1452 r1453 =>
        bif r1447 == (2 : Int) then
         newellaw09_works N  (fun r1454 =>
         k r1454)
        else
         bif r1451 == (2 : Int) then
          newellaw09_works N  (fun r1455 =>
          k r1455)
         else
          bif r1451 == (3 : Int) then
           newellaw09_works N  (fun r1456 =>
           k r1456)
          else
           bif r1451 == (0 : Int) then
            bif r1447 == (0 : Int) then
             bif decide (r1450 ≥ r1446) then
              newellaw09_works N  (fun r1457 =>
              k r1457)
             else
              k false
            else
             k false
           else
            k false))
      else
       shaft_Plan N a1032 (fun r1458 r1459 r1460 r1461 =>
       shaft_Plan N a1032 (fun r1462 r1463 r1464 r1465 =>
       bif r1459 == (2 : Int) then
        newellaw09_works N  (fun r1466 =>
        k r1466)
       else
        bif r1463 == (2 : Int) then
         newellaw09_works N  (fun r1467 =>
         k r1467)
        else
         bif r1463 == (3 : Int) then
          newellaw09_works N  (fun r1468 =>
          k r1468)
         else
          bif r1463 == (0 : Int) then
           bif r1459 == (0 : Int) then
            bif decide (r1462 ≥ r1458) then
             newellaw09_works N  (fun r1469 =>
             k r1469)
            else
             k false
           else
            k false
          else
           k false))))
noncomputable def newellaw09_ShaftTighter {R : Type} : Nat → api_Works → newellaw09_Tighter → (Bool → Option R) → Option R := lock (@newellaw09_ShaftTighter_m R)
theorem newellaw09_ShaftTighter_def {R : Type} (N : Nat) (a1032 : api_Works) (a1033 : newellaw09_Tighter) (k : Bool → Option R) : newellaw09_ShaftTighter N a1032 a1033 k = newellaw09_ShaftTighter_m N a1032 a1033 k := by unfold newellaw09_ShaftTighter; rw [lock_eq]
def newellaw09_ShaftTighter_sp : Sp := ⟨[rAgg api_WorksC, rAgg newellaw09_TighterC], []⟩
theorem newellaw09_ShaftTighter_sp_ok : newellaw09_ShaftTighter_sp.Ok := ⟨(allCons (rAgg_ok api_WorksC_ok api_WorksC_len) (allCons (rAgg_ok newellaw09_TighterC_ok newellaw09_TighterC_len) allNil)), eNil⟩
def newellaw09_ShaftTighter_rs : Sp := ⟨[rBool], []⟩
theorem newellaw09_ShaftTighter_rs_ok : newellaw09_ShaftTighter_rs.Ok := ⟨(allCons rBool_ok allNil), eNil⟩
def newellaw09_ShaftTighter_run {R : Type} (N : Nat) (args : List SV) (T : Tab) (kf : SV × Tab → Option R) : Option R :=
  newellaw09_ShaftTighter_m N (Cod.dec api_WorksC (lget (toCs (lget args 0)))) (Cod.dec newellaw09_TighterC (lget (toCs (lget args 1)))) (fun q0 => kf (lget [.bool q0] 0, []))
def newellaw09_ShaftTighter_lp {R : Type} (N : Nat) : Lp R := fun body S k => Option.none
noncomputable def newellaw09_ShaftTighter_go {R : Type} (N : Nat) (args : List SV) (T : Tab) (kf : SV × Tab → Option R) : Option R :=
  newellaw09_ShaftTighter N (Cod.dec api_WorksC (lget (toCs (lget args 0)))) (Cod.dec newellaw09_TighterC (lget (toCs (lget args 1)))) (fun q0 => kf (lget [.bool q0] 0, []))
noncomputable def newellaw09_ShaftTighter_cal {R : Type} (N : Nat) : Cal R := callM (newellaw09_works_cal N) 5 0 newellaw09_ShaftTighter_sp (newellaw09_ShaftTighter_go N)
theorem newellaw09_ShaftTighter_cal_ok {R : Type} (N : Nat) : CalOk E.P (newellaw09_ShaftTighter_cal (R := R) N) :=
  callM_ok hE (newellaw09_works_cal_ok N) (lp := newellaw09_ShaftTighter_lp N) (jn := noJn) (keys := []) kNil (by kernel_rfl) (js := []) jNil (by kernel_rfl) newellaw09_ShaftTighter_sp_ok newellaw09_ShaftTighter_rs_ok (fun args T kf => Eq.trans (newellaw09_ShaftTighter_def N (Cod.dec api_WorksC (lget (toCs (lget args 0)))) (Cod.dec newellaw09_TighterC (lget (toCs (lget args 1)))) (fun q0 => kf (lget [.bool q0] 0, []))) (by kernel_rfl : newellaw09_ShaftTighter_run N args T kf = fnM E (newellaw09_works_cal N) (newellaw09_ShaftTighter_lp N) (noJn) 5 (newellaw09_ShaftTighter_sp.vs args) (newellaw09_ShaftTighter_sp.tab T) 0 (resK newellaw09_ShaftTighter_rs kf)))
section
open Classical
theorem cond_both {α : Type} {c : Bool} {x y t : α} (h1 : c = true → x = t) (h2 : c = false → y = t) : (bif c then x else y) = t := by
  cases c
  · exact h2 rfl
  · exact h1 rfl
theorem tight_tail {w w' : api_Works} (nf : NF w) (nf' : NF w') (t : Tight w w') (v : VW w) (v' : VW w') :
    shaft_Plan 200200 w (fun r1038 r1039 r1040 r1041 =>
              shaft_Plan 200200 w' (fun r1042 r1043 r1044 r1045 =>
              bif r1039 == (2 : Int) then okK (lget [.bool true] 0, [])
              else
               bif r1043 == (2 : Int) then okK (lget [.bool true] 0, [])
               else
                bif r1043 == (3 : Int) then okK (lget [.bool true] 0, [])
                else
                 bif r1043 == (0 : Int) then
                  bif r1039 == (0 : Int) then
                   bif decide (r1042 ≥ r1038) then okK (lget [.bool true] 0, [])
                   else okK (lget [.bool false] 0, [])
                  else okK (lget [.bool false] 0, [])
                 else okK (lget [.bool false] 0, []))) = some () := by
  have hM : (200100 : Nat) ≤ 200200 := by omega
  refine viaPlan nf hM (fun nl arr hp => ?_)
  refine viaPlan nf' hM (fun nl' arr' hp' => ?_)
  by_cases h2 : plE w = 2
  · rw [h2]; rfl
  rw [show (plE w == (2 : Int)) = false by simpa using h2, cond_false]
  rcases plE_cases v' with h | h | h
  · obtain ⟨g1, g2⟩ := plan_tight t v v' h h2
    rw [h, g1, decide_eq_true (show plEnd w' ≥ plEnd w from g2)]
    rfl
  · rw [h]; rfl
  · rw [h]; rfl
theorem nbT {a b : Nat} (h : a < b) : Nat.blt a b = true := by rw [Nat.blt_eq]; exact h
theorem nbF {a b : Nat} (h : ¬ a < b) : Nat.blt a b = false := by
  cases e : Nat.blt a b
  · rfl
  · rw [Nat.blt_eq] at e; exact absurd e h
theorem nev_f (a : Arr Int) (x : Int) : (lst intC ((0 : Nat) + Arr.n a + (1 : Nat)) (catC ((0 : Nat) + Arr.n a) (catC (0 : Nat) (litC [SV.int IntKind.i64 (0 : Int)] []) (Cod.cell intC (Arr.f a))) (litC [SV.int IntKind.i64 (0 : Int)] [[SV.int IntKind.i64 x]]))).n = a.n + 1 ∧
    (∀ i, i < a.n → (lst intC ((0 : Nat) + Arr.n a + (1 : Nat)) (catC ((0 : Nat) + Arr.n a) (catC (0 : Nat) (litC [SV.int IntKind.i64 (0 : Int)] []) (Cod.cell intC (Arr.f a))) (litC [SV.int IntKind.i64 (0 : Int)] [[SV.int IntKind.i64 x]]))).f i = a.f i) ∧
    (lst intC ((0 : Nat) + Arr.n a + (1 : Nat)) (catC ((0 : Nat) + Arr.n a) (catC (0 : Nat) (litC [SV.int IntKind.i64 (0 : Int)] []) (Cod.cell intC (Arr.f a))) (litC [SV.int IntKind.i64 (0 : Int)] [[SV.int IntKind.i64 x]]))).f a.n = x := by
  refine ⟨by show 0 + a.n + 1 = _; omega, fun i hi => ?_, ?_⟩
  · show intC.dec (fun j => catC (0 + a.n) (catC 0 (litC [SV.int IntKind.i64 (0 : Int)] []) (Cod.cell intC a.f)) (litC [SV.int IntKind.i64 (0 : Int)] [[SV.int IntKind.i64 x]]) i j) = a.f i
    simp [catC, intC, Cod.cell, nbT hi, nbF (show ¬ i < 0 by omega), toI, lget]
  · show intC.dec (fun j => catC (0 + a.n) (catC 0 (litC [SV.int IntKind.i64 (0 : Int)] []) (Cod.cell intC a.f)) (litC [SV.int IntKind.i64 (0 : Int)] [[SV.int IntKind.i64 x]]) a.n j) = x
    simp [catC, intC, Cod.cell, litC, toI, nbF (show ¬ a.n < a.n by omega), lget]
theorem cond_dec {α : Type} {p : Prop} [Decidable p] {x y t : α} (h1 : p → x = t) (h2 : ¬ p → y = t) : (bif decide p then x else y) = t := by
  by_cases h : p
  · rw [decide_eq_true h]; exact h1 h
  · rw [decide_eq_false h]; exact h2 h
theorem tight_ok {w : api_Works} (v : VW w) {nv : Arr Int} {c u : Int} (hn : nv = w.Never ∨ (w.Never.n < 20 ∧ nv.n = w.Never.n + 1 ∧ (∀ i, i < w.Never.n → nv.f i = w.Never.f i) ∧ 1 ≤ nv.f w.Never.n ∧ nv.f w.Never.n ≤ ((2 ^ w.Machines.toNat : Nat) : Int) - 1)) (hc : 1 ≤ c ∧ c ≤ w.Crews) (hu : 1 ≤ u ∧ u ≤ w.Until) (nf : NF w) :
    NF (api_Works.mk w.Machines w.Jobs nv c u) ∧ Tight w (api_Works.mk w.Machines w.Jobs nv c u) ∧ VW (api_Works.mk w.Machines w.Jobs nv c u) := by
  have vc := v.c
  have vu := v.u
  have vn := v.nv
  have hj : ∀ i, i < w.Jobs.n → JobOk (api_Works.mk w.Machines w.Jobs nv c u) i := fun i hi => ⟨(v.jobs i hi).m, (v.jobs i hi).n, (v.jobs i hi).a⟩
  rcases hn with rfl | ⟨n1, n2, n3, n4⟩
  · exact ⟨⟨nf.j, nf.nv, nf.a⟩, ⟨rfl, rfl, hc.2, hu.2, Nat.le_refl _, fun i _ => rfl⟩, ⟨v.m, v.j, v.nv, ⟨hc.1, Int.le_trans hc.2 vc.2⟩, ⟨hu.1, Int.le_trans hu.2 vu.2⟩, hj, v.never⟩⟩
  · refine ⟨⟨nf.j, by show nv.n ≤ 30; omega, nf.a⟩, ⟨rfl, rfl, hc.2, hu.2, by show w.Never.n ≤ nv.n; omega, fun i hi => n3 i hi⟩, ⟨v.m, v.j, by show nv.n ≤ 20; omega, ⟨hc.1, Int.le_trans hc.2 vc.2⟩, ⟨hu.1, Int.le_trans hu.2 vu.2⟩, hj, fun i hi => ?_⟩⟩
    have hi : i < nv.n := hi
    by_cases e : i = w.Never.n
    · rw [e]; exact n4
    · have := v.never i (by omega)
      rw [← n3 i (by omega)] at this
      exact this
theorem tight_leaf {w : api_Works} (nf : NF w) (v : VW w) {nv : Arr Int} {c u : Int} (hn : nv = w.Never ∨ (w.Never.n < 20 ∧ nv.n = w.Never.n + 1 ∧ (∀ i, i < w.Never.n → nv.f i = w.Never.f i) ∧ 1 ≤ nv.f w.Never.n ∧ nv.f w.Never.n ≤ ((2 ^ w.Machines.toNat : Nat) : Int) - 1)) (hc : 1 ≤ c ∧ c ≤ w.Crews) (hu : 1 ≤ u ∧ u ≤ w.Until) :
    shaft_Plan 200200 w (fun r1038 r1039 r1040 r1041 =>
              shaft_Plan 200200 (api_Works.mk w.Machines w.Jobs nv c u) (fun r1042 r1043 r1044 r1045 =>
              bif r1039 == (2 : Int) then okK (lget [.bool true] 0, [])
              else
               bif r1043 == (2 : Int) then okK (lget [.bool true] 0, [])
               else
                bif r1043 == (3 : Int) then okK (lget [.bool true] 0, [])
                else
                 bif r1043 == (0 : Int) then
                  bif r1039 == (0 : Int) then
                   bif decide (r1042 ≥ r1038) then okK (lget [.bool true] 0, [])
                   else okK (lget [.bool false] 0, [])
                  else okK (lget [.bool false] 0, [])
                 else okK (lget [.bool false] 0, []))) = some () :=
  let g := tight_ok v hn hc hu nf
  tight_tail nf g.1 g.2.1 v g.2.2
theorem shaftTighter_true (w : api_Works) (t : newellaw09_Tighter) (hw : w.wf) (ht : t.wf) : ∃ N, newellaw09_ShaftTighter N w t (fun q0 => okK (lget [.bool q0] 0, [])) = some () := by
  refine ⟨200200, ?_⟩
  rw [newellaw09_ShaftTighter_def]
  unfold newellaw09_ShaftTighter_m
  have hM : (200100 : Nat) ≤ 200200 := by omega
  refine viaFarW (by omega) (fun b hb => ?_)
  simp only [works_eq _ hM]
  cases b
  rotate_left
  · rfl
  have nf := hb rfl
  rw [cond_false, rWorks_eq nf _ (show 100 ≤ 200200 by omega)]
  unfold errW
  by_cases v : VW w
  rotate_left
  · rw [if_neg v]; rfl
  rw [if_pos v, show ((0 : Int) != 0) = false from rfl, cond_false]
  have vm := v.m
  have vc := v.c
  have vu := v.u
  have vn := v.nv
  simp only [u64_pos (show (0 : Int) ≤ w.Machines by omega) (by omega), full_eq (show (0 : Int) ≤ w.Machines by omega) (by omega), room_of (show 0 + w.Never.n ≤ 1073741824 by omega), room_of (show 0 + w.Never.n + 1 ≤ 1073741824 by omega), decide_eq_false (show ¬ w.Machines < 0 by omega), cond_true, cond_false]
  repeat' (first
    | exact tight_leaf nf v (by first | exact .inl rfl | exact .inr ⟨by omega, (nev_f _ _).1, (nev_f _ _).2.1, by rw [(nev_f _ _).2.2]; assumption, by rw [(nev_f _ _).2.2]; assumption⟩) ⟨by omega, by omega⟩ ⟨by omega, by omega⟩
    | refine cond_dec (fun h => ?_) (fun h => ?_))
end
end
end Go.Proofs.YtckkodiefpdmhaaDoor
