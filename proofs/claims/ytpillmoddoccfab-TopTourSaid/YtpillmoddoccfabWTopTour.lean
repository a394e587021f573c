/-
  The model of the statement TopTour, that it is what the code does (written by a program), and that it answers true.
-/
import Derived.Test.YtpillmoddoccfabLiP12
import Derived.Test.YtpillmoddoccfabSxRun
set_option maxRecDepth 100000
set_option maxHeartbeats 0
set_option linter.unusedVariables false
set_option linter.unusedSimpArgs false
namespace Go.Proofs.Ytpillmoddoccfab
open Go.Sx
noncomputable section

theorem neweltop_measures_closed {R : Type} (kf : SV × Tab → Option R) : (runG E 400 60).run 13 [] [] 0 kf = kf (.bool true, []) := by kernel_rfl
def neweltop_measures_m {R : Type} (N : Nat) (k : Bool → Option R) : Option R :=
  k true
noncomputable def neweltop_measures {R : Type} : Nat → (Bool → Option R) → Option R := lock (@neweltop_measures_m R)
theorem neweltop_measures_def {R : Type} (N : Nat) (k : Bool → Option R) : neweltop_measures N k = neweltop_measures_m N k := by unfold neweltop_measures; rw [lock_eq]
theorem neweltop_measures_eq {R : Type} (N : Nat) (k : Bool → Option R) : neweltop_measures N k = k true := by rw [neweltop_measures_def]; rfl
def neweltop_measures_sp : Sp := ⟨[], []⟩
noncomputable def neweltop_measures_go {R : Type} (N : Nat) (args : List SV) (T : Tab) (kf : SV × Tab → Option R) : Option R :=
  neweltop_measures N (fun q0 => kf (lget [.bool q0] 0, []))
noncomputable def neweltop_measures_cal {R : Type} (N : Nat) : Cal R := callM (lift_Turn_cal N) 13 0 neweltop_measures_sp (neweltop_measures_go N)
theorem neweltop_measures_cal_ok {R : Type} (N : Nat) : CalOk E.P (neweltop_measures_cal (R := R) N) :=
  callM_eq (m' := fun args T kf => kf (.bool true, [])) (fun args T kf => neweltop_measures_def N (fun q0 => kf (lget [.bool q0] 0, []))) (closed_ok hE (lift_Turn_cal_ok N) neweltop_measures_closed)

def neweltop_TopTour_L10 : LoopSp := ⟨⟨[3, 4, 5, 7, 13, 14, 15], ⟨(dr 3 ((rPtr 0 0) :: (rPtr 1 0) :: (rPtr 2 0) :: (dr 1 ((rRow 3) :: (dr 5 ((rInt .i64) :: (rInt .i64) :: (rInt .i64) :: (dr 272 []))))))), [(0, eBlkC api_LiftC), (1, eBlkC api_DoorC), (2, eBlkC neweltop_TourC), (3, eRow intC)]⟩, 4⟩, [(Option.none, ⟨[6], ⟨(dr 6 ((rBool) :: (dr 281 []))), []⟩, 0⟩), (some 0, ⟨[3, 4, 5, 7, 13, 14], ⟨(dr 3 ((rPtr 0 0) :: (rPtr 1 0) :: (rPtr 2 0) :: (dr 1 ((rRow 3) :: (dr 5 ((rInt .i64) :: (rInt .i64) :: (dr 273 []))))))), [(0, eBlkC api_LiftC), (1, eBlkC api_DoorC), (2, eBlkC neweltop_TourC), (3, eRow intC)]⟩, 4⟩)]⟩
theorem neweltop_TopTour_L10_ok : neweltop_TopTour_L10.Ok := ⟨⟨(drCons 3 (allCons (rPtr_ok 0 0) (allCons (rPtr_ok 1 0) (allCons (rPtr_ok 2 0) (drCons 1 (allCons (rRow_ok 3) (drCons 5 (allCons (rInt_ok .i64) (allCons (rInt_ok .i64) (allCons (rInt_ok .i64) (drCons 272 allNil))))))))))), (eCons (eBlkC_ok api_LiftC_ok api_LiftC_len) (eCons (eBlkC_ok api_DoorC_ok api_DoorC_len) (eCons (eBlkC_ok neweltop_TourC_ok neweltop_TourC_len) (eCons (eRow_ok intC_ok) eNil))))⟩, (xCons ⟨(drCons 6 (allCons rBool_ok (drCons 281 allNil))), eNil⟩ (xCons ⟨(drCons 3 (allCons (rPtr_ok 0 0) (allCons (rPtr_ok 1 0) (allCons (rPtr_ok 2 0) (drCons 1 (allCons (rRow_ok 3) (drCons 5 (allCons (rInt_ok .i64) (allCons (rInt_ok .i64) (drCons 273 allNil)))))))))), (eCons (eBlkC_ok api_LiftC_ok api_LiftC_len) (eCons (eBlkC_ok api_DoorC_ok api_DoorC_len) (eCons (eBlkC_ok neweltop_TourC_ok neweltop_TourC_len) (eCons (eRow_ok intC_ok) eNil))))⟩ xNil))⟩
def neweltop_TopTour_h10 (v225 : Int) (v226 : Int) (v227 : Int) (v228 : api_Lift) (v229 : api_Door) (v230 : neweltop_Tour) (v231 : Bool) (v232 : Arr Int) : St := ⟨(un 3 ((.ptr 0 0) :: (.ptr 1 0) :: (.ptr 2 0) :: (un 1 ((.row 3) :: (un 5 ((.int .i64 v225) :: (.int .i64 v226) :: (.int .i64 v227) :: (un 272 []))))))), [(0, .blk (Cod.enc api_LiftC v228)), (1, .blk (Cod.enc api_DoorC v229)), (2, .blk (Cod.enc neweltop_TourC v230)), (3, rowE intC v231 v232)], 4⟩
def neweltop_TopTour_x10_r (q0 : Bool) : St := ⟨(un 6 ((.bool q0) :: (un 281 []))), [], 0⟩
def neweltop_TopTour_x10_0 (v226 : Int) (v228 : api_Lift) (v229 : api_Door) (v230 : neweltop_Tour) (v231 : Bool) (v232 : Arr Int) (q0 : Int) : St := ⟨(un 3 ((.ptr 0 0) :: (.ptr 1 0) :: (.ptr 2 0) :: (un 1 ((.row 3) :: (un 5 ((.int .i64 q0) :: (.int .i64 v226) :: (un 273 []))))))), [(0, .blk (Cod.enc api_LiftC v228)), (1, .blk (Cod.enc api_DoorC v229)), (2, .blk (Cod.enc neweltop_TourC v230)), (3, rowE intC v231 v232)], 4⟩
def neweltop_TopTour_b10 {R : Type} (N : Nat) (rc : Int → Int → Int → api_Lift → api_Door → neweltop_Tour → Bool → Arr Int → Option R) (v225 : Int) (v226 : Int) (v227 : Int) (v228 : api_Lift) (v229 : api_Door) (v230 : neweltop_Tour) (v231 : Bool) (v232 : Arr Int) (kr : Bool → Option R) (k0 : Int → Option R) : Option R :=
  bif decide (v227 < v226) then
   lift_Trip N v228 v227 (w64 (v227 + (1 : Int))) (fun r233 r234 r235 =>
   bif r233 != (0 : Int) then
    kr false
   else
    rc (if (↑(Arr.n r235) : Int) > v225 then (↑(Arr.n r235) : Int) else v225) v226 (w64 (v227 + (1 : Int))) v228 v229 v230 v231 v232)
  else
   k0 v225
def neweltop_TopTour_l10 {R : Type} (N : Nat) : Nat → Int → Int → Int → api_Lift → api_Door → neweltop_Tour → Bool → Arr Int → (Bool → Option R) → (Int → Option R) → Option R
  | 0, _, _, _, _, _, _, _, _, _, _ => Option.none
  | n + 1, v225, v226, v227, v228, v229, v230, v231, v232, kr, k0 => neweltop_TopTour_b10 N (fun v225 v226 v227 v228 v229 v230 v231 v232 => neweltop_TopTour_l10 N n v225 v226 v227 v228 v229 v230 v231 v232 kr k0) v225 v226 v227 v228 v229 v230 v231 v232 kr k0

def neweltop_TopTour_L35 : LoopSp := ⟨⟨[3, 4, 5, 18, 24, 25, 26, 27, 28, 29], ⟨(dr 3 ((rPtr 0 0) :: (rPtr 1 0) :: (rPtr 2 0) :: (dr 12 ((rInt .i64) :: (dr 5 ((rInt .i64) :: (rInt .i64) :: (rInt .i64) :: (rInt .i64) :: (rInt .i64) :: (rInt .i64) :: (dr 258 []))))))), [(0, eBlkC api_LiftC), (1, eBlkC api_DoorC), (2, eBlkC neweltop_TourC)]⟩, 3⟩, [(Option.none, ⟨[6], ⟨(dr 6 ((rBool) :: (dr 281 []))), []⟩, 0⟩), (some 2, ⟨[18, 24, 25, 28], ⟨(dr 18 ((rInt .i64) :: (dr 5 ((rInt .i64) :: (rInt .i64) :: (dr 2 ((rInt .i64) :: (dr 259 []))))))), []⟩, 0⟩)]⟩
theorem neweltop_TopTour_L35_ok : neweltop_TopTour_L35.Ok := ⟨⟨(drCons 3 (allCons (rPtr_ok 0 0) (allCons (rPtr_ok 1 0) (allCons (rPtr_ok 2 0) (drCons 12 (allCons (rInt_ok .i64) (drCons 5 (allCons (rInt_ok .i64) (allCons (rInt_ok .i64) (allCons (rInt_ok .i64) (allCons (rInt_ok .i64) (allCons (rInt_ok .i64) (allCons (rInt_ok .i64) (drCons 258 allNil)))))))))))))), (eCons (eBlkC_ok api_LiftC_ok api_LiftC_len) (eCons (eBlkC_ok api_DoorC_ok api_DoorC_len) (eCons (eBlkC_ok neweltop_TourC_ok neweltop_TourC_len) eNil)))⟩, (xCons ⟨(drCons 6 (allCons rBool_ok (drCons 281 allNil))), eNil⟩ (xCons ⟨(drCons 18 (allCons (rInt_ok .i64) (drCons 5 (allCons (rInt_ok .i64) (allCons (rInt_ok .i64) (drCons 2 (allCons (rInt_ok .i64) (drCons 259 allNil)))))))), eNil⟩ xNil))⟩
def neweltop_TopTour_h35 (v247 : Int) (v248 : Int) (v249 : Int) (v250 : Int) (v251 : Int) (v252 : Int) (v253 : Int) (v254 : api_Lift) (v255 : api_Door) (v256 : neweltop_Tour) : St := ⟨(un 3 ((.ptr 0 0) :: (.ptr 1 0) :: (.ptr 2 0) :: (un 12 ((.int .i64 v247) :: (un 5 ((.int .i64 v248) :: (.int .i64 v249) :: (.int .i64 v250) :: (.int .i64 v251) :: (.int .i64 v252) :: (.int .i64 v253) :: (un 258 []))))))), [(0, .blk (Cod.enc api_LiftC v254)), (1, .blk (Cod.enc api_DoorC v255)), (2, .blk (Cod.enc neweltop_TourC v256))], 3⟩
def neweltop_TopTour_x35_r (q0 : Bool) : St := ⟨(un 6 ((.bool q0) :: (un 281 []))), [], 0⟩
def neweltop_TopTour_x35_2 (v247 : Int) (v248 : Int) (v249 : Int) (q3 : Int) : St := ⟨(un 18 ((.int .i64 v247) :: (un 5 ((.int .i64 v248) :: (.int .i64 v249) :: (un 2 ((.int .i64 q3) :: (un 259 []))))))), [], 0⟩
def neweltop_TopTour_b35 {R : Type} (N : Nat) (rc : Int → Int → Int → Int → Int → Int → Int → api_Lift → api_Door → neweltop_Tour → Option R) (v247 : Int) (v248 : Int) (v249 : Int) (v250 : Int) (v251 : Int) (v252 : Int) (v253 : Int) (v254 : api_Lift) (v255 : api_Door) (v256 : neweltop_Tour) (kr : Bool → Option R) (k2 : Int → Option R) : Option R :=
  bif v253 != v250 then
   lift_Turn N v254 v255 v253 (w64 (v253 + v251)) (neweltop_Tour.Most v256) (fun r257 r258 =>
   lift_Turn N v254 v255 (w64 (v253 + v251)) v253 (neweltop_Tour.Most v256) (fun r259 r260 =>
   bif r258 != (0 : Int) then
    kr false
   else
    bif r260 != (0 : Int) then
     kr false
    else
     rc v247 v248 v249 v250 v251 (w64 (v252 + w64 (r257 + r259))) (w64 (v253 + v251)) v254 v255 v256))
  else
   k2 v252
def neweltop_TopTour_l35 {R : Type} (N : Nat) : Nat → Int → Int → Int → Int → Int → Int → Int → api_Lift → api_Door → neweltop_Tour → (Bool → Option R) → (Int → Option R) → Option R
  | 0, _, _, _, _, _, _, _, _, _, _, _, _ => Option.none
  | n + 1, v247, v248, v249, v250, v251, v252, v253, v254, v255, v256, kr, k2 => neweltop_TopTour_b35 N (fun v247 v248 v249 v250 v251 v252 v253 v254 v255 v256 => neweltop_TopTour_l35 N n v247 v248 v249 v250 v251 v252 v253 v254 v255 v256 kr k2) v247 v248 v249 v250 v251 v252 v253 v254 v255 v256 kr k2


def neweltop_TopTour_m {R : Type} (N : Nat) (a198 : api_Lift) (a199 : api_Door) (a200 : neweltop_Tour) (k : Bool → Option R) : Option R :=
  newellaw05_Far N a198 (fun r201 =>
  bif r201 then
   neweltop_measures N  (fun r202 =>
   k r202)
  else
   newelref05_Check N a198 (fun r203 =>
   bif r203 != (0 : Int) then
    neweltop_measures N  (fun r204 =>
    k r204)
   else
    newelref05_CheckDoor N a199 (fun r205 =>
    bif r205 != (0 : Int) then
     neweltop_measures N  (fun r206 =>
     k r206)
    else
     newelref05_Floors N a198 (neweltop_Tour.From a200) (neweltop_Tour.Over a200) (fun r207 =>
     bif !r207 then
      neweltop_measures N  (fun r208 =>
      k r208)
     else
      newelref05_Floors N a198 (neweltop_Tour.To a200) (neweltop_Tour.Over a200) (fun r209 =>
      bif !r209 then
       neweltop_measures N  (fun r210 =>
       k r210)
      else
       newelref05_Breaks N (neweltop_Tour.Breaks a200) (fun r211 =>
       bif !r211 then
        neweltop_measures N  (fun r212 =>
        k r212)
       else
        bif decide (neweltop_Tour.Most a200 < (0 : Int)) then
         neweltop_measures N  (fun r213 =>
         k r213)
        else
         bif decide ((↑(Arr.n (neweltop_Tour.Breaks a200)) : Int) > neweltop_Tour.Most a200) then
          neweltop_measures N  (fun r214 =>
          k r214)
         else
          bif decide (neweltop_Tour.Most a200 > (20 : Int)) then
           neweltop_measures N  (fun r215 =>
           k r215)
          else
           lift_Trip N a198 (neweltop_Tour.From a200) (neweltop_Tour.To a200) (fun r216 r217 r218 =>
           lift_Trip N a198 (neweltop_Tour.From a200) (neweltop_Tour.Over a200) (fun r219 r220 r221 =>
           lift_Trip N a198 (neweltop_Tour.Over a200) (neweltop_Tour.To a200) (fun r222 r223 r224 =>
           bif r216 != (0 : Int) then
            k false
           else
            bif r219 != (0 : Int) then
             k false
            else
             bif r222 != (0 : Int) then
              k false
             else
              bif decide ((↑(Arr.n r218) : Int) > w64 ((↑(Arr.n r221) : Int) + (↑(Arr.n r224) : Int))) then
               k false
              else
               neweltop_TopTour_l10 N N (0 : Int) (w64 ((↑(Arr.n (api_Lift.Floors a198)) : Int) - (1 : Int))) (0 : Int) a198 a199 a200 r217 r218 (fun r236 =>
                k r236) (fun r237 =>
                lift_Dwell N a199 (neweltop_Tour.Most a200) (fun r238 r239 =>
                lift_Doors N a199 (neweltop_Tour.Breaks a200) (fun r240 r241 r242 =>
                bif r239 != (0 : Int) then
                 k false
                else
                 bif r240 != (0 : Int) then
                  k false
                 else
                  bif decide (w64 ((↑(Arr.n r218) : Int) + (↑(Arr.n r242) : Int)) > w64 (w64 ((if w64 (neweltop_Tour.To a200 - neweltop_Tour.From a200) > w64 (neweltop_Tour.From a200 - neweltop_Tour.To a200) then w64 (neweltop_Tour.To a200 - neweltop_Tour.From a200) else w64 (neweltop_Tour.From a200 - neweltop_Tour.To a200)) * r237) + r238)) then
                   k false
                  else
                   newelref07_CheckCar N (api_Car.mk (0 : Int) (w64 ((↑(Arr.n (api_Lift.Floors a198)) : Int) - (1 : Int))) (neweltop_Tour.From a200) r237 r238) (fun r243 =>
                   bif r243 != (0 : Int) then
                    neweltop_measures N  (fun r244 =>
                    k r244)
                   else
                    calls_Worst N (api_Car.mk (0 : Int) (w64 ((↑(Arr.n (api_Lift.Floors a198)) : Int) - (1 : Int))) (neweltop_Tour.From a200) r237 r238) (neweltop_Tour.From a200) (fun r245 r246 =>
                    bif decide (w64 (w64 ((↑(Arr.n (api_Lift.Floors a198)) : Int) - (1 : Int)) - neweltop_Tour.From a200) > neweltop_Tour.From a200) then
                     bif decide (w64 ((↑(Arr.n (api_Lift.Floors a198)) : Int) - (1 : Int)) < neweltop_Tour.From a200) then
                      neweltop_TopTour_l35 N N r238 r245 r246 (w64 ((↑(Arr.n (api_Lift.Floors a198)) : Int) - (1 : Int))) (-1 : Int) (0 : Int) (neweltop_Tour.From a200) a198 a199 a200 (fun r261 =>
                       k r261) (fun r262 =>
                       bif decide (r262 > (0 : Int)) then
                        bif r246 == (0 : Int) then
                         bif decide (w64 (r262 - r238) ≤ r245) then
                          neweltop_measures N  (fun r263 =>
                          k r263)
                         else
                          k false
                        else
                         k false
                       else
                        bif r246 == (0 : Int) then
                         bif decide (r262 ≤ r245) then
                          neweltop_measures N  (fun r264 =>
                          k r264)
                         else
                          k false
                        else
                         k false)
                     else
                      neweltop_TopTour_l35 N N r238 r245 r246 (w64 ((↑(Arr.n (api_Lift.Floors a198)) : Int) - (1 : Int))) (1 : Int) (0 : Int) (neweltop_Tour.From a200) a198 a199 a200 (fun r265 =>
                       k r265) (fun r266 =>
                       bif decide (r266 > (0 : Int)) then
                        bif r246 == (0 : Int) then
                         bif decide (w64 (r266 - r238) ≤ r245) then
                          neweltop_measures N  (fun r267 =>
                          k r267)
                         else
                          k false
                        else
                         k false
                       else
                        bif r246 == (0 : Int) then
                         bif decide (r266 ≤ r245) then
                          neweltop_measures N  (fun r268 =>
                          k r268)
                         else
                          k false
                        else
                         k false)
                    else
                     bif decide ((0 : Int) < neweltop_Tour.From a200) then
                      neweltop_TopTour_l35 N N r238 r245 r246 (0 : Int) (-1 : Int) (0 : Int) (neweltop_Tour.From a200) a198 a199 a200 (fun r269 =>
                       k r269) (fun r270 =>
                       bif decide (r270 > (0 : Int)) then
                        bif r246 == (0 : Int) then
                         bif decide (w64 (r270 - r238) ≤ r245) then
                          neweltop_measures N  (fun r271 =>
                          k r271)
                         else
                          k false
                        else
                         k false
                       else
                        bif r246 == (0 : Int) then
                         bif decide (r270 ≤ r245) then
                          neweltop_measures N  (fun r272 =>
                          k r272)
                         else
                          k false
                        else
                         k false)
                     else
                      neweltop_TopTour_l35 N N r238 r245 r246 (0 : Int) (1 : Int) (0 : Int) (neweltop_Tour.From a200) a198 a199 a200 (fun r273 =>
                       k r273) (fun r274 =>
                       bif decide (r274 > (0 : Int)) then
                        bif r246 == (0 : Int) then
                         bif decide (w64 (r274 - r238) ≤ r245) then
                          neweltop_measures N  (fun r275 =>
                          k r275)
                         else
                          k false
                        else
                         k false
                       else
                        bif r246 == (0 : Int) then
                         bif decide (r274 ≤ r245) then
                          neweltop_measures N  (fun r276 =>
                          k r276)
                         else
                          k false
                        else
                         k false)))))))))))))))
noncomputable def neweltop_TopTour {R : Type} : Nat → api_Lift → api_Door → neweltop_Tour → (Bool → Option R) → Option R := lock (@neweltop_TopTour_m R)
theorem neweltop_TopTour_def {R : Type} (N : Nat) (a198 : api_Lift) (a199 : api_Door) (a200 : neweltop_Tour) (k : Bool → Option R) : neweltop_TopTour N a198 a199 a200 k = neweltop_TopTour_m N a198 a199 a200 k := by unfold neweltop_TopTour; rw [lock_eq]
def neweltop_TopTour_sp : Sp := ⟨[rAgg api_LiftC, rAgg api_DoorC, rAgg neweltop_TourC], []⟩
theorem neweltop_TopTour_sp_ok : neweltop_TopTour_sp.Ok := ⟨(allCons (rAgg_ok api_LiftC_ok api_LiftC_len) (allCons (rAgg_ok api_DoorC_ok api_DoorC_len) (allCons (rAgg_ok neweltop_TourC_ok neweltop_TourC_len) allNil))), eNil⟩
def neweltop_TopTour_rs : Sp := ⟨[rBool], []⟩
theorem neweltop_TopTour_rs_ok : neweltop_TopTour_rs.Ok := ⟨(allCons rBool_ok allNil), eNil⟩
def neweltop_TopTour_run {R : Type} (N : Nat) (args : List SV) (T : Tab) (kf : SV × Tab → Option R) : Option R :=
  neweltop_TopTour_m N (Cod.dec api_LiftC (lget (toCs (lget args 0)))) (Cod.dec api_DoorC (lget (toCs (lget args 1)))) (Cod.dec neweltop_TourC (lget (toCs (lget args 2)))) (fun q0 => kf (lget [.bool q0] 0, []))
def neweltop_TopTour_d35 {R : Type} (N : Nat) (S0 : St) (k : Exit → St → Option R) : Option R :=
  neweltop_TopTour_l35 N N (toI (lget S0.tmps 18)) (toI (lget S0.tmps 24)) (toI (lget S0.tmps 25)) (toI (lget S0.tmps 26)) (toI (lget S0.tmps 27)) (toI (lget S0.tmps 28)) (toI (lget S0.tmps 29)) (Cod.dec api_LiftC (lget (entCs (entAt S0.tab 0)))) (Cod.dec api_DoorC (lget (entCs (entAt S0.tab 1)))) (Cod.dec neweltop_TourC (lget (entCs (entAt S0.tab 2)))) (fun q0 => k .ret (neweltop_TopTour_x35_r q0)) (fun q3 => k (.exit 2) (neweltop_TopTour_x35_2 (toI (lget S0.tmps 18)) (toI (lget S0.tmps 24)) (toI (lget S0.tmps 25)) q3))
def neweltop_TopTour_d10 {R : Type} (N : Nat) (S0 : St) (k : Exit → St → Option R) : Option R :=
  neweltop_TopTour_l10 N N (toI (lget S0.tmps 13)) (toI (lget S0.tmps 14)) (toI (lget S0.tmps 15)) (Cod.dec api_LiftC (lget (entCs (entAt S0.tab 0)))) (Cod.dec api_DoorC (lget (entCs (entAt S0.tab 1)))) (Cod.dec neweltop_TourC (lget (entCs (entAt S0.tab 2)))) (entNl (entAt S0.tab 3)) (lst intC (entN (entAt S0.tab 3)) (entC (entAt S0.tab 3))) (fun q0 => k .ret (neweltop_TopTour_x10_r q0)) (fun q0 => k (.exit 0) (neweltop_TopTour_x10_0 (toI (lget S0.tmps 14)) (Cod.dec api_LiftC (lget (entCs (entAt S0.tab 0)))) (Cod.dec api_DoorC (lget (entCs (entAt S0.tab 1)))) (Cod.dec neweltop_TourC (lget (entCs (entAt S0.tab 2)))) (entNl (entAt S0.tab 3)) (lst intC (entN (entAt S0.tab 3)) (entC (entAt S0.tab 3))) q0))
def neweltop_TopTour_lp {R : Type} (N : Nat) : Lp R := fun body S k => bif (Go.Sx.keyOf body).getD 0 == 10 then neweltop_TopTour_L10.head.raw 0 S (fun S0 => neweltop_TopTour_d10 N S0 k) else bif (Go.Sx.keyOf body).getD 0 == 35 then neweltop_TopTour_L35.head.raw 0 S (fun S0 => neweltop_TopTour_d35 N S0 k) else Option.none
theorem neweltop_TopTour_l10_eq {R : Type} (N : Nat) (k : Exit → St → Option R) (n : Nat) : ∀ (v0 : Int) (v1 : Int) (v2 : Int) (v3 : api_Lift) (v4 : api_Door) (v5 : neweltop_Tour) (v6 : Bool) (v7 : Arr Int), loopM E.Θ (neweltop_measures_cal N) (neweltop_TopTour_lp N) (noJn) 0 neweltop_TopTour_L10 (bodyAt E 3 10) n (neweltop_TopTour_h10 v0 v1 v2 v3 v4 v5 v6 v7) k = neweltop_TopTour_l10 N n v0 v1 v2 v3 v4 v5 v6 v7 (fun q0 => k .ret (neweltop_TopTour_x10_r q0)) (fun q0 => k (.exit 0) (neweltop_TopTour_x10_0 v1 v3 v4 v5 v6 v7 q0)) := by
  induction n with
  | zero => intro v0 v1 v2 v3 v4 v5 v6 v7; rfl
  | succ n ih =>
    intro v0 v1 v2 v3 v4 v5 v6 v7
    refine Eq.trans (b := neweltop_TopTour_b10 N (fun v0 v1 v2 v3 v4 v5 v6 v7 => loopM E.Θ (neweltop_measures_cal N) (neweltop_TopTour_lp N) (noJn) 0 neweltop_TopTour_L10 (bodyAt E 3 10) n (neweltop_TopTour_h10 v0 v1 v2 v3 v4 v5 v6 v7) k) v0 v1 v2 v3 v4 v5 v6 v7 (fun q0 => k .ret (neweltop_TopTour_x10_r q0)) (fun q0 => k (.exit 0) (neweltop_TopTour_x10_0 v1 v3 v4 v5 v6 v7 q0))) (by kernel_rfl) ?_
    have h : (fun (v0 : Int) (v1 : Int) (v2 : Int) (v3 : api_Lift) (v4 : api_Door) (v5 : neweltop_Tour) (v6 : Bool) (v7 : Arr Int) => loopM E.Θ (neweltop_measures_cal N) (neweltop_TopTour_lp N) (noJn) 0 neweltop_TopTour_L10 (bodyAt E 3 10) n (neweltop_TopTour_h10 v0 v1 v2 v3 v4 v5 v6 v7) k) = (fun (v0 : Int) (v1 : Int) (v2 : Int) (v3 : api_Lift) (v4 : api_Door) (v5 : neweltop_Tour) (v6 : Bool) (v7 : Arr Int) => neweltop_TopTour_l10 N n v0 v1 v2 v3 v4 v5 v6 v7 (fun q0 => k .ret (neweltop_TopTour_x10_r q0)) (fun q0 => k (.exit 0) (neweltop_TopTour_x10_0 v1 v3 v4 v5 v6 v7 q0))) := funext fun v0 => funext fun v1 => funext fun v2 => funext fun v3 => funext fun v4 => funext fun v5 => funext fun v6 => funext fun v7 => ih v0 v1 v2 v3 v4 v5 v6 v7
    rw [h]
    rfl
theorem neweltop_TopTour_l35_eq {R : Type} (N : Nat) (k : Exit → St → Option R) (n : Nat) : ∀ (v0 : Int) (v1 : Int) (v2 : Int) (v3 : Int) (v4 : Int) (v5 : Int) (v6 : Int) (v7 : api_Lift) (v8 : api_Door) (v9 : neweltop_Tour), loopM E.Θ (neweltop_measures_cal N) (neweltop_TopTour_lp N) (noJn) 0 neweltop_TopTour_L35 (bodyAt E 3 35) n (neweltop_TopTour_h35 v0 v1 v2 v3 v4 v5 v6 v7 v8 v9) k = neweltop_TopTour_l35 N n v0 v1 v2 v3 v4 v5 v6 v7 v8 v9 (fun q0 => k .ret (neweltop_TopTour_x35_r q0)) (fun q3 => k (.exit 2) (neweltop_TopTour_x35_2 v0 v1 v2 q3)) := by
  induction n with
  | zero => intro v0 v1 v2 v3 v4 v5 v6 v7 v8 v9; rfl
  | succ n ih =>
    intro v0 v1 v2 v3 v4 v5 v6 v7 v8 v9
    refine Eq.trans (b := neweltop_TopTour_b35 N (fun v0 v1 v2 v3 v4 v5 v6 v7 v8 v9 => loopM E.Θ (neweltop_measures_cal N) (neweltop_TopTour_lp N) (noJn) 0 neweltop_TopTour_L35 (bodyAt E 3 35) n (neweltop_TopTour_h35 v0 v1 v2 v3 v4 v5 v6 v7 v8 v9) k) v0 v1 v2 v3 v4 v5 v6 v7 v8 v9 (fun q0 => k .ret (neweltop_TopTour_x35_r q0)) (fun q3 => k (.exit 2) (neweltop_TopTour_x35_2 v0 v1 v2 q3))) (by kernel_rfl) ?_
    have h : (fun (v0 : Int) (v1 : Int) (v2 : Int) (v3 : Int) (v4 : Int) (v5 : Int) (v6 : Int) (v7 : api_Lift) (v8 : api_Door) (v9 : neweltop_Tour) => loopM E.Θ (neweltop_measures_cal N) (neweltop_TopTour_lp N) (noJn) 0 neweltop_TopTour_L35 (bodyAt E 3 35) n (neweltop_TopTour_h35 v0 v1 v2 v3 v4 v5 v6 v7 v8 v9) k) = (fun (v0 : Int) (v1 : Int) (v2 : Int) (v3 : Int) (v4 : Int) (v5 : Int) (v6 : Int) (v7 : api_Lift) (v8 : api_Door) (v9 : neweltop_Tour) => neweltop_TopTour_l35 N n v0 v1 v2 v3 v4 v5 v6 v7 v8 v9 (fun q0 => k .ret (neweltop_TopTour_x35_r q0)) (fun q3 => k (.exit 2) (neweltop_TopTour_x35_2 v0 v1 v2 q3))) := funext fun v0 => funext fun v1 => funext fun v2 => funext fun v3 => funext fun v4 => funext fun v5 => funext fun v6 => funext fun v7 => funext fun v8 => funext fun v9 => ih v0 v1 v2 v3 v4 v5 v6 v7 v8 v9
    rw [h]
    rfl
theorem neweltop_TopTour_k10 {R : Type} (N : Nat) : LpKey (R := R) E 3 0 (neweltop_TopTour_lp N) 10 :=
  lpKey_of hE (neweltop_measures_cal_ok N) (jn := noJn) neweltop_TopTour_L10_ok [] kNil (by kernel_rfl) [] jNil (by kernel_rfl) N fun S k =>
    Eq.trans (b := neweltop_TopTour_L10.head.raw 0 S (fun S0 => neweltop_TopTour_d10 N S0 k)) (by kernel_rfl) (congrArg (neweltop_TopTour_L10.head.raw 0 S) (funext fun S0 => Eq.trans (neweltop_TopTour_l10_eq N k N (toI (lget S0.tmps 13)) (toI (lget S0.tmps 14)) (toI (lget S0.tmps 15)) (Cod.dec api_LiftC (lget (entCs (entAt S0.tab 0)))) (Cod.dec api_DoorC (lget (entCs (entAt S0.tab 1)))) (Cod.dec neweltop_TourC (lget (entCs (entAt S0.tab 2)))) (entNl (entAt S0.tab 3)) (lst intC (entN (entAt S0.tab 3)) (entC (entAt S0.tab 3)))).symm (by kernel_rfl)))
theorem neweltop_TopTour_k35 {R : Type} (N : Nat) : LpKey (R := R) E 3 0 (neweltop_TopTour_lp N) 35 :=
  lpKey_of hE (neweltop_measures_cal_ok N) (jn := noJn) neweltop_TopTour_L35_ok [] kNil (by kernel_rfl) [] jNil (by kernel_rfl) N fun S k =>
    Eq.trans (b := neweltop_TopTour_L35.head.raw 0 S (fun S0 => neweltop_TopTour_d35 N S0 k)) (by kernel_rfl) (congrArg (neweltop_TopTour_L35.head.raw 0 S) (funext fun S0 => Eq.trans (neweltop_TopTour_l35_eq N k N (toI (lget S0.tmps 18)) (toI (lget S0.tmps 24)) (toI (lget S0.tmps 25)) (toI (lget S0.tmps 26)) (toI (lget S0.tmps 27)) (toI (lget S0.tmps 28)) (toI (lget S0.tmps 29)) (Cod.dec api_LiftC (lget (entCs (entAt S0.tab 0)))) (Cod.dec api_DoorC (lget (entCs (entAt S0.tab 1)))) (Cod.dec neweltop_TourC (lget (entCs (entAt S0.tab 2))))).symm (by kernel_rfl)))
noncomputable def neweltop_TopTour_go {R : Type} (N : Nat) (args : List SV) (T : Tab) (kf : SV × Tab → Option R) : Option R :=
  neweltop_TopTour N (Cod.dec api_LiftC (lget (toCs (lget args 0)))) (Cod.dec api_DoorC (lget (toCs (lget args 1)))) (Cod.dec neweltop_TourC (lget (toCs (lget args 2)))) (fun q0 => kf (lget [.bool q0] 0, []))
noncomputable def neweltop_TopTour_cal {R : Type} (N : Nat) : Cal R := callM (neweltop_measures_cal N) 3 0 neweltop_TopTour_sp (neweltop_TopTour_go N)
theorem neweltop_TopTour_cal_ok {R : Type} (N : Nat) : CalOk E.P (neweltop_TopTour_cal (R := R) N) :=
  callM_ok hE (neweltop_measures_cal_ok N) (lp := neweltop_TopTour_lp N) (jn := noJn) (keys := [10, 35]) (kCons (neweltop_TopTour_k10 N) (kCons (neweltop_TopTour_k35 N) kNil)) (by kernel_rfl) (js := []) jNil (by kernel_rfl) neweltop_TopTour_sp_ok neweltop_TopTour_rs_ok (fun args T kf => Eq.trans (neweltop_TopTour_def N (Cod.dec api_LiftC (lget (toCs (lget args 0)))) (Cod.dec api_DoorC (lget (toCs (lget args 1)))) (Cod.dec neweltop_TourC (lget (toCs (lget args 2)))) (fun q0 => kf (lget [.bool q0] 0, []))) (by kernel_rfl : neweltop_TopTour_run N args T kf = fnM E (neweltop_measures_cal N) (neweltop_TopTour_lp N) (noJn) 3 (neweltop_TopTour_sp.vs args) (neweltop_TopTour_sp.tab T) 0 (resK neweltop_TopTour_rs kf)))

theorem far_eq {R : Type} (N : Nat) (l : api_Lift) (k : Bool → Option R) : newellaw05_Far N l k = k (decide ((l.Floors.n : Int) > 30)) := by rw [newellaw05_Far_def]; rfl
open Li

theorem sumTo_add (g : Nat → Int) (s : Nat) : ∀ t : Nat, sumTo g (s + t) = sumTo g s + sumTo (fun k => g (s + k)) t := by
  intro t
  induction t with
  | zero => simp [sumTo]
  | succ t ih =>
    have : sumTo g (s + (t + 1)) = sumTo g (s + t) + g (s + t + 1) := rfl
    rw [this, ih]
    show _ = sumTo g s + (sumTo (fun k => g (s + k)) t + g (s + (t + 1)))
    rw [Nat.add_assoc s t 1]
    omega

/-- Two trips one behind the other are a trip of as many ticks. -/
theorem most_super {S A : Int} (hA : 0 ≤ A) (s t : Nat) : mostS S A 0 s + mostS S A 0 t ≤ mostS S A 0 (s + t) := by
  unfold mostS
  rw [sumTo_add]
  have h1 : sumTo (mT S A 0 s) s ≤ sumTo (mT S A 0 (s + t)) s := sumTo_le fun k _ hk => by
    unfold mT
    have : ((s : Int) - k + 1) * A ≤ (((s + t : Nat) : Int) - k + 1) * A := mul_mono (by omega) hA
    omega
  have h2 : sumTo (mT S A 0 t) t ≤ sumTo (fun k => mT S A 0 (s + t) (s + k)) t := sumTo_le fun k _ hk => by
    unfold mT
    have e : (((s + t : Nat) : Int) - ((s + k : Nat) : Int) + 1) * A = ((t : Int) - k + 1) * A := by congr 1; omega
    have : (k : Int) * A ≤ ((s + k : Nat) : Int) * A := mul_mono (by omega) hA
    rw [e]
    omega
  omega

section
variable {S A : Int} (hS : 1 ≤ S) (hA : 1 ≤ A)
include hS hA
theorem ticks_sub {a b : Int} (ha : 0 ≤ a) (hb : 0 ≤ b) : ticksS S A (a + b) ≤ ticksS S A a + ticksS S A b := by
  obtain ⟨_, a2, _⟩ := ticks_spec hS hA ha
  obtain ⟨_, b2, _⟩ := ticks_spec hS hA hb
  obtain ⟨_, _, c3⟩ := ticks_spec hS hA (way := a + b) (by omega)
  have := most_super (S := S) (A := A) (by omega) (ticksS S A a) (ticksS S A b)
  rcases Nat.lt_or_ge (ticksS S A a + ticksS S A b) (ticksS S A (a + b)) with h | h
  · have := c3 _ h; omega
  · exact h
theorem ticks_mono {a b : Int} (ha : 0 ≤ a) (h : a ≤ b) : ticksS S A a ≤ ticksS S A b := by
  obtain ⟨_, _, a3⟩ := ticks_spec hS hA ha
  obtain ⟨_, b2, _⟩ := ticks_spec hS hA (way := b) (by omega)
  rcases Nat.lt_or_ge (ticksS S A b) (ticksS S A a) with g | g
  · have := a3 _ g; omega
  · exact g
theorem ticks_zero : ticksS S A 0 = 0 := by
  obtain ⟨h, _, _⟩ := ticks_spec hS hA (way := 0) (by omega)
  omega
end

/-- The ticks of the trip between two floors. -/
def tkS (l : api_Lift) (a b : Nat) : Nat := ticksS l.Speed l.Accel (wayS l a b)
theorem way_comm (l : api_Lift) (a b : Int) : wayS l a b = wayS l b a := by unfold wayS; omega
theorem tk_comm (l : api_Lift) (a b : Nat) : tkS l a b = tkS l b a := by unfold tkS; rw [way_comm]
theorem way_nonneg (l : api_Lift) (a b : Int) : 0 ≤ wayS l a b := by unfold wayS; omega
theorem tk_tri {l : api_Lift} (h : VL l) (a b c : Nat) : tkS l a c ≤ tkS l a b + tkS l b c := by
  unfold tkS
  refine Nat.le_trans (ticks_mono h.s1 h.a1 (way_nonneg _ _ _) (b := wayS l a b + wayS l b c) ?_) (ticks_sub h.s1 h.a1 (way_nonneg _ _ _) (way_nonneg _ _ _))
  unfold wayS; omega
theorem tk_self {l : api_Lift} (h : VL l) (a : Nat) : tkS l a a = 0 := by
  unfold tkS
  have : wayS l (a : Int) (a : Int) = 0 := by unfold wayS; omega
  rw [this]; exact ticks_zero h.s1 h.a1
theorem tk_apart {l : api_Lift} (h : VL l) {M : Nat} (hM : ∀ k, k + 1 < l.Floors.n → tkS l k (k + 1) ≤ M) (a : Nat) : ∀ d, a + d < l.Floors.n → tkS l a (a + d) ≤ d * M := by
  intro d
  induction d with
  | zero => intro _; rw [Nat.add_zero, tk_self h]; exact Nat.zero_le _
  | succ d ih =>
    intro hd
    have h1 := ih (by omega)
    have h2 := tk_tri h a (a + d) (a + (d + 1))
    have h3 := hM (a + d) (by omega)
    rw [Nat.add_mul, Nat.one_mul]
    have e : a + d + 1 = a + (d + 1) := by omega
    rw [e] at h3
    omega
theorem tk_bound {l : api_Lift} (h : VL l) {a b : Nat} (ha : a < l.Floors.n) (hb : b < l.Floors.n) : tkS l a b ≤ 1000 := by
  have hw := way_bounds h (a := (a : Int)) (b := (b : Int)) ⟨⟨by omega, by omega⟩, by omega, by omega⟩
  have := (ticks_spec h.s1 h.a1 hw.1).1
  unfold tkS
  omega

section
variable {R : Type}
theorem flo {l : api_Lift} {a b : Nat} (ha : a < l.Floors.n) (hb : b < l.Floors.n) : floorsP l (a : Int) (b : Int) := ⟨⟨by omega, by omega⟩, by omega, by omega⟩
theorem trip_at {N : Nat} (hN : 1001 ≤ N) {l : api_Lift} (h : VL l) {a b : Nat} (ha : a < l.Floors.n) (hb : b < l.Floors.n) :
    ∃ (f : Bool) (c : Arr Int), c.n = tkS l a b ∧ ∀ {R : Type} (k : Int → Bool → Arr Int → Option R), lift_Trip N l (a : Int) (b : Int) k = k 0 f c := by
  obtain ⟨f, c, h1, h2⟩ := Trip_eq hN l (a : Int) (b : Int)
  have e : tripErr l (a : Int) (b : Int) = 0 := tripErr_zero.2 ⟨h, flo ha hb⟩
  refine ⟨f, c, ?_, fun k => ?_⟩
  · rw [h1.len]; unfold tripN tkS; rw [if_pos e]
  · rw [h2, e]

theorem turn_at {N : Nat} (hN : 1001 ≤ N) {l : api_Lift} (h : VL l) {d : api_Door} (hd : VD d) {a b : Nat} (ha : a < l.Floors.n) (hb : b < l.Floors.n) {n : Int} (hn : 0 ≤ n ∧ n ≤ 20) (k : Int → Int → Option R) :
    lift_Turn N l d (a : Int) (b : Int) n k = k ((tkS l a b : Int) + dwellS d n) 0 := by
  rw [Turn_eq hN]
  have : turnV l d (a : Int) (b : Int) n = ((tkS l a b : Int) + dwellS d n, 0) := by
    unfold turnV
    rw [if_pos h, if_pos hd, if_pos ⟨flo ha hb, hn⟩]
    rfl
  rw [this]

theorem tour_l10 {N : Nat} (hN : 1001 ≤ N) {l : api_Lift} (h : VL l) (d : api_Door) (x : neweltop_Tour) (b : Bool) (a : Arr Int) : ∀ (r i n M : Nat), i + r + 1 = l.Floors.n → r < n → M ≤ 1000 →
    ∃ M' : Nat, M ≤ M' ∧ M' ≤ 1000 ∧ (∀ k, i ≤ k → k + 1 < l.Floors.n → tkS l k (k + 1) ≤ M') ∧ ∀ {R : Type} (kr : Bool → Option R) (k0 : Int → Option R), neweltop_TopTour_l10 N n (M : Int) ((l.Floors.n - 1 : Nat) : Int) (i : Int) l d x b a kr k0 = k0 (M' : Int) := by
  have hn2 := h.n2
  intro r
  induction r with
  | zero =>
    intro i n M h1 h2 h3
    obtain ⟨n, rfl⟩ : ∃ m, n = m + 1 := ⟨n - 1, by omega⟩
    refine ⟨M, Nat.le_refl _, h3, fun k _ _ => by omega, fun kr k0 => ?_⟩
    unfold neweltop_TopTour_l10 neweltop_TopTour_b10
    have : decide ((i : Int) < ((l.Floors.n - 1 : Nat) : Int)) = false := by simp; omega
    simp only [this, cond_false]
  | succ r ih =>
    intro i n M h1 h2 h3
    obtain ⟨n, rfl⟩ : ∃ m, n = m + 1 := ⟨n - 1, by omega⟩
    obtain ⟨f, c, t1, t2⟩ := trip_at hN h (a := i) (b := i + 1) (by omega) (by omega)
    have tb := tk_bound h (a := i) (b := i + 1) (by omega) (by omega)
    obtain ⟨M', g1, g2, g3, g4⟩ := ih (i + 1) n (max M (tkS l i (i + 1))) (by omega) (by omega) (by omega)
    refine ⟨M', by omega, g2, fun k k1 k2 => ?_, fun kr k0 => ?_⟩
    · by_cases e : k = i
      · subst e; omega
      · exact g3 k (by omega) k2
    · unfold neweltop_TopTour_l10 neweltop_TopTour_b10
      have : decide ((i : Int) < ((l.Floors.n - 1 : Nat) : Int)) = true := by simp; omega
      simp only [this, cond_true, w64_succ (show i < 1000000000000 by omega), t2, bne_self_eq_false, cond_false, t1]
      have e : (if ((tkS l i (i + 1) : Nat) : Int) > (M : Int) then ((tkS l i (i + 1) : Nat) : Int) else (M : Int)) = ((max M (tkS l i (i + 1)) : Nat) : Int) := by
        split <;> omega
      rw [e]
      exact g4 kr k0

/-- The way to an end and back, up. -/
theorem tour_up {N : Nat} (hN : 1001 ≤ N) {l : api_Lift} (h : VL l) {d : api_Door} (hd : VD d) {x : neweltop_Tour} (hx : 0 ≤ x.Most ∧ x.Most ≤ 20) {M : Nat} (hM : ∀ k, k + 1 < l.Floors.n → tkS l k (k + 1) ≤ M) (hM2 : M ≤ 1000) (x1 x2 x3 : Int) :
    ∀ (c a n : Nat) (v : Int), a + c < l.Floors.n → c < n → 0 ≤ v → v + c * 100000 ≤ 100000000 →
    ∃ r : Int, v ≤ r ∧ r ≤ v + 2 * ((c : Int) * ((M : Int) + dwellS d x.Most)) ∧ ∀ {R : Type} (kr : Bool → Option R) (k2 : Int → Option R), neweltop_TopTour_l35 N n x1 x2 x3 ((a + c : Nat) : Int) 1 v (a : Int) l d x kr k2 = k2 r := by
  have hn2 := h.n2
  have hdw := dwell_bounds hd hx.1 hx.2
  have hw1 := hd.w1; have hw2 := hd.w2; have ht1 := hd.t1; have ht2 := hd.t2
  have hD : 0 ≤ dwellS d x.Most ∧ dwellS d x.Most ≤ 7000 := by unfold dwellS; omega
  intro c
  induction c with
  | zero =>
    intro a n v h1 h2 h3 h4
    obtain ⟨n, rfl⟩ : ∃ m, n = m + 1 := ⟨n - 1, by omega⟩
    refine ⟨v, Int.le_refl _, by simp, fun kr k2 => ?_⟩
    unfold neweltop_TopTour_l35 neweltop_TopTour_b35
    simp only [Nat.add_zero, bne_self_eq_false, cond_false]
  | succ c ih =>
    intro a n v h1 h2 h3 h4
    obtain ⟨n, rfl⟩ : ∃ m, n = m + 1 := ⟨n - 1, by omega⟩
    have tb := hM a (by omega)
    have tc := tk_comm l a (a + 1)
    obtain ⟨r, r1, r2, r3⟩ := ih (a + 1) n (v + ((tkS l a (a + 1) : Int) + dwellS d x.Most + ((tkS l (a + 1) a : Int) + dwellS d x.Most))) (by omega) (by omega) (by omega) (by push_cast at h4; omega)
    refine ⟨r, by omega, ?_, fun kr k2 => ?_⟩
    · have e : ((c + 1 : Nat) : Int) * ((M : Int) + dwellS d x.Most) = (c : Int) * ((M : Int) + dwellS d x.Most) + ((M : Int) + dwellS d x.Most) := by push_cast; rw [Int.add_mul, Int.one_mul]
      rw [e]
      omega
    · unfold neweltop_TopTour_l35 neweltop_TopTour_b35
      have e1 : ((a : Int) != ((a + (c + 1) : Nat) : Int)) = true := by simp; omega
      have e2 : w64 ((a : Int) + 1) = ((a + 1 : Nat) : Int) := w64_succ (by omega)
      have e3 : a + (c + 1) = a + 1 + c := by omega
      push_cast at h4
      simp only [e1, cond_true, e2, turn_at hN h hd (show a < l.Floors.n by omega) (show a + 1 < l.Floors.n by omega) hx, turn_at hN h hd (show a + 1 < l.Floors.n by omega) (show a < l.Floors.n by omega) hx, bne_self_eq_false, cond_false]
      rw [w64_eq (n := (tkS l a (a + 1) : Int) + dwellS d x.Most + ((tkS l (a + 1) a : Int) + dwellS d x.Most)) (by omega) (by omega), w64_eq (by omega) (by omega), e3]
      exact r3 kr k2

/-- The same, down. -/
theorem tour_down {N : Nat} (hN : 1001 ≤ N) {l : api_Lift} (h : VL l) {d : api_Door} (hd : VD d) {x : neweltop_Tour} (hx : 0 ≤ x.Most ∧ x.Most ≤ 20) {M : Nat} (hM : ∀ k, k + 1 < l.Floors.n → tkS l k (k + 1) ≤ M) (hM2 : M ≤ 1000) (x1 x2 x3 : Int) :
    ∀ (c n : Nat) (v : Int), c < l.Floors.n → c < n → 0 ≤ v → v + c * 100000 ≤ 100000000 →
    ∃ r : Int, v ≤ r ∧ r ≤ v + 2 * ((c : Int) * ((M : Int) + dwellS d x.Most)) ∧ ∀ {R : Type} (kr : Bool → Option R) (k2 : Int → Option R), neweltop_TopTour_l35 N n x1 x2 x3 0 (-1) v (c : Int) l d x kr k2 = k2 r := by
  have hn2 := h.n2
  have hdw := dwell_bounds hd hx.1 hx.2
  have hw1 := hd.w1; have hw2 := hd.w2; have ht1 := hd.t1; have ht2 := hd.t2
  have hD : 0 ≤ dwellS d x.Most ∧ dwellS d x.Most ≤ 7000 := by unfold dwellS; omega
  intro c
  induction c with
  | zero =>
    intro n v h1 h2 h3 h4
    obtain ⟨n, rfl⟩ : ∃ m, n = m + 1 := ⟨n - 1, by omega⟩
    refine ⟨v, Int.le_refl _, by simp, fun kr k2 => ?_⟩
    unfold neweltop_TopTour_l35 neweltop_TopTour_b35
    have e1 : (((0 : Nat) : Int) != 0) = false := rfl
    simp only [e1, cond_false]
  | succ c ih =>
    intro n v h1 h2 h3 h4
    obtain ⟨n, rfl⟩ : ∃ m, n = m + 1 := ⟨n - 1, by omega⟩
    have tb := hM c (by omega)
    have tc := tk_comm l c (c + 1)
    obtain ⟨r, r1, r2, r3⟩ := ih n (v + ((tkS l (c + 1) c : Int) + dwellS d x.Most + ((tkS l c (c + 1) : Int) + dwellS d x.Most))) (by omega) (by omega) (by omega) (by push_cast at h4; omega)
    refine ⟨r, by omega, ?_, fun kr k2 => ?_⟩
    · have e : ((c + 1 : Nat) : Int) * ((M : Int) + dwellS d x.Most) = (c : Int) * ((M : Int) + dwellS d x.Most) + ((M : Int) + dwellS d x.Most) := by push_cast; rw [Int.add_mul, Int.one_mul]
      rw [e]
      omega
    · unfold neweltop_TopTour_l35 neweltop_TopTour_b35
      have e1 : (((c + 1 : Nat) : Int) != 0) = true := by simp; omega
      have e2 : w64 (((c + 1 : Nat) : Int) + -1) = (c : Int) := by rw [w64_eq (by omega) (by omega)]; omega
      push_cast at h4
      simp only [e1, cond_true, e2, turn_at hN h hd (show c < l.Floors.n by omega) (show c + 1 < l.Floors.n by omega) hx, turn_at hN h hd (show c + 1 < l.Floors.n by omega) (show c < l.Floors.n by omega) hx, bne_self_eq_false, cond_false]
      rw [w64_eq (n := (tkS l (c + 1) c : Int) + dwellS d x.Most + ((tkS l c (c + 1) : Int) + dwellS d x.Most)) (by omega) (by omega), w64_eq (by omega) (by omega)]
      exact r3 kr k2

/-! ### The car -/
theorem cFrom_eq (N : Nat) (n lo hi : Int) (k : Bool → Option R) : newelref07_from N n lo hi k = k (decide (lo ≤ n ∧ n ≤ hi)) := by
  rw [newelref07_from_def]
  unfold newelref07_from_m
  by_cases h : n ≥ lo
  · have : lo ≤ n := h
    simp only [h, decide_true, cond_true, this, true_and]
  · have : ¬ (lo ≤ n ∧ n ≤ hi) := fun g => h g.1
    rw [decide_eq_false this]
    simp only [h, decide_false, cond_false]
theorem cWithin_eq (N : Nat) (n lo hi : Int) (k : Bool → Option R) : calls_within N n lo hi k = k (decide (lo ≤ n ∧ n ≤ hi)) := by
  rw [calls_within_def]
  unfold calls_within_m
  by_cases h : n ≥ lo
  · have : lo ≤ n := h
    simp only [h, decide_true, cond_true, this, true_and]
  · have : ¬ (lo ≤ n ∧ n ≤ hi) := fun g => h g.1
    rw [decide_eq_false this]
    simp only [h, decide_false, cond_false]
structure VC (c : api_Car) : Prop where
  l : 0 ≤ c.Low
  s : c.Low ≤ c.Start ∧ c.Start ≤ c.High
  h : c.High ≤ 5
  m : 1 ≤ c.Move ∧ c.Move ≤ 3
  t : 1 ≤ c.Stop ∧ c.Stop ≤ 4
theorem checkCar_cases (N : Nat) (c : api_Car) (k : Int → Option R) : (VC c ∧ newelref07_CheckCar N c k = k 0) ∨ (¬ VC c ∧ newelref07_CheckCar N c k = k 70) := by
  rw [newelref07_CheckCar_def]
  unfold newelref07_CheckCar_m
  simp only [cFrom_eq]
  by_cases h1 : c.Low < 0
  · exact .inr ⟨fun g => by have := g.l; omega, by simp only [h1, decide_true, cond_true]⟩
  by_cases h2 : c.Low ≤ c.Start ∧ c.Start ≤ c.High
  rotate_left
  · exact .inr ⟨fun g => h2 g.s, by simp only [h1, h2, decide_false, Bool.not_false, cond_true, cond_false]⟩
  by_cases h3 : c.High > 5
  · exact .inr ⟨fun g => by have := g.h; omega, by simp only [h1, h2, h3, decide_true, decide_false, Bool.not_true, cond_true, cond_false, and_self]⟩
  by_cases h4 : 1 ≤ c.Move ∧ c.Move ≤ 3
  rotate_left
  · exact .inr ⟨fun g => h4 g.m, by simp only [h1, h2, h3, h4, decide_true, decide_false, Bool.not_true, Bool.not_false, cond_true, cond_false, and_self]⟩
  by_cases h5 : 1 ≤ c.Stop ∧ c.Stop ≤ 4
  rotate_left
  · exact .inr ⟨fun g => h5 g.t, by simp only [h1, h2, h3, h4, h5, decide_true, decide_false, Bool.not_true, Bool.not_false, cond_true, cond_false, and_self]⟩
  exact .inl ⟨⟨by omega, h2, by omega, h4, h5⟩, by simp only [h1, h2, h3, h4, h5, decide_true, decide_false, Bool.not_true, cond_false, and_self]⟩
/-- The longest wait at a floor. -/
def worstS (c : api_Car) (f : Int) : Int := if max (c.High - f) (f - c.Low) = 0 then 0 else 2 * max (c.High - f) (f - c.Low) * c.Move + (2 * max (c.High - f) (f - c.Low) - 1) * c.Stop
theorem Worst_eq (N : Nat) {c : api_Car} (h : VC c) {f : Int} (hf : c.Low ≤ f ∧ f ≤ c.High) (k : Int → Int → Option R) : calls_Worst N c f k = k (worstS c f) 0 := by
  rw [calls_Worst_def]
  unfold calls_Worst_m
  rw [calls_serves_def]
  unfold calls_serves_m
  rw [calls_valid_def]
  unfold calls_valid_m
  have hl := h.l
  have hh := h.h
  have hm := h.m
  have ht := h.t
  have c1 : c.Low ≥ 0 := hl
  have c2 : c.High ≤ 5 := hh
  simp only [cWithin_eq, h.s, hm, ht, hf, c1, c2, and_self, decide_true, cond_true, Bool.not_true, cond_false, bne_self_eq_false]
  rw [calls_worst_def]
  unfold calls_worst_m
  rw [calls_far_def]
  unfold calls_far_m
  rw [w64_eq (n := f - c.Low) (by omega) (by omega), w64_eq (n := c.High - f) (by omega) (by omega)]
  have e : (if f - c.Low > c.High - f then f - c.Low else c.High - f) = max (c.High - f) (f - c.Low) := by split <;> omega
  rw [e]
  unfold worstS
  by_cases h0 : max (c.High - f) (f - c.Low) = 0
  · have : (max (c.High - f) (f - c.Low) == 0) = true := by simpa using h0
    rw [if_pos h0]
    simp only [this, cond_true]
  · have : (max (c.High - f) (f - c.Low) == 0) = false := by simpa using h0
    rw [if_neg h0]
    simp only [this, cond_false]
    generalize hg : max (c.High - f) (f - c.Low) = g at *
    have hg1 : 1 ≤ g ∧ g ≤ 5 := by omega
    have p1 := mul_range (a := 2 * g) (b := c.Move) (A := 10) (B := 3) (by omega) (by omega) (by omega) (by omega)
    have p2 := mul_range (a := 2 * g - 1) (b := c.Stop) (A := 10) (B := 4) (by omega) (by omega) (by omega) (by omega)
    rw [w64_eq (n := 2 * g) (by omega) (by omega), w64_eq (n := 2 * g - 1) (by omega) (by omega), w64_eq (n := 2 * g * c.Move) (by omega) (by omega), w64_eq (n := (2 * g - 1) * c.Stop) (by omega) (by omega), w64_eq (by omega) (by omega)]
end

theorem topTour_true (l : api_Lift) (d : api_Door) (x : neweltop_Tour) (hl : l.wf) (hd : d.wf) (hx : x.wf) : ∃ N, neweltop_TopTour N l d x (fun q0 => okK (lget [.bool q0] 0, [])) = some () := by
  classical
  refine ⟨20000 + x.Breaks.n, ?_⟩
  have hN : 20000 ≤ 20000 + x.Breaks.n := by omega
  have hNb : x.Breaks.n < 20000 + x.Breaks.n := by omega
  generalize 20000 + x.Breaks.n = N at *
  rw [neweltop_TopTour_def]
  unfold neweltop_TopTour_m
  have htr : okK (lget [SV.bool true] 0, []) = some () := rfl
  simp only [far_eq, neweltop_measures_eq, htr, refCheck_eq (show 20 ≤ N by omega), refCheckDoor_eq]
  cases decide ((l.Floors.n : Int) > 30)
  rotate_left
  · rfl
  by_cases hv : VL l
  rotate_left
  · have : (checkV l != 0) = true := by rw [checkV_ne hv]; rfl
    simp only [cond_false, this, cond_true]
  by_cases hdv : VD d
  rotate_left
  · have : (doorV d != 0) = true := by rw [doorV_ne hdv]; rfl
    simp only [cond_false, checkV_pos hv, bne_self_eq_false, this, cond_true]
  simp only [cond_false, checkV_pos hv, doorV_pos hdv, bne_self_eq_false, Floors_eq hv]
  by_cases h1 : floorsP l x.From x.Over
  rotate_left
  · simp only [h1, decide_false, Bool.not_false, cond_true]
  by_cases h2 : floorsP l x.To x.Over
  rotate_left
  · simp only [h1, h2, decide_true, decide_false, Bool.not_false, Bool.not_true, cond_true, cond_false]
  simp only [h1, h2, decide_true, Bool.not_true, cond_false]
  have hbn : x.Breaks.n ≤ 9223372036854775807 := hx.2.2.2.1.1
  rw [Breaks_eq hbn hNb]
  by_cases h3 : brP x.Breaks
  rotate_left
  · simp only [h3, decide_false, Bool.not_false, cond_true]
  simp only [h3, decide_true, Bool.not_true, cond_false]
  by_cases h4 : x.Most < 0
  · simp only [h4, decide_true, cond_true]
  by_cases h5 : (x.Breaks.n : Int) > x.Most
  · simp only [h4, h5, decide_true, decide_false, cond_true, cond_false]
  by_cases h6 : x.Most > 20
  · simp only [h4, h5, h6, decide_true, decide_false, cond_true, cond_false]
  simp only [h4, h5, h6, decide_false, cond_false]
  have n1 := hv.n1
  have n2 := hv.n2
  obtain ⟨⟨f1, f2⟩, o1, o2⟩ := h1
  obtain ⟨⟨t1, t2⟩, _⟩ := h2
  obtain ⟨f, hf⟩ : ∃ f : Nat, x.From = (f : Int) := ⟨x.From.toNat, by omega⟩
  obtain ⟨o, ho⟩ : ∃ o : Nat, x.Over = (o : Int) := ⟨x.Over.toNat, by omega⟩
  obtain ⟨t, ht⟩ : ∃ t : Nat, x.To = (t : Int) := ⟨x.To.toNat, by omega⟩
  have hfn : f < l.Floors.n := by omega
  have hon : o < l.Floors.n := by omega
  have htn : t < l.Floors.n := by omega
  rw [hf, ho, ht]
  obtain ⟨_, a1, p1, q1⟩ := trip_at (N := N) (by omega) hv hfn htn
  obtain ⟨_, a2, p2, q2⟩ := trip_at (N := N) (by omega) hv hfn hon
  obtain ⟨_, a3, p3, q3⟩ := trip_at (N := N) (by omega) hv hon htn
  have b1 := tk_bound hv hfn htn
  have b2 := tk_bound hv hfn hon
  have b3 := tk_bound hv hon htn
  have tri := tk_tri hv f o t
  rw [q1, q2, q3]
  have w1 : w64 ((a2.n : Int) + (a3.n : Int)) = ((a2.n + a3.n : Nat) : Int) := by rw [w64_eq (by omega) (by omega)]; simp
  have c1 : decide ((a1.n : Int) > w64 ((a2.n : Int) + (a3.n : Int))) = false := by rw [w1]; simp; omega
  simp only [bne_self_eq_false, cond_false, c1]
  have hlast : w64 ((l.Floors.n : Int) - 1) = ((l.Floors.n - 1 : Nat) : Int) := by rw [w64_eq (by omega) (by omega)]; omega
  rw [hlast]
  obtain ⟨M, m1, m2, m3, m4⟩ := tour_l10 (N := N) (by omega) hv d x _ a1 (l.Floors.n - 1) 0 N 0 (by omega) (by omega) (by omega)
  refine (m4 _ _).trans ?_
  have hM : ∀ k, k + 1 < l.Floors.n → tkS l k (k + 1) ≤ M := fun k hk => m3 k (Nat.zero_le _) hk
  have hmo : 0 ≤ x.Most ∧ x.Most ≤ 20 := by omega
  have hdw : dwellV d x.Most = (dwellS d x.Most, 0) := by unfold dwellV; rw [if_pos hdv, if_pos hmo]
  have hdb := dwell_bounds hdv hmo.1 hmo.2
  have w1' := hdv.w1; have w2' := hdv.w2; have t1' := hdv.t1; have t2' := hdv.t2
  have hD : 0 ≤ dwellS d x.Most ∧ dwellS d x.Most ≤ 7000 := by unfold dwellS; omega
  obtain ⟨_, a4, d1, d2⟩ := Doors_eq (N := N) (by omega) d x.Breaks (by omega) hNb
  have hde : doorsE d x.Breaks = 0 := doorsE_zero.2 ⟨hdv, h3⟩
  obtain ⟨_, d3, d4⟩ := doors_all hdv h3
  have d5 : dwellS d x.Breaks.n ≤ dwellS d x.Most := by
    unfold dwellS
    have := Int.mul_le_mul_of_nonneg_right (show (x.Breaks.n : Int) ≤ x.Most by omega) (show 0 ≤ 2 * d.Wide + d.Wait - 2 by omega)
    omega
  rw [Dwell_eq, hdw, d2, hde]
  -- how far apart
  have hap : tkS l f t ≤ (max (t - f) (f - t)) * M := by
    rcases Nat.le_total f t with g | g
    · have := tk_apart hv hM f (t - f) (by omega)
      rw [show f + (t - f) = t by omega] at this
      rw [show max (t - f) (f - t) = t - f by omega]
      exact this
    · have := tk_apart hv hM t (f - t) (by omega)
      rw [show t + (f - t) = f by omega] at this
      rw [show max (t - f) (f - t) = f - t by omega, tk_comm]
      exact this
  have e1 : (if w64 ((t : Int) - (f : Int)) > w64 ((f : Int) - (t : Int)) then w64 ((t : Int) - (f : Int)) else w64 ((f : Int) - (t : Int))) = ((max (t - f) (f - t) : Nat) : Int) := by
    rw [w64_eq (n := (t : Int) - (f : Int)) (by omega) (by omega), w64_eq (n := (f : Int) - (t : Int)) (by omega) (by omega)]
    split <;> omega
  have hapB : max (t - f) (f - t) ≤ 16 := by omega
  have hapM := Nat.mul_le_mul hapB m2
  have e2 : w64 (((max (t - f) (f - t) : Nat) : Int) * (M : Int)) = (((max (t - f) (f - t)) * M : Nat) : Int) := by rw [w64_eq (by rw [← Int.natCast_mul]; omega) (by rw [← Int.natCast_mul]; omega)]; simp
  have e3 : w64 ((((max (t - f) (f - t)) * M : Nat) : Int) + dwellS d x.Most) = (((max (t - f) (f - t)) * M : Nat) : Int) + dwellS d x.Most := w64_eq (by omega) (by omega)
  have e4 : w64 ((a1.n : Int) + (a4.n : Int)) = ((a1.n + a4.n : Nat) : Int) := by rw [w64_eq (by rw [d1.len]; omega) (by rw [d1.len]; omega)]; simp
  have c2 : decide (((a1.n + a4.n : Nat) : Int) > (((max (t - f) (f - t)) * M : Nat) : Int) + dwellS d x.Most) = false := by
    rw [decide_eq_false_iff_not, d1.len]; omega
  simp only [bne_self_eq_false, cond_false, e1, e2, e3, e4, c2]
  rcases checkCar_cases N ⟨0, ((l.Floors.n - 1 : Nat) : Int), (f : Int), (M : Int), dwellS d x.Most⟩ (fun r243 => bif r243 != (0 : Int) then some () else calls_Worst N ⟨0, ((l.Floors.n - 1 : Nat) : Int), (f : Int), (M : Int), dwellS d x.Most⟩ (f : Int) (fun r245 r246 => none)) with ⟨hc, _⟩ | ⟨hc, _⟩
  rotate_left
  · rcases checkCar_cases N ⟨0, ((l.Floors.n - 1 : Nat) : Int), (f : Int), (M : Int), dwellS d x.Most⟩ _ with ⟨hc', _⟩ | ⟨_, he⟩
    · exact absurd hc' hc
    · refine he.trans ?_
      rfl
  · rcases checkCar_cases N ⟨0, ((l.Floors.n - 1 : Nat) : Int), (f : Int), (M : Int), dwellS d x.Most⟩ _ with ⟨_, he⟩ | ⟨hc', _⟩
    rotate_left
    · exact absurd hc hc'
    refine he.trans ?_
    have hcs := hc.s
    have hch : ((l.Floors.n - 1 : Nat) : Int) ≤ 5 := hc.h
    have hcm : 1 ≤ (M : Int) ∧ (M : Int) ≤ 3 := hc.m
    have hct : 1 ≤ dwellS d x.Most ∧ dwellS d x.Most ≤ 4 := hc.t
    simp only [bne_self_eq_false, cond_false, Worst_eq N hc (f := (f : Int)) ⟨by show (0 : Int) ≤ f; omega, by show (f : Int) ≤ ((l.Floors.n - 1 : Nat) : Int); omega⟩]
    have e5 : w64 (((l.Floors.n - 1 : Nat) : Int) - (f : Int)) = ((l.Floors.n - 1 - f : Nat) : Int) := by rw [w64_eq (by omega) (by omega)]; omega
    rw [e5]
    -- the end of the way
    have fin : ∀ (c : Nat) (r W : Int), (c : Int) = max (((l.Floors.n - 1 : Nat) : Int) - (f : Int)) ((f : Int) - 0) → 0 ≤ r → r ≤ 0 + 2 * ((c : Int) * ((M : Int) + dwellS d x.Most)) → W = worstS ⟨0, ((l.Floors.n - 1 : Nat) : Int), (f : Int), (M : Int), dwellS d x.Most⟩ (f : Int) →
        (bif decide (r > 0) then bif (0 : Int) == 0 then bif decide (w64 (r - dwellS d x.Most) ≤ W) then some () else none else none else bif (0 : Int) == 0 then bif decide (r ≤ W) then some () else none else none) = some () := fun c r W g1 g2 g3 g4 => by
      have hc1 : 1 ≤ c ∧ c ≤ 5 := by omega
      have hW : W = 2 * (c : Int) * (M : Int) + (2 * (c : Int) - 1) * dwellS d x.Most := by
        rw [g4]
        unfold worstS
        show (if max (((l.Floors.n - 1 : Nat) : Int) - (f : Int)) ((f : Int) - 0) = 0 then 0 else _) = _
        rw [← g1, if_neg (by omega)]
      have k1 : (c : Int) * ((M : Int) + dwellS d x.Most) = (c : Int) * (M : Int) + (c : Int) * dwellS d x.Most := Int.mul_add _ _ _
      have k2 : 2 * (c : Int) * (M : Int) = 2 * ((c : Int) * (M : Int)) := Int.mul_assoc _ _ _
      have k3 : (2 * (c : Int) - 1) * dwellS d x.Most = 2 * ((c : Int) * dwellS d x.Most) - dwellS d x.Most := by rw [Int.sub_mul, Int.one_mul, Int.mul_assoc]
      have k4 := mul_range (a := (c : Int)) (b := (M : Int)) (A := 5) (B := 3) (by omega) (by omega) (by omega) (by omega)
      have k5 := mul_range (a := (c : Int)) (b := dwellS d x.Most) (A := 5) (B := 4) (by omega) (by omega) (by omega) (by omega)
      have k7 := Int.mul_le_mul_of_nonneg_right (show (1 : Int) ≤ (c : Int) by omega) hD.1
      rw [Int.one_mul] at k7
      have e0 : ((0 : Int) == 0) = true := rfl
      by_cases hr : r > 0
      · have : w64 (r - dwellS d x.Most) ≤ W := by rw [w64_eq (by omega) (by omega), hW]; omega
        simp only [hr, this, decide_true, cond_true, e0]
      · have k6 : r ≤ W := by rw [hW]; omega
        simp only [hr, k6, decide_true, decide_false, cond_true, cond_false, e0]
    by_cases g : ((l.Floors.n - 1 - f : Nat) : Int) > (f : Int)
    · have g' : ¬ (((l.Floors.n - 1 : Nat) : Int) < (f : Int)) := by omega
      simp only [g, g', decide_true, decide_false, cond_true, cond_false]
      obtain ⟨r, r1, r2, r3⟩ := tour_up (N := N) (by omega) hv hdv hmo hM m2 (dwellS d x.Most) (worstS ⟨0, ((l.Floors.n - 1 : Nat) : Int), (f : Int), (M : Int), dwellS d x.Most⟩ (f : Int)) 0 (l.Floors.n - 1 - f) f N 0 (by omega) (by omega) (by omega) (by omega)
      rw [show f + (l.Floors.n - 1 - f) = l.Floors.n - 1 by omega] at r3
      refine (r3 _ _).trans ?_
      exact fin (l.Floors.n - 1 - f) r _ (by omega) r1 r2 rfl
    · have g' : (0 : Int) < (f : Int) := by omega
      simp only [g, g', decide_true, decide_false, cond_true, cond_false]
      obtain ⟨r, r1, r2, r3⟩ := tour_down (N := N) (by omega) hv hdv hmo hM m2 (dwellS d x.Most) (worstS ⟨0, ((l.Floors.n - 1 : Nat) : Int), (f : Int), (M : Int), dwellS d x.Most⟩ (f : Int)) 0 f N 0 (by omega) (by omega) (by omega) (by omega)
      refine (r3 _ _).trans ?_
      exact fin f r _ (by omega) r1 r2 rfl
end
end Go.Proofs.Ytpillmoddoccfab
