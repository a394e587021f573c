/-
  The model of the statement TopRoped, that it is what the code does (written by a program), and that it answers true.
-/
import Derived.Test.YtpillmoddoccfabChWeP2
set_option maxRecDepth 100000
set_option maxHeartbeats 0
set_option linter.unusedVariables false
set_option linter.unusedSimpArgs false
namespace Go.Proofs.Ytpillmoddoccfab
open Go.Sx
noncomputable section

def neweltop_TopRoped_L8 : LoopSp := ⟨⟨[3, 5, 7, 9, 10, 11], ⟨(dr 3 ((rPtr 0 0) :: (dr 1 ((rPtr 1 0) :: (dr 1 ((rRow 2) :: (dr 1 ((rPtr 3 0) :: (rPtr 4 0) :: (rInt .i64) :: (dr 187 []))))))))), [(0, eBlkC api_CarC), (1, eBlkC neweltop_WorkedC), (2, eRow api_RideC), (3, eBlkC api_UseC), (4, eBlkC api_UseC)]⟩, 5⟩, [(some 0, ⟨[5, 9, 10], ⟨(dr 5 ((rPtr 0 0) :: (dr 3 ((rPtr 1 0) :: (rPtr 2 0) :: (dr 188 []))))), [(0, eBlkC neweltop_WorkedC), (1, eBlkC api_UseC), (2, eBlkC api_UseC)]⟩, 3⟩)]⟩
theorem neweltop_TopRoped_L8_ok : neweltop_TopRoped_L8.Ok := ⟨⟨(drCons 3 (allCons (rPtr_ok 0 0) (drCons 1 (allCons (rPtr_ok 1 0) (drCons 1 (allCons (rRow_ok 2) (drCons 1 (allCons (rPtr_ok 3 0) (allCons (rPtr_ok 4 0) (allCons (rInt_ok .i64) (drCons 187 allNil))))))))))), (eCons (eBlkC_ok api_CarC_ok api_CarC_len) (eCons (eBlkC_ok neweltop_WorkedC_ok neweltop_WorkedC_len) (eCons (eRow_ok api_RideC_ok) (eCons (eBlkC_ok api_UseC_ok api_UseC_len) (eCons (eBlkC_ok api_UseC_ok api_UseC_len) eNil)))))⟩, (xCons ⟨(drCons 5 (allCons (rPtr_ok 0 0) (drCons 3 (allCons (rPtr_ok 1 0) (allCons (rPtr_ok 2 0) (drCons 188 allNil)))))), (eCons (eBlkC_ok neweltop_WorkedC_ok neweltop_WorkedC_len) (eCons (eBlkC_ok api_UseC_ok api_UseC_len) (eCons (eBlkC_ok api_UseC_ok api_UseC_len) eNil)))⟩ xNil)⟩
def neweltop_TopRoped_h8 (v222 : Int) (v223 : api_Car) (v224 : neweltop_Worked) (v225 : Bool) (v226 : Arr api_Ride) (v227 : api_Use) (v228 : api_Use) : St := ⟨(un 3 ((.ptr 0 0) :: (un 1 ((.ptr 1 0) :: (un 1 ((.row 2) :: (un 1 ((.ptr 3 0) :: (.ptr 4 0) :: (.int .i64 v222) :: (un 187 []))))))))), [(0, .blk (Cod.enc api_CarC v223)), (1, .blk (Cod.enc neweltop_WorkedC v224)), (2, rowE api_RideC v225 v226), (3, .blk (Cod.enc api_UseC v227)), (4, .blk (Cod.enc api_UseC v228))], 5⟩
def neweltop_TopRoped_x8_0 (v224 : neweltop_Worked) (q1 : api_Use) (q2 : api_Use) : St := ⟨(un 5 ((.ptr 0 0) :: (un 3 ((.ptr 1 0) :: (.ptr 2 0) :: (un 188 []))))), [(0, .blk (Cod.enc neweltop_WorkedC v224)), (1, .blk (Cod.enc api_UseC q1)), (2, .blk (Cod.enc api_UseC q2))], 3⟩
def neweltop_TopRoped_b8 {R : Type} (N : Nat) (rc : Int → api_Car → neweltop_Worked → Bool → Arr api_Ride → api_Use → api_Use → Option R) (v222 : Int) (v223 : api_Car) (v224 : neweltop_Worked) (v225 : Bool) (v226 : Arr api_Ride) (v227 : api_Use) (v228 : api_Use) (k0 : api_Use → api_Use → Option R) : Option R :=
  bif decide (v222 < (↑(Arr.n v226) : Int)) then
   bif decide ((0 : Int) ≤ v222) && decide (v222 < (↑(Arr.n v226) : Int)) then
    bif api_Ride.Doing (Arr.f v226 (Int.toNat v222)) == (1 : Int) then
     bif decide ((0 : Int) ≤ v222) && decide (v222 < (↑(Arr.n v226) : Int)) then
      bif api_Ride.Left (Arr.f v226 (Int.toNat v222)) == api_Car.Move v223 then
       bif decide (v222 < neweltop_Worked.Split v224) then
        rc (w64 (v222 + (1 : Int))) v223 v224 v225 v226 (api_Use.mk (api_Use.Day v227) (w64 (api_Use.Turns v227 + (1 : Int))) (api_Use.Class v227) (api_Use.Measured v227) (api_Use.Says v227)) v228
       else
        rc (w64 (v222 + (1 : Int))) v223 v224 v225 v226 v227 (api_Use.mk (api_Use.Day v228) (w64 (api_Use.Turns v228 + (1 : Int))) (api_Use.Class v228) (api_Use.Measured v228) (api_Use.Says v228))
      else
       rc (w64 (v222 + (1 : Int))) v223 v224 v225 v226 v227 v228
     else
      Option.none
    else
     rc (w64 (v222 + (1 : Int))) v223 v224 v225 v226 v227 v228
   else
    Option.none
  else
   k0 v227 v228
def neweltop_TopRoped_l8 {R : Type} (N : Nat) : Nat → Int → api_Car → neweltop_Worked → Bool → Arr api_Ride → api_Use → api_Use → (api_Use → api_Use → Option R) → Option R
  | 0, _, _, _, _, _, _, _, _ => Option.none
  | n + 1, v222, v223, v224, v225, v226, v227, v228, k0 => neweltop_TopRoped_b8 N (fun v222 v223 v224 v225 v226 v227 v228 => neweltop_TopRoped_l8 N n v222 v223 v224 v225 v226 v227 v228 k0) v222 v223 v224 v225 v226 v227 v228 k0


def neweltop_TopRoped_m {R : Type} (N : Nat) (a207 : api_Car) (a208 : Arr api_Press) (a209 : neweltop_Worked) (k : Bool → Option R) : Option R :=
  newelref07_Check N a207 a208 (fun r210 =>
  bif r210 != (0 : Int) then
   neweltop_measures N  (fun r211 =>
   k r211)
  else
   bif decide ((↑(Arr.n a208) : Int) > (20 : Int)) then
    neweltop_measures N  (fun r212 =>
    k r212)
   else
    newelref02_CheckPart N (neweltop_Worked.Part a209) (lst api_UseC (0 : Nat) (zeroC [SV.int IntKind.i64 (0 : Int), SV.int IntKind.i64 (0 : Int), SV.int IntKind.i64 (0 : Int), SV.bool false, SV.int IntKind.i64 (0 : Int), SV.int IntKind.i64 (0 : Int)])) (fun r213 =>
    bif r213 != (0 : Int) then
     neweltop_measures N  (fun r214 =>
     k r214)
    else
     bif decide (neweltop_Worked.Class a209 < (0 : Int)) then
      neweltop_measures N  (fun r215 =>
      k r215)
     else
      bif decide (neweltop_Worked.Class a209 ≥ (↑(Arr.n (api_Part.Rates (neweltop_Worked.Part a209))) : Int)) then
       neweltop_measures N  (fun r216 =>
       k r216)
      else
       bif decide (neweltop_Worked.Split a209 < (0 : Int)) then
        neweltop_measures N  (fun r217 =>
        k r217)
       else
        bif decide (neweltop_Worked.Split a209 > (100 : Int)) then
         neweltop_measures N  (fun r218 =>
         k r218)
        else
         calls_Play N a207 a208 (100 : Int) (fun r219 r220 r221 =>
         bif r219 != (0 : Int) then
          k false
         else
          bif (↑(Arr.n r221) : Int) != (100 : Int) then
           k false
          else
           neweltop_TopRoped_l8 N N (0 : Int) a207 a209 r220 r221 (api_Use.mk (1 : Int) (0 : Int) (neweltop_Worked.Class a209) false (api_Span.mk (0 : Int) (0 : Int))) (api_Use.mk (1 : Int) (0 : Int) (neweltop_Worked.Class a209) false (api_Span.mk (0 : Int) (0 : Int))) (fun r229 r230 =>
            chain_Beyond N (neweltop_Worked.Part a209) (lst api_UseC (1 : Nat) (litC [SV.int IntKind.i64 (0 : Int), SV.int IntKind.i64 (0 : Int), SV.int IntKind.i64 (0 : Int), SV.bool false, SV.int IntKind.i64 (0 : Int), SV.int IntKind.i64 (0 : Int)] [[SV.int IntKind.i64 (1 : Int), SV.int IntKind.i64 (w64 (api_Use.Turns r229 + api_Use.Turns r230)), SV.int IntKind.i64 (neweltop_Worked.Class a209), SV.bool false, SV.int IntKind.i64 (0 : Int), SV.int IntKind.i64 (0 : Int)]])) (fun r231 r232 =>
            chain_Beyond N (neweltop_Worked.Part a209) (lst api_UseC (2 : Nat) (litC [SV.int IntKind.i64 (0 : Int), SV.int IntKind.i64 (0 : Int), SV.int IntKind.i64 (0 : Int), SV.bool false, SV.int IntKind.i64 (0 : Int), SV.int IntKind.i64 (0 : Int)] [[SV.int IntKind.i64 (api_Use.Day r229), SV.int IntKind.i64 (api_Use.Turns r229), SV.int IntKind.i64 (api_Use.Class r229), SV.bool (api_Use.Measured r229), SV.int IntKind.i64 (api_Span.Low (api_Use.Says r229)), SV.int IntKind.i64 (api_Span.High (api_Use.Says r229))], [SV.int IntKind.i64 (api_Use.Day r230), SV.int IntKind.i64 (api_Use.Turns r230), SV.int IntKind.i64 (api_Use.Class r230), SV.bool (api_Use.Measured r230), SV.int IntKind.i64 (api_Span.Low (api_Use.Says r230)), SV.int IntKind.i64 (api_Span.High (api_Use.Says r230))]])) (fun r233 r234 =>
            chain_Wear N (neweltop_Worked.Part a209) (lst api_UseC (1 : Nat) (litC [SV.int IntKind.i64 (0 : Int), SV.int IntKind.i64 (0 : Int), SV.int IntKind.i64 (0 : Int), SV.bool false, SV.int IntKind.i64 (0 : Int), SV.int IntKind.i64 (0 : Int)] [[SV.int IntKind.i64 (1 : Int), SV.int IntKind.i64 (w64 (api_Use.Turns r229 + api_Use.Turns r230)), SV.int IntKind.i64 (neweltop_Worked.Class a209), SV.bool false, SV.int IntKind.i64 (0 : Int), SV.int IntKind.i64 (0 : Int)]])) (fun r235 r236 r237 =>
            chain_Wear N (neweltop_Worked.Part a209) (lst api_UseC (2 : Nat) (litC [SV.int IntKind.i64 (0 : Int), SV.int IntKind.i64 (0 : Int), SV.int IntKind.i64 (0 : Int), SV.bool false, SV.int IntKind.i64 (0 : Int), SV.int IntKind.i64 (0 : Int)] [[SV.int IntKind.i64 (api_Use.Day r229), SV.int IntKind.i64 (api_Use.Turns r229), SV.int IntKind.i64 (api_Use.Class r229), SV.bool (api_Use.Measured r229), SV.int IntKind.i64 (api_Span.Low (api_Use.Says r229)), SV.int IntKind.i64 (api_Span.High (api_Use.Says r229))], [SV.int IntKind.i64 (api_Use.Day r230), SV.int IntKind.i64 (api_Use.Turns r230), SV.int IntKind.i64 (api_Use.Class r230), SV.bool (api_Use.Measured r230), SV.int IntKind.i64 (api_Span.Low (api_Use.Says r230)), SV.int IntKind.i64 (api_Span.High (api_Use.Says r230))]])) (fun r238 r239 r240 =>
            bif r232 == (0 : Int) then
             bif r234 == (0 : Int) then
              bif r235 == (0 : Int) then
               bif r238 == (0 : Int) then
                bif decide (r231 < (0 : Int)) == decide (r233 < (0 : Int)) then
                 bif (↑(Arr.n r237) : Int) == (1 : Int) then
                  bif (↑(Arr.n r240) : Int) == (2 : Int) then
                   bif decide ((0 : Int) < (↑(Arr.n r237) : Int)) then
                    bif decide ((1 : Int) < (↑(Arr.n r240) : Int)) then
                     bif api_Span.Low (Arr.f r237 (Int.toNat (0 : Int))) == api_Span.Low (Arr.f r240 (Int.toNat (1 : Int))) && (api_Span.High (Arr.f r237 (Int.toNat (0 : Int))) == api_Span.High (Arr.f r240 (Int.toNat (1 : Int))) && true) then
                      neweltop_measures N  (fun r241 =>
                      k r241)
                     else
                      k false
                    else
                     Option.none
                   else
                    Option.none
                  else
                   k false
                 else
                  k false
                else
                 k false
               else
                k false
              else
               k false
             else
              k false
            else
             k false))))))))
noncomputable def neweltop_TopRoped {R : Type} : Nat → api_Car → Arr api_Press → neweltop_Worked → (Bool → Option R) → Option R := lock (@neweltop_TopRoped_m R)
theorem neweltop_TopRoped_def {R : Type} (N : Nat) (a207 : api_Car) (a208 : Arr api_Press) (a209 : neweltop_Worked) (k : Bool → Option R) : neweltop_TopRoped N a207 a208 a209 k = neweltop_TopRoped_m N a207 a208 a209 k := by unfold neweltop_TopRoped; rw [lock_eq]
def neweltop_TopRoped_sp : Sp := ⟨[rAgg api_CarC, rSl api_PressC, rAgg neweltop_WorkedC], []⟩
theorem neweltop_TopRoped_sp_ok : neweltop_TopRoped_sp.Ok := ⟨(allCons (rAgg_ok api_CarC_ok api_CarC_len) (allCons (rSl_ok api_PressC_ok) (allCons (rAgg_ok neweltop_WorkedC_ok neweltop_WorkedC_len) allNil))), eNil⟩
def neweltop_TopRoped_rs : Sp := ⟨[rBool], []⟩
theorem neweltop_TopRoped_rs_ok : neweltop_TopRoped_rs.Ok := ⟨(allCons rBool_ok allNil), eNil⟩
def neweltop_TopRoped_run {R : Type} (N : Nat) (args : List SV) (T : Tab) (kf : SV × Tab → Option R) : Option R :=
  neweltop_TopRoped_m N (Cod.dec api_CarC (lget (toCs (lget args 0)))) (lstC api_PressC (lget args 1)) (Cod.dec neweltop_WorkedC (lget (toCs (lget args 2)))) (fun q0 => kf (lget [.bool q0] 0, []))
def neweltop_TopRoped_d8 {R : Type} (N : Nat) (S0 : St) (k : Exit → St → Option R) : Option R :=
  neweltop_TopRoped_l8 N N (toI (lget S0.tmps 11)) (Cod.dec api_CarC (lget (entCs (entAt S0.tab 0)))) (Cod.dec neweltop_WorkedC (lget (entCs (entAt S0.tab 1)))) (entNl (entAt S0.tab 2)) (lst api_RideC (entN (entAt S0.tab 2)) (entC (entAt S0.tab 2))) (Cod.dec api_UseC (lget (entCs (entAt S0.tab 3)))) (Cod.dec api_UseC (lget (entCs (entAt S0.tab 4)))) (fun q1 q2 => k (.exit 0) (neweltop_TopRoped_x8_0 (Cod.dec neweltop_WorkedC (lget (entCs (entAt S0.tab 1)))) q1 q2))
def neweltop_TopRoped_lp {R : Type} (N : Nat) : Lp R := fun body S k => bif (Go.Sx.keyOf body).getD 0 == 8 then neweltop_TopRoped_L8.head.raw 0 S (fun S0 => neweltop_TopRoped_d8 N S0 k) else Option.none
theorem neweltop_TopRoped_l8_eq {R : Type} (N : Nat) (k : Exit → St → Option R) (n : Nat) : ∀ (v0 : Int) (v1 : api_Car) (v2 : neweltop_Worked) (v3 : Bool) (v4 : Arr api_Ride) (v5 : api_Use) (v6 : api_Use), loopM E.Θ (neweltop_measures_cal N) (neweltop_TopRoped_lp N) (noJn) 0 neweltop_TopRoped_L8 (bodyAt E 6 8) n (neweltop_TopRoped_h8 v0 v1 v2 v3 v4 v5 v6) k = neweltop_TopRoped_l8 N n v0 v1 v2 v3 v4 v5 v6 (fun q1 q2 => k (.exit 0) (neweltop_TopRoped_x8_0 v2 q1 q2)) := by
  induction n with
  | zero => intro v0 v1 v2 v3 v4 v5 v6; rfl
  | succ n ih =>
    intro v0 v1 v2 v3 v4 v5 v6
    refine Eq.trans (b := neweltop_TopRoped_b8 N (fun v0 v1 v2 v3 v4 v5 v6 => loopM E.Θ (neweltop_measures_cal N) (neweltop_TopRoped_lp N) (noJn) 0 neweltop_TopRoped_L8 (bodyAt E 6 8) n (neweltop_TopRoped_h8 v0 v1 v2 v3 v4 v5 v6) k) v0 v1 v2 v3 v4 v5 v6 (fun q1 q2 => k (.exit 0) (neweltop_TopRoped_x8_0 v2 q1 q2))) (by kernel_rfl) ?_
    have h : (fun (v0 : Int) (v1 : api_Car) (v2 : neweltop_Worked) (v3 : Bool) (v4 : Arr api_Ride) (v5 : api_Use) (v6 : api_Use) => loopM E.Θ (neweltop_measures_cal N) (neweltop_TopRoped_lp N) (noJn) 0 neweltop_TopRoped_L8 (bodyAt E 6 8) n (neweltop_TopRoped_h8 v0 v1 v2 v3 v4 v5 v6) k) = (fun (v0 : Int) (v1 : api_Car) (v2 : neweltop_Worked) (v3 : Bool) (v4 : Arr api_Ride) (v5 : api_Use) (v6 : api_Use) => neweltop_TopRoped_l8 N n v0 v1 v2 v3 v4 v5 v6 (fun q1 q2 => k (.exit 0) (neweltop_TopRoped_x8_0 v2 q1 q2))) := funext fun v0 => funext fun v1 => funext fun v2 => funext fun v3 => funext fun v4 => funext fun v5 => funext fun v6 => ih v0 v1 v2 v3 v4 v5 v6
    rw [h]
    rfl
theorem neweltop_TopRoped_k8 {R : Type} (N : Nat) : LpKey (R := R) E 6 0 (neweltop_TopRoped_lp N) 8 :=
  lpKey_of hE (neweltop_measures_cal_ok N) (jn := noJn) neweltop_TopRoped_L8_ok [] kNil (by kernel_rfl) [] jNil (by kernel_rfl) N fun S k =>
    Eq.trans (b := neweltop_TopRoped_L8.head.raw 0 S (fun S0 => neweltop_TopRoped_d8 N S0 k)) (by kernel_rfl) (congrArg (neweltop_TopRoped_L8.head.raw 0 S) (funext fun S0 => Eq.trans (neweltop_TopRoped_l8_eq N k N (toI (lget S0.tmps 11)) (Cod.dec api_CarC (lget (entCs (entAt S0.tab 0)))) (Cod.dec neweltop_WorkedC (lget (entCs (entAt S0.tab 1)))) (entNl (entAt S0.tab 2)) (lst api_RideC (entN (entAt S0.tab 2)) (entC (entAt S0.tab 2))) (Cod.dec api_UseC (lget (entCs (entAt S0.tab 3)))) (Cod.dec api_UseC (lget (entCs (entAt S0.tab 4))))).symm (by kernel_rfl)))
noncomputable def neweltop_TopRoped_go {R : Type} (N : Nat) (args : List SV) (T : Tab) (kf : SV × Tab → Option R) : Option R :=
  neweltop_TopRoped N (Cod.dec api_CarC (lget (toCs (lget args 0)))) (lstC api_PressC (lget args 1)) (Cod.dec neweltop_WorkedC (lget (toCs (lget args 2)))) (fun q0 => kf (lget [.bool q0] 0, []))
noncomputable def neweltop_TopRoped_cal {R : Type} (N : Nat) : Cal R := callM (neweltop_measures_cal N) 6 0 neweltop_TopRoped_sp (neweltop_TopRoped_go N)
theorem neweltop_TopRoped_cal_ok {R : Type} (N : Nat) : CalOk E.P (neweltop_TopRoped_cal (R := R) N) :=
  callM_ok hE (neweltop_measures_cal_ok N) (lp := neweltop_TopRoped_lp N) (jn := noJn) (keys := [8]) (kCons (neweltop_TopRoped_k8 N) kNil) (by kernel_rfl) (js := []) jNil (by kernel_rfl) neweltop_TopRoped_sp_ok neweltop_TopRoped_rs_ok (fun args T kf => Eq.trans (neweltop_TopRoped_def N (Cod.dec api_CarC (lget (toCs (lget args 0)))) (lstC api_PressC (lget args 1)) (Cod.dec neweltop_WorkedC (lget (toCs (lget args 2)))) (fun q0 => kf (lget [.bool q0] 0, []))) (by kernel_rfl : neweltop_TopRoped_run N args T kf = fnM E (neweltop_measures_cal N) (neweltop_TopRoped_lp N) (noJn) 6 (neweltop_TopRoped_sp.vs args) (neweltop_TopRoped_sp.tab T) 0 (resK neweltop_TopRoped_rs kf)))


section
open Ch
/-- Wears that may be, where nothing was measured. -/
def loW (p : api_Part) (l : Arr api_Use) : Nat → Int
  | 0 => Ch.gL p l 0
  | j + 1 => loW p l j + Ch.gL p l (j + 1)
theorem loW_hist {p : api_Part} (hp : VP p) {l : Arr api_Use} (hl : VU p l) (hm : ∀ j, j < l.n → (l.f j).Measured = false) : ∀ j, j < l.n → histP p l (loW p l) j := by
  intro j hj
  obtain ⟨g1, g2, g3⟩ := g_bounds hp (hl.u j hj)
  refine ⟨?_, fun h => by rw [hm j hj] at h; cases h⟩
  cases j with
  | zero => exact ⟨by show (0 : Int) + Ch.gL p l 0 ≤ Ch.gL p l 0; omega, by show Ch.gL p l 0 ≤ (0 : Int) + Ch.gH p l 0; omega⟩
  | succ j => exact ⟨by show loW p l j + Ch.gL p l (j + 1) ≤ loW p l j + Ch.gL p l (j + 1); omega, by show loW p l j + Ch.gL p l (j + 1) ≤ loW p l j + Ch.gH p l (j + 1); omega⟩

def useA (t : Int) (cl : Int) : api_Use := ⟨1, t, cl, false, ⟨0, 0⟩⟩
theorem use_ok {p : api_Part} {l : Arr api_Use} {cl t : Int} {i : Nat} (hd : dayB l i ≤ 1) (hf : l.f i = useA t cl) (ht : 0 ≤ t ∧ t ≤ 1000) (hc : 0 ≤ cl ∧ cl ≤ (p.Rates.n : Int) - 1) : useP p l i := by
  refine ⟨?_, ?_, ?_, ?_, ?_, ?_⟩ <;> rw [hf]
  · exact ⟨hd, by show (1 : Int) ≤ 100000; omega⟩
  · show (0 : Int) ≤ 1; omega
  · exact ⟨ht.1, by show t ≤ 1000000; omega⟩
  · exact hc
  · exact ⟨Int.le_refl _, Int.le_refl _, by show (0 : Int) ≤ 2000000000; omega⟩
  · exact fun _ => ⟨rfl, rfl⟩

theorem roped_l8 (N : Nat) (c : api_Car) (x : neweltop_Worked) (b : Bool) {rd : Arr api_Ride} (hn : rd.n = 100) (cl : Int) : ∀ (q i n : Nat) (t1 t2 : Int), i + q = 100 → q < n → 0 ≤ t1 → 0 ≤ t2 → t1 + t2 ≤ i →
    ∃ t1' t2' : Int, 0 ≤ t1' ∧ 0 ≤ t2' ∧ t1' + t2' ≤ 100 ∧ ∀ {R : Type} (k0 : api_Use → api_Use → Option R), neweltop_TopRoped_l8 N n (i : Int) c x b rd (useA t1 cl) (useA t2 cl) k0 = k0 (useA t1' cl) (useA t2' cl) := by
  intro q
  induction q with
  | zero =>
    intro i n t1 t2 h1 h2 h3 h4 h5
    obtain ⟨n, rfl⟩ : ∃ m, n = m + 1 := ⟨n - 1, by omega⟩
    refine ⟨t1, t2, h3, h4, by omega, fun {R} k0 => ?_⟩
    unfold neweltop_TopRoped_l8 neweltop_TopRoped_b8
    simp only [ltF (show rd.n ≤ i by omega), cond_false]
  | succ q ih =>
    intro i n t1 t2 h1 h2 h3 h4 h5
    obtain ⟨n, rfl⟩ : ∃ m, n = m + 1 := ⟨n - 1, by omega⟩
    have skip := ih (i + 1) n t1 t2 (by omega) (by omega) h3 h4 (by push_cast; omega)
    have e1 : w64 (t1 + 1) = t1 + 1 := w64_eq (by omega) (by omega)
    have e2 : w64 (t2 + 1) = t2 + 1 := w64_eq (by omega) (by omega)
    by_cases c1 : (rd.f i).Doing = 1
    rotate_left
    · obtain ⟨a1, a2, g1, g2, g3, g4⟩ := skip
      refine ⟨a1, a2, g1, g2, g3, fun {R} k0 => ?_⟩
      unfold neweltop_TopRoped_l8 neweltop_TopRoped_b8
      have : ((rd.f i).Doing == 1) = false := by simpa using c1
      simp only [ltT (show i < rd.n by omega), nat_nonneg, Bool.and_self, cond_true, Int.toNat_natCast, w64_succ (show i < 1000000000000 by omega), this, cond_false]
      exact g4 k0
    have d1 : ((rd.f i).Doing == 1) = true := by simpa using c1
    by_cases c2 : (rd.f i).Left = c.Move
    rotate_left
    · obtain ⟨a1, a2, g1, g2, g3, g4⟩ := skip
      refine ⟨a1, a2, g1, g2, g3, fun {R} k0 => ?_⟩
      unfold neweltop_TopRoped_l8 neweltop_TopRoped_b8
      have : ((rd.f i).Left == c.Move) = false := by simpa using c2
      simp only [ltT (show i < rd.n by omega), nat_nonneg, Bool.and_self, cond_true, Int.toNat_natCast, w64_succ (show i < 1000000000000 by omega), d1, this, cond_false]
      exact g4 k0
    have d2 : ((rd.f i).Left == c.Move) = true := by simpa using c2
    by_cases c3 : (i : Int) < x.Split
    · obtain ⟨a1, a2, g1, g2, g3, g4⟩ := ih (i + 1) n (t1 + 1) t2 (by omega) (by omega) (by omega) h4 (by push_cast; omega)
      refine ⟨a1, a2, g1, g2, g3, fun {R} k0 => ?_⟩
      unfold neweltop_TopRoped_l8 neweltop_TopRoped_b8
      simp only [ltT (show i < rd.n by omega), nat_nonneg, Bool.and_self, cond_true, Int.toNat_natCast, w64_succ (show i < 1000000000000 by omega), d1, d2, c3, decide_true]
      have : (⟨(useA t1 cl).Day, w64 ((useA t1 cl).Turns + 1), (useA t1 cl).Class, (useA t1 cl).Measured, (useA t1 cl).Says⟩ : api_Use) = useA (t1 + 1) cl := by
        show (⟨1, w64 (t1 + 1), cl, false, ⟨0, 0⟩⟩ : api_Use) = ⟨1, t1 + 1, cl, false, ⟨0, 0⟩⟩; rw [e1]
      rw [this]
      exact g4 k0
    · obtain ⟨a1, a2, g1, g2, g3, g4⟩ := ih (i + 1) n t1 (t2 + 1) (by omega) (by omega) h3 (by omega) (by push_cast; omega)
      refine ⟨a1, a2, g1, g2, g3, fun {R} k0 => ?_⟩
      unfold neweltop_TopRoped_l8 neweltop_TopRoped_b8
      simp only [ltT (show i < rd.n by omega), nat_nonneg, Bool.and_self, cond_true, Int.toNat_natCast, w64_succ (show i < 1000000000000 by omega), d1, d2, c3, decide_false, cond_false]
      have : (⟨(useA t2 cl).Day, w64 ((useA t2 cl).Turns + 1), (useA t2 cl).Class, (useA t2 cl).Measured, (useA t2 cl).Says⟩ : api_Use) = useA (t2 + 1) cl := by
        show (⟨1, w64 (t2 + 1), cl, false, ⟨0, 0⟩⟩ : api_Use) = ⟨1, t2 + 1, cl, false, ⟨0, 0⟩⟩; rw [e2]
      rw [this]
      exact g4 k0

theorem topRoped_true (c : api_Car) (l : Arr api_Press) (x : neweltop_Worked) (hc0 : c.wf) (hn0 : l.n ≤ maxLen) (hl0 : ∀ i, i < l.n → (l.f i).wf) (hx : x.wf) : ∃ N, neweltop_TopRoped N c l x (fun q0 => okK (lget [.bool q0] 0, [])) = some () := by
  obtain ⟨N, hNd⟩ : ∃ N, N = 5000 + l.n := ⟨_, rfl⟩
  refine ⟨N, ?_⟩
  have hN : 100 ≤ N := by omega
  have htr : okK (lget [SV.bool true] 0, []) = some () := rfl
  rw [neweltop_TopRoped_def]
  unfold neweltop_TopRoped_m
  simp only [neweltop_measures_eq, htr]
  refine (Ca.refCheck (N := N) (by omega) c (by omega) hn0 _).elim (fun ⟨v, hv, h⟩ => h.trans ?_) (fun ⟨⟨hc, hl⟩, h⟩ => h.trans ?_)
  · have : (v != 0) = true := by simpa using hv
    simp only [this, cond_true]
  simp only [bne_self_eq_false, cond_false]
  by_cases c1 : (l.n : Int) > 20
  · simp only [c1, decide_true, cond_true]
  simp only [c1, decide_false, cond_false]
  refine (refPart N hN x.Part _ _).elim (fun ⟨v, hv, h⟩ => h.trans ?_) (fun ⟨⟨hp, _⟩, h⟩ => h.trans ?_)
  · have : (v != 0) = true := by simpa using hv
    simp only [this, cond_true]
  simp only [bne_self_eq_false, cond_false]
  by_cases c2 : x.Class < 0
  · simp only [c2, decide_true, cond_true]
  by_cases c3 : x.Class ≥ (x.Part.Rates.n : Int)
  · simp only [c2, c3, decide_true, decide_false, cond_true, cond_false]
  by_cases c4 : x.Split < 0
  · simp only [c2, c3, c4, decide_true, decide_false, cond_true, cond_false]
  by_cases c5 : x.Split > 100
  · simp only [c2, c3, c4, c5, decide_true, decide_false, cond_true, cond_false]
  simp only [c2, c3, c4, c5, decide_false, cond_false]
  obtain ⟨b, rd, hrd, hplay⟩ := Ca.play_ok (N := N) (by omega) hc hl 100 (by omega)
  refine (hplay _).trans ?_
  have e100 : ((rd.n : Int) != 100) = false := by rw [hrd]; rfl
  simp only [bne_self_eq_false, cond_false, e100]
  obtain ⟨t1, t2, g1, g2, g3, g4⟩ := roped_l8 N c x b hrd x.Class 100 0 N 0 0 (by omega) (by omega) (Int.le_refl _) (Int.le_refl _) (by omega)
  refine (g4 _).trans ?_
  have hcl : 0 ≤ x.Class ∧ x.Class ≤ (x.Part.Rates.n : Int) - 1 := ⟨by omega, by omega⟩
  have e12 : w64 ((useA t1 x.Class).Turns + (useA t2 x.Class).Turns) = t1 + t2 := w64_eq (by show _ ≤ t1 + t2; omega) (by show t1 + t2 < _; omega)
  rw [e12]
  -- the two histories
  have a0 : (lst api_UseC (1 : Nat) (litC [SV.int IntKind.i64 (0 : Int), SV.int IntKind.i64 (0 : Int), SV.int IntKind.i64 (0 : Int), SV.bool false, SV.int IntKind.i64 (0 : Int), SV.int IntKind.i64 (0 : Int)] [[SV.int IntKind.i64 (1 : Int), SV.int IntKind.i64 (t1 + t2), SV.int IntKind.i64 x.Class, SV.bool false, SV.int IntKind.i64 (0 : Int), SV.int IntKind.i64 (0 : Int)]])).f 0 = useA (t1 + t2) x.Class := rfl
  have an : (lst api_UseC (1 : Nat) (litC [SV.int IntKind.i64 (0 : Int), SV.int IntKind.i64 (0 : Int), SV.int IntKind.i64 (0 : Int), SV.bool false, SV.int IntKind.i64 (0 : Int), SV.int IntKind.i64 (0 : Int)] [[SV.int IntKind.i64 (1 : Int), SV.int IntKind.i64 (t1 + t2), SV.int IntKind.i64 x.Class, SV.bool false, SV.int IntKind.i64 (0 : Int), SV.int IntKind.i64 (0 : Int)]])).n = 1 := rfl
  generalize (lst api_UseC (1 : Nat) (litC [SV.int IntKind.i64 (0 : Int), SV.int IntKind.i64 (0 : Int), SV.int IntKind.i64 (0 : Int), SV.bool false, SV.int IntKind.i64 (0 : Int), SV.int IntKind.i64 (0 : Int)] [[SV.int IntKind.i64 (1 : Int), SV.int IntKind.i64 (t1 + t2), SV.int IntKind.i64 x.Class, SV.bool false, SV.int IntKind.i64 (0 : Int), SV.int IntKind.i64 (0 : Int)]])) = A at a0 an ⊢
  obtain ⟨B, hB⟩ : ∃ B, B = (lst api_UseC (2 : Nat) (litC [SV.int IntKind.i64 (0 : Int), SV.int IntKind.i64 (0 : Int), SV.int IntKind.i64 (0 : Int), SV.bool false, SV.int IntKind.i64 (0 : Int), SV.int IntKind.i64 (0 : Int)] [[SV.int IntKind.i64 (useA t1 x.Class).Day, SV.int IntKind.i64 (useA t1 x.Class).Turns, SV.int IntKind.i64 (useA t1 x.Class).Class, SV.bool (useA t1 x.Class).Measured, SV.int IntKind.i64 (useA t1 x.Class).Says.Low, SV.int IntKind.i64 (useA t1 x.Class).Says.High], [SV.int IntKind.i64 (useA t2 x.Class).Day, SV.int IntKind.i64 (useA t2 x.Class).Turns, SV.int IntKind.i64 (useA t2 x.Class).Class, SV.bool (useA t2 x.Class).Measured, SV.int IntKind.i64 (useA t2 x.Class).Says.Low, SV.int IntKind.i64 (useA t2 x.Class).Says.High]])) := ⟨_, rfl⟩
  rw [← hB]
  have b0 : B.f 0 = useA t1 x.Class := by rw [hB]; rfl
  have b1 : B.f 1 = useA t2 x.Class := by rw [hB]; rfl
  have bn : B.n = 2 := by rw [hB]; rfl
  clear hB
  have hA : VU x.Part A := ⟨by omega, fun i hi => by
    obtain rfl : i = 0 := by omega
    exact use_ok (by show (0 : Int) ≤ 1; omega) a0 ⟨by omega, by omega⟩ hcl⟩
  have hB : VU x.Part B := ⟨by omega, fun i hi => by
    match i, hi with
    | 0, _ => exact use_ok (by show (0 : Int) ≤ 1; omega) b0 ⟨by omega, by omega⟩ hcl
    | 1, _ => exact use_ok (by show (B.f 0).Day ≤ 1; rw [b0]; exact Int.le_refl _) b1 ⟨by omega, by omega⟩ hcl
    | i + 2, hi => omega⟩
  have hhA := loW_hist hp hA (fun j hj => by
    obtain rfl : j = 0 := by omega
    rw [a0]; rfl)
  have hhB := loW_hist hp hB (fun j hj => by
    match j, hj with
    | 0, _ => rw [b0]; rfl
    | 1, _ => rw [b1]; rfl
    | j + 2, hj => omega)
  obtain ⟨bA, wA, hwA, hweA⟩ := wear_eq hN hp hA hhA
  obtain ⟨bB, wB', hwB, hweB⟩ := wear_eq hN hp hB hhB
  -- what they come to
  have gLA : Ch.gL x.Part A 0 = Ch.gL x.Part B 0 + Ch.gL x.Part B 1 := by
    unfold Ch.gL
    rw [a0, b0, b1]
    exact Int.add_mul _ _ _
  have gHA : Ch.gH x.Part A 0 = Ch.gH x.Part B 0 + Ch.gH x.Part B 1 := by
    unfold Ch.gH
    rw [a0, b0, b1]
    exact Int.add_mul _ _ _
  have fA : fS x.Part A 1 = ⟨Ch.gL x.Part A 0, Ch.gH x.Part A 0⟩ := by
    show (bif (A.f 0).Measured then _ else gS x.Part A 0 ⟨0, 0⟩) = _
    rw [a0]
    show (⟨0 + Ch.gL x.Part A 0, 0 + Ch.gH x.Part A 0⟩ : api_Span) = _
    rw [Int.zero_add, Int.zero_add]
  have fB1 : fS x.Part B 1 = ⟨Ch.gL x.Part B 0, Ch.gH x.Part B 0⟩ := by
    show (bif (B.f 0).Measured then _ else gS x.Part B 0 ⟨0, 0⟩) = _
    rw [b0]
    show (⟨0 + Ch.gL x.Part B 0, 0 + Ch.gH x.Part B 0⟩ : api_Span) = _
    rw [Int.zero_add, Int.zero_add]
  have fB2 : fS x.Part B 2 = ⟨Ch.gL x.Part B 0 + Ch.gL x.Part B 1, Ch.gH x.Part B 0 + Ch.gH x.Part B 1⟩ := by
    show (bif (B.f 1).Measured then _ else gS x.Part B 1 (fS x.Part B 1)) = _
    rw [b1, fB1]
    rfl
  have same : fS x.Part A 1 = fS x.Part B 2 := by rw [fA, fB2, gLA, gHA]
  have hw1 : wA.f 0 = fS x.Part A 1 := by
    rw [hwA.2 0 (by omega)]
    show bk x.Part A A.n (A.n - 1 - 0) = _
    rw [an]; rfl
  have hw2 : wB'.f 1 = fS x.Part B 2 := by
    rw [hwB.2 1 (by omega)]
    show bk x.Part B B.n (B.n - 1 - 1) = _
    rw [bn]; rfl
  have gB1 := (g_bounds hp (hB.u 1 (by omega)))
  have lateE : (∃ j, j < A.n ∧ lateP x.Part A j) ↔ (∃ j, j < B.n ∧ lateP x.Part B j) := by
    have hd : ∀ {L : Arr api_Use} {i : Nat} {t : Int}, L.f i = useA t x.Class → (L.f i).Day = 1 := fun h => by rw [h]; rfl
    have l2 : lateP x.Part A 0 ↔ lateP x.Part B 1 := by
      unfold lateP
      rw [hd a0, hd b1, an, bn]
      show tsum A 1 > _ ∨ _ ∨ (fS x.Part A 1).High > _ ↔ tsum B 2 > _ ∨ _ ∨ (fS x.Part B 2).High > _
      have t3 : tsum A 1 = tsum B 2 := by
        show 0 + (A.f 0).Turns = 0 + (B.f 0).Turns + (B.f 1).Turns
        rw [a0, b0, b1]
        show 0 + (t1 + t2) = 0 + t1 + t2
        omega
      rw [t3, same]
    have l1 : lateP x.Part B 0 → lateP x.Part B 1 := by
      intro h
      unfold lateP at h ⊢
      rw [hd b0] at h
      rw [hd b1]
      rcases h with h | h | h
      · left
        have : tsum B 2 = tsum B 1 + t2 := by show tsum B 1 + (B.f 1).Turns = _; rw [b1]; rfl
        show tsum B 2 > _
        have h' : tsum B 1 > x.Part.Turns := h
        omega
      · exact .inr (.inl h)
      · right; right
        rw [bn] at h ⊢
        show (fS x.Part B 2).High > _
        have h' : (meetS (fS x.Part B 1) _).High > x.Part.Worn * 1000000 := h
        have := (@meet_low (fS x.Part B 1) ⟨(bk x.Part B 2 0).Low - Ch.gH x.Part B (2 - 1 - 0), (bk x.Part B 2 0).High - Ch.gL x.Part B (2 - 1 - 0)⟩).2
        have h2 : (meetS (fS x.Part B 1) ⟨(bk x.Part B 2 0).Low - Ch.gH x.Part B (2 - 1 - 0), (bk x.Part B 2 0).High - Ch.gL x.Part B (2 - 1 - 0)⟩).High > x.Part.Worn * 1000000 := h
        rw [fB1] at this h2
        rw [fB2]
        show Ch.gH x.Part B 0 + Ch.gH x.Part B 1 > _
        have this' : _ ≤ Ch.gH x.Part B 0 := this
        omega
    constructor
    · rintro ⟨j, hj, h⟩
      obtain rfl : j = 0 := by omega
      exact ⟨1, by omega, l2.1 h⟩
    · rintro ⟨j, hj, h⟩
      refine ⟨0, by omega, l2.2 ?_⟩
      match j, hj with
      | 0, _ => exact l1 h
      | 1, _ => exact h
      | j + 2, hj => omega
  have key : ∀ u v : Int, (decide (u < 0) == decide (v < 0)) = true → chain_Wear N x.Part A (fun r235 r236 r237 =>
      chain_Wear N x.Part B (fun r238 r239 r240 =>
        bif (0 : Int) == (0 : Int) then bif (0 : Int) == (0 : Int) then bif r235 == (0 : Int) then bif r238 == (0 : Int) then
          bif decide (u < (0 : Int)) == decide (v < (0 : Int)) then bif (↑(Arr.n r237) : Int) == (1 : Int) then bif (↑(Arr.n r240) : Int) == (2 : Int) then
            bif decide ((0 : Int) < (↑(Arr.n r237) : Int)) then bif decide ((1 : Int) < (↑(Arr.n r240) : Int)) then
              bif api_Span.Low (Arr.f r237 (Int.toNat (0 : Int))) == api_Span.Low (Arr.f r240 (Int.toNat (1 : Int))) && (api_Span.High (Arr.f r237 (Int.toNat (0 : Int))) == api_Span.High (Arr.f r240 (Int.toNat (1 : Int))) && true) then
                some () else okK (lget [SV.bool false] 0, []) else Option.none else Option.none else okK (lget [SV.bool false] 0, []) else okK (lget [SV.bool false] 0, []) else okK (lget [SV.bool false] 0, []) else okK (lget [SV.bool false] 0, []) else okK (lget [SV.bool false] 0, []) else okK (lget [SV.bool false] 0, []) else okK (lget [SV.bool false] 0, []))) = some () := fun u v huv => by
    rw [hweA, hweB]
    have e0 : ((0 : Int) == 0) = true := rfl
    have z1 : Int.toNat 0 = 0 := rfl
    have z2 : Int.toNat 1 = 1 := rfl
    have n1 : wA.n = 1 := by rw [hwA.1]; exact an
    have n2 : wB'.n = 2 := by rw [hwB.1]; exact bn
    simp only [e0, cond_true, huv, n1, n2, z1, z2, hw1, hw2, same, BEq.rfl, Bool.and_self]
    rfl
  refine (beyond_cases hN hp hA hhA _).elim (fun ⟨j, hj, hjl, hjm, h⟩ => h.trans ?_) (fun ⟨hno, h⟩ => h.trans ?_)
  · refine (beyond_cases hN hp hB hhB _).elim (fun ⟨j2, hj2, hjl2, hjm2, h⟩ => h.trans ?_) (fun ⟨hno, h⟩ => h.trans ?_)
    · exact key _ _ (by simp [show ¬ ((j : Int) < 0) by omega, show ¬ ((j2 : Int) < 0) by omega])
    · obtain ⟨j2, hj2, h2⟩ := lateE.1 ⟨j, hj, hjl⟩
      exact absurd h2 (hno j2 hj2)
  · refine (beyond_cases hN hp hB hhB _).elim (fun ⟨j2, hj2, hjl2, hjm2, h⟩ => h.trans ?_) (fun ⟨hno, h⟩ => h.trans ?_)
    · obtain ⟨j, hj, h2⟩ := lateE.2 ⟨j2, hj2, hjl2⟩
      exact absurd h2 (hno j hj)
    · exact key _ _ rfl
end
end
end Go.Proofs.Ytpillmoddoccfab
