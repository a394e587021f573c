/-
  The model of the statement TopWeighed, that it is what the code does (written by a program), and that it answers true.
-/
import Derived.Test.YtpillmoddoccfaaWeP2
import Derived.Test.YtpillmoddoccfaaSxRun
set_option maxRecDepth 100000
set_option maxHeartbeats 0
set_option linter.unusedVariables false
set_option linter.unusedSimpArgs false
namespace Go.Proofs.Ytpillmoddoccfaa
open Go.Sx
noncomputable section

theorem neweltop_measures_closed {R : Type} (kf : SV × Tab → Option R) : (runG E 400 60).run 15 [] [] 0 kf = kf (.bool true, []) := by kernel_rfl
def neweltop_measures_m {R : Type} (N : Nat) (k : Bool → Option R) : Option R :=
  k true
noncomputable def neweltop_measures {R : Type} : Nat → (Bool → Option R) → Option R := lock (@neweltop_measures_m R)
theorem neweltop_measures_def {R : Type} (N : Nat) (k : Bool → Option R) : neweltop_measures N k = neweltop_measures_m N k := by unfold neweltop_measures; rw [lock_eq]
theorem neweltop_measures_eq {R : Type} (N : Nat) (k : Bool → Option R) : neweltop_measures N k = k true := by rw [neweltop_measures_def]; rfl
def neweltop_measures_sp : Sp := ⟨[], []⟩
noncomputable def neweltop_measures_go {R : Type} (N : Nat) (args : List SV) (T : Tab) (kf : SV × Tab → Option R) : Option R :=
  neweltop_measures N (fun q0 => kf (lget [.bool q0] 0, []))
noncomputable def neweltop_measures_cal {R : Type} (N : Nat) : Cal R := callM (chain_Beyond_cal N) 15 0 neweltop_measures_sp (neweltop_measures_go N)
theorem neweltop_measures_cal_ok {R : Type} (N : Nat) : CalOk E.P (neweltop_measures_cal (R := R) N) :=
  callM_eq (m' := fun args T kf => kf (.bool true, [])) (fun args T kf => neweltop_measures_def N (fun q0 => kf (lget [.bool q0] 0, []))) (closed_ok hE (chain_Beyond_cal_ok N) neweltop_measures_closed)

def neweltop_TopWeighed_L15 : LoopSp := ⟨⟨[1, 3, 5, 9, 13, 15], ⟨(dr 1 ((rSl api_UseC) :: (dr 1 ((rPtr 0 0) :: (dr 1 ((rPtr 1 0) :: (dr 3 ((rRow 2) :: (dr 3 ((rRow 3) :: (dr 1 ((rInt .i64) :: (dr 167 []))))))))))))), [(0, eBlkC api_PartC), (1, eBlkC neweltop_WeighedC), (2, eRow api_UseC), (3, eRow api_SpanC)]⟩, 4⟩, [(Option.none, ⟨[6], ⟨(dr 6 ((rBool) :: (dr 176 []))), []⟩, 0⟩), (some 0, ⟨[1, 3, 9], ⟨(dr 1 ((rSl api_UseC) :: (dr 1 ((rPtr 0 0) :: (dr 5 ((rRow 1) :: (dr 173 []))))))), [(0, eBlkC api_PartC), (1, eRow api_UseC)]⟩, 2⟩)]⟩
theorem neweltop_TopWeighed_L15_ok : neweltop_TopWeighed_L15.Ok := ⟨⟨(drCons 1 (allCons (rSl_ok api_UseC_ok) (drCons 1 (allCons (rPtr_ok 0 0) (drCons 1 (allCons (rPtr_ok 1 0) (drCons 3 (allCons (rRow_ok 2) (drCons 3 (allCons (rRow_ok 3) (drCons 1 (allCons (rInt_ok .i64) (drCons 167 allNil))))))))))))), (eCons (eBlkC_ok api_PartC_ok api_PartC_len) (eCons (eBlkC_ok neweltop_WeighedC_ok neweltop_WeighedC_len) (eCons (eRow_ok api_UseC_ok) (eCons (eRow_ok api_SpanC_ok) eNil))))⟩, (xCons ⟨(drCons 6 (allCons rBool_ok (drCons 176 allNil))), eNil⟩ (xCons ⟨(drCons 1 (allCons (rSl_ok api_UseC_ok) (drCons 1 (allCons (rPtr_ok 0 0) (drCons 5 (allCons (rRow_ok 1) (drCons 173 allNil))))))), (eCons (eBlkC_ok api_PartC_ok api_PartC_len) (eCons (eRow_ok api_UseC_ok) eNil))⟩ xNil))⟩
def neweltop_TopWeighed_h15 (v194 : Arr api_Use) (v195 : Int) (v196 : api_Part) (v197 : neweltop_Weighed) (v198 : Bool) (v199 : Arr api_Use) (v200 : Bool) (v201 : Arr api_Span) : St := ⟨(un 1 ((slC api_UseC v194) :: (un 1 ((.ptr 0 0) :: (un 1 ((.ptr 1 0) :: (un 3 ((.row 2) :: (un 3 ((.row 3) :: (un 1 ((.int .i64 v195) :: (un 167 []))))))))))))), [(0, .blk (Cod.enc api_PartC v196)), (1, .blk (Cod.enc neweltop_WeighedC v197)), (2, rowE api_UseC v198 v199), (3, rowE api_SpanC v200 v201)], 4⟩
def neweltop_TopWeighed_x15_r (q0 : Bool) : St := ⟨(un 6 ((.bool q0) :: (un 176 []))), [], 0⟩
def neweltop_TopWeighed_x15_0 (v194 : Arr api_Use) (v196 : api_Part) (v198 : Bool) (v199 : Arr api_Use) : St := ⟨(un 1 ((slC api_UseC v194) :: (un 1 ((.ptr 0 0) :: (un 5 ((.row 1) :: (un 173 []))))))), [(0, .blk (Cod.enc api_PartC v196)), (1, rowE api_UseC v198 v199)], 2⟩
def neweltop_TopWeighed_b15 {R : Type} (N : Nat) (rc : Arr api_Use → Int → api_Part → neweltop_Weighed → Bool → Arr api_Use → Bool → Arr api_Span → Option R) (v194 : Arr api_Use) (v195 : Int) (v196 : api_Part) (v197 : neweltop_Weighed) (v198 : Bool) (v199 : Arr api_Use) (v200 : Bool) (v201 : Arr api_Span) (kr : Bool → Option R) (k0 : Unit → Option R) : Option R :=
  bif decide (v195 < (↑(Arr.n v194) : Int)) then
   bif decide ((0 : Int) ≤ v195) && decide (v195 < (↑(Arr.n (neweltop_Weighed.Wears v197)) : Int)) then
    bif decide ((0 : Int) ≤ v195) && decide (v195 < (↑(Arr.n v201) : Int)) then
     bif decide (Arr.f (neweltop_Weighed.Wears v197) (Int.toNat v195) < api_Span.Low (Arr.f v201 (Int.toNat v195))) then
      kr false
     else
      bif decide ((0 : Int) ≤ v195) && decide (v195 < (↑(Arr.n (neweltop_Weighed.Wears v197)) : Int)) then
       bif decide ((0 : Int) ≤ v195) && decide (v195 < (↑(Arr.n v201) : Int)) then
        bif decide (Arr.f (neweltop_Weighed.Wears v197) (Int.toNat v195) > api_Span.High (Arr.f v201 (Int.toNat v195))) then
         kr false
        else
         rc v194 (w64 (v195 + (1 : Int))) v196 v197 v198 v199 v200 v201
       else
        Option.none
      else
       Option.none
    else
     Option.none
   else
    Option.none
  else
   k0 ()
def neweltop_TopWeighed_l15 {R : Type} (N : Nat) : Nat → Arr api_Use → Int → api_Part → neweltop_Weighed → Bool → Arr api_Use → Bool → Arr api_Span → (Bool → Option R) → (Unit → Option R) → Option R
  | 0, _, _, _, _, _, _, _, _, _, _ => Option.none
  | n + 1, v194, v195, v196, v197, v198, v199, v200, v201, kr, k0 => neweltop_TopWeighed_b15 N (fun v194 v195 v196 v197 v198 v199 v200 v201 => neweltop_TopWeighed_l15 N n v194 v195 v196 v197 v198 v199 v200 v201 kr k0) v194 v195 v196 v197 v198 v199 v200 v201 kr k0


def neweltop_TopWeighed_m {R : Type} (N : Nat) (a172 : api_Part) (a173 : Arr api_Use) (a174 : neweltop_Weighed) (k : Bool → Option R) : Option R :=
  newelref02_CheckPart N a172 a173 (fun r175 =>
  bif r175 != (0 : Int) then
   neweltop_measures N  (fun r176 =>
   k r176)
  else
   newellaw02_History N a172 a173 (neweltop_Weighed.Wears a174) (fun r177 =>
   bif !r177 then
    neweltop_measures N  (fun r178 =>
    k r178)
   else
    bif decide (neweltop_Weighed.Use a174 < (0 : Int)) then
     neweltop_measures N  (fun r179 =>
     k r179)
    else
     bif decide (neweltop_Weighed.Use a174 ≥ (↑(Arr.n a173) : Int)) then
      neweltop_measures N  (fun r180 =>
      k r180)
     else
      bif decide ((0 : Int) ≤ neweltop_Weighed.Use a174) && decide (neweltop_Weighed.Use a174 < (↑(Arr.n a173) : Int)) then
       bif api_Use.Measured (Arr.f a173 (Int.toNat (neweltop_Weighed.Use a174))) then
        neweltop_measures N  (fun r181 =>
        k r181)
       else
        bif decide ((0 : Int) ≤ neweltop_Weighed.Use a174) && decide (neweltop_Weighed.Use a174 < (↑(Arr.n (neweltop_Weighed.Wears a174)) : Int)) then
         neweltop_allow N (neweltop_Weighed.Readings a174) (Arr.f (neweltop_Weighed.Wears a174) (Int.toNat (neweltop_Weighed.Use a174))) (fun r182 =>
         bif !r182 then
          neweltop_measures N  (fun r183 =>
          k r183)
         else
          faults_Truth N (neweltop_Weighed.Readings a174) (fun r184 r185 =>
          bif r185 != (0 : Int) then
           k false
          else
           newelref02_CopyUses N a173 (fun r186 r187 =>
           bif decide ((0 : Int) ≤ neweltop_Weighed.Use a174) && decide (neweltop_Weighed.Use a174 < (↑(Arr.n r187) : Int)) then
            bif decide ((0 : Int) ≤ neweltop_Weighed.Use a174) && decide (neweltop_Weighed.Use a174 < (↑(Arr.n r187) : Int)) then
             chain_Refuted N a172 (lst api_UseC (Arr.n r187) (setCs (Int.toNat (neweltop_Weighed.Use a174)) (4 : Nat) (setCs (Int.toNat (neweltop_Weighed.Use a174)) (3 : Nat) (Cod.cell api_UseC (Arr.f r187)) [SV.bool true]) [SV.int IntKind.i64 (if api_Span.Low r184 > (0 : Int) then api_Span.Low r184 else (0 : Int)), SV.int IntKind.i64 (api_Span.High r184)])) (fun r188 r189 r190 =>
             chain_Wear N a172 (lst api_UseC (Arr.n r187) (setCs (Int.toNat (neweltop_Weighed.Use a174)) (4 : Nat) (setCs (Int.toNat (neweltop_Weighed.Use a174)) (3 : Nat) (Cod.cell api_UseC (Arr.f r187)) [SV.bool true]) [SV.int IntKind.i64 (if api_Span.Low r184 > (0 : Int) then api_Span.Low r184 else (0 : Int)), SV.int IntKind.i64 (api_Span.High r184)])) (fun r191 r192 r193 =>
             bif r190 != (0 : Int) then
              k false
             else
              bif r191 != (0 : Int) then
               k false
              else
               bif r189 then
                k false
               else
                bif (↑(Arr.n r193) : Int) != (↑(Arr.n a173) : Int) then
                 k false
                else
                 neweltop_TopWeighed_l15 N N a173 (0 : Int) a172 a174 r186 (lst api_UseC (Arr.n r187) (setCs (Int.toNat (neweltop_Weighed.Use a174)) (4 : Nat) (setCs (Int.toNat (neweltop_Weighed.Use a174)) (3 : Nat) (Cod.cell api_UseC (Arr.f r187)) [SV.bool true]) [SV.int IntKind.i64 (if api_Span.Low r184 > (0 : Int) then api_Span.Low r184 else (0 : Int)), SV.int IntKind.i64 (api_Span.High r184)])) r192 r193 (fun r202 =>
                  k r202) (fun (_ : Unit) =>
                  chain_Beyond N a172 a173 (fun r203 r204 =>
                  chain_Beyond N a172 (lst api_UseC (Arr.n r187) (setCs (Int.toNat (neweltop_Weighed.Use a174)) (4 : Nat) (setCs (Int.toNat (neweltop_Weighed.Use a174)) (3 : Nat) (Cod.cell api_UseC (Arr.f r187)) [SV.bool true]) [SV.int IntKind.i64 (if api_Span.Low r184 > (0 : Int) then api_Span.Low r184 else (0 : Int)), SV.int IntKind.i64 (api_Span.High r184)])) (fun r205 r206 =>
                  bif r204 == (0 : Int) then
                   bif r206 == (0 : Int) then
                    bif decide (r205 < (0 : Int)) then
                     neweltop_measures N  (fun r207 =>
                     k r207)
                    else
                     bif decide (r203 ≥ (0 : Int)) then
                      bif decide (r203 ≤ r205) then
                       neweltop_measures N  (fun r208 =>
                       k r208)
                      else
                       k false
                     else
                      k false
                   else
                    k false
                  else
                   k false)))))
            else
             Option.none
           else
            Option.none)))
        else
         Option.none
      else
       Option.none))
noncomputable def neweltop_TopWeighed {R : Type} : Nat → api_Part → Arr api_Use → neweltop_Weighed → (Bool → Option R) → Option R := lock (@neweltop_TopWeighed_m R)
theorem neweltop_TopWeighed_def {R : Type} (N : Nat) (a172 : api_Part) (a173 : Arr api_Use) (a174 : neweltop_Weighed) (k : Bool → Option R) : neweltop_TopWeighed N a172 a173 a174 k = neweltop_TopWeighed_m N a172 a173 a174 k := by unfold neweltop_TopWeighed; rw [lock_eq]
def neweltop_TopWeighed_sp : Sp := ⟨[rAgg api_PartC, rSl api_UseC, rAgg neweltop_WeighedC], []⟩
theorem neweltop_TopWeighed_sp_ok : neweltop_TopWeighed_sp.Ok := ⟨(allCons (rAgg_ok api_PartC_ok api_PartC_len) (allCons (rSl_ok api_UseC_ok) (allCons (rAgg_ok neweltop_WeighedC_ok neweltop_WeighedC_len) allNil))), eNil⟩
def neweltop_TopWeighed_rs : Sp := ⟨[rBool], []⟩
theorem neweltop_TopWeighed_rs_ok : neweltop_TopWeighed_rs.Ok := ⟨(allCons rBool_ok allNil), eNil⟩
def neweltop_TopWeighed_run {R : Type} (N : Nat) (args : List SV) (T : Tab) (kf : SV × Tab → Option R) : Option R :=
  neweltop_TopWeighed_m N (Cod.dec api_PartC (lget (toCs (lget args 0)))) (lstC api_UseC (lget args 1)) (Cod.dec neweltop_WeighedC (lget (toCs (lget args 2)))) (fun q0 => kf (lget [.bool q0] 0, []))
def neweltop_TopWeighed_d15 {R : Type} (N : Nat) (S0 : St) (k : Exit → St → Option R) : Option R :=
  neweltop_TopWeighed_l15 N N (lstC api_UseC (lget S0.tmps 1)) (toI (lget S0.tmps 15)) (Cod.dec api_PartC (lget (entCs (entAt S0.tab 0)))) (Cod.dec neweltop_WeighedC (lget (entCs (entAt S0.tab 1)))) (entNl (entAt S0.tab 2)) (lst api_UseC (entN (entAt S0.tab 2)) (entC (entAt S0.tab 2))) (entNl (entAt S0.tab 3)) (lst api_SpanC (entN (entAt S0.tab 3)) (entC (entAt S0.tab 3))) (fun q0 => k .ret (neweltop_TopWeighed_x15_r q0)) (fun (_ : Unit) => k (.exit 0) (neweltop_TopWeighed_x15_0 (lstC api_UseC (lget S0.tmps 1)) (Cod.dec api_PartC (lget (entCs (entAt S0.tab 0)))) (entNl (entAt S0.tab 2)) (lst api_UseC (entN (entAt S0.tab 2)) (entC (entAt S0.tab 2)))))
def neweltop_TopWeighed_lp {R : Type} (N : Nat) : Lp R := fun body S k => bif (Go.Sx.keyOf body).getD 0 == 15 then neweltop_TopWeighed_L15.head.raw 0 S (fun S0 => neweltop_TopWeighed_d15 N S0 k) else Option.none
theorem neweltop_TopWeighed_l15_eq {R : Type} (N : Nat) (k : Exit → St → Option R) (n : Nat) : ∀ (v0 : Arr api_Use) (v1 : Int) (v2 : api_Part) (v3 : neweltop_Weighed) (v4 : Bool) (v5 : Arr api_Use) (v6 : Bool) (v7 : Arr api_Span), loopM E.Θ (neweltop_measures_cal N) (neweltop_TopWeighed_lp N) (noJn) 0 neweltop_TopWeighed_L15 (bodyAt E 6 15) n (neweltop_TopWeighed_h15 v0 v1 v2 v3 v4 v5 v6 v7) k = neweltop_TopWeighed_l15 N n v0 v1 v2 v3 v4 v5 v6 v7 (fun q0 => k .ret (neweltop_TopWeighed_x15_r q0)) (fun (_ : Unit) => k (.exit 0) (neweltop_TopWeighed_x15_0 v0 v2 v4 v5)) := by
  induction n with
  | zero => intro v0 v1 v2 v3 v4 v5 v6 v7; rfl
  | succ n ih =>
    intro v0 v1 v2 v3 v4 v5 v6 v7
    refine Eq.trans (b := neweltop_TopWeighed_b15 N (fun v0 v1 v2 v3 v4 v5 v6 v7 => loopM E.Θ (neweltop_measures_cal N) (neweltop_TopWeighed_lp N) (noJn) 0 neweltop_TopWeighed_L15 (bodyAt E 6 15) n (neweltop_TopWeighed_h15 v0 v1 v2 v3 v4 v5 v6 v7) k) v0 v1 v2 v3 v4 v5 v6 v7 (fun q0 => k .ret (neweltop_TopWeighed_x15_r q0)) (fun (_ : Unit) => k (.exit 0) (neweltop_TopWeighed_x15_0 v0 v2 v4 v5))) (by kernel_rfl) ?_
    have h : (fun (v0 : Arr api_Use) (v1 : Int) (v2 : api_Part) (v3 : neweltop_Weighed) (v4 : Bool) (v5 : Arr api_Use) (v6 : Bool) (v7 : Arr api_Span) => loopM E.Θ (neweltop_measures_cal N) (neweltop_TopWeighed_lp N) (noJn) 0 neweltop_TopWeighed_L15 (bodyAt E 6 15) n (neweltop_TopWeighed_h15 v0 v1 v2 v3 v4 v5 v6 v7) k) = (fun (v0 : Arr api_Use) (v1 : Int) (v2 : api_Part) (v3 : neweltop_Weighed) (v4 : Bool) (v5 : Arr api_Use) (v6 : Bool) (v7 : Arr api_Span) => neweltop_TopWeighed_l15 N n v0 v1 v2 v3 v4 v5 v6 v7 (fun q0 => k .ret (neweltop_TopWeighed_x15_r q0)) (fun (_ : Unit) => k (.exit 0) (neweltop_TopWeighed_x15_0 v0 v2 v4 v5))) := funext fun v0 => funext fun v1 => funext fun v2 => funext fun v3 => funext fun v4 => funext fun v5 => funext fun v6 => funext fun v7 => ih v0 v1 v2 v3 v4 v5 v6 v7
    rw [h]
    rfl
theorem neweltop_TopWeighed_k15 {R : Type} (N : Nat) : LpKey (R := R) E 6 0 (neweltop_TopWeighed_lp N) 15 :=
  lpKey_of hE (neweltop_measures_cal_ok N) (jn := noJn) neweltop_TopWeighed_L15_ok [] kNil (by kernel_rfl) [] jNil (by kernel_rfl) N fun S k =>
    Eq.trans (b := neweltop_TopWeighed_L15.head.raw 0 S (fun S0 => neweltop_TopWeighed_d15 N S0 k)) (by kernel_rfl) (congrArg (neweltop_TopWeighed_L15.head.raw 0 S) (funext fun S0 => Eq.trans (neweltop_TopWeighed_l15_eq N k N (lstC api_UseC (lget S0.tmps 1)) (toI (lget S0.tmps 15)) (Cod.dec api_PartC (lget (entCs (entAt S0.tab 0)))) (Cod.dec neweltop_WeighedC (lget (entCs (entAt S0.tab 1)))) (entNl (entAt S0.tab 2)) (lst api_UseC (entN (entAt S0.tab 2)) (entC (entAt S0.tab 2))) (entNl (entAt S0.tab 3)) (lst api_SpanC (entN (entAt S0.tab 3)) (entC (entAt S0.tab 3)))).symm (by kernel_rfl)))
noncomputable def neweltop_TopWeighed_go {R : Type} (N : Nat) (args : List SV) (T : Tab) (kf : SV × Tab → Option R) : Option R :=
  neweltop_TopWeighed N (Cod.dec api_PartC (lget (toCs (lget args 0)))) (lstC api_UseC (lget args 1)) (Cod.dec neweltop_WeighedC (lget (toCs (lget args 2)))) (fun q0 => kf (lget [.bool q0] 0, []))
noncomputable def neweltop_TopWeighed_cal {R : Type} (N : Nat) : Cal R := callM (neweltop_measures_cal N) 6 0 neweltop_TopWeighed_sp (neweltop_TopWeighed_go N)
theorem neweltop_TopWeighed_cal_ok {R : Type} (N : Nat) : CalOk E.P (neweltop_TopWeighed_cal (R := R) N) :=
  callM_ok hE (neweltop_measures_cal_ok N) (lp := neweltop_TopWeighed_lp N) (jn := noJn) (keys := [15]) (kCons (neweltop_TopWeighed_k15 N) kNil) (by kernel_rfl) (js := []) jNil (by kernel_rfl) neweltop_TopWeighed_sp_ok neweltop_TopWeighed_rs_ok (fun args T kf => Eq.trans (neweltop_TopWeighed_def N (Cod.dec api_PartC (lget (toCs (lget args 0)))) (lstC api_UseC (lget args 1)) (Cod.dec neweltop_WeighedC (lget (toCs (lget args 2)))) (fun q0 => kf (lget [.bool q0] 0, []))) (by kernel_rfl : neweltop_TopWeighed_run N args T kf = fnM E (neweltop_measures_cal N) (neweltop_TopWeighed_lp N) (noJn) 6 (neweltop_TopWeighed_sp.vs args) (neweltop_TopWeighed_sp.tab T) 0 (resK neweltop_TopWeighed_rs kf)))


theorem more_f (l : Arr api_Use) (u : Nat) (L H : Int) (z : List SV) (j : Nat) :
    (lst api_UseC (lst api_UseC (0 + l.n) (catC 0 (litC z []) (Cod.cell api_UseC l.f))).n (setCs u 4 (setCs u 3 (Cod.cell api_UseC (lst api_UseC (0 + l.n) (catC 0 (litC z []) (Cod.cell api_UseC l.f))).f) [SV.bool true]) [SV.int IntKind.i64 L, SV.int IntKind.i64 H])).f j =
      if j = u then ⟨(l.f u).Day, (l.f u).Turns, (l.f u).Class, true, ⟨L, H⟩⟩ else l.f j := by
  have e1 : (lst api_UseC (0 + l.n) (catC 0 (litC z []) (Cod.cell api_UseC l.f))).f = l.f := by funext i; rfl
  rw [e1]
  by_cases e : j = u
  · subst e
    rw [if_pos rfl]
    simp [lst, setCs, setC, api_UseC, toI, toB, Cod.cell, lget]
  · have e0 : (j == u) = false := by simpa using e
    rw [if_neg e]
    show api_UseC.dec (fun k => setC u 5 (setC u 4 (setC u 3 (Cod.cell api_UseC l.f) (SV.bool true)) (SV.int IntKind.i64 L)) (SV.int IntKind.i64 H) j k) = l.f j
    simp only [setC, e0, Bool.false_and, cond_false]
    rfl

theorem weighed_l15 (N : Nat) {l : Arr api_Use} {x : neweltop_Weighed} (hw : x.Wears.n = l.n) (hln : l.n ≤ 40) {a : Arr api_Span} {g : Nat → api_Span} (ha : a.Is l.n g) (hin : ∀ j, j < l.n → inS (x.Wears.f j) (g j)) {R : Type} (p : api_Part) (b1 b2 : Bool) (m : Arr api_Use) (kr : Bool → Option R) (k0 : Unit → Option R) : ∀ (r i n : Nat), i + r = l.n → r < n →
    neweltop_TopWeighed_l15 N n l (i : Int) p x b1 m b2 a kr k0 = k0 () := by
  intro r
  induction r with
  | zero =>
    intro i n h1 h2
    obtain ⟨n, rfl⟩ : ∃ m, n = m + 1 := ⟨n - 1, by omega⟩
    unfold neweltop_TopWeighed_l15 neweltop_TopWeighed_b15
    simp only [ltF (show l.n ≤ i by omega), cond_false]
  | succ r ih =>
    intro i n h1 h2
    obtain ⟨n, rfl⟩ : ∃ m, n = m + 1 := ⟨n - 1, by omega⟩
    have hi : i < l.n := by omega
    obtain ⟨h3, h4⟩ := hin i hi
    have han := ha.1
    have hai := ha.2 i hi
    have c1 : ¬ x.Wears.f i < (g i).Low := by omega
    have c2 : ¬ x.Wears.f i > (g i).High := by omega
    unfold neweltop_TopWeighed_l15 neweltop_TopWeighed_b15
    simp only [ltT hi, ltT (show i < x.Wears.n by omega), ltT (show i < a.n by omega), nat_nonneg, Bool.and_self, cond_true, Int.toNat_natCast, w64_succ (show i < 1000000000000 by omega), hai, c1, c2, decide_false, cond_false]
    exact ih (i + 1) n (by omega) (by omega)

theorem topWeighed_true (p : api_Part) (l : Arr api_Use) (x : neweltop_Weighed) (hp0 : p.wf) (hn0 : l.n ≤ maxLen) (hl0 : ∀ i, i < l.n → (l.f i).wf) (hx : x.wf) : ∃ N, neweltop_TopWeighed N p l x (fun q0 => okK (lget [.bool q0] 0, [])) = some () := by
  refine ⟨100, ?_⟩
  have hN : (100 : Nat) ≤ 100 := Nat.le_refl _
  have htr : okK (lget [SV.bool true] 0, []) = some () := rfl
  rw [neweltop_TopWeighed_def]
  unfold neweltop_TopWeighed_m
  simp only [neweltop_measures_eq, htr]
  refine (refPart 100 hN p l _).elim (fun ⟨v, hv, h⟩ => h.trans ?_) (fun ⟨⟨hp, hl⟩, h⟩ => h.trans ?_)
  · have : (v != 0) = true := by simpa using hv
    simp only [this, cond_true]
  simp only [bne_self_eq_false, cond_false]
  refine (refHist hN hp hl x.Wears _).elim (fun h => h.trans ?_) (fun ⟨⟨hwn, hh⟩, h⟩ => h.trans ?_)
  · simp only [Bool.not_false, cond_true]
  simp only [Bool.not_true, cond_false]
  by_cases c1 : x.Use < 0
  · simp only [c1, decide_true, cond_true]
  by_cases c2 : x.Use ≥ (l.n : Int)
  · simp only [c1, c2, decide_true, decide_false, cond_true, cond_false]
  obtain ⟨u, hu⟩ : ∃ u : Nat, x.Use = u := ⟨x.Use.toNat, by omega⟩
  have hul : u < l.n := by omega
  have hln := hl.n
  simp only [c1, c2, decide_false, cond_false]
  rw [hu]
  simp only [nat_nonneg, ltT hul, Bool.and_self, cond_true, Int.toNat_natCast]
  cases hm : (l.f u).Measured with
  | true => simp only [cond_true]
  | false =>
    simp only [cond_false, ltT (show u < x.Wears.n by omega), cond_true]
    refine (allow_cases hN x.Readings (x.Wears.f u) _).elim (fun h => h.trans ?_) (fun ⟨hal, h⟩ => h.trans ?_)
    · simp only [Bool.not_false, cond_true]
    simp only [Bool.not_true, cond_false]
    have hal1 := hal.n1
    have hwa := hal.w 0 (by omega)
    have hr0 := hal.r 0 (by omega)
    have hwb := wide_bounds hr0
    have hrs := hr0.s
    obtain ⟨s, s1, s2, s3, s4⟩ := truth_at hN hal (by omega)
    rw [s4]
    simp only [bne_self_eq_false, cond_false]
    rw [newelref02_CopyUses_def]
    unfold newelref02_CopyUses_m
    have hroom : room (0 + l.n) = true := room_of (by omega)
    simp only [hroom, cond_true]
    have hcn : (lst api_UseC (0 + l.n) (catC 0 (litC [SV.int IntKind.i64 (0 : Int), SV.int IntKind.i64 (0 : Int), SV.int IntKind.i64 (0 : Int), SV.bool false, SV.int IntKind.i64 (0 : Int), SV.int IntKind.i64 (0 : Int)] []) (Cod.cell api_UseC l.f))).n = l.n := by show 0 + l.n = l.n; omega
    simp only [hcn, ltT hul, Bool.and_self, cond_true]
    have hL : (if s.Low > 0 then s.Low else 0) = max 0 s.Low := max0_if _
    have hmf := more_f l u (if s.Low > 0 then s.Low else 0) s.High [SV.int IntKind.i64 (0 : Int), SV.int IntKind.i64 (0 : Int), SV.int IntKind.i64 (0 : Int), SV.bool false, SV.int IntKind.i64 (0 : Int), SV.int IntKind.i64 (0 : Int)]
    rw [hcn] at hmf
    have hmn : (lst api_UseC l.n (setCs u 4 (setCs u 3 (Cod.cell api_UseC (lst api_UseC (0 + l.n) (catC 0 (litC [SV.int IntKind.i64 (0 : Int), SV.int IntKind.i64 (0 : Int), SV.int IntKind.i64 (0 : Int), SV.bool false, SV.int IntKind.i64 (0 : Int), SV.int IntKind.i64 (0 : Int)] []) (Cod.cell api_UseC l.f))).f) [SV.bool true]) [SV.int IntKind.i64 (if s.Low > 0 then s.Low else 0), SV.int IntKind.i64 s.High])).n = l.n := rfl
    rw [hL] at hmf hmn
    rw [hL]
    generalize lst api_UseC l.n (setCs u 4 (setCs u 3 (Cod.cell api_UseC (lst api_UseC (0 + l.n) (catC 0 (litC [SV.int IntKind.i64 (0 : Int), SV.int IntKind.i64 (0 : Int), SV.int IntKind.i64 (0 : Int), SV.bool false, SV.int IntKind.i64 (0 : Int), SV.int IntKind.i64 (0 : Int)] []) (Cod.cell api_UseC l.f))).f) [SV.bool true]) [SV.int IntKind.i64 (max 0 s.Low), SV.int IntKind.i64 s.High]) = m at hmf hmn ⊢
    -- the wear that the readings allow is not below nothing
    have hw0 : 0 ≤ x.Wears.f u := by
      have a := (fS_in hh (u + 1) (by omega)).1
      have b := (fS_bd hp hl u (by omega)).1
      have c := (fS_in hh u (by omega)).1
      have d := (hh u hul).1.1
      have e := (g_bounds hp (hl.u u hul)).1
      omega
    have hsub : Sub m l := ⟨hmn, fun i => by rw [hmf]; split <;> simp_all, fun i => by rw [hmf]; split <;> simp_all, fun i => by rw [hmf]; split <;> simp_all, fun i hi => by
      by_cases e : i = u
      · subst e; rw [hm] at hi; cases hi
      · rw [hmf, if_neg e]; exact ⟨hi, rfl⟩⟩
    have hlm : VU p m := ⟨by omega, fun i hi => by
      have h0 := hl.u i (by omega)
      have hday : dayB m i = dayB l i := by
        cases i with
        | zero => rfl
        | succ i => exact hsub.d i
      by_cases e : i = u
      · subst e
        refine ⟨by rw [hday, hsub.d]; exact h0.d, by rw [hsub.d]; exact h0.d0, by rw [hsub.t]; exact h0.t, by rw [hsub.c]; exact h0.c, ?_, ?_⟩
        · rw [hmf, if_pos rfl]
          exact ⟨by show 0 ≤ max 0 s.Low; omega, by show max 0 s.Low ≤ s.High; omega, s3⟩
        · rw [hmf, if_pos rfl]
          intro h; cases h
      · have e2 : m.f i = l.f i := by rw [hmf, if_neg e]
        exact ⟨by rw [hday, e2]; exact h0.d, by rw [e2]; exact h0.d0, by rw [e2]; exact h0.t, by rw [e2]; exact h0.c, by rw [e2]; exact h0.s, by rw [e2]; exact h0.z⟩⟩
    have hhm : ∀ j, j < m.n → histP p m x.Wears.f j := fun j hj => by
      obtain ⟨h1, h2⟩ := hh j (by omega)
      refine ⟨by rw [hsub.gL, hsub.gH]; exact h1, fun hms => ?_⟩
      by_cases e : j = u
      · subst e
        rw [hmf, if_pos rfl]
        exact ⟨by show max 0 s.Low ≤ _; omega, s2⟩
      · rw [hmf, if_neg e] at hms ⊢
        exact h2 hms
    rw [refuted_eq hN hp hlm hhm]
    obtain ⟨b, a, ha, hwe⟩ := wear_eq hN hp hlm hhm
    rw [hwe]
    have hnn : ((a.n : Int) != (l.n : Int)) = false := by have := ha.1; simp; omega
    simp only [bne_self_eq_false, cond_false, hnn]
    rw [hmn] at ha
    refine (weighed_l15 100 hwn hln ha (fun j hj => by
      have := bk_in hhm (l.n - 1 - j) (by omega)
      rw [hmn] at this
      rw [show l.n - 1 - (l.n - 1 - j) = j by omega] at this
      exact this) p _ b m _ _ l.n 0 100 (by omega) (by omega)).trans ?_
    have e0 : ((0 : Int) == 0) = true := rfl
    refine (beyond_cases hN hp hl hh _).elim (fun ⟨j, hj, hjl, hjm, h⟩ => h.trans ?_) (fun ⟨hno, h⟩ => h.trans ?_)
    · refine (beyond_cases hN hp hlm hhm _).elim (fun ⟨j2, hj2, hjl2, hjm2, h⟩ => h.trans ?_) (fun ⟨hno, h⟩ => h.trans ?_)
      · have c3 : ¬ ((j2 : Int) < 0) := by omega
        have c4 : (j : Int) ≥ 0 := by omega
        have c5 : (j : Int) ≤ (j2 : Int) := by
          have : ¬ j2 < j := fun h => hjm j2 h (late_sub hsub p hjl2)
          omega
        simp only [e0, c3, c4, c5, decide_true, decide_false, cond_true, cond_false]
      · rfl
    · refine (beyond_cases hN hp hlm hhm _).elim (fun ⟨j2, hj2, hjl2, hjm2, h⟩ => h.trans ?_) (fun ⟨hno, h⟩ => h.trans ?_)
      · exact absurd (late_sub hsub p hjl2) (hno j2 (by omega))
      · rfl
end
end Go.Proofs.Ytpillmoddoccfaa
