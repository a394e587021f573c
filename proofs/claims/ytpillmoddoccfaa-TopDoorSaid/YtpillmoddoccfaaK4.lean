import Derived.Test.YtpillmoddoccfaaK3
set_option maxRecDepth 100000
set_option maxHeartbeats 0
set_option linter.unusedVariables false
namespace Go.Proofs.Ytpillmoddoccfaa
open Go.Sx
noncomputable section
def coT_m {R : Type} (N : Nat) (a417 : Arr (Arr pLi)) (a418 : Arr ByteArray) (a419 : Arr ByteArray) (a420 : Arr pCo) (a421 : Arr pSt) (a422 : Arr pRu) (a423 : Int) (a424 : Int) (a425 : Int) (a426 : Int) (k : Bool → Int → Int → Int → Option R) : Option R :=
 ixT N a417 a418 a419 a420 a421 a422 a423 a424 a425 a426 (fun r517 r518 r519 r520 =>
 k (decide (r517 ≥ (0 : Int))) r518 r519 r520)
noncomputable def coT {R : Type} : Nat → Arr (Arr pLi) → Arr ByteArray → Arr ByteArray → Arr pCo → Arr pSt → Arr pRu → Int → Int → Int → Int → (Bool → Int → Int → Int → Option R) → Option R := lock (@coT_m R)
theorem coT_def {R : Type} (N : Nat) (a417 : Arr (Arr pLi)) (a418 : Arr ByteArray) (a419 : Arr ByteArray) (a420 : Arr pCo) (a421 : Arr pSt) (a422 : Arr pRu) (a423 : Int) (a424 : Int) (a425 : Int) (a426 : Int) (k : Bool → Int → Int → Int → Option R) : coT N a417 a418 a419 a420 a421 a422 a423 a424 a425 a426 k = coT_m N a417 a418 a419 a420 a421 a422 a423 a424 a425 a426 k := by unfold coT; rw [lock_eq]
def coT_sp : Sp := ⟨[rSl (lsC pLiC), rFunc 151 0 [rPtr 0 0, rPtr 1 0, rPtr 2 0]], [(0, eBlk [rSl strC, rSl strC, rSl pCoC, rSl pStC, rSl pRuC]), (1, eBlk [rInt .i64, rInt .i64, rInt .i64]), (2, eBlk [rInt .i64])]⟩
theorem coT_sp_ok : coT_sp.Ok := ⟨(allCons (rSl_ok (lsC_ok pLiC_ok)) (allCons (rFunc_ok 151 0 (allCons (rPtr_ok 0 0) (allCons (rPtr_ok 1 0) (allCons (rPtr_ok 2 0) allNil)))) allNil)), (eCons (eBlk_ok (allCons (rSl_ok strC_ok) (allCons (rSl_ok strC_ok) (allCons (rSl_ok pCoC_ok) (allCons (rSl_ok pStC_ok) (allCons (rSl_ok pRuC_ok) allNil)))))) (eCons (eBlk_ok (allCons (rInt_ok .i64) (allCons (rInt_ok .i64) (allCons (rInt_ok .i64) allNil)))) (eCons (eBlk_ok (allCons (rInt_ok .i64) allNil)) eNil)))⟩
def coT_rs : Sp := ⟨[rBool], [(0, eBlk [rSl strC, rSl strC, rSl pCoC, rSl pStC, rSl pRuC]), (1, eBlk [rInt .i64, rInt .i64, rInt .i64]), (2, eBlk [rInt .i64])]⟩
theorem coT_rs_ok : coT_rs.Ok := ⟨(allCons rBool_ok allNil), (eCons (eBlk_ok (allCons (rSl_ok strC_ok) (allCons (rSl_ok strC_ok) (allCons (rSl_ok pCoC_ok) (allCons (rSl_ok pStC_ok) (allCons (rSl_ok pRuC_ok) allNil)))))) (eCons (eBlk_ok (allCons (rInt_ok .i64) (allCons (rInt_ok .i64) (allCons (rInt_ok .i64) allNil)))) (eCons (eBlk_ok (allCons (rInt_ok .i64) allNil)) eNil)))⟩
def coT_run {R : Type} (N : Nat) (args : List SV) (T : Tab) (kf : SV × Tab → Option R) : Option R :=
  coT_m N (lstC (lsC pLiC) (lget args 0)) (lstC strC (lget (entCs (entAt T 0)) 0)) (lstC strC (lget (entCs (entAt T 0)) 1)) (lstC pCoC (lget (entCs (entAt T 0)) 2)) (lstC pStC (lget (entCs (entAt T 0)) 3)) (lstC pRuC (lget (entCs (entAt T 0)) 4)) (toI (lget (entCs (entAt T 1)) 0)) (toI (lget (entCs (entAt T 1)) 1)) (toI (lget (entCs (entAt T 1)) 2)) (toI (lget (entCs (entAt T 2)) 0)) (fun q0 q6 q7 q8 => kf (lget [.bool q0] 0, [(0, .blk [slC strC (lstC strC (lget (entCs (entAt T 0)) 0)), slC strC (lstC strC (lget (entCs (entAt T 0)) 1)), slC pCoC (lstC pCoC (lget (entCs (entAt T 0)) 2)), slC pStC (lstC pStC (lget (entCs (entAt T 0)) 3)), slC pRuC (lstC pRuC (lget (entCs (entAt T 0)) 4))]), (1, .blk [.int .i64 q6, .int .i64 q7, .int .i64 q8]), (2, .blk [.int .i64 (toI (lget (entCs (entAt T 2)) 0))])]))
def coT_lp {R : Type} (N : Nat) : Lp R := fun body S k => Option.none
noncomputable def coT_go {R : Type} (N : Nat) (args : List SV) (T : Tab) (kf : SV × Tab → Option R) : Option R :=
  coT N (lstC (lsC pLiC) (lget args 0)) (lstC strC (lget (entCs (entAt T 0)) 0)) (lstC strC (lget (entCs (entAt T 0)) 1)) (lstC pCoC (lget (entCs (entAt T 0)) 2)) (lstC pStC (lget (entCs (entAt T 0)) 3)) (lstC pRuC (lget (entCs (entAt T 0)) 4)) (toI (lget (entCs (entAt T 1)) 0)) (toI (lget (entCs (entAt T 1)) 1)) (toI (lget (entCs (entAt T 1)) 2)) (toI (lget (entCs (entAt T 2)) 0)) (fun q0 q6 q7 q8 => kf (lget [.bool q0] 0, [(0, .blk [slC strC (lstC strC (lget (entCs (entAt T 0)) 0)), slC strC (lstC strC (lget (entCs (entAt T 0)) 1)), slC pCoC (lstC pCoC (lget (entCs (entAt T 0)) 2)), slC pStC (lstC pStC (lget (entCs (entAt T 0)) 3)), slC pRuC (lstC pRuC (lget (entCs (entAt T 0)) 4))]), (1, .blk [.int .i64 q6, .int .i64 q7, .int .i64 q8]), (2, .blk [.int .i64 (toI (lget (entCs (entAt T 2)) 0))])]))
noncomputable def coT_cal {R : Type} (N : Nat) : Cal R := callM (ixT_cal N) 150 3 coT_sp (coT_go N)
theorem coT_cal_ok {R : Type} (N : Nat) : CalOk E.P (coT_cal (R := R) N) :=
  callM_ok hE (ixT_cal_ok N) (lp := coT_lp N) (jn := noJn) (keys := []) kNil (by kernel_rfl) (js := []) jNil (by kernel_rfl) coT_sp_ok coT_rs_ok (fun args T kf => Eq.trans (coT_def N (lstC (lsC pLiC) (lget args 0)) (lstC strC (lget (entCs (entAt T 0)) 0)) (lstC strC (lget (entCs (entAt T 0)) 1)) (lstC pCoC (lget (entCs (entAt T 0)) 2)) (lstC pStC (lget (entCs (entAt T 0)) 3)) (lstC pRuC (lget (entCs (entAt T 0)) 4)) (toI (lget (entCs (entAt T 1)) 0)) (toI (lget (entCs (entAt T 1)) 1)) (toI (lget (entCs (entAt T 1)) 2)) (toI (lget (entCs (entAt T 2)) 0)) (fun q0 q6 q7 q8 => kf (lget [.bool q0] 0, [(0, .blk [slC strC (lstC strC (lget (entCs (entAt T 0)) 0)), slC strC (lstC strC (lget (entCs (entAt T 0)) 1)), slC pCoC (lstC pCoC (lget (entCs (entAt T 0)) 2)), slC pStC (lstC pStC (lget (entCs (entAt T 0)) 3)), slC pRuC (lstC pRuC (lget (entCs (entAt T 0)) 4))]), (1, .blk [.int .i64 q6, .int .i64 q7, .int .i64 q8]), (2, .blk [.int .i64 (toI (lget (entCs (entAt T 2)) 0))])]))) (by kernel_rfl : coT_run N args T kf = fnM E (ixT_cal N) (coT_lp N) (noJn) 150 (coT_sp.vs args) (coT_sp.tab T) 3 (resK coT_rs kf)))
def sP_Holds_m {R : Type} (N : Nat) (a409 : Arr ByteArray) (a410 : Arr ByteArray) (a411 : Arr pCo) (a412 : Arr pSt) (a413 : Arr pRu) (a414 : Arr (Arr pLi)) (a415 : pPl) (a416 : Int) (k : Bool → Option R) : Option R :=
 coT N a414 a409 a410 a411 a412 a413 (pPl.State a415) (Arr2_int.a0 (pPl.Values a415)) (Arr2_int.a1 (pPl.Values a415)) a416 (fun r521 r522 r523 r524 =>
 k r521)
noncomputable def sP_Holds {R : Type} : Nat → Arr ByteArray → Arr ByteArray → Arr pCo → Arr pSt → Arr pRu → Arr (Arr pLi) → pPl → Int → (Bool → Option R) → Option R := lock (@sP_Holds_m R)
theorem sP_Holds_def {R : Type} (N : Nat) (a409 : Arr ByteArray) (a410 : Arr ByteArray) (a411 : Arr pCo) (a412 : Arr pSt) (a413 : Arr pRu) (a414 : Arr (Arr pLi)) (a415 : pPl) (a416 : Int) (k : Bool → Option R) : sP_Holds N a409 a410 a411 a412 a413 a414 a415 a416 k = sP_Holds_m N a409 a410 a411 a412 a413 a414 a415 a416 k := by unfold sP_Holds; rw [lock_eq]
def sP_Holds_sp : Sp := ⟨[rAggs [rSl strC, rSl strC, rSl pCoC, rSl pStC, rSl pRuC], rSl (lsC pLiC), rAgg pPlC, rInt .i64], []⟩
theorem sP_Holds_sp_ok : sP_Holds_sp.Ok := ⟨(allCons (rAggs_ok (allCons (rSl_ok strC_ok) (allCons (rSl_ok strC_ok) (allCons (rSl_ok pCoC_ok) (allCons (rSl_ok pStC_ok) (allCons (rSl_ok pRuC_ok) allNil)))))) (allCons (rSl_ok (lsC_ok pLiC_ok)) (allCons (rAgg_ok pPlC_ok pPlC_len) (allCons (rInt_ok .i64) allNil)))), eNil⟩
def sP_Holds_rs : Sp := ⟨[rBool], []⟩
theorem sP_Holds_rs_ok : sP_Holds_rs.Ok := ⟨(allCons rBool_ok allNil), eNil⟩
def sP_Holds_run {R : Type} (N : Nat) (args : List SV) (T : Tab) (kf : SV × Tab → Option R) : Option R :=
  sP_Holds_m N (lstC strC (lget (toCs (lget args 0)) 0)) (lstC strC (lget (toCs (lget args 0)) 1)) (lstC pCoC (lget (toCs (lget args 0)) 2)) (lstC pStC (lget (toCs (lget args 0)) 3)) (lstC pRuC (lget (toCs (lget args 0)) 4)) (lstC (lsC pLiC) (lget args 1)) (Cod.dec pPlC (lget (toCs (lget args 2)))) (toI (lget args 3)) (fun q0 => kf (lget [.bool q0] 0, []))
def sP_Holds_lp {R : Type} (N : Nat) : Lp R := fun body S k => Option.none
noncomputable def sP_Holds_go {R : Type} (N : Nat) (args : List SV) (T : Tab) (kf : SV × Tab → Option R) : Option R :=
  sP_Holds N (lstC strC (lget (toCs (lget args 0)) 0)) (lstC strC (lget (toCs (lget args 0)) 1)) (lstC pCoC (lget (toCs (lget args 0)) 2)) (lstC pStC (lget (toCs (lget args 0)) 3)) (lstC pRuC (lget (toCs (lget args 0)) 4)) (lstC (lsC pLiC) (lget args 1)) (Cod.dec pPlC (lget (toCs (lget args 2)))) (toI (lget args 3)) (fun q0 => kf (lget [.bool q0] 0, []))
noncomputable def sP_Holds_cal {R : Type} (N : Nat) : Cal R := callM (coT_cal N) 120 0 sP_Holds_sp (sP_Holds_go N)
theorem sP_Holds_cal_ok {R : Type} (N : Nat) : CalOk E.P (sP_Holds_cal (R := R) N) :=
  callM_ok hE (coT_cal_ok N) (lp := sP_Holds_lp N) (jn := noJn) (keys := []) kNil (by kernel_rfl) (js := []) jNil (by kernel_rfl) sP_Holds_sp_ok sP_Holds_rs_ok (fun args T kf => Eq.trans (sP_Holds_def N (lstC strC (lget (toCs (lget args 0)) 0)) (lstC strC (lget (toCs (lget args 0)) 1)) (lstC pCoC (lget (toCs (lget args 0)) 2)) (lstC pStC (lget (toCs (lget args 0)) 3)) (lstC pRuC (lget (toCs (lget args 0)) 4)) (lstC (lsC pLiC) (lget args 1)) (Cod.dec pPlC (lget (toCs (lget args 2)))) (toI (lget args 3)) (fun q0 => kf (lget [.bool q0] 0, []))) (by kernel_rfl : sP_Holds_run N args T kf = fnM E (coT_cal N) (sP_Holds_lp N) (noJn) 120 (sP_Holds_sp.vs args) (sP_Holds_sp.tab T) 0 (resK sP_Holds_rs kf)))
def sP_set_m {R : Type} (N : Nat) (a537 : Arr ByteArray) (a538 : Arr ByteArray) (a539 : Arr pCo) (a540 : Arr pSt) (a541 : Arr pRu) (a542 : api_Set) (a543 : pPl) (k : pPl → Option R) : Option R :=
 bif decide ((0 : Int) ≤ api_Set.Counter a542) && decide (api_Set.Counter a542 < (↑(2 : Nat) : Int)) then
 bif api_Set.Kind a542 == (1 : Int) then
 k (pPl.mk (pPl.State a543) (Arr2_int.mk (bif api_Set.Counter a542 == (↑(0 : Nat) : Int) then (0 : Int) else Arr2_int.a0 (pPl.Values a543)) (bif api_Set.Counter a542 == (↑((0 : Nat) + (1 : Nat)) : Int) then (0 : Int) else Arr2_int.a1 (pPl.Values a543))))
 else
 bif api_Set.Kind a542 == (2 : Int) then
 bif decide ((0 : Int) ≤ api_Set.Counter a542) && decide (api_Set.Counter a542 < (↑(Arr.n a539) : Int)) then
 k (pPl.mk (pPl.State a543) (Arr2_int.mk (bif api_Set.Counter a542 == (↑(0 : Nat) : Int) then mnI (w64 (pickI (api_Set.Counter a542) (0 : Nat) [Arr2_int.a0 (pPl.Values a543), Arr2_int.a1 (pPl.Values a543)] + (1 : Int))) (pCo.Max (Arr.f a539 (Int.toNat (api_Set.Counter a542)))) else Arr2_int.a0 (pPl.Values a543)) (bif api_Set.Counter a542 == (↑((0 : Nat) + (1 : Nat)) : Int) then mnI (w64 (pickI (api_Set.Counter a542) (0 : Nat) [Arr2_int.a0 (pPl.Values a543), Arr2_int.a1 (pPl.Values a543)] + (1 : Int))) (pCo.Max (Arr.f a539 (Int.toNat (api_Set.Counter a542)))) else Arr2_int.a1 (pPl.Values a543))))
 else
 Option.none
 else
 bif api_Set.Kind a542 == (3 : Int) then
 k (pPl.mk (pPl.State a543) (Arr2_int.mk (bif api_Set.Counter a542 == (↑(0 : Nat) : Int) then mxI (w64 (pickI (api_Set.Counter a542) (0 : Nat) [Arr2_int.a0 (pPl.Values a543), Arr2_int.a1 (pPl.Values a543)] - (1 : Int))) (0 : Int) else Arr2_int.a0 (pPl.Values a543)) (bif api_Set.Counter a542 == (↑((0 : Nat) + (1 : Nat)) : Int) then mxI (w64 (pickI (api_Set.Counter a542) (0 : Nat) [Arr2_int.a0 (pPl.Values a543), Arr2_int.a1 (pPl.Values a543)] - (1 : Int))) (0 : Int) else Arr2_int.a1 (pPl.Values a543))))
 else
 k a543
 else
 Option.none
noncomputable def sP_set {R : Type} : Nat → Arr ByteArray → Arr ByteArray → Arr pCo → Arr pSt → Arr pRu → api_Set → pPl → (pPl → Option R) → Option R := lock (@sP_set_m R)
theorem sP_set_def {R : Type} (N : Nat) (a537 : Arr ByteArray) (a538 : Arr ByteArray) (a539 : Arr pCo) (a540 : Arr pSt) (a541 : Arr pRu) (a542 : api_Set) (a543 : pPl) (k : pPl → Option R) : sP_set N a537 a538 a539 a540 a541 a542 a543 k = sP_set_m N a537 a538 a539 a540 a541 a542 a543 k := by unfold sP_set; rw [lock_eq]
def sP_set_sp : Sp := ⟨[rAggs [rSl strC, rSl strC, rSl pCoC, rSl pStC, rSl pRuC], rAgg api_SetC, rPtr 0 0], [(0, eBlkC pPlC)]⟩
theorem sP_set_sp_ok : sP_set_sp.Ok := ⟨(allCons (rAggs_ok (allCons (rSl_ok strC_ok) (allCons (rSl_ok strC_ok) (allCons (rSl_ok pCoC_ok) (allCons (rSl_ok pStC_ok) (allCons (rSl_ok pRuC_ok) allNil)))))) (allCons (rAgg_ok api_SetC_ok api_SetC_len) (allCons (rPtr_ok 0 0) allNil))), (eCons (eBlkC_ok pPlC_ok pPlC_len) eNil)⟩
def sP_set_rs : Sp := ⟨[rTup []], [(0, eBlkC pPlC)]⟩
theorem sP_set_rs_ok : sP_set_rs.Ok := ⟨(allCons (rTup_ok allNil) allNil), (eCons (eBlkC_ok pPlC_ok pPlC_len) eNil)⟩
def sP_set_run {R : Type} (N : Nat) (args : List SV) (T : Tab) (kf : SV × Tab → Option R) : Option R :=
  sP_set_m N (lstC strC (lget (toCs (lget args 0)) 0)) (lstC strC (lget (toCs (lget args 0)) 1)) (lstC pCoC (lget (toCs (lget args 0)) 2)) (lstC pStC (lget (toCs (lget args 0)) 3)) (lstC pRuC (lget (toCs (lget args 0)) 4)) (Cod.dec api_SetC (lget (toCs (lget args 1)))) (Cod.dec pPlC (lget (entCs (entAt T 0)))) (fun q0 => kf (lget [.tup []] 0, [(0, .blk (Cod.enc pPlC q0))]))
def sP_set_lp {R : Type} (N : Nat) : Lp R := fun body S k => Option.none
noncomputable def sP_set_go {R : Type} (N : Nat) (args : List SV) (T : Tab) (kf : SV × Tab → Option R) : Option R :=
  sP_set N (lstC strC (lget (toCs (lget args 0)) 0)) (lstC strC (lget (toCs (lget args 0)) 1)) (lstC pCoC (lget (toCs (lget args 0)) 2)) (lstC pStC (lget (toCs (lget args 0)) 3)) (lstC pRuC (lget (toCs (lget args 0)) 4)) (Cod.dec api_SetC (lget (toCs (lget args 1)))) (Cod.dec pPlC (lget (entCs (entAt T 0)))) (fun q0 => kf (lget [.tup []] 0, [(0, .blk (Cod.enc pPlC q0))]))
noncomputable def sP_set_cal {R : Type} (N : Nat) : Cal R := callM (sP_Holds_cal N) 121 1 sP_set_sp (sP_set_go N)
theorem sP_set_cal_ok {R : Type} (N : Nat) : CalOk E.P (sP_set_cal (R := R) N) :=
  callM_ok hE (sP_Holds_cal_ok N) (lp := sP_set_lp N) (jn := noJn) (keys := []) kNil (by kernel_rfl) (js := []) jNil (by kernel_rfl) sP_set_sp_ok sP_set_rs_ok (fun args T kf => Eq.trans (sP_set_def N (lstC strC (lget (toCs (lget args 0)) 0)) (lstC strC (lget (toCs (lget args 0)) 1)) (lstC pCoC (lget (toCs (lget args 0)) 2)) (lstC pStC (lget (toCs (lget args 0)) 3)) (lstC pRuC (lget (toCs (lget args 0)) 4)) (Cod.dec api_SetC (lget (toCs (lget args 1)))) (Cod.dec pPlC (lget (entCs (entAt T 0)))) (fun q0 => kf (lget [.tup []] 0, [(0, .blk (Cod.enc pPlC q0))]))) (by kernel_rfl : sP_set_run N args T kf = fnM E (sP_Holds_cal N) (sP_set_lp N) (noJn) 121 (sP_set_sp.vs args) (sP_set_sp.tab T) 1 (resK sP_set_rs kf)))
def sP_Step_L6 : LoopSp := ⟨⟨[3, 4, 6, 8, 39, 40, 41], ⟨(dr 3 ((rPtr 0 0) :: (rPtr 1 0) :: (dr 1 ((rPtr 2 0) :: (dr 1 ((rPtr 3 0) :: (dr 30 ((rSl api_SetC) :: (rInt .i64) :: (rInt .i64) :: (dr 12 []))))))))), [(0, eBlk [rSl strC, rSl strC, rSl pCoC, rSl pStC, rSl pRuC]), (1, eBlkC pPlC), (2, eBlkC pPlC), (3, eBlkC pRuC)]⟩, 4⟩, [(some 2, ⟨[4, 6, 8], ⟨(dr 4 ((rPtr 0 0) :: (dr 1 ((rPtr 1 0) :: (dr 1 ((rPtr 2 0) :: (dr 45 []))))))), [(0, eBlkC pPlC), (1, eBlkC pPlC), (2, eBlkC pRuC)]⟩, 3⟩)]⟩
theorem sP_Step_L6_ok : sP_Step_L6.Ok := ⟨⟨(drCons 3 (allCons (rPtr_ok 0 0) (allCons (rPtr_ok 1 0) (drCons 1 (allCons (rPtr_ok 2 0) (drCons 1 (allCons (rPtr_ok 3 0) (drCons 30 (allCons (rSl_ok api_SetC_ok) (allCons (rInt_ok .i64) (allCons (rInt_ok .i64) (drCons 12 allNil)))))))))))), (eCons (eBlk_ok (allCons (rSl_ok strC_ok) (allCons (rSl_ok strC_ok) (allCons (rSl_ok pCoC_ok) (allCons (rSl_ok pStC_ok) (allCons (rSl_ok pRuC_ok) allNil)))))) (eCons (eBlkC_ok pPlC_ok pPlC_len) (eCons (eBlkC_ok pPlC_ok pPlC_len) (eCons (eBlkC_ok pRuC_ok pRuC_len) eNil))))⟩, (xCons ⟨(drCons 4 (allCons (rPtr_ok 0 0) (drCons 1 (allCons (rPtr_ok 1 0) (drCons 1 (allCons (rPtr_ok 2 0) (drCons 45 allNil))))))), (eCons (eBlkC_ok pPlC_ok pPlC_len) (eCons (eBlkC_ok pPlC_ok pPlC_len) (eCons (eBlkC_ok pRuC_ok pRuC_len) eNil)))⟩ xNil)⟩
def sP_Step_h6 (v526 : Arr api_Set) (v527 : Int) (v528 : Int) (v529 : Arr ByteArray) (v530 : Arr ByteArray) (v531 : Arr pCo) (v532 : Arr pSt) (v533 : Arr pRu) (v534 : pPl) (v535 : pPl) (v536 : pRu) : St := ⟨(un 3 ((.ptr 0 0) :: (.ptr 1 0) :: (un 1 ((.ptr 2 0) :: (un 1 ((.ptr 3 0) :: (un 30 ((slC api_SetC v526) :: (.int .i64 v527) :: (.int .i64 v528) :: (un 12 []))))))))), [(0, .blk [slC strC v529, slC strC v530, slC pCoC v531, slC pStC v532, slC pRuC v533]), (1, .blk (Cod.enc pPlC v534)), (2, .blk (Cod.enc pPlC v535)), (3, .blk (Cod.enc pRuC v536))], 4⟩
def sP_Step_x6_2 (v535 : pPl) (v536 : pRu) (q0 : pPl) : St := ⟨(un 4 ((.ptr 0 0) :: (un 1 ((.ptr 1 0) :: (un 1 ((.ptr 2 0) :: (un 45 []))))))), [(0, .blk (Cod.enc pPlC q0)), (1, .blk (Cod.enc pPlC v535)), (2, .blk (Cod.enc pRuC v536))], 3⟩
def sP_Step_b6 {R : Type} (N : Nat) (rc : Arr api_Set → Int → Int → Arr ByteArray → Arr ByteArray → Arr pCo → Arr pSt → Arr pRu → pPl → pPl → pRu → Option R) (v526 : Arr api_Set) (v527 : Int) (v528 : Int) (v529 : Arr ByteArray) (v530 : Arr ByteArray) (v531 : Arr pCo) (v532 : Arr pSt) (v533 : Arr pRu) (v534 : pPl) (v535 : pPl) (v536 : pRu) (k2 : pPl → Option R) : Option R :=
 bif decide (v528 < v527) then
 bif decide ((0 : Int) ≤ v528) && decide (v528 < (↑(Arr.n v526) : Int)) then
 sP_set N v529 v530 v531 v532 v533 (Arr.f v526 (Int.toNat v528)) v534 (fun r544 =>
 rc v526 v527 (w64 (v528 + (1 : Int))) v529 v530 v531 v532 v533 r544 v535 v536)
 else
 Option.none
 else
 k2 v534
def sP_Step_l6 {R : Type} (N : Nat) : Nat → Arr api_Set → Int → Int → Arr ByteArray → Arr ByteArray → Arr pCo → Arr pSt → Arr pRu → pPl → pPl → pRu → (pPl → Option R) → Option R
  | 0, _, _, _, _, _, _, _, _, _, _, _, _ => Option.none
  | n + 1, v526, v527, v528, v529, v530, v531, v532, v533, v534, v535, v536, k2 => sP_Step_b6 N (fun v526 v527 v528 v529 v530 v531 v532 v533 v534 v535 v536 => sP_Step_l6 N n v526 v527 v528 v529 v530 v531 v532 v533 v534 v535 v536 k2) v526 v527 v528 v529 v530 v531 v532 v533 v534 v535 v536 k2
def sP_Step_L2 : LoopSp := ⟨⟨[2, 3, 4, 6, 13, 14, 15], ⟨(dr 2 ((rInt .i64) :: (rPtr 0 0) :: (rPtr 1 0) :: (dr 1 ((rPtr 2 0) :: (dr 6 ((rSl pRuC) :: (rInt .i64) :: (rInt .i64) :: (dr 38 []))))))), [(0, eBlk [rSl strC, rSl strC, rSl pCoC, rSl pStC, rSl pRuC]), (1, eBlkC pPlC), (2, eBlkC pPlC)]⟩, 3⟩, [(some 0, ⟨[4, 6], ⟨(dr 4 ((rPtr 0 0) :: (dr 1 ((rPtr 1 0) :: (dr 47 []))))), [(0, eBlkC pPlC), (1, eBlkC pPlC)]⟩, 2⟩)]⟩
theorem sP_Step_L2_ok : sP_Step_L2.Ok := ⟨⟨(drCons 2 (allCons (rInt_ok .i64) (allCons (rPtr_ok 0 0) (allCons (rPtr_ok 1 0) (drCons 1 (allCons (rPtr_ok 2 0) (drCons 6 (allCons (rSl_ok pRuC_ok) (allCons (rInt_ok .i64) (allCons (rInt_ok .i64) (drCons 38 allNil))))))))))), (eCons (eBlk_ok (allCons (rSl_ok strC_ok) (allCons (rSl_ok strC_ok) (allCons (rSl_ok pCoC_ok) (allCons (rSl_ok pStC_ok) (allCons (rSl_ok pRuC_ok) allNil)))))) (eCons (eBlkC_ok pPlC_ok pPlC_len) (eCons (eBlkC_ok pPlC_ok pPlC_len) eNil)))⟩, (xCons ⟨(drCons 4 (allCons (rPtr_ok 0 0) (drCons 1 (allCons (rPtr_ok 1 0) (drCons 47 allNil))))), (eCons (eBlkC_ok pPlC_ok pPlC_len) (eCons (eBlkC_ok pPlC_ok pPlC_len) eNil))⟩ xNil)⟩
def sP_Step_h2 (v398 : Int) (v399 : Arr pRu) (v400 : Int) (v401 : Int) (v402 : Arr ByteArray) (v403 : Arr ByteArray) (v404 : Arr pCo) (v405 : Arr pSt) (v406 : Arr pRu) (v407 : pPl) (v408 : pPl) : St := ⟨(un 2 ((.int .i64 v398) :: (.ptr 0 0) :: (.ptr 1 0) :: (un 1 ((.ptr 2 0) :: (un 6 ((slC pRuC v399) :: (.int .i64 v400) :: (.int .i64 v401) :: (un 38 []))))))), [(0, .blk [slC strC v402, slC strC v403, slC pCoC v404, slC pStC v405, slC pRuC v406]), (1, .blk (Cod.enc pPlC v407)), (2, .blk (Cod.enc pPlC v408))], 3⟩
def sP_Step_x2_0 (v408 : pPl) (q0 : pPl) : St := ⟨(un 4 ((.ptr 0 0) :: (un 1 ((.ptr 1 0) :: (un 47 []))))), [(0, .blk (Cod.enc pPlC q0)), (1, .blk (Cod.enc pPlC v408))], 2⟩
def sP_Step_b2 {R : Type} (N : Nat) (rc : Int → Arr pRu → Int → Int → Arr ByteArray → Arr ByteArray → Arr pCo → Arr pSt → Arr pRu → pPl → pPl → Option R) (v398 : Int) (v399 : Arr pRu) (v400 : Int) (v401 : Int) (v402 : Arr ByteArray) (v403 : Arr ByteArray) (v404 : Arr pCo) (v405 : Arr pSt) (v406 : Arr pRu) (v407 : pPl) (v408 : pPl) (k0 : pPl → Option R) : Option R :=
 bif decide (v401 < v400) then
 bif decide ((0 : Int) ≤ v401) && decide (v401 < (↑(Arr.n v399) : Int)) then
 bif pRu.From (Arr.f v399 (Int.toNat v401)) != (-1 : Int) then
 bif pRu.From (Arr.f v399 (Int.toNat v401)) != pPl.State v407 then
 rc v398 v399 v400 (w64 (v401 + (1 : Int))) v402 v403 v404 v405 v406 v407 v408
 else
 sP_Holds N v402 v403 v404 v405 v406 (pRu.When (Arr.f v399 (Int.toNat v401))) v407 v398 (fun r525 =>
 bif !r525 then
 rc v398 v399 v400 (w64 (v401 + (1 : Int))) v402 v403 v404 v405 v406 v407 v408
 else
 sP_Step_l6 N N (pRu.Sets (Arr.f v399 (Int.toNat v401))) ((↑(Arr.n (pRu.Sets (Arr.f v399 (Int.toNat v401)))) : Int)) (0 : Int) v402 v403 v404 v405 v406 v407 v408 (Arr.f v399 (Int.toNat v401)) (fun r545 =>
 k0 (pPl.mk (pRu.To (Arr.f v399 (Int.toNat v401))) (pPl.Values r545))))
 else
 sP_Holds N v402 v403 v404 v405 v406 (pRu.When (Arr.f v399 (Int.toNat v401))) v407 v398 (fun r546 =>
 bif !r546 then
 rc v398 v399 v400 (w64 (v401 + (1 : Int))) v402 v403 v404 v405 v406 v407 v408
 else
 sP_Step_l6 N N (pRu.Sets (Arr.f v399 (Int.toNat v401))) ((↑(Arr.n (pRu.Sets (Arr.f v399 (Int.toNat v401)))) : Int)) (0 : Int) v402 v403 v404 v405 v406 v407 v408 (Arr.f v399 (Int.toNat v401)) (fun r547 =>
 k0 (pPl.mk (pRu.To (Arr.f v399 (Int.toNat v401))) (pPl.Values r547))))
 else
 Option.none
 else
 k0 v407
def sP_Step_l2 {R : Type} (N : Nat) : Nat → Int → Arr pRu → Int → Int → Arr ByteArray → Arr ByteArray → Arr pCo → Arr pSt → Arr pRu → pPl → pPl → (pPl → Option R) → Option R
  | 0, _, _, _, _, _, _, _, _, _, _, _, _ => Option.none
  | n + 1, v398, v399, v400, v401, v402, v403, v404, v405, v406, v407, v408, k0 => sP_Step_b2 N (fun v398 v399 v400 v401 v402 v403 v404 v405 v406 v407 v408 => sP_Step_l2 N n v398 v399 v400 v401 v402 v403 v404 v405 v406 v407 v408 k0) v398 v399 v400 v401 v402 v403 v404 v405 v406 v407 v408 k0
def sP_Step_m {R : Type} (N : Nat) (a391 : Arr ByteArray) (a392 : Arr ByteArray) (a393 : Arr pCo) (a394 : Arr pSt) (a395 : Arr pRu) (a396 : pPl) (a397 : Int) (k : pPl → Option R) : Option R :=
 sP_Step_l2 N N a397 a395 ((↑(Arr.n a395) : Int)) (0 : Int) a391 a392 a393 a394 a395 a396 (pPl.mk (0 : Int) (Arr2_int.mk (0 : Int) (0 : Int))) (fun r548 =>
 k r548)
noncomputable def sP_Step {R : Type} : Nat → Arr ByteArray → Arr ByteArray → Arr pCo → Arr pSt → Arr pRu → pPl → Int → (pPl → Option R) → Option R := lock (@sP_Step_m R)
theorem sP_Step_def {R : Type} (N : Nat) (a391 : Arr ByteArray) (a392 : Arr ByteArray) (a393 : Arr pCo) (a394 : Arr pSt) (a395 : Arr pRu) (a396 : pPl) (a397 : Int) (k : pPl → Option R) : sP_Step N a391 a392 a393 a394 a395 a396 a397 k = sP_Step_m N a391 a392 a393 a394 a395 a396 a397 k := by unfold sP_Step; rw [lock_eq]
def sP_Step_sp : Sp := ⟨[rAggs [rSl strC, rSl strC, rSl pCoC, rSl pStC, rSl pRuC], rAgg pPlC, rInt .i64], []⟩
theorem sP_Step_sp_ok : sP_Step_sp.Ok := ⟨(allCons (rAggs_ok (allCons (rSl_ok strC_ok) (allCons (rSl_ok strC_ok) (allCons (rSl_ok pCoC_ok) (allCons (rSl_ok pStC_ok) (allCons (rSl_ok pRuC_ok) allNil)))))) (allCons (rAgg_ok pPlC_ok pPlC_len) (allCons (rInt_ok .i64) allNil))), eNil⟩
def sP_Step_rs : Sp := ⟨[rAgg pPlC], []⟩
theorem sP_Step_rs_ok : sP_Step_rs.Ok := ⟨(allCons (rAgg_ok pPlC_ok pPlC_len) allNil), eNil⟩
def sP_Step_run {R : Type} (N : Nat) (args : List SV) (T : Tab) (kf : SV × Tab → Option R) : Option R :=
  sP_Step_m N (lstC strC (lget (toCs (lget args 0)) 0)) (lstC strC (lget (toCs (lget args 0)) 1)) (lstC pCoC (lget (toCs (lget args 0)) 2)) (lstC pStC (lget (toCs (lget args 0)) 3)) (lstC pRuC (lget (toCs (lget args 0)) 4)) (Cod.dec pPlC (lget (toCs (lget args 1)))) (toI (lget args 2)) (fun q0 => kf (lget [.agg (Cod.enc pPlC q0)] 0, []))
def sP_Step_d6 {R : Type} (N : Nat) (S0 : St) (k : Exit → St → Option R) : Option R :=
  sP_Step_l6 N N (lstC api_SetC (lget S0.tmps 39)) (toI (lget S0.tmps 40)) (toI (lget S0.tmps 41)) (lstC strC (lget (entCs (entAt S0.tab 0)) 0)) (lstC strC (lget (entCs (entAt S0.tab 0)) 1)) (lstC pCoC (lget (entCs (entAt S0.tab 0)) 2)) (lstC pStC (lget (entCs (entAt S0.tab 0)) 3)) (lstC pRuC (lget (entCs (entAt S0.tab 0)) 4)) (Cod.dec pPlC (lget (entCs (entAt S0.tab 1)))) (Cod.dec pPlC (lget (entCs (entAt S0.tab 2)))) (Cod.dec pRuC (lget (entCs (entAt S0.tab 3)))) (fun q0 => k (.exit 2) (sP_Step_x6_2 (Cod.dec pPlC (lget (entCs (entAt S0.tab 2)))) (Cod.dec pRuC (lget (entCs (entAt S0.tab 3)))) q0))
def sP_Step_d2 {R : Type} (N : Nat) (S0 : St) (k : Exit → St → Option R) : Option R :=
  sP_Step_l2 N N (toI (lget S0.tmps 2)) (lstC pRuC (lget S0.tmps 13)) (toI (lget S0.tmps 14)) (toI (lget S0.tmps 15)) (lstC strC (lget (entCs (entAt S0.tab 0)) 0)) (lstC strC (lget (entCs (entAt S0.tab 0)) 1)) (lstC pCoC (lget (entCs (entAt S0.tab 0)) 2)) (lstC pStC (lget (entCs (entAt S0.tab 0)) 3)) (lstC pRuC (lget (entCs (entAt S0.tab 0)) 4)) (Cod.dec pPlC (lget (entCs (entAt S0.tab 1)))) (Cod.dec pPlC (lget (entCs (entAt S0.tab 2)))) (fun q0 => k (.exit 0) (sP_Step_x2_0 (Cod.dec pPlC (lget (entCs (entAt S0.tab 2)))) q0))
def sP_Step_lp {R : Type} (N : Nat) : Lp R := fun body S k => bif (Go.Sx.keyOf body).getD 0 == 2 then (sP_Step_L2.head.raw 0 S (fun S0 => sP_Step_d2 N S0 k)) else bif (Go.Sx.keyOf body).getD 0 == 6 then (sP_Step_L6.head.raw 0 S (fun S0 => sP_Step_d6 N S0 k)) else Option.none
theorem sP_Step_l2_eq {R : Type} (N : Nat) (k : Exit → St → Option R) (n : Nat) : ∀ (v0 : Int) (v1 : Arr pRu) (v2 : Int) (v3 : Int) (v4 : Arr ByteArray) (v5 : Arr ByteArray) (v6 : Arr pCo) (v7 : Arr pSt) (v8 : Arr pRu) (v9 : pPl) (v10 : pPl), loopM E.Θ (sP_set_cal N) (sP_Step_lp N) (noJn) 0 sP_Step_L2 (bodyAt E 79 2) n (sP_Step_h2 v0 v1 v2 v3 v4 v5 v6 v7 v8 v9 v10) k = sP_Step_l2 N n v0 v1 v2 v3 v4 v5 v6 v7 v8 v9 v10 (fun q0 => k (.exit 0) (sP_Step_x2_0 v10 q0)) := by
  induction n with
  | zero => intro v0 v1 v2 v3 v4 v5 v6 v7 v8 v9 v10; rfl
  | succ n ih =>
    intro v0 v1 v2 v3 v4 v5 v6 v7 v8 v9 v10
    refine Eq.trans (b := sP_Step_b2 N (fun v0 v1 v2 v3 v4 v5 v6 v7 v8 v9 v10 => loopM E.Θ (sP_set_cal N) (sP_Step_lp N) (noJn) 0 sP_Step_L2 (bodyAt E 79 2) n (sP_Step_h2 v0 v1 v2 v3 v4 v5 v6 v7 v8 v9 v10) k) v0 v1 v2 v3 v4 v5 v6 v7 v8 v9 v10 (fun q0 => k (.exit 0) (sP_Step_x2_0 v10 q0))) (by kernel_rfl) ?_
    have h : (fun (v0 : Int) (v1 : Arr pRu) (v2 : Int) (v3 : Int) (v4 : Arr ByteArray) (v5 : Arr ByteArray) (v6 : Arr pCo) (v7 : Arr pSt) (v8 : Arr pRu) (v9 : pPl) (v10 : pPl) => loopM E.Θ (sP_set_cal N) (sP_Step_lp N) (noJn) 0 sP_Step_L2 (bodyAt E 79 2) n (sP_Step_h2 v0 v1 v2 v3 v4 v5 v6 v7 v8 v9 v10) k) = (fun (v0 : Int) (v1 : Arr pRu) (v2 : Int) (v3 : Int) (v4 : Arr ByteArray) (v5 : Arr ByteArray) (v6 : Arr pCo) (v7 : Arr pSt) (v8 : Arr pRu) (v9 : pPl) (v10 : pPl) => sP_Step_l2 N n v0 v1 v2 v3 v4 v5 v6 v7 v8 v9 v10 (fun q0 => k (.exit 0) (sP_Step_x2_0 v10 q0))) := funext fun v0 => funext fun v1 => funext fun v2 => funext fun v3 => funext fun v4 => funext fun v5 => funext fun v6 => funext fun v7 => funext fun v8 => funext fun v9 => funext fun v10 => ih v0 v1 v2 v3 v4 v5 v6 v7 v8 v9 v10
    rw [h]
    rfl
theorem sP_Step_l6_eq {R : Type} (N : Nat) (k : Exit → St → Option R) (n : Nat) : ∀ (v0 : Arr api_Set) (v1 : Int) (v2 : Int) (v3 : Arr ByteArray) (v4 : Arr ByteArray) (v5 : Arr pCo) (v6 : Arr pSt) (v7 : Arr pRu) (v8 : pPl) (v9 : pPl) (v10 : pRu), loopM E.Θ (sP_set_cal N) (sP_Step_lp N) (noJn) 0 sP_Step_L6 (bodyAt E 79 6) n (sP_Step_h6 v0 v1 v2 v3 v4 v5 v6 v7 v8 v9 v10) k = sP_Step_l6 N n v0 v1 v2 v3 v4 v5 v6 v7 v8 v9 v10 (fun q0 => k (.exit 2) (sP_Step_x6_2 v9 v10 q0)) := by
  induction n with
  | zero => intro v0 v1 v2 v3 v4 v5 v6 v7 v8 v9 v10; rfl
  | succ n ih =>
    intro v0 v1 v2 v3 v4 v5 v6 v7 v8 v9 v10
    refine Eq.trans (b := sP_Step_b6 N (fun v0 v1 v2 v3 v4 v5 v6 v7 v8 v9 v10 => loopM E.Θ (sP_set_cal N) (sP_Step_lp N) (noJn) 0 sP_Step_L6 (bodyAt E 79 6) n (sP_Step_h6 v0 v1 v2 v3 v4 v5 v6 v7 v8 v9 v10) k) v0 v1 v2 v3 v4 v5 v6 v7 v8 v9 v10 (fun q0 => k (.exit 2) (sP_Step_x6_2 v9 v10 q0))) (by kernel_rfl) ?_
    have h : (fun (v0 : Arr api_Set) (v1 : Int) (v2 : Int) (v3 : Arr ByteArray) (v4 : Arr ByteArray) (v5 : Arr pCo) (v6 : Arr pSt) (v7 : Arr pRu) (v8 : pPl) (v9 : pPl) (v10 : pRu) => loopM E.Θ (sP_set_cal N) (sP_Step_lp N) (noJn) 0 sP_Step_L6 (bodyAt E 79 6) n (sP_Step_h6 v0 v1 v2 v3 v4 v5 v6 v7 v8 v9 v10) k) = (fun (v0 : Arr api_Set) (v1 : Int) (v2 : Int) (v3 : Arr ByteArray) (v4 : Arr ByteArray) (v5 : Arr pCo) (v6 : Arr pSt) (v7 : Arr pRu) (v8 : pPl) (v9 : pPl) (v10 : pRu) => sP_Step_l6 N n v0 v1 v2 v3 v4 v5 v6 v7 v8 v9 v10 (fun q0 => k (.exit 2) (sP_Step_x6_2 v9 v10 q0))) := funext fun v0 => funext fun v1 => funext fun v2 => funext fun v3 => funext fun v4 => funext fun v5 => funext fun v6 => funext fun v7 => funext fun v8 => funext fun v9 => funext fun v10 => ih v0 v1 v2 v3 v4 v5 v6 v7 v8 v9 v10
    rw [h]
    rfl
theorem sP_Step_k6 {R : Type} (N : Nat) : LpKey (R := R) E 79 0 (sP_Step_lp N) 6 :=
  lpKey_of hE (sP_set_cal_ok N) (lp := sP_Step_lp N) (jn := noJn) sP_Step_L6_ok [] kNil (by kernel_rfl) [] jNil (by kernel_rfl) N fun S k =>
    Eq.trans (b := sP_Step_L6.head.raw 0 S (fun S0 => sP_Step_d6 N S0 k)) (by kernel_rfl) (congrArg (sP_Step_L6.head.raw 0 S) (funext fun S0 => Eq.trans (sP_Step_l6_eq N k N (lstC api_SetC (lget S0.tmps 39)) (toI (lget S0.tmps 40)) (toI (lget S0.tmps 41)) (lstC strC (lget (entCs (entAt S0.tab 0)) 0)) (lstC strC (lget (entCs (entAt S0.tab 0)) 1)) (lstC pCoC (lget (entCs (entAt S0.tab 0)) 2)) (lstC pStC (lget (entCs (entAt S0.tab 0)) 3)) (lstC pRuC (lget (entCs (entAt S0.tab 0)) 4)) (Cod.dec pPlC (lget (entCs (entAt S0.tab 1)))) (Cod.dec pPlC (lget (entCs (entAt S0.tab 2)))) (Cod.dec pRuC (lget (entCs (entAt S0.tab 3))))).symm (by kernel_rfl)))
theorem sP_Step_k2 {R : Type} (N : Nat) : LpKey (R := R) E 79 0 (sP_Step_lp N) 2 :=
  lpKey_of hE (sP_set_cal_ok N) (lp := sP_Step_lp N) (jn := noJn) sP_Step_L2_ok [6] (kCons (sP_Step_k6 N) kNil) (by kernel_rfl) [] jNil (by kernel_rfl) N fun S k =>
    Eq.trans (b := sP_Step_L2.head.raw 0 S (fun S0 => sP_Step_d2 N S0 k)) (by kernel_rfl) (congrArg (sP_Step_L2.head.raw 0 S) (funext fun S0 => Eq.trans (sP_Step_l2_eq N k N (toI (lget S0.tmps 2)) (lstC pRuC (lget S0.tmps 13)) (toI (lget S0.tmps 14)) (toI (lget S0.tmps 15)) (lstC strC (lget (entCs (entAt S0.tab 0)) 0)) (lstC strC (lget (entCs (entAt S0.tab 0)) 1)) (lstC pCoC (lget (entCs (entAt S0.tab 0)) 2)) (lstC pStC (lget (entCs (entAt S0.tab 0)) 3)) (lstC pRuC (lget (entCs (entAt S0.tab 0)) 4)) (Cod.dec pPlC (lget (entCs (entAt S0.tab 1)))) (Cod.dec pPlC (lget (entCs (entAt S0.tab 2))))).symm (by kernel_rfl)))
noncomputable def sP_Step_go {R : Type} (N : Nat) (args : List SV) (T : Tab) (kf : SV × Tab → Option R) : Option R :=
  sP_Step N (lstC strC (lget (toCs (lget args 0)) 0)) (lstC strC (lget (toCs (lget args 0)) 1)) (lstC pCoC (lget (toCs (lget args 0)) 2)) (lstC pStC (lget (toCs (lget args 0)) 3)) (lstC pRuC (lget (toCs (lget args 0)) 4)) (Cod.dec pPlC (lget (toCs (lget args 1)))) (toI (lget args 2)) (fun q0 => kf (lget [.agg (Cod.enc pPlC q0)] 0, []))
noncomputable def sP_Step_cal {R : Type} (N : Nat) : Cal R := callM (sP_set_cal N) 79 0 sP_Step_sp (sP_Step_go N)
theorem sP_Step_cal_ok {R : Type} (N : Nat) : CalOk E.P (sP_Step_cal (R := R) N) :=
  callM_ok hE (sP_set_cal_ok N) (lp := sP_Step_lp N) (jn := noJn) (keys := [2, 6]) (kCons (sP_Step_k2 N) (kCons (sP_Step_k6 N) kNil)) (by kernel_rfl) (js := []) jNil (by kernel_rfl) sP_Step_sp_ok sP_Step_rs_ok (fun args T kf => Eq.trans (sP_Step_def N (lstC strC (lget (toCs (lget args 0)) 0)) (lstC strC (lget (toCs (lget args 0)) 1)) (lstC pCoC (lget (toCs (lget args 0)) 2)) (lstC pStC (lget (toCs (lget args 0)) 3)) (lstC pRuC (lget (toCs (lget args 0)) 4)) (Cod.dec pPlC (lget (toCs (lget args 1)))) (toI (lget args 2)) (fun q0 => kf (lget [.agg (Cod.enc pPlC q0)] 0, []))) (by kernel_rfl : sP_Step_run N args T kf = fnM E (sP_set_cal N) (sP_Step_lp N) (noJn) 79 (sP_Step_sp.vs args) (sP_Step_sp.tab T) 0 (resK sP_Step_rs kf)))
def cN_Run_L10 : LoopSp := ⟨⟨[7, 8, 9, 22, 23, 24], ⟨(dr 7 ((rPtr 0 0) :: (rPtr 1 0) :: (rRow 2) :: (dr 12 ((rSl intC) :: (rInt .i64) :: (rInt .i64) :: (dr 19 []))))), [(0, eBlk [rSl strC, rSl strC, rSl pCoC, rSl pStC, rSl pRuC]), (1, eBlkC pPlC), (2, eRow pPlC)]⟩, 3⟩, [(Option.none, ⟨[4, 5], ⟨(dr 4 ((rRow 0) :: (rInt .i64) :: (dr 38 []))), [(0, eRow pPlC)]⟩, 1⟩), (some 0, ⟨[9], ⟨(dr 9 ((rRow 0) :: (dr 34 []))), [(0, eRow pPlC)]⟩, 1⟩)]⟩
theorem cN_Run_L10_ok : cN_Run_L10.Ok := ⟨⟨(drCons 7 (allCons (rPtr_ok 0 0) (allCons (rPtr_ok 1 0) (allCons (rRow_ok 2) (drCons 12 (allCons (rSl_ok intC_ok) (allCons (rInt_ok .i64) (allCons (rInt_ok .i64) (drCons 19 allNil))))))))), (eCons (eBlk_ok (allCons (rSl_ok strC_ok) (allCons (rSl_ok strC_ok) (allCons (rSl_ok pCoC_ok) (allCons (rSl_ok pStC_ok) (allCons (rSl_ok pRuC_ok) allNil)))))) (eCons (eBlkC_ok pPlC_ok pPlC_len) (eCons (eRow_ok pPlC_ok) eNil)))⟩, (xCons ⟨(drCons 4 (allCons (rRow_ok 0) (allCons (rInt_ok .i64) (drCons 38 allNil)))), (eCons (eRow_ok pPlC_ok) eNil)⟩ (xCons ⟨(drCons 9 (allCons (rRow_ok 0) (drCons 34 allNil))), (eCons (eRow_ok pPlC_ok) eNil)⟩ xNil))⟩
def cN_Run_h10 (v366 : Arr Int) (v367 : Int) (v368 : Int) (v369 : Arr ByteArray) (v370 : Arr ByteArray) (v371 : Arr pCo) (v372 : Arr pSt) (v373 : Arr pRu) (v374 : pPl) (v375 : Bool) (v376 : Arr pPl) : St := ⟨(un 7 ((.ptr 0 0) :: (.ptr 1 0) :: (.row 2) :: (un 12 ((slC intC v366) :: (.int .i64 v367) :: (.int .i64 v368) :: (un 19 []))))), [(0, .blk [slC strC v369, slC strC v370, slC pCoC v371, slC pStC v372, slC pRuC v373]), (1, .blk (Cod.enc pPlC v374)), (2, rowE pPlC v375 v376)], 3⟩
def cN_Run_x10_r (q0 : Int) (q1 : Bool) (q2 : Arr pPl) : St := ⟨(un 4 ((.row 0) :: (.int .i64 q0) :: (un 38 []))), [(0, rowE pPlC q1 q2)], 1⟩
def cN_Run_x10_0 (q0 : Bool) (q1 : Arr pPl) : St := ⟨(un 9 ((.row 0) :: (un 34 []))), [(0, rowE pPlC q0 q1)], 1⟩
def cN_Run_b10 {R : Type} (N : Nat) (rc : Arr Int → Int → Int → Arr ByteArray → Arr ByteArray → Arr pCo → Arr pSt → Arr pRu → pPl → Bool → Arr pPl → Option R) (v366 : Arr Int) (v367 : Int) (v368 : Int) (v369 : Arr ByteArray) (v370 : Arr ByteArray) (v371 : Arr pCo) (v372 : Arr pSt) (v373 : Arr pRu) (v374 : pPl) (v375 : Bool) (v376 : Arr pPl) (kr : Int → Bool → Arr pPl → Option R) (k0 : Bool → Arr pPl → Option R) : Option R :=
 bif decide (v368 < v367) then
 bif decide ((0 : Int) ≤ v368) && decide (v368 < (↑(Arr.n v366) : Int)) then
 sP_Input N v369 v370 v371 v372 v373 (Arr.f v366 (Int.toNat v368)) (fun r390 =>
 bif !r390 then
 kr (1 : Int) true (lst pPlC (0 : Nat) (zeroC [SV.int .i64 0, SV.int .i64 0, SV.int .i64 0]))
 else
 sP_Step N v369 v370 v371 v372 v373 v374 (Arr.f v366 (Int.toNat v368)) (fun r549 =>
 bif room (Arr.n v376 + (1 : Nat)) then
 rc v366 v367 (w64 (v368 + (1 : Int))) v369 v370 v371 v372 v373 r549 false (lst pPlC (Arr.n v376 + (1 : Nat)) (catC (Arr.n v376) (Cod.cell pPlC (Arr.f v376)) (litC [SV.int .i64 0, SV.int .i64 0, SV.int .i64 0] [[SV.int IntKind.i64 (pPl.State r549), SV.int IntKind.i64 (Arr2_int.a0 (pPl.Values r549)), SV.int IntKind.i64 (Arr2_int.a1 (pPl.Values r549))]])))
 else
 Option.none))
 else
 Option.none
 else
 k0 v375 v376
def cN_Run_l10 {R : Type} (N : Nat) : Nat → Arr Int → Int → Int → Arr ByteArray → Arr ByteArray → Arr pCo → Arr pSt → Arr pRu → pPl → Bool → Arr pPl → (Int → Bool → Arr pPl → Option R) → (Bool → Arr pPl → Option R) → Option R
  | 0, _, _, _, _, _, _, _, _, _, _, _, _, _ => Option.none
  | n + 1, v366, v367, v368, v369, v370, v371, v372, v373, v374, v375, v376, kr, k0 => cN_Run_b10 N (fun v366 v367 v368 v369 v370 v371 v372 v373 v374 v375 v376 => cN_Run_l10 N n v366 v367 v368 v369 v370 v371 v372 v373 v374 v375 v376 kr k0) v366 v367 v368 v369 v370 v371 v372 v373 v374 v375 v376 kr k0
def cN_Run_m {R : Type} (N : Nat) (a218 : pMa) (a219 : Arr Int) (k : Int → Bool → Arr pPl → Option R) : Option R :=
 cN_Check N a218 (fun r359 =>
 bif r359 != (0 : Int) then
 k r359 true (lst pPlC (0 : Nat) (zeroC [SV.int .i64 0, SV.int .i64 0, SV.int .i64 0]))
 else
 bif decide ((↑(Arr.n a219) : Int) > (200 : Int)) then
 k (2 : Int) true (lst pPlC (0 : Nat) (zeroC [SV.int .i64 0, SV.int .i64 0, SV.int .i64 0]))
 else
 cN_of N a218 (fun r361 r362 r363 r364 r365 =>
 cN_Run_l10 N N a219 ((↑(Arr.n a219) : Int)) (0 : Int) r361 r362 r363 r364 r365 (pPl.mk (0 : Int) (Arr2_int.mk (0 : Int) (0 : Int))) true (lst pPlC (0 : Nat) (zeroC [SV.int .i64 0, SV.int .i64 0, SV.int .i64 0])) (fun r550 r551 r552 =>
 k r550 r551 r552) (fun r553 r554 =>
 k (0 : Int) r553 r554)))
noncomputable def cN_Run {R : Type} : Nat → pMa → Arr Int → (Int → Bool → Arr pPl → Option R) → Option R := lock (@cN_Run_m R)
theorem cN_Run_def {R : Type} (N : Nat) (a218 : pMa) (a219 : Arr Int) (k : Int → Bool → Arr pPl → Option R) : cN_Run N a218 a219 k = cN_Run_m N a218 a219 k := by unfold cN_Run; rw [lock_eq]
def cN_Run_sp : Sp := ⟨[rAgg pMaC, rSl intC], []⟩
theorem cN_Run_sp_ok : cN_Run_sp.Ok := ⟨(allCons (rAgg_ok pMaC_ok pMaC_len) (allCons (rSl_ok intC_ok) allNil)), eNil⟩
def cN_Run_rs : Sp := ⟨[rTup [rRow 0, rInt .i64]], [(0, eRow pPlC)]⟩
theorem cN_Run_rs_ok : cN_Run_rs.Ok := ⟨(allCons (rTup_ok (allCons (rRow_ok 0) (allCons (rInt_ok .i64) allNil))) allNil), (eCons (eRow_ok pPlC_ok) eNil)⟩
def cN_Run_run {R : Type} (N : Nat) (args : List SV) (T : Tab) (kf : SV × Tab → Option R) : Option R :=
  cN_Run_m N (Cod.dec pMaC (lget (toCs (lget args 0)))) (lstC intC (lget args 1)) (fun q0 q1 q2 => kf (lget [.tup [.row 0, .int .i64 q0]] 0, [(0, rowE pPlC q1 q2)]))
def cN_Run_d10 {R : Type} (N : Nat) (S0 : St) (k : Exit → St → Option R) : Option R :=
  cN_Run_l10 N N (lstC intC (lget S0.tmps 22)) (toI (lget S0.tmps 23)) (toI (lget S0.tmps 24)) (lstC strC (lget (entCs (entAt S0.tab 0)) 0)) (lstC strC (lget (entCs (entAt S0.tab 0)) 1)) (lstC pCoC (lget (entCs (entAt S0.tab 0)) 2)) (lstC pStC (lget (entCs (entAt S0.tab 0)) 3)) (lstC pRuC (lget (entCs (entAt S0.tab 0)) 4)) (Cod.dec pPlC (lget (entCs (entAt S0.tab 1)))) (entNl (entAt S0.tab 2)) (lst pPlC (entN (entAt S0.tab 2)) (entC (entAt S0.tab 2))) (fun q0 q1 q2 => k .ret (cN_Run_x10_r q0 q1 q2)) (fun q0 q1 => k (.exit 0) (cN_Run_x10_0 q0 q1))
def cN_Run_lp {R : Type} (N : Nat) : Lp R := fun body S k => bif (Go.Sx.keyOf body).getD 0 == 10 then (cN_Run_L10.head.raw 0 S (fun S0 => cN_Run_d10 N S0 k)) else Option.none
theorem cN_Run_l10_eq {R : Type} (N : Nat) (k : Exit → St → Option R) (n : Nat) : ∀ (v0 : Arr Int) (v1 : Int) (v2 : Int) (v3 : Arr ByteArray) (v4 : Arr ByteArray) (v5 : Arr pCo) (v6 : Arr pSt) (v7 : Arr pRu) (v8 : pPl) (v9 : Bool) (v10 : Arr pPl), loopM E.Θ (sP_Step_cal N) (cN_Run_lp N) (noJn) 0 cN_Run_L10 (bodyAt E 24 10) n (cN_Run_h10 v0 v1 v2 v3 v4 v5 v6 v7 v8 v9 v10) k = cN_Run_l10 N n v0 v1 v2 v3 v4 v5 v6 v7 v8 v9 v10 (fun q0 q1 q2 => k .ret (cN_Run_x10_r q0 q1 q2)) (fun q0 q1 => k (.exit 0) (cN_Run_x10_0 q0 q1)) := by
  induction n with
  | zero => intro v0 v1 v2 v3 v4 v5 v6 v7 v8 v9 v10; rfl
  | succ n ih =>
    intro v0 v1 v2 v3 v4 v5 v6 v7 v8 v9 v10
    refine Eq.trans (b := cN_Run_b10 N (fun v0 v1 v2 v3 v4 v5 v6 v7 v8 v9 v10 => loopM E.Θ (sP_Step_cal N) (cN_Run_lp N) (noJn) 0 cN_Run_L10 (bodyAt E 24 10) n (cN_Run_h10 v0 v1 v2 v3 v4 v5 v6 v7 v8 v9 v10) k) v0 v1 v2 v3 v4 v5 v6 v7 v8 v9 v10 (fun q0 q1 q2 => k .ret (cN_Run_x10_r q0 q1 q2)) (fun q0 q1 => k (.exit 0) (cN_Run_x10_0 q0 q1))) (by kernel_rfl) ?_
    have h : (fun (v0 : Arr Int) (v1 : Int) (v2 : Int) (v3 : Arr ByteArray) (v4 : Arr ByteArray) (v5 : Arr pCo) (v6 : Arr pSt) (v7 : Arr pRu) (v8 : pPl) (v9 : Bool) (v10 : Arr pPl) => loopM E.Θ (sP_Step_cal N) (cN_Run_lp N) (noJn) 0 cN_Run_L10 (bodyAt E 24 10) n (cN_Run_h10 v0 v1 v2 v3 v4 v5 v6 v7 v8 v9 v10) k) = (fun (v0 : Arr Int) (v1 : Int) (v2 : Int) (v3 : Arr ByteArray) (v4 : Arr ByteArray) (v5 : Arr pCo) (v6 : Arr pSt) (v7 : Arr pRu) (v8 : pPl) (v9 : Bool) (v10 : Arr pPl) => cN_Run_l10 N n v0 v1 v2 v3 v4 v5 v6 v7 v8 v9 v10 (fun q0 q1 q2 => k .ret (cN_Run_x10_r q0 q1 q2)) (fun q0 q1 => k (.exit 0) (cN_Run_x10_0 q0 q1))) := funext fun v0 => funext fun v1 => funext fun v2 => funext fun v3 => funext fun v4 => funext fun v5 => funext fun v6 => funext fun v7 => funext fun v8 => funext fun v9 => funext fun v10 => ih v0 v1 v2 v3 v4 v5 v6 v7 v8 v9 v10
    rw [h]
    rfl
theorem cN_Run_k10 {R : Type} (N : Nat) : LpKey (R := R) E 24 0 (cN_Run_lp N) 10 :=
  lpKey_of hE (sP_Step_cal_ok N) (lp := cN_Run_lp N) (jn := noJn) cN_Run_L10_ok [] kNil (by kernel_rfl) [] jNil (by kernel_rfl) N fun S k =>
    Eq.trans (b := cN_Run_L10.head.raw 0 S (fun S0 => cN_Run_d10 N S0 k)) (by kernel_rfl) (congrArg (cN_Run_L10.head.raw 0 S) (funext fun S0 => Eq.trans (cN_Run_l10_eq N k N (lstC intC (lget S0.tmps 22)) (toI (lget S0.tmps 23)) (toI (lget S0.tmps 24)) (lstC strC (lget (entCs (entAt S0.tab 0)) 0)) (lstC strC (lget (entCs (entAt S0.tab 0)) 1)) (lstC pCoC (lget (entCs (entAt S0.tab 0)) 2)) (lstC pStC (lget (entCs (entAt S0.tab 0)) 3)) (lstC pRuC (lget (entCs (entAt S0.tab 0)) 4)) (Cod.dec pPlC (lget (entCs (entAt S0.tab 1)))) (entNl (entAt S0.tab 2)) (lst pPlC (entN (entAt S0.tab 2)) (entC (entAt S0.tab 2)))).symm (by kernel_rfl)))
noncomputable def cN_Run_go {R : Type} (N : Nat) (args : List SV) (T : Tab) (kf : SV × Tab → Option R) : Option R :=
  cN_Run N (Cod.dec pMaC (lget (toCs (lget args 0)))) (lstC intC (lget args 1)) (fun q0 q1 q2 => kf (lget [.tup [.row 0, .int .i64 q0]] 0, [(0, rowE pPlC q1 q2)]))
noncomputable def cN_Run_cal {R : Type} (N : Nat) : Cal R := callM (sP_Step_cal N) 24 0 cN_Run_sp (cN_Run_go N)
theorem cN_Run_cal_ok {R : Type} (N : Nat) : CalOk E.P (cN_Run_cal (R := R) N) :=
  callM_ok hE (sP_Step_cal_ok N) (lp := cN_Run_lp N) (jn := noJn) (keys := [10]) (kCons (cN_Run_k10 N) kNil) (by kernel_rfl) (js := []) jNil (by kernel_rfl) cN_Run_sp_ok cN_Run_rs_ok (fun args T kf => Eq.trans (cN_Run_def N (Cod.dec pMaC (lget (toCs (lget args 0)))) (lstC intC (lget args 1)) (fun q0 q1 q2 => kf (lget [.tup [.row 0, .int .i64 q0]] 0, [(0, rowE pPlC q1 q2)]))) (by kernel_rfl : cN_Run_run N args T kf = fnM E (sP_Step_cal N) (cN_Run_lp N) (noJn) 24 (cN_Run_sp.vs args) (cN_Run_sp.tab T) 0 (resK cN_Run_rs kf)))
def nT_moved_m {R : Type} (N : Nat)  (k : Bool → Option R) : Option R :=
 lift_Doors N (pDo.mk (2 : Int) (1 : Int)) (lst intC (0 : Nat) (zeroC [SV.int .i64 0])) (fun r555 r556 r557 =>
 nT_doorway N (pDo.mk (2 : Int) (1 : Int)) (fun r558 r559 r560 r561 r562 r563 r564 r565 r566 r567 r568 r569 r570 =>
 cN_Run N (pMa.mk r560 r562 r564 r566 r568) (lst intC (5 : Nat) (litC [SV.int .i64 0] [[SV.int .i64 0], [SV.int .i64 0], [SV.int .i64 0], [SV.int .i64 0], [SV.int .i64 0]])) (fun r571 r572 r573 =>
 bif r555 == (0 : Int) then
 bif r571 == (0 : Int) then
 bif r558 then
 bif (↑(Arr.n r557) : Int) == (5 : Int) then
 bif (↑(Arr.n r573) : Int) == (5 : Int) then
 bif (↑(Arr.n r570) : Int) == (6 : Int) then
 bif decide ((1 : Int) < (↑(Arr.n r557) : Int)) then
 bif Arr.f r557 (Int.toNat (1 : Int)) == (2 : Int) then
 bif decide ((4 : Int) < (↑(Arr.n r573) : Int)) then
 k (pPl.State (Arr.f r573 (Int.toNat (4 : Int))) == (5 : Int))
 else
 Option.none
 else
 k false
 else
 Option.none
 else
 k false
 else
 k false
 else
 k false
 else
 k false
 else
 k false
 else
 k false)))
noncomputable def nT_moved {R : Type} : Nat → (Bool → Option R) → Option R := lock (@nT_moved_m R)
theorem nT_moved_def {R : Type} (N : Nat)  (k : Bool → Option R) : nT_moved N  k = nT_moved_m N  k := by unfold nT_moved; rw [lock_eq]
def nT_moved_sp : Sp := ⟨[], []⟩
theorem nT_moved_sp_ok : nT_moved_sp.Ok := ⟨allNil, eNil⟩
def nT_moved_rs : Sp := ⟨[rBool], []⟩
theorem nT_moved_rs_ok : nT_moved_rs.Ok := ⟨(allCons rBool_ok allNil), eNil⟩
def nT_moved_run {R : Type} (N : Nat) (args : List SV) (T : Tab) (kf : SV × Tab → Option R) : Option R :=
  nT_moved_m N  (fun q0 => kf (lget [.bool q0] 0, []))
def nT_moved_lp {R : Type} (N : Nat) : Lp R := fun body S k => Option.none
noncomputable def nT_moved_go {R : Type} (N : Nat) (args : List SV) (T : Tab) (kf : SV × Tab → Option R) : Option R :=
  nT_moved N  (fun q0 => kf (lget [.bool q0] 0, []))
noncomputable def nT_moved_cal {R : Type} (N : Nat) : Cal R := callM (cN_Run_cal N) 21 0 nT_moved_sp (nT_moved_go N)
theorem nT_moved_cal_ok {R : Type} (N : Nat) : CalOk E.P (nT_moved_cal (R := R) N) :=
  callM_ok hE (cN_Run_cal_ok N) (lp := nT_moved_lp N) (jn := noJn) (keys := []) kNil (by kernel_rfl) (js := []) jNil (by kernel_rfl) nT_moved_sp_ok nT_moved_rs_ok (fun args T kf => Eq.trans (nT_moved_def N  (fun q0 => kf (lget [.bool q0] 0, []))) (by kernel_rfl : nT_moved_run N args T kf = fnM E (cN_Run_cal N) (nT_moved_lp N) (noJn) 21 (nT_moved_sp.vs args) (nT_moved_sp.tab T) 0 (resK nT_moved_rs kf)))
end
end Go.Proofs.Ytpillmoddoccfaa
