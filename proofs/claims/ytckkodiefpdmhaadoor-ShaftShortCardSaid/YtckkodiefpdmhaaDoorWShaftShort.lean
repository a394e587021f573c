import Derived.Test.YtckkodiefpdmhaaDoorQ2
set_option maxRecDepth 100000
set_option maxHeartbeats 0
set_option linter.unusedVariables false
set_option linter.unusedSimpArgs false
namespace Go.Proofs.YtckkodiefpdmhaaDoor
open Go.Sx
noncomputable section
def newellaw09_ShaftShort_L8 : LoopSp := ⟨⟨[2, 3, 4, 9, 10, 11], ⟨(dr 2 ((rSl intC) :: (rPtr 0 0) :: (rPtr 1 0) :: (dr 4 ((rPtr 2 0) :: (rInt .i64) :: (rInt .i64) :: (dr 77 []))))), [(0, eBlkC api_ShaftC), (1, eBlkC newellaw09_CrateC), (2, eBlkC api_PoseC)]⟩, 3⟩, [(some 0, ⟨[3, 4, 9, 10], ⟨(dr 3 ((rPtr 0 0) :: (rPtr 1 0) :: (dr 4 ((rPtr 2 0) :: (rInt .i64) :: (dr 78 []))))), [(0, eBlkC api_ShaftC), (1, eBlkC newellaw09_CrateC), (2, eBlkC api_PoseC)]⟩, 3⟩)]⟩
theorem newellaw09_ShaftShort_L8_ok : newellaw09_ShaftShort_L8.Ok := ⟨⟨(drCons 2 (allCons (rSl_ok intC_ok) (allCons (rPtr_ok 0 0) (allCons (rPtr_ok 1 0) (drCons 4 (allCons (rPtr_ok 2 0) (allCons (rInt_ok .i64) (allCons (rInt_ok .i64) (drCons 77 allNil))))))))), (eCons (eBlkC_ok api_ShaftC_ok api_ShaftC_len) (eCons (eBlkC_ok newellaw09_CrateC_ok newellaw09_CrateC_len) (eCons (eBlkC_ok api_PoseC_ok api_PoseC_len) eNil)))⟩, (xCons ⟨(drCons 3 (allCons (rPtr_ok 0 0) (allCons (rPtr_ok 1 0) (drCons 4 (allCons (rPtr_ok 2 0) (allCons (rInt_ok .i64) (drCons 78 allNil))))))), (eCons (eBlkC_ok api_ShaftC_ok api_ShaftC_len) (eCons (eBlkC_ok newellaw09_CrateC_ok newellaw09_CrateC_len) (eCons (eBlkC_ok api_PoseC_ok api_PoseC_len) eNil)))⟩ xNil)⟩
def newellaw09_ShaftShort_h8 (v1481 : Arr Int) (v1482 : Int) (v1483 : Int) (v1484 : api_Shaft) (v1485 : newellaw09_Crate) (v1486 : api_Pose) : St := ⟨(un 2 ((slC intC v1481) :: (.ptr 0 0) :: (.ptr 1 0) :: (un 4 ((.ptr 2 0) :: (.int .i64 v1482) :: (.int .i64 v1483) :: (un 77 []))))), [(0, .blk (Cod.enc api_ShaftC v1484)), (1, .blk (Cod.enc newellaw09_CrateC v1485)), (2, .blk (Cod.enc api_PoseC v1486))], 3⟩
def newellaw09_ShaftShort_x8_0 (v1484 : api_Shaft) (v1485 : newellaw09_Crate) (q0 : Int) (q3 : api_Pose) : St := ⟨(un 3 ((.ptr 0 0) :: (.ptr 1 0) :: (un 4 ((.ptr 2 0) :: (.int .i64 q0) :: (un 78 []))))), [(0, .blk (Cod.enc api_ShaftC v1484)), (1, .blk (Cod.enc newellaw09_CrateC v1485)), (2, .blk (Cod.enc api_PoseC q3))], 3⟩
def newellaw09_ShaftShort_b8 {R : Type} (N : Nat) (rc : Arr Int → Int → Int → api_Shaft → newellaw09_Crate → api_Pose → Option R) (v1481 : Arr Int) (v1482 : Int) (v1483 : Int) (v1484 : api_Shaft) (v1485 : newellaw09_Crate) (v1486 : api_Pose) (k0 : Int → api_Pose → Option R) : Option R :=
  bif decide (v1483 < (↑(Arr.n v1481) : Int)) then
   bif decide ((0 : Int) ≤ v1483) && decide (v1483 < (↑(Arr.n v1481) : Int)) then
    shaft_Move N v1484 (newellaw09_Crate.Edges v1485) v1486 (Arr.f v1481 (Int.toNat v1483)) (fun r1487 r1488 =>
    bif r1488 == (0 : Int) then
     rc v1481 (w64 (v1482 + (1 : Int))) (w64 (v1483 + (1 : Int))) v1484 v1485 r1487
    else
     rc v1481 v1482 (w64 (v1483 + (1 : Int))) v1484 v1485 v1486)
   else
    Option.none
  else
   k0 v1482 v1486
def newellaw09_ShaftShort_l8 {R : Type} (N : Nat) : Nat → Arr Int → Int → Int → api_Shaft → newellaw09_Crate → api_Pose → (Int → api_Pose → Option R) → Option R
  | 0, _, _, _, _, _, _, _ => Option.none
  | n + 1, v1481, v1482, v1483, v1484, v1485, v1486, k0 => newellaw09_ShaftShort_b8 N (fun v1481 v1482 v1483 v1484 v1485 v1486 => newellaw09_ShaftShort_l8 N n v1481 v1482 v1483 v1484 v1485 v1486 k0) v1481 v1482 v1483 v1484 v1485 v1486 k0
def newellaw09_ShaftShort_m {R : Type} (N : Nat) (a1470 : api_Shaft) (a1471 : newellaw09_Crate) (a1472 : Arr Int) (k : Bool → Option R) : Option R :=
  newellaw09_Far N a1470 (fun r1473 =>
  bif r1473 then
   newellaw09_works N  (fun r1474 =>
   k r1474)
  else
   bif decide ((↑(Arr.n a1472) : Int) > (200 : Int)) then
    newellaw09_works N  (fun r1475 =>
    k r1475)
   else
    newelref09_CheckCrate N a1470 (newellaw09_Crate.Edges a1471) (fun r1476 =>
    bif r1476 != (0 : Int) then
     newellaw09_works N  (fun r1477 =>
     k r1477)
    else
     newelref09_Fits N a1470 (newellaw09_Crate.Edges a1471) (newellaw09_Crate.Pose a1471) (fun r1478 r1479 =>
     bif !r1478 then
      newellaw09_works N  (fun r1480 =>
      k r1480)
     else
      newellaw09_ShaftShort_l8 N N a1472 (0 : Int) (0 : Int) a1470 a1471 (newellaw09_Crate.Pose a1471) (fun r1489 r1490 =>
       shaft_Carry N a1470 (newellaw09_Crate.Edges a1471) (newellaw09_Crate.Pose a1471) r1490 (fun r1491 r1492 r1493 =>
       bif r1491 == (0 : Int) then
        bif decide ((↑(Arr.n r1493) : Int) ≤ r1489) then
         newellaw09_works N  (fun r1494 =>
         k r1494)
        else
         k false
       else
        k false)))))
noncomputable def newellaw09_ShaftShort {R : Type} : Nat → api_Shaft → newellaw09_Crate → Arr Int → (Bool → Option R) → Option R := lock (@newellaw09_ShaftShort_m R)
theorem newellaw09_ShaftShort_def {R : Type} (N : Nat) (a1470 : api_Shaft) (a1471 : newellaw09_Crate) (a1472 : Arr Int) (k : Bool → Option R) : newellaw09_ShaftShort N a1470 a1471 a1472 k = newellaw09_ShaftShort_m N a1470 a1471 a1472 k := by unfold newellaw09_ShaftShort; rw [lock_eq]
def newellaw09_ShaftShort_sp : Sp := ⟨[rAgg api_ShaftC, rAgg newellaw09_CrateC, rSl intC], []⟩
theorem newellaw09_ShaftShort_sp_ok : newellaw09_ShaftShort_sp.Ok := ⟨(allCons (rAgg_ok api_ShaftC_ok api_ShaftC_len) (allCons (rAgg_ok newellaw09_CrateC_ok newellaw09_CrateC_len) (allCons (rSl_ok intC_ok) allNil))), eNil⟩
def newellaw09_ShaftShort_rs : Sp := ⟨[rBool], []⟩
theorem newellaw09_ShaftShort_rs_ok : newellaw09_ShaftShort_rs.Ok := ⟨(allCons rBool_ok allNil), eNil⟩
def newellaw09_ShaftShort_run {R : Type} (N : Nat) (args : List SV) (T : Tab) (kf : SV × Tab → Option R) : Option R :=
  newellaw09_ShaftShort_m N (Cod.dec api_ShaftC (lget (toCs (lget args 0)))) (Cod.dec newellaw09_CrateC (lget (toCs (lget args 1)))) (lstC intC (lget args 2)) (fun q0 => kf (lget [.bool q0] 0, []))
def newellaw09_ShaftShort_d8 {R : Type} (N : Nat) (S0 : St) (k : Exit → St → Option R) : Option R :=
  newellaw09_ShaftShort_l8 N N (lstC intC (lget S0.tmps 2)) (toI (lget S0.tmps 10)) (toI (lget S0.tmps 11)) (Cod.dec api_ShaftC (lget (entCs (entAt S0.tab 0)))) (Cod.dec newellaw09_CrateC (lget (entCs (entAt S0.tab 1)))) (Cod.dec api_PoseC (lget (entCs (entAt S0.tab 2)))) (fun q0 q3 => k (.exit 0) (newellaw09_ShaftShort_x8_0 (Cod.dec api_ShaftC (lget (entCs (entAt S0.tab 0)))) (Cod.dec newellaw09_CrateC (lget (entCs (entAt S0.tab 1)))) q0 q3))
def newellaw09_ShaftShort_lp {R : Type} (N : Nat) : Lp R := fun body S k => bif (Go.Sx.keyOf body).getD 0 == 8 then (newellaw09_ShaftShort_L8.head.raw 0 S (fun S0 => newellaw09_ShaftShort_d8 N S0 k)) else Option.none
theorem newellaw09_ShaftShort_l8_eq {R : Type} (N : Nat) (k : Exit → St → Option R) (n : Nat) : ∀ (v0 : Arr Int) (v1 : Int) (v2 : Int) (v3 : api_Shaft) (v4 : newellaw09_Crate) (v5 : api_Pose), loopM E.Θ (newellaw09_ready_cal N) (newellaw09_ShaftShort_lp N) (noJn) 0 newellaw09_ShaftShort_L8 (bodyAt E 6 8) n (newellaw09_ShaftShort_h8 v0 v1 v2 v3 v4 v5) k = newellaw09_ShaftShort_l8 N n v0 v1 v2 v3 v4 v5 (fun q0 q3 => k (.exit 0) (newellaw09_ShaftShort_x8_0 v3 v4 q0 q3)) := by
  induction n with
  | zero => intro v0 v1 v2 v3 v4 v5; rfl
  | succ n ih =>
    intro v0 v1 v2 v3 v4 v5
    refine Eq.trans (b := newellaw09_ShaftShort_b8 N (fun v0 v1 v2 v3 v4 v5 => loopM E.Θ (newellaw09_ready_cal N) (newellaw09_ShaftShort_lp N) (noJn) 0 newellaw09_ShaftShort_L8 (bodyAt E 6 8) n (newellaw09_ShaftShort_h8 v0 v1 v2 v3 v4 v5) k) v0 v1 v2 v3 v4 v5 (fun q0 q3 => k (.exit 0) (newellaw09_ShaftShort_x8_0 v3 v4 q0 q3))) (by kernel_rfl) ?_
    have h : (fun (v0 : Arr Int) (v1 : Int) (v2 : Int) (v3 : api_Shaft) (v4 : newellaw09_Crate) (v5 : api_Pose) => loopM E.Θ (newellaw09_ready_cal N) (newellaw09_ShaftShort_lp N) (noJn) 0 newellaw09_ShaftShort_L8 (bodyAt E 6 8) n (newellaw09_ShaftShort_h8 v0 v1 v2 v3 v4 v5) k) = (fun (v0 : Arr Int) (v1 : Int) (v2 : Int) (v3 : api_Shaft) (v4 : newellaw09_Crate) (v5 : api_Pose) => newellaw09_ShaftShort_l8 N n v0 v1 v2 v3 v4 v5 (fun q0 q3 => k (.exit 0) (newellaw09_ShaftShort_x8_0 v3 v4 q0 q3))) := funext fun v0 => funext fun v1 => funext fun v2 => funext fun v3 => funext fun v4 => funext fun v5 => ih v0 v1 v2 v3 v4 v5
    rw [h]
    rfl
theorem newellaw09_ShaftShort_k8 {R : Type} (N : Nat) : LpKey (R := R) E 6 0 (newellaw09_ShaftShort_lp N) 8 :=
  lpKey_of hE (newellaw09_ready_cal_ok N) (lp := newellaw09_ShaftShort_lp N) (jn := noJn) newellaw09_ShaftShort_L8_ok [] kNil (by kernel_rfl) [] jNil (by kernel_rfl) N fun S k =>
    Eq.trans (b := newellaw09_ShaftShort_L8.head.raw 0 S (fun S0 => newellaw09_ShaftShort_d8 N S0 k)) (by kernel_rfl) (congrArg (newellaw09_ShaftShort_L8.head.raw 0 S) (funext fun S0 => Eq.trans (newellaw09_ShaftShort_l8_eq N k N (lstC intC (lget S0.tmps 2)) (toI (lget S0.tmps 10)) (toI (lget S0.tmps 11)) (Cod.dec api_ShaftC (lget (entCs (entAt S0.tab 0)))) (Cod.dec newellaw09_CrateC (lget (entCs (entAt S0.tab 1)))) (Cod.dec api_PoseC (lget (entCs (entAt S0.tab 2))))).symm (by kernel_rfl)))
noncomputable def newellaw09_ShaftShort_go {R : Type} (N : Nat) (args : List SV) (T : Tab) (kf : SV × Tab → Option R) : Option R :=
  newellaw09_ShaftShort N (Cod.dec api_ShaftC (lget (toCs (lget args 0)))) (Cod.dec newellaw09_CrateC (lget (toCs (lget args 1)))) (lstC intC (lget args 2)) (fun q0 => kf (lget [.bool q0] 0, []))
noncomputable def newellaw09_ShaftShort_cal {R : Type} (N : Nat) : Cal R := callM (newellaw09_ready_cal N) 6 0 newellaw09_ShaftShort_sp (newellaw09_ShaftShort_go N)
theorem newellaw09_ShaftShort_cal_ok {R : Type} (N : Nat) : CalOk E.P (newellaw09_ShaftShort_cal (R := R) N) :=
  callM_ok hE (newellaw09_ready_cal_ok N) (lp := newellaw09_ShaftShort_lp N) (jn := noJn) (keys := [8]) (kCons (newellaw09_ShaftShort_k8 N) kNil) (by kernel_rfl) (js := []) jNil (by kernel_rfl) newellaw09_ShaftShort_sp_ok newellaw09_ShaftShort_rs_ok (fun args T kf => Eq.trans (newellaw09_ShaftShort_def N (Cod.dec api_ShaftC (lget (toCs (lget args 0)))) (Cod.dec newellaw09_CrateC (lget (toCs (lget args 1)))) (lstC intC (lget args 2)) (fun q0 => kf (lget [.bool q0] 0, []))) (by kernel_rfl : newellaw09_ShaftShort_run N args T kf = fnM E (newellaw09_ready_cal N) (newellaw09_ShaftShort_lp N) (noJn) 6 (newellaw09_ShaftShort_sp.vs args) (newellaw09_ShaftShort_sp.tab T) 0 (resK newellaw09_ShaftShort_rs kf)))
section
open Classical
variable {R : Type}
theorem mv_step {s : api_Shaft} {e_ : Arr3_int} {p : api_Pose} {m : Int} (h : mvE s e_ p m = 0) : stepV s e_ p m.toNat = some (mvR s e_ p m) := by
  have hR : mvR s e_ p m = mvPose p m := by unfold mvR; rw [if_pos h]
  unfold mvE at h
  split at h
  · omega
  split at h
  · omega
  split at h
  · omega
  split at h
  · omega
  rename_i _ _ h3 h4
  have h3 := Classical.not_not.1 h3
  have h4 := Classical.not_not.1 h4
  obtain ⟨a1, a2⟩ := h3
  have e : ((m.toNat : Nat) : Int) = m := by omega
  have := stepV_of (s := s) (e := e_) (p := p) (m := m.toNat) (by omega) (by rw [e]; exact h4)
  rw [this, e, hR]
theorem short_l8 {s : api_Shaft} (c : newellaw09_Crate) (N : Nat) (hN : 300 ≤ N) (mv : Arr Int) (hm : mv.n ≤ 200) (k0 : Int → api_Pose → Option R) :
    ∀ (q i n t : Nat) (p : api_Pose), i + q = mv.n → q < n → t ≤ i → Br.Way (stepV s c.Edges) c.Pose p t → fitsP s c.Edges p → ∃ (t' : Nat) (p' : api_Pose), Br.Way (stepV s c.Edges) c.Pose p' t' ∧ fitsP s c.Edges p' ∧ newellaw09_ShaftShort_l8 N n mv (t : Int) (i : Int) s c p k0 = k0 (t' : Int) p' := by
  intro q
  induction q with
  | zero =>
    intro i n t p h1 h2 h3 h4 h5
    obtain ⟨n, rfl⟩ : ∃ m, n = m + 1 := ⟨n - 1, by omega⟩
    unfold newellaw09_ShaftShort_l8 newellaw09_ShaftShort_b8
    exact ⟨t, p, h4, h5, by rw [ltF (show mv.n ≤ i by omega), cond_false]⟩
  | succ q ih =>
    intro i n t p h1 h2 h3 h4 h5
    obtain ⟨n, rfl⟩ : ∃ m, n = m + 1 := ⟨n - 1, by omega⟩
    unfold newellaw09_ShaftShort_l8 newellaw09_ShaftShort_b8
    rw [ltT (show i < mv.n by omega), show decide ((0 : Int) ≤ (i : Int)) = true by simp]
    simp only [cond_true, Bool.and_self, Int.toNat_natCast, shMoveF_eq _ _ _ _ _ hN]
    rw [w64_eq (show -9223372036854775808 ≤ (i : Int) + 1 by omega) (by omega), w64_eq (show -9223372036854775808 ≤ (t : Int) + 1 by omega) (by omega), show (i : Int) + 1 = ((i + 1 : Nat) : Int) by omega, show (t : Int) + 1 = ((t + 1 : Nat) : Int) by omega]
    by_cases g : mvE s c.Edges p (mv.f i) = 0
    · rw [g, beq_self_eq_true, cond_true]
      have hs := mv_step g
      exact ih (i + 1) n (t + 1) _ (by omega) (by omega) (by omega) (h4.snoc hs) (step_back p _ _ h5 hs).1
    · rw [show (mvE s c.Edges p (mv.f i) == (0 : Int)) = false by simpa using g, cond_false]
      exact ih (i + 1) n t _ (by omega) (by omega) (by omega) h4 h5
theorem shaftShort_true (s : api_Shaft) (c : newellaw09_Crate) (mv : Arr Int) (hs : s.wf) (hc : c.wf) (hn : mv.n ≤ maxLen) (hv : ∀ i, i < mv.n → i64 (mv.f i)) : ∃ N, newellaw09_ShaftShort N s c mv (fun q0 => okK (lget [.bool q0] 0, [])) = some () := by
  refine ⟨200200, ?_⟩
  rw [newellaw09_ShaftShort_def]
  unfold newellaw09_ShaftShort_m
  have hM : (200100 : Nat) ≤ 200200 := by omega
  have h4 : (4000 : Nat) ≤ 200200 := by omega
  simp only [farS_eq, works_eq _ hM, refCrate_eq _ _ _ (show 300 ≤ 200200 by omega), refFitsF_eq _ _ _ _ (show 300 ≤ 200200 by omega)]
  cases decide (((s.Walls.n : Nat) : Int) > 300)
  rotate_left
  · rfl
  rw [cond_false]
  by_cases hl : mv.n ≤ 200
  rotate_left
  · rw [decide_eq_true (show ((mv.n : Nat) : Int) > 200 by omega)]; rfl
  rw [decide_eq_false (show ¬ ((mv.n : Nat) : Int) > 200 by omega), cond_false]
  by_cases h0 : errC s c.Edges = 0
  rotate_left
  · rw [bne0 h0]; rfl
  obtain ⟨v, he⟩ := errC_zero h0
  rw [h0, show ((0 : Int) != 0) = false from rfl, cond_false, fitE, if_pos h0]
  by_cases hp : fitsP s c.Edges c.Pose
  rotate_left
  · rw [decide_eq_false hp]; rfl
  rw [decide_eq_true hp, Bool.not_true, cond_false]
  obtain ⟨t, p, g1, g2, g3⟩ := short_l8 (R := Unit) (s := s) c 200200 (by omega) mv hl (fun r1489 r1490 => shaft_Carry 200200 s c.Edges c.Pose r1490 (fun r1491 r1492 r1493 =>
       bif r1491 == (0 : Int) then
        bif decide ((↑(Arr.n r1493) : Int) ≤ r1489) then okK (lget [SV.bool true] 0, [])
        else okK (lget [SV.bool false] 0, [])
       else okK (lget [SV.bool false] 0, []))) mv.n 0 200200 0 c.Pose (by omega) (by omega) (by omega) (Br.Way.zero _) hp
  refine Eq.trans g3 ?_
  refine viaCarry h4 (fun nl arr ha => ?_)
  have hE : carE s c.Edges c.Pose p = 0 := by rw [carE_of v he hp g2, if_pos ⟨_, g1⟩]
  obtain ⟨ms, w1, w2, w3⟩ := ha.1 hE
  have : ms.length ≤ t := by
    by_cases g : ms.length ≤ t
    · exact g
    · exact absurd g1 (w1.way.2 t (by omega))
  rw [hE, beq_self_eq_true, cond_true, w3.1, decide_eq_true (show ((ms.length : Nat) : Int) ≤ (t : Int) by omega)]
  rfl
end
end
end Go.Proofs.YtckkodiefpdmhaaDoor
