import Derived.Test.YtckkodiefpdmhaaDoorQ2
set_option maxRecDepth 100000
set_option maxHeartbeats 0
set_option linter.unusedVariables false
set_option linter.unusedSimpArgs false
namespace Go.Proofs.YtckkodiefpdmhaaDoor
open Go.Sx
noncomputable section
def newellaw09_carried_L3 : LoopSp := ⟨⟨[4, 5, 6, 8, 11, 12], ⟨(dr 4 ((rSl intC) :: (rPtr 0 0) :: (rPtr 1 0) :: (dr 1 ((rPtr 2 0) :: (dr 2 ((rPtr 3 0) :: (rInt .i64) :: (dr 41 []))))))), [(0, eBlkC api_ShaftC), (1, eBlkC Arr3_intC), (2, eBlkC api_PoseC), (3, eBlkC api_PoseC)]⟩, 4⟩, [(Option.none, ⟨[10], ⟨(dr 10 ((rBool) :: (dr 43 []))), []⟩, 0⟩), (some 0, ⟨[8, 11], ⟨(dr 8 ((rPtr 0 0) :: (dr 2 ((rPtr 1 0) :: (dr 42 []))))), [(0, eBlkC api_PoseC), (1, eBlkC api_PoseC)]⟩, 2⟩)]⟩
theorem newellaw09_carried_L3_ok : newellaw09_carried_L3.Ok := ⟨⟨(drCons 4 (allCons (rSl_ok intC_ok) (allCons (rPtr_ok 0 0) (allCons (rPtr_ok 1 0) (drCons 1 (allCons (rPtr_ok 2 0) (drCons 2 (allCons (rPtr_ok 3 0) (allCons (rInt_ok .i64) (drCons 41 allNil)))))))))), (eCons (eBlkC_ok api_ShaftC_ok api_ShaftC_len) (eCons (eBlkC_ok Arr3_intC_ok Arr3_intC_len) (eCons (eBlkC_ok api_PoseC_ok api_PoseC_len) (eCons (eBlkC_ok api_PoseC_ok api_PoseC_len) eNil))))⟩, (xCons ⟨(drCons 10 (allCons rBool_ok (drCons 43 allNil))), eNil⟩ (xCons ⟨(drCons 8 (allCons (rPtr_ok 0 0) (drCons 2 (allCons (rPtr_ok 1 0) (drCons 42 allNil))))), (eCons (eBlkC_ok api_PoseC_ok api_PoseC_len) (eCons (eBlkC_ok api_PoseC_ok api_PoseC_len) eNil))⟩ xNil))⟩
def newellaw09_carried_h3 (v1602 : Arr Int) (v1603 : Int) (v1604 : api_Shaft) (v1605 : Arr3_int) (v1606 : api_Pose) (v1607 : api_Pose) : St := ⟨(un 4 ((slC intC v1602) :: (.ptr 0 0) :: (.ptr 1 0) :: (un 1 ((.ptr 2 0) :: (un 2 ((.ptr 3 0) :: (.int .i64 v1603) :: (un 41 []))))))), [(0, .blk (Cod.enc api_ShaftC v1604)), (1, .blk (Cod.enc Arr3_intC v1605)), (2, .blk (Cod.enc api_PoseC v1606)), (3, .blk (Cod.enc api_PoseC v1607))], 4⟩
def newellaw09_carried_x3_r (q0 : Bool) : St := ⟨(un 10 ((.bool q0) :: (un 43 []))), [], 0⟩
def newellaw09_carried_x3_0 (v1606 : api_Pose) (q1 : api_Pose) : St := ⟨(un 8 ((.ptr 0 0) :: (un 2 ((.ptr 1 0) :: (un 42 []))))), [(0, .blk (Cod.enc api_PoseC v1606)), (1, .blk (Cod.enc api_PoseC q1))], 2⟩
def newellaw09_carried_b3 {R : Type} (N : Nat) (rc : Arr Int → Int → api_Shaft → Arr3_int → api_Pose → api_Pose → Option R) (v1602 : Arr Int) (v1603 : Int) (v1604 : api_Shaft) (v1605 : Arr3_int) (v1606 : api_Pose) (v1607 : api_Pose) (kr : Bool → Option R) (k0 : api_Pose → Option R) : Option R :=
  bif decide (v1603 < (↑(Arr.n v1602) : Int)) then
   bif decide ((0 : Int) ≤ v1603) && decide (v1603 < (↑(Arr.n v1602) : Int)) then
    shaft_Move N v1604 v1605 v1607 (Arr.f v1602 (Int.toNat v1603)) (fun r1608 r1609 =>
    bif r1609 != (0 : Int) then
     kr false
    else
     shaft_Fits N v1604 v1605 r1608 (fun r1610 r1611 =>
     bif !r1610 then
      kr false
     else
      bif r1611 != (0 : Int) then
       kr false
      else
       rc v1602 (w64 (v1603 + (1 : Int))) v1604 v1605 v1606 r1608))
   else
    Option.none
  else
   k0 v1607
def newellaw09_carried_l3 {R : Type} (N : Nat) : Nat → Arr Int → Int → api_Shaft → Arr3_int → api_Pose → api_Pose → (Bool → Option R) → (api_Pose → Option R) → Option R
  | 0, _, _, _, _, _, _, _, _ => Option.none
  | n + 1, v1602, v1603, v1604, v1605, v1606, v1607, kr, k0 => newellaw09_carried_b3 N (fun v1602 v1603 v1604 v1605 v1606 v1607 => newellaw09_carried_l3 N n v1602 v1603 v1604 v1605 v1606 v1607 kr k0) v1602 v1603 v1604 v1605 v1606 v1607 kr k0
def newellaw09_carried_m {R : Type} (N : Nat) (a1597 : api_Shaft) (a1598 : Arr3_int) (a1599 : api_Pose) (a1600 : api_Pose) (a1601 : Arr Int) (k : Bool → Option R) : Option R :=
  newellaw09_carried_l3 N N a1601 (0 : Int) a1597 a1598 a1600 a1599 (fun r1612 =>
   k r1612) (fun r1613 =>
   k (Arr3_int.a0 (api_Pose.At r1613) == Arr3_int.a0 (api_Pose.At a1600) && (Arr3_int.a1 (api_Pose.At r1613) == Arr3_int.a1 (api_Pose.At a1600) && (Arr3_int.a2 (api_Pose.At r1613) == Arr3_int.a2 (api_Pose.At a1600) && (api_Pose.Turn r1613 == api_Pose.Turn a1600 && true)))))
noncomputable def newellaw09_carried {R : Type} : Nat → api_Shaft → Arr3_int → api_Pose → api_Pose → Arr Int → (Bool → Option R) → Option R := lock (@newellaw09_carried_m R)
theorem newellaw09_carried_def {R : Type} (N : Nat) (a1597 : api_Shaft) (a1598 : Arr3_int) (a1599 : api_Pose) (a1600 : api_Pose) (a1601 : Arr Int) (k : Bool → Option R) : newellaw09_carried N a1597 a1598 a1599 a1600 a1601 k = newellaw09_carried_m N a1597 a1598 a1599 a1600 a1601 k := by unfold newellaw09_carried; rw [lock_eq]
def newellaw09_carried_sp : Sp := ⟨[rAgg api_ShaftC, rAgg Arr3_intC, rAgg api_PoseC, rAgg api_PoseC, rSl intC], []⟩
theorem newellaw09_carried_sp_ok : newellaw09_carried_sp.Ok := ⟨(allCons (rAgg_ok api_ShaftC_ok api_ShaftC_len) (allCons (rAgg_ok Arr3_intC_ok Arr3_intC_len) (allCons (rAgg_ok api_PoseC_ok api_PoseC_len) (allCons (rAgg_ok api_PoseC_ok api_PoseC_len) (allCons (rSl_ok intC_ok) allNil))))), eNil⟩
def newellaw09_carried_rs : Sp := ⟨[rBool], []⟩
theorem newellaw09_carried_rs_ok : newellaw09_carried_rs.Ok := ⟨(allCons rBool_ok allNil), eNil⟩
def newellaw09_carried_run {R : Type} (N : Nat) (args : List SV) (T : Tab) (kf : SV × Tab → Option R) : Option R :=
  newellaw09_carried_m N (Cod.dec api_ShaftC (lget (toCs (lget args 0)))) (Cod.dec Arr3_intC (lget (toCs (lget args 1)))) (Cod.dec api_PoseC (lget (toCs (lget args 2)))) (Cod.dec api_PoseC (lget (toCs (lget args 3)))) (lstC intC (lget args 4)) (fun q0 => kf (lget [.bool q0] 0, []))
def newellaw09_carried_d3 {R : Type} (N : Nat) (S0 : St) (k : Exit → St → Option R) : Option R :=
  newellaw09_carried_l3 N N (lstC intC (lget S0.tmps 4)) (toI (lget S0.tmps 12)) (Cod.dec api_ShaftC (lget (entCs (entAt S0.tab 0)))) (Cod.dec Arr3_intC (lget (entCs (entAt S0.tab 1)))) (Cod.dec api_PoseC (lget (entCs (entAt S0.tab 2)))) (Cod.dec api_PoseC (lget (entCs (entAt S0.tab 3)))) (fun q0 => k .ret (newellaw09_carried_x3_r q0)) (fun q1 => k (.exit 0) (newellaw09_carried_x3_0 (Cod.dec api_PoseC (lget (entCs (entAt S0.tab 2)))) q1))
def newellaw09_carried_lp {R : Type} (N : Nat) : Lp R := fun body S k => bif (Go.Sx.keyOf body).getD 0 == 3 then (newellaw09_carried_L3.head.raw 0 S (fun S0 => newellaw09_carried_d3 N S0 k)) else Option.none
theorem newellaw09_carried_l3_eq {R : Type} (N : Nat) (k : Exit → St → Option R) (n : Nat) : ∀ (v0 : Arr Int) (v1 : Int) (v2 : api_Shaft) (v3 : Arr3_int) (v4 : api_Pose) (v5 : api_Pose), loopM E.Θ (newellaw09_ready_cal N) (newellaw09_carried_lp N) (noJn) 0 newellaw09_carried_L3 (bodyAt E 37 3) n (newellaw09_carried_h3 v0 v1 v2 v3 v4 v5) k = newellaw09_carried_l3 N n v0 v1 v2 v3 v4 v5 (fun q0 => k .ret (newellaw09_carried_x3_r q0)) (fun q1 => k (.exit 0) (newellaw09_carried_x3_0 v4 q1)) := by
  induction n with
  | zero => intro v0 v1 v2 v3 v4 v5; rfl
  | succ n ih =>
    intro v0 v1 v2 v3 v4 v5
    refine Eq.trans (b := newellaw09_carried_b3 N (fun v0 v1 v2 v3 v4 v5 => loopM E.Θ (newellaw09_ready_cal N) (newellaw09_carried_lp N) (noJn) 0 newellaw09_carried_L3 (bodyAt E 37 3) n (newellaw09_carried_h3 v0 v1 v2 v3 v4 v5) k) v0 v1 v2 v3 v4 v5 (fun q0 => k .ret (newellaw09_carried_x3_r q0)) (fun q1 => k (.exit 0) (newellaw09_carried_x3_0 v4 q1))) (by kernel_rfl) ?_
    have h : (fun (v0 : Arr Int) (v1 : Int) (v2 : api_Shaft) (v3 : Arr3_int) (v4 : api_Pose) (v5 : api_Pose) => loopM E.Θ (newellaw09_ready_cal N) (newellaw09_carried_lp N) (noJn) 0 newellaw09_carried_L3 (bodyAt E 37 3) n (newellaw09_carried_h3 v0 v1 v2 v3 v4 v5) k) = (fun (v0 : Arr Int) (v1 : Int) (v2 : api_Shaft) (v3 : Arr3_int) (v4 : api_Pose) (v5 : api_Pose) => newellaw09_carried_l3 N n v0 v1 v2 v3 v4 v5 (fun q0 => k .ret (newellaw09_carried_x3_r q0)) (fun q1 => k (.exit 0) (newellaw09_carried_x3_0 v4 q1))) := funext fun v0 => funext fun v1 => funext fun v2 => funext fun v3 => funext fun v4 => funext fun v5 => ih v0 v1 v2 v3 v4 v5
    rw [h]
    rfl
theorem newellaw09_carried_k3 {R : Type} (N : Nat) : LpKey (R := R) E 37 0 (newellaw09_carried_lp N) 3 :=
  lpKey_of hE (newellaw09_ready_cal_ok N) (lp := newellaw09_carried_lp N) (jn := noJn) newellaw09_carried_L3_ok [] kNil (by kernel_rfl) [] jNil (by kernel_rfl) N fun S k =>
    Eq.trans (b := newellaw09_carried_L3.head.raw 0 S (fun S0 => newellaw09_carried_d3 N S0 k)) (by kernel_rfl) (congrArg (newellaw09_carried_L3.head.raw 0 S) (funext fun S0 => Eq.trans (newellaw09_carried_l3_eq N k N (lstC intC (lget S0.tmps 4)) (toI (lget S0.tmps 12)) (Cod.dec api_ShaftC (lget (entCs (entAt S0.tab 0)))) (Cod.dec Arr3_intC (lget (entCs (entAt S0.tab 1)))) (Cod.dec api_PoseC (lget (entCs (entAt S0.tab 2)))) (Cod.dec api_PoseC (lget (entCs (entAt S0.tab 3))))).symm (by kernel_rfl)))
noncomputable def newellaw09_carried_go {R : Type} (N : Nat) (args : List SV) (T : Tab) (kf : SV × Tab → Option R) : Option R :=
  newellaw09_carried N (Cod.dec api_ShaftC (lget (toCs (lget args 0)))) (Cod.dec Arr3_intC (lget (toCs (lget args 1)))) (Cod.dec api_PoseC (lget (toCs (lget args 2)))) (Cod.dec api_PoseC (lget (toCs (lget args 3)))) (lstC intC (lget args 4)) (fun q0 => kf (lget [.bool q0] 0, []))
noncomputable def newellaw09_carried_cal {R : Type} (N : Nat) : Cal R := callM (newellaw09_ready_cal N) 37 0 newellaw09_carried_sp (newellaw09_carried_go N)
theorem newellaw09_carried_cal_ok {R : Type} (N : Nat) : CalOk E.P (newellaw09_carried_cal (R := R) N) :=
  callM_ok hE (newellaw09_ready_cal_ok N) (lp := newellaw09_carried_lp N) (jn := noJn) (keys := [3]) (kCons (newellaw09_carried_k3 N) kNil) (by kernel_rfl) (js := []) jNil (by kernel_rfl) newellaw09_carried_sp_ok newellaw09_carried_rs_ok (fun args T kf => Eq.trans (newellaw09_carried_def N (Cod.dec api_ShaftC (lget (toCs (lget args 0)))) (Cod.dec Arr3_intC (lget (toCs (lget args 1)))) (Cod.dec api_PoseC (lget (toCs (lget args 2)))) (Cod.dec api_PoseC (lget (toCs (lget args 3)))) (lstC intC (lget args 4)) (fun q0 => kf (lget [.bool q0] 0, []))) (by kernel_rfl : newellaw09_carried_run N args T kf = fnM E (newellaw09_ready_cal N) (newellaw09_carried_lp N) (noJn) 37 (newellaw09_carried_sp.vs args) (newellaw09_carried_sp.tab T) 0 (resK newellaw09_carried_rs kf)))
def newellaw09_ShaftFree_m {R : Type} (N : Nat) (a1585 : api_Shaft) (a1586 : newellaw09_Crate) (a1587 : api_Pose) (k : Bool → Option R) : Option R :=
  newellaw09_ready N a1585 a1586 a1587 (fun r1588 =>
  bif !r1588 then
   newellaw09_works N  (fun r1589 =>
   k r1589)
  else
   shaft_Carry N a1585 (newellaw09_Crate.Edges a1586) (newellaw09_Crate.Pose a1586) a1587 (fun r1590 r1591 r1592 =>
   shaft_Carry N a1585 (newellaw09_Crate.Edges a1586) a1587 (newellaw09_Crate.Pose a1586) (fun r1593 r1594 r1595 =>
   bif r1590 != r1593 then
    k false
   else
    bif (↑(Arr.n r1592) : Int) != (↑(Arr.n r1595) : Int) then
     k false
    else
     bif r1590 != (0 : Int) then
      bif r1590 == (3 : Int) then
       newellaw09_works N  (fun r1596 =>
       k r1596)
      else
       k false
     else
      newellaw09_carried N a1585 (newellaw09_Crate.Edges a1586) (newellaw09_Crate.Pose a1586) a1587 r1592 (fun r1614 =>
      bif r1614 then
       newellaw09_carried N a1585 (newellaw09_Crate.Edges a1586) a1587 (newellaw09_Crate.Pose a1586) r1595 (fun r1615 =>
       bif r1615 then
        newellaw09_works N  (fun r1616 =>
        k r1616)
       else
        k false)
      else
       k false))))
noncomputable def newellaw09_ShaftFree {R : Type} : Nat → api_Shaft → newellaw09_Crate → api_Pose → (Bool → Option R) → Option R := lock (@newellaw09_ShaftFree_m R)
theorem newellaw09_ShaftFree_def {R : Type} (N : Nat) (a1585 : api_Shaft) (a1586 : newellaw09_Crate) (a1587 : api_Pose) (k : Bool → Option R) : newellaw09_ShaftFree N a1585 a1586 a1587 k = newellaw09_ShaftFree_m N a1585 a1586 a1587 k := by unfold newellaw09_ShaftFree; rw [lock_eq]
def newellaw09_ShaftFree_sp : Sp := ⟨[rAgg api_ShaftC, rAgg newellaw09_CrateC, rAgg api_PoseC], []⟩
theorem newellaw09_ShaftFree_sp_ok : newellaw09_ShaftFree_sp.Ok := ⟨(allCons (rAgg_ok api_ShaftC_ok api_ShaftC_len) (allCons (rAgg_ok newellaw09_CrateC_ok newellaw09_CrateC_len) (allCons (rAgg_ok api_PoseC_ok api_PoseC_len) allNil))), eNil⟩
def newellaw09_ShaftFree_rs : Sp := ⟨[rBool], []⟩
theorem newellaw09_ShaftFree_rs_ok : newellaw09_ShaftFree_rs.Ok := ⟨(allCons rBool_ok allNil), eNil⟩
def newellaw09_ShaftFree_run {R : Type} (N : Nat) (args : List SV) (T : Tab) (kf : SV × Tab → Option R) : Option R :=
  newellaw09_ShaftFree_m N (Cod.dec api_ShaftC (lget (toCs (lget args 0)))) (Cod.dec newellaw09_CrateC (lget (toCs (lget args 1)))) (Cod.dec api_PoseC (lget (toCs (lget args 2)))) (fun q0 => kf (lget [.bool q0] 0, []))
def newellaw09_ShaftFree_lp {R : Type} (N : Nat) : Lp R := fun body S k => Option.none
noncomputable def newellaw09_ShaftFree_go {R : Type} (N : Nat) (args : List SV) (T : Tab) (kf : SV × Tab → Option R) : Option R :=
  newellaw09_ShaftFree N (Cod.dec api_ShaftC (lget (toCs (lget args 0)))) (Cod.dec newellaw09_CrateC (lget (toCs (lget args 1)))) (Cod.dec api_PoseC (lget (toCs (lget args 2)))) (fun q0 => kf (lget [.bool q0] 0, []))
noncomputable def newellaw09_ShaftFree_cal {R : Type} (N : Nat) : Cal R := callM (newellaw09_carried_cal N) 11 0 newellaw09_ShaftFree_sp (newellaw09_ShaftFree_go N)
theorem newellaw09_ShaftFree_cal_ok {R : Type} (N : Nat) : CalOk E.P (newellaw09_ShaftFree_cal (R := R) N) :=
  callM_ok hE (newellaw09_carried_cal_ok N) (lp := newellaw09_ShaftFree_lp N) (jn := noJn) (keys := []) kNil (by kernel_rfl) (js := []) jNil (by kernel_rfl) newellaw09_ShaftFree_sp_ok newellaw09_ShaftFree_rs_ok (fun args T kf => Eq.trans (newellaw09_ShaftFree_def N (Cod.dec api_ShaftC (lget (toCs (lget args 0)))) (Cod.dec newellaw09_CrateC (lget (toCs (lget args 1)))) (Cod.dec api_PoseC (lget (toCs (lget args 2)))) (fun q0 => kf (lget [.bool q0] 0, []))) (by kernel_rfl : newellaw09_ShaftFree_run N args T kf = fnM E (newellaw09_carried_cal N) (newellaw09_ShaftFree_lp N) (noJn) 11 (newellaw09_ShaftFree_sp.vs args) (newellaw09_ShaftFree_sp.tab T) 0 (resK newellaw09_ShaftFree_rs kf)))
section
open Classical
variable {R : Type}
theorem carried_l3 {s : api_Shaft} (v : VS s) {e : Arr3_int} (he : E3 e) {b : api_Pose} (N : Nat) (hN : 300 ≤ N) {arr : Arr Int} {kr : Bool → Option R} {k0 : api_Pose → Option R} : ∀ (ms : List Nat) (i n : Nat) (a p : api_Pose), fitsP s e p → i + ms.length = arr.n → arr.n ≤ 3072 → ms.length < n → (∀ j, j < ms.length → arr.f (i + j) = ((ms.getD j 0 : Nat) : Int)) → Br.walk (stepV s e) p ms = some b →
    newellaw09_carried_l3 N n arr (i : Int) s e b p kr k0 = k0 b := by
  intro ms
  induction ms with
  | nil =>
    intro i n a p hp h1 h2 h3 _ hw
    obtain ⟨n, rfl⟩ : ∃ m, n = m + 1 := ⟨n - 1, by omega⟩
    unfold newellaw09_carried_l3 newellaw09_carried_b3
    simp only [List.length_nil, Nat.add_zero] at h1
    rw [ltF (show arr.n ≤ i by omega), cond_false]
    have : p = b := by simpa [Br.walk] using hw
    rw [this]
  | cons m ms ih =>
    intro i n a p hp h1 h2 h3 hf hw
    obtain ⟨n, rfl⟩ : ∃ m, n = m + 1 := ⟨n - 1, by omega⟩
    simp only [List.length_cons] at h1 h3
    cases hs : stepV s e p m with
    | none => simp [Br.walk, hs] at hw
    | some q =>
      rw [Br.walk_cons hs] at hw
      obtain ⟨h5, h6, hq⟩ := stepV_some hs
      have hqf := mv_fits hp (m9 h5) h6
      have h0 := hf 0 (by simp)
      simp only [Nat.add_zero, List.getD_cons_zero] at h0
      have hE : mvE s e p (m : Int) = 0 := by
        unfold mvE
        rw [if_neg (by rw [errC_ok v he]; simp), if_neg (fun h => h hp), if_neg (fun h => h (m9 h5)), if_neg (fun h => h h6)]
      have hR : mvR s e p (m : Int) = q := by unfold mvR; rw [if_pos hE, hq]
      have hF : fitE s e q = true := by unfold fitE; rw [if_pos (errC_ok v he)]; rw [hq]; exact decide_eq_true hqf
      unfold newellaw09_carried_l3 newellaw09_carried_b3
      rw [ltT (show i < arr.n by omega), show decide ((0 : Int) ≤ (i : Int)) = true by simp]
      simp only [cond_true, Bool.and_self, Int.toNat_natCast, h0, shMoveF_eq _ _ _ _ _ hN, hE, hR, shFitsF_eq _ _ _ _ hN, hF, errC_ok v he, Bool.not_true, bne_self_eq_false, cond_false]
      rw [w64_eq (by omega) (by omega), show (i : Int) + 1 = ((i + 1 : Nat) : Int) by omega]
      exact ih (i + 1) n a q (by rw [hq]; exact hqf) (by omega) h2 (by omega) (fun j hj => by
        have := hf (j + 1) (by simp; omega)
        rw [show i + (j + 1) = i + 1 + j by omega] at this
        simpa using this) hw
theorem carried_eq {s : api_Shaft} (v : VS s) {e : Arr3_int} (he : E3 e) {a b : api_Pose} (ha : fitsP s e a) (N : Nat) (hN : 4000 ≤ N) {arr : Arr Int} {ms : List Nat} (hg : Br.Gr (stepV s e) b a ms) (hl : ms.length ≤ 3072) (hL : LA arr ms) (k : Bool → Option R) :
    newellaw09_carried N s e a b arr k = k true := by
  rw [newellaw09_carried_def]
  unfold newellaw09_carried_m
  have := carried_l3 (R := R) v he (b := b) N (by omega) (arr := arr) (kr := fun r => k r) (k0 := fun r1613 => k (Arr3_int.a0 (api_Pose.At r1613) == Arr3_int.a0 (api_Pose.At b) && (Arr3_int.a1 (api_Pose.At r1613) == Arr3_int.a1 (api_Pose.At b) && (Arr3_int.a2 (api_Pose.At r1613) == Arr3_int.a2 (api_Pose.At b) && (api_Pose.Turn r1613 == api_Pose.Turn b && true))))) ms 0 N a a ha (by rw [Nat.zero_add, hL.1]) (by rw [hL.1]; exact hl) (by omega) (fun j hj => by rw [Nat.zero_add]; exact hL.2 j hj) hg.way.1
  refine this.trans ?_
  simp
theorem gr_len {s : api_Shaft} {e : Arr3_int} {a b : api_Pose} (ha : fitsP s e a) (hb : fitsP s e b) {ms ms' : List Nat} (h : Br.Gr (stepV s e) b a ms) (k : Br.Gr (stepV s e) a b ms') : ms.length = ms'.length := by
  have w1 := (Br.Way.symm (fitsP s e) step_back ha h.Way).2
  have w2 := (Br.Way.symm (fitsP s e) step_back hb k.Way).2
  rcases Nat.lt_trichotomy ms.length ms'.length with g | g | g
  · exact absurd w1 (k.way.2 _ g)
  · exact g
  · exact absurd w2 (h.way.2 _ g)
theorem carE_symm {s : api_Shaft} {c : newellaw09_Crate} {b : api_Pose} (h : Ready s c b) : carE s c.Edges c.Pose b = carE s c.Edges b c.Pose := by
  obtain ⟨v, he, ha, hb⟩ := h
  rw [carE_of v he ha hb, carE_of v he hb ha]
  have : (∃ n, Br.Way (stepV s c.Edges) c.Pose b n) ↔ (∃ n, Br.Way (stepV s c.Edges) b c.Pose n) := ⟨fun ⟨n, g⟩ => ⟨n, (Br.Way.symm (fitsP s c.Edges) step_back ha g).2⟩, fun ⟨n, g⟩ => ⟨n, (Br.Way.symm (fitsP s c.Edges) step_back hb g).2⟩⟩
  by_cases g : ∃ n, Br.Way (stepV s c.Edges) c.Pose b n
  · rw [if_pos g, if_pos (this.1 g)]
  · rw [if_neg g, if_neg (fun h => g (this.2 h))]
theorem shaftFree_true (s : api_Shaft) (c : newellaw09_Crate) (b : api_Pose) (hs : s.wf) (hc : c.wf) (hb : b.wf) : ∃ N, newellaw09_ShaftFree N s c b (fun q0 => okK (lget [.bool q0] 0, [])) = some () := by
  refine ⟨200200, ?_⟩
  rw [newellaw09_ShaftFree_def]
  unfold newellaw09_ShaftFree_m
  have hM : (200100 : Nat) ≤ 200200 := by omega
  have h4 : (4000 : Nat) ≤ 200200 := by omega
  simp only [ready_eq _ (show 300 ≤ 200200 by omega), works_eq _ hM]
  by_cases hr : Ready s c b
  rotate_left
  · rw [decide_eq_false hr]; rfl
  rw [decide_eq_true hr, Bool.not_true, cond_false]
  refine viaCarry h4 (fun nl arr ha => ?_)
  refine viaCarry h4 (fun nl' arr' ha' => ?_)
  rw [carE_symm hr]
  rw [bne_self_eq_false, cond_false]
  by_cases h0 : carE s c.Edges b c.Pose = 0
  · obtain ⟨ms, g1, g2, g3⟩ := ha.1 (by rw [carE_symm hr]; exact h0)
    obtain ⟨ms', k1, k2, k3⟩ := ha'.1 h0
    obtain ⟨v, he, fa, fb⟩ := hr
    have hl := gr_len fa fb g1 k1
    have hn : arr.n = arr'.n := by rw [g3.1, k3.1, hl]
    rw [hn, bne_self_eq_false, cond_false, h0, bne_self_eq_false, cond_false, carried_eq v he fa _ h4 g1 g2 g3, cond_true, carried_eq v he fb _ h4 k1 k2 k3, cond_true]
    rfl
  · have e1 := ha.2 (by rw [carE_symm hr]; exact h0)
    have e2 := ha'.2 h0
    obtain ⟨v, he, fa, fb⟩ := hr
    have e3 : carE s c.Edges b c.Pose = 3 := by
      have := carE_of v he fb fa
      rw [this] at h0 ⊢
      split at h0
      · exact absurd rfl h0
      · rw [if_neg (by assumption)]
    rw [e1, e2, bne_self_eq_false, cond_false, e3]
    rfl
end
end
end Go.Proofs.YtckkodiefpdmhaaDoor
