import Derived.Test.YtckkodiefpdmhaaDoorQ2
set_option maxRecDepth 100000
set_option maxHeartbeats 0
set_option linter.unusedVariables false
set_option linter.unusedSimpArgs false
namespace Go.Proofs.YtckkodiefpdmhaaDoor
open Go.Sx
noncomputable section
def newellaw09_ShaftSmaller_L6 : LoopSp := ⟨⟨[3, 4, 5, 7, 8, 9, 10], ⟨(dr 3 ((rPtr 0 0) :: (rPtr 1 0) :: (rPtr 2 0) :: (dr 1 ((rRow 3) :: (rInt .i64) :: (rPtr 4 0) :: (rInt .i64) :: (dr 71 []))))), [(0, eBlkC api_ShaftC), (1, eBlkC newellaw09_CrateC), (2, eBlkC api_PoseC), (3, eRow intC), (4, eBlkC Arr3_intC)]⟩, 5⟩, [(some 0, ⟨[3, 4, 5, 7, 8, 9], ⟨(dr 3 ((rPtr 0 0) :: (rPtr 1 0) :: (rPtr 2 0) :: (dr 1 ((rRow 3) :: (rInt .i64) :: (rPtr 4 0) :: (dr 72 []))))), [(0, eBlkC api_ShaftC), (1, eBlkC newellaw09_CrateC), (2, eBlkC api_PoseC), (3, eRow intC), (4, eBlkC Arr3_intC)]⟩, 5⟩)]⟩
theorem newellaw09_ShaftSmaller_L6_ok : newellaw09_ShaftSmaller_L6.Ok := ⟨⟨(drCons 3 (allCons (rPtr_ok 0 0) (allCons (rPtr_ok 1 0) (allCons (rPtr_ok 2 0) (drCons 1 (allCons (rRow_ok 3) (allCons (rInt_ok .i64) (allCons (rPtr_ok 4 0) (allCons (rInt_ok .i64) (drCons 71 allNil)))))))))), (eCons (eBlkC_ok api_ShaftC_ok api_ShaftC_len) (eCons (eBlkC_ok newellaw09_CrateC_ok newellaw09_CrateC_len) (eCons (eBlkC_ok api_PoseC_ok api_PoseC_len) (eCons (eRow_ok intC_ok) (eCons (eBlkC_ok Arr3_intC_ok Arr3_intC_len) eNil)))))⟩, (xCons ⟨(drCons 3 (allCons (rPtr_ok 0 0) (allCons (rPtr_ok 1 0) (allCons (rPtr_ok 2 0) (drCons 1 (allCons (rRow_ok 3) (allCons (rInt_ok .i64) (allCons (rPtr_ok 4 0) (drCons 72 allNil))))))))), (eCons (eBlkC_ok api_ShaftC_ok api_ShaftC_len) (eCons (eBlkC_ok newellaw09_CrateC_ok newellaw09_CrateC_len) (eCons (eBlkC_ok api_PoseC_ok api_PoseC_len) (eCons (eRow_ok intC_ok) (eCons (eBlkC_ok Arr3_intC_ok Arr3_intC_len) eNil)))))⟩ xNil)⟩
def newellaw09_ShaftSmaller_h6 (v1016 : Int) (v1017 : Int) (v1018 : api_Shaft) (v1019 : newellaw09_Crate) (v1020 : api_Pose) (v1021 : Bool) (v1022 : Arr Int) (v1023 : Arr3_int) : St := ⟨(un 3 ((.ptr 0 0) :: (.ptr 1 0) :: (.ptr 2 0) :: (un 1 ((.row 3) :: (.int .i64 v1016) :: (.ptr 4 0) :: (.int .i64 v1017) :: (un 71 []))))), [(0, .blk (Cod.enc api_ShaftC v1018)), (1, .blk (Cod.enc newellaw09_CrateC v1019)), (2, .blk (Cod.enc api_PoseC v1020)), (3, rowE intC v1021 v1022), (4, .blk (Cod.enc Arr3_intC v1023))], 5⟩
def newellaw09_ShaftSmaller_x6_0 (v1016 : Int) (v1018 : api_Shaft) (v1019 : newellaw09_Crate) (v1020 : api_Pose) (v1021 : Bool) (v1022 : Arr Int) (q6 : Arr3_int) : St := ⟨(un 3 ((.ptr 0 0) :: (.ptr 1 0) :: (.ptr 2 0) :: (un 1 ((.row 3) :: (.int .i64 v1016) :: (.ptr 4 0) :: (un 72 []))))), [(0, .blk (Cod.enc api_ShaftC v1018)), (1, .blk (Cod.enc newellaw09_CrateC v1019)), (2, .blk (Cod.enc api_PoseC v1020)), (3, rowE intC v1021 v1022), (4, .blk (Cod.enc Arr3_intC q6))], 5⟩
def newellaw09_ShaftSmaller_b6 {R : Type} (N : Nat) (rc : Int → Int → api_Shaft → newellaw09_Crate → api_Pose → Bool → Arr Int → Arr3_int → Option R) (v1016 : Int) (v1017 : Int) (v1018 : api_Shaft) (v1019 : newellaw09_Crate) (v1020 : api_Pose) (v1021 : Bool) (v1022 : Arr Int) (v1023 : Arr3_int) (k0 : Arr3_int → Option R) : Option R :=
  bif decide (v1017 < (3 : Int)) then
   bif decide (IntKind.wrap IntKind.u64 v1017 < (0 : Int)) then
    Option.none
   else
    bif w64 (↑(BitVec.toNat (BitVec.ofInt (IntKind.bits IntKind.i64) (Int.fdiv (newellaw09_Crate.Move v1019) ((2 : Int) ^ min (Int.toNat (IntKind.wrap IntKind.u64 v1017)) (IntKind.bits IntKind.i64))) &&& BitVec.ofInt (IntKind.bits IntKind.i64) (1 : Int))) : Int) == (1 : Int) then
     bif decide ((0 : Int) ≤ v1017) && decide (v1017 < (↑(3 : Nat) : Int)) then
      bif decide ((0 : Int) ≤ v1017) && decide (v1017 < (↑(3 : Nat) : Int)) then
       rc v1016 (w64 (v1017 + (1 : Int))) v1018 v1019 v1020 v1021 v1022 (Arr3_int.mk (bif v1017 == (↑(0 : Nat) : Int) then mxI (1 : Int) (w64 (pickI v1017 (0 : Nat) [Arr3_int.a0 v1023, Arr3_int.a1 v1023, Arr3_int.a2 v1023] - (1 : Int))) else Arr3_int.a0 v1023) (bif v1017 == (↑((0 : Nat) + (1 : Nat)) : Int) then mxI (1 : Int) (w64 (pickI v1017 (0 : Nat) [Arr3_int.a0 v1023, Arr3_int.a1 v1023, Arr3_int.a2 v1023] - (1 : Int))) else Arr3_int.a1 v1023) (bif v1017 == (↑((0 : Nat) + (1 : Nat) + (1 : Nat)) : Int) then mxI (1 : Int) (w64 (pickI v1017 (0 : Nat) [Arr3_int.a0 v1023, Arr3_int.a1 v1023, Arr3_int.a2 v1023] - (1 : Int))) else Arr3_int.a2 v1023))
      else
       Option.none
     else
      Option.none
    else
     rc v1016 (w64 (v1017 + (1 : Int))) v1018 v1019 v1020 v1021 v1022 v1023
  else
   k0 v1023
def newellaw09_ShaftSmaller_l6 {R : Type} (N : Nat) : Nat → Int → Int → api_Shaft → newellaw09_Crate → api_Pose → Bool → Arr Int → Arr3_int → (Arr3_int → Option R) → Option R
  | 0, _, _, _, _, _, _, _, _, _ => Option.none
  | n + 1, v1016, v1017, v1018, v1019, v1020, v1021, v1022, v1023, k0 => newellaw09_ShaftSmaller_b6 N (fun v1016 v1017 v1018 v1019 v1020 v1021 v1022 v1023 => newellaw09_ShaftSmaller_l6 N n v1016 v1017 v1018 v1019 v1020 v1021 v1022 v1023 k0) v1016 v1017 v1018 v1019 v1020 v1021 v1022 v1023 k0
def newellaw09_ShaftSmaller_m {R : Type} (N : Nat) (a1008 : api_Shaft) (a1009 : newellaw09_Crate) (a1010 : api_Pose) (k : Bool → Option R) : Option R :=
  newellaw09_ready N a1008 a1009 a1010 (fun r1011 =>
  bif !r1011 then
   newellaw09_works N  (fun r1012 =>
   k r1012)
  else
   shaft_Carry N a1008 (newellaw09_Crate.Edges a1009) (newellaw09_Crate.Pose a1009) a1010 (fun r1013 r1014 r1015 =>
   newellaw09_ShaftSmaller_l6 N N r1013 (0 : Int) a1008 a1009 a1010 r1014 r1015 (newellaw09_Crate.Edges a1009) (fun r1024 =>
    shaft_Carry N a1008 r1024 (newellaw09_Crate.Pose a1009) a1010 (fun r1025 r1026 r1027 =>
    bif r1013 != (0 : Int) then
     bif r1025 == (0 : Int) then
      newellaw09_works N  (fun r1028 =>
      k r1028)
     else
      bif r1025 == (3 : Int) then
       newellaw09_works N  (fun r1029 =>
       k r1029)
      else
       k false
    else
     bif r1025 == (0 : Int) then
      bif decide ((↑(Arr.n r1027) : Int) ≤ (↑(Arr.n r1015) : Int)) then
       bif r1025 == (0 : Int) then
        newellaw09_works N  (fun r1030 =>
        k r1030)
       else
        bif r1025 == (3 : Int) then
         newellaw09_works N  (fun r1031 =>
         k r1031)
        else
         k false
      else
       k false
     else
      k false))))
noncomputable def newellaw09_ShaftSmaller {R : Type} : Nat → api_Shaft → newellaw09_Crate → api_Pose → (Bool → Option R) → Option R := lock (@newellaw09_ShaftSmaller_m R)
theorem newellaw09_ShaftSmaller_def {R : Type} (N : Nat) (a1008 : api_Shaft) (a1009 : newellaw09_Crate) (a1010 : api_Pose) (k : Bool → Option R) : newellaw09_ShaftSmaller N a1008 a1009 a1010 k = newellaw09_ShaftSmaller_m N a1008 a1009 a1010 k := by unfold newellaw09_ShaftSmaller; rw [lock_eq]
def newellaw09_ShaftSmaller_sp : Sp := ⟨[rAgg api_ShaftC, rAgg newellaw09_CrateC, rAgg api_PoseC], []⟩
theorem newellaw09_ShaftSmaller_sp_ok : newellaw09_ShaftSmaller_sp.Ok := ⟨(allCons (rAgg_ok api_ShaftC_ok api_ShaftC_len) (allCons (rAgg_ok newellaw09_CrateC_ok newellaw09_CrateC_len) (allCons (rAgg_ok api_PoseC_ok api_PoseC_len) allNil))), eNil⟩
def newellaw09_ShaftSmaller_rs : Sp := ⟨[rBool], []⟩
theorem newellaw09_ShaftSmaller_rs_ok : newellaw09_ShaftSmaller_rs.Ok := ⟨(allCons rBool_ok allNil), eNil⟩
def newellaw09_ShaftSmaller_run {R : Type} (N : Nat) (args : List SV) (T : Tab) (kf : SV × Tab → Option R) : Option R :=
  newellaw09_ShaftSmaller_m N (Cod.dec api_ShaftC (lget (toCs (lget args 0)))) (Cod.dec newellaw09_CrateC (lget (toCs (lget args 1)))) (Cod.dec api_PoseC (lget (toCs (lget args 2)))) (fun q0 => kf (lget [.bool q0] 0, []))
def newellaw09_ShaftSmaller_d6 {R : Type} (N : Nat) (S0 : St) (k : Exit → St → Option R) : Option R :=
  newellaw09_ShaftSmaller_l6 N N (toI (lget S0.tmps 8)) (toI (lget S0.tmps 10)) (Cod.dec api_ShaftC (lget (entCs (entAt S0.tab 0)))) (Cod.dec newellaw09_CrateC (lget (entCs (entAt S0.tab 1)))) (Cod.dec api_PoseC (lget (entCs (entAt S0.tab 2)))) (entNl (entAt S0.tab 3)) (lst intC (entN (entAt S0.tab 3)) (entC (entAt S0.tab 3))) (Cod.dec Arr3_intC (lget (entCs (entAt S0.tab 4)))) (fun q6 => k (.exit 0) (newellaw09_ShaftSmaller_x6_0 (toI (lget S0.tmps 8)) (Cod.dec api_ShaftC (lget (entCs (entAt S0.tab 0)))) (Cod.dec newellaw09_CrateC (lget (entCs (entAt S0.tab 1)))) (Cod.dec api_PoseC (lget (entCs (entAt S0.tab 2)))) (entNl (entAt S0.tab 3)) (lst intC (entN (entAt S0.tab 3)) (entC (entAt S0.tab 3))) q6))
def newellaw09_ShaftSmaller_lp {R : Type} (N : Nat) : Lp R := fun body S k => bif (Go.Sx.keyOf body).getD 0 == 6 then (newellaw09_ShaftSmaller_L6.head.raw 0 S (fun S0 => newellaw09_ShaftSmaller_d6 N S0 k)) else Option.none
theorem newellaw09_ShaftSmaller_l6_eq {R : Type} (N : Nat) (k : Exit → St → Option R) (n : Nat) : ∀ (v0 : Int) (v1 : Int) (v2 : api_Shaft) (v3 : newellaw09_Crate) (v4 : api_Pose) (v5 : Bool) (v6 : Arr Int) (v7 : Arr3_int), loopM E.Θ (newellaw09_ready_cal N) (newellaw09_ShaftSmaller_lp N) (noJn) 0 newellaw09_ShaftSmaller_L6 (bodyAt E 4 6) n (newellaw09_ShaftSmaller_h6 v0 v1 v2 v3 v4 v5 v6 v7) k = newellaw09_ShaftSmaller_l6 N n v0 v1 v2 v3 v4 v5 v6 v7 (fun q6 => k (.exit 0) (newellaw09_ShaftSmaller_x6_0 v0 v2 v3 v4 v5 v6 q6)) := by
  induction n with
  | zero => intro v0 v1 v2 v3 v4 v5 v6 v7; rfl
  | succ n ih =>
    intro v0 v1 v2 v3 v4 v5 v6 v7
    refine Eq.trans (b := newellaw09_ShaftSmaller_b6 N (fun v0 v1 v2 v3 v4 v5 v6 v7 => loopM E.Θ (newellaw09_ready_cal N) (newellaw09_ShaftSmaller_lp N) (noJn) 0 newellaw09_ShaftSmaller_L6 (bodyAt E 4 6) n (newellaw09_ShaftSmaller_h6 v0 v1 v2 v3 v4 v5 v6 v7) k) v0 v1 v2 v3 v4 v5 v6 v7 (fun q6 => k (.exit 0) (newellaw09_ShaftSmaller_x6_0 v0 v2 v3 v4 v5 v6 q6))) (by kernel_rfl) ?_
    have h : (fun (v0 : Int) (v1 : Int) (v2 : api_Shaft) (v3 : newellaw09_Crate) (v4 : api_Pose) (v5 : Bool) (v6 : Arr Int) (v7 : Arr3_int) => loopM E.Θ (newellaw09_ready_cal N) (newellaw09_ShaftSmaller_lp N) (noJn) 0 newellaw09_ShaftSmaller_L6 (bodyAt E 4 6) n (newellaw09_ShaftSmaller_h6 v0 v1 v2 v3 v4 v5 v6 v7) k) = (fun (v0 : Int) (v1 : Int) (v2 : api_Shaft) (v3 : newellaw09_Crate) (v4 : api_Pose) (v5 : Bool) (v6 : Arr Int) (v7 : Arr3_int) => newellaw09_ShaftSmaller_l6 N n v0 v1 v2 v3 v4 v5 v6 v7 (fun q6 => k (.exit 0) (newellaw09_ShaftSmaller_x6_0 v0 v2 v3 v4 v5 v6 q6))) := funext fun v0 => funext fun v1 => funext fun v2 => funext fun v3 => funext fun v4 => funext fun v5 => funext fun v6 => funext fun v7 => ih v0 v1 v2 v3 v4 v5 v6 v7
    rw [h]
    rfl
theorem newellaw09_ShaftSmaller_k6 {R : Type} (N : Nat) : LpKey (R := R) E 4 0 (newellaw09_ShaftSmaller_lp N) 6 :=
  lpKey_of hE (newellaw09_ready_cal_ok N) (lp := newellaw09_ShaftSmaller_lp N) (jn := noJn) newellaw09_ShaftSmaller_L6_ok [] kNil (by kernel_rfl) [] jNil (by kernel_rfl) N fun S k =>
    Eq.trans (b := newellaw09_ShaftSmaller_L6.head.raw 0 S (fun S0 => newellaw09_ShaftSmaller_d6 N S0 k)) (by kernel_rfl) (congrArg (newellaw09_ShaftSmaller_L6.head.raw 0 S) (funext fun S0 => Eq.trans (newellaw09_ShaftSmaller_l6_eq N k N (toI (lget S0.tmps 8)) (toI (lget S0.tmps 10)) (Cod.dec api_ShaftC (lget (entCs (entAt S0.tab 0)))) (Cod.dec newellaw09_CrateC (lget (entCs (entAt S0.tab 1)))) (Cod.dec api_PoseC (lget (entCs (entAt S0.tab 2)))) (entNl (entAt S0.tab 3)) (lst intC (entN (entAt S0.tab 3)) (entC (entAt S0.tab 3))) (Cod.dec Arr3_intC (lget (entCs (entAt S0.tab 4))))).symm (by kernel_rfl)))
noncomputable def newellaw09_ShaftSmaller_go {R : Type} (N : Nat) (args : List SV) (T : Tab) (kf : SV × Tab → Option R) : Option R :=
  newellaw09_ShaftSmaller N (Cod.dec api_ShaftC (lget (toCs (lget args 0)))) (Cod.dec newellaw09_CrateC (lget (toCs (lget args 1)))) (Cod.dec api_PoseC (lget (toCs (lget args 2)))) (fun q0 => kf (lget [.bool q0] 0, []))
noncomputable def newellaw09_ShaftSmaller_cal {R : Type} (N : Nat) : Cal R := callM (newellaw09_ready_cal N) 4 0 newellaw09_ShaftSmaller_sp (newellaw09_ShaftSmaller_go N)
theorem newellaw09_ShaftSmaller_cal_ok {R : Type} (N : Nat) : CalOk E.P (newellaw09_ShaftSmaller_cal (R := R) N) :=
  callM_ok hE (newellaw09_ready_cal_ok N) (lp := newellaw09_ShaftSmaller_lp N) (jn := noJn) (keys := [6]) (kCons (newellaw09_ShaftSmaller_k6 N) kNil) (by kernel_rfl) (js := []) jNil (by kernel_rfl) newellaw09_ShaftSmaller_sp_ok newellaw09_ShaftSmaller_rs_ok (fun args T kf => Eq.trans (newellaw09_ShaftSmaller_def N (Cod.dec api_ShaftC (lget (toCs (lget args 0)))) (Cod.dec newellaw09_CrateC (lget (toCs (lget args 1)))) (Cod.dec api_PoseC (lget (toCs (lget args 2)))) (fun q0 => kf (lget [.bool q0] 0, []))) (by kernel_rfl : newellaw09_ShaftSmaller_run N args T kf = fnM E (newellaw09_ready_cal N) (newellaw09_ShaftSmaller_lp N) (noJn) 4 (newellaw09_ShaftSmaller_sp.vs args) (newellaw09_ShaftSmaller_sp.tab T) 0 (resK newellaw09_ShaftSmaller_rs kf)))
section
open Classical
variable {R : Type}
def LE3 (x y : Arr3_int) : Prop := x.a0 ≤ y.a0 ∧ x.a1 ≤ y.a1 ∧ x.a2 ≤ y.a2
theorem pk_mono {e e' : Arr3_int} (h : LE3 e' e) (i : Int) : pk e' i ≤ pk e i := by
  obtain ⟨a, b, c⟩ := h
  unfold pk
  split
  · exact a
  split
  · exact b
  · exact c
theorem along_mono {e e' : Arr3_int} (h : LE3 e' e) (t : Int) : LE3 (along e' t) (along e t) := ⟨pk_mono h _, pk_mono h _, pk_mono h _⟩
theorem max3_mono {a b a' b' : Arr3_int} (h : LE3 a' a) (k : LE3 b' b) : LE3 (max3 a' b') (max3 a b) := by
  obtain ⟨h0, h1, h2⟩ := h
  obtain ⟨k0, k1, k2⟩ := k
  unfold max3 LE3
  simp only
  omega
theorem fits_mono {s : api_Shaft} {e e' : Arr3_int} (l : LE3 e' e) {p : api_Pose} (h : fitsP s e p) : fitsP s e' p := by
  obtain ⟨a, b, c⟩ := along_mono l p.Turn
  exact ⟨h.1, free_mono h.2 a b c⟩
theorem mvOk_mono {s : api_Shaft} {e e' : Arr3_int} (l : LE3 e' e) {p : api_Pose} {m : Int} (h : mvOk s e p m) : mvOk s e' p m := by
  unfold mvOk at h ⊢
  by_cases g : m < 6
  · rw [if_pos g] at h ⊢
    exact fits_mono l h
  · rw [if_neg g] at h ⊢
    obtain ⟨a, b, c⟩ := max3_mono (along_mono l p.Turn) (along_mono l (swapT p.Turn m))
    exact free_mono h a b c
theorem step_mono {s : api_Shaft} {e e' : Arr3_int} (l : LE3 e' e) {p q : api_Pose} {m : Nat} (h : stepV s e p m = some q) : stepV s e' p m = some q := by
  obtain ⟨a, b, rfl⟩ := stepV_some h
  exact stepV_of a (mvOk_mono l b)
theorem way_mono {s : api_Shaft} {e e' : Arr3_int} (l : LE3 e' e) {b : api_Pose} : ∀ {n : Nat} {a : api_Pose}, Br.Way (stepV s e) a b n → Br.Way (stepV s e') a b n := by
  intro n
  induction n with
  | zero => intro a h; have := h.nil; subst this; exact Br.Way.zero _
  | succ n ih =>
    intro a h
    obtain ⟨m, q, h1, h2⟩ := h.uncons
    exact (ih h2).cons (step_mono l h1)
def nE (e : Arr3_int) (i : Int) : Arr3_int := Arr3_int.mk (bif i == ((0 : Nat) : Int) then mxI (1 : Int) (w64 (pickI i (0 : Nat) [Arr3_int.a0 e, Arr3_int.a1 e, Arr3_int.a2 e] - (1 : Int))) else Arr3_int.a0 e) (bif i == (((0 : Nat) + (1 : Nat) : Nat) : Int) then mxI (1 : Int) (w64 (pickI i (0 : Nat) [Arr3_int.a0 e, Arr3_int.a1 e, Arr3_int.a2 e] - (1 : Int))) else Arr3_int.a1 e) (bif i == (((0 : Nat) + (1 : Nat) + (1 : Nat) : Nat) : Int) then mxI (1 : Int) (w64 (pickI i (0 : Nat) [Arr3_int.a0 e, Arr3_int.a1 e, Arr3_int.a2 e] - (1 : Int))) else Arr3_int.a2 e)
theorem mx1 {x : Int} (h : e18 x) : e18 (mxI 1 (w64 (x - 1))) ∧ mxI 1 (w64 (x - 1)) ≤ x := by
  obtain ⟨a, b⟩ := h
  rw [mxI_eq, w64_eq (by omega) (by omega)]
  unfold e18
  omega
theorem nE_ok {e : Arr3_int} (h : E3 e) {i : Int} (hi : i = 0 ∨ i = 1 ∨ i = 2) : E3 (nE e i) ∧ LE3 (nE e i) e := by
  obtain ⟨h0, h1, h2⟩ := h
  rcases hi with rfl | rfl | rfl
  · have := mx1 h0
    exact ⟨⟨this.1, h1, h2⟩, this.2, Int.le_refl _, Int.le_refl _⟩
  · have := mx1 h1
    exact ⟨⟨h0, this.1, h2⟩, Int.le_refl _, this.2, Int.le_refl _⟩
  · have := mx1 h2
    exact ⟨⟨h0, h1, this.1⟩, Int.le_refl _, Int.le_refl _, this.2⟩
theorem LE3.trans {a b c : Arr3_int} (h : LE3 a b) (k : LE3 b c) : LE3 a c := ⟨Int.le_trans h.1 k.1, Int.le_trans h.2.1 k.2.1, Int.le_trans h.2.2 k.2.2⟩
theorem small_l6 (r : Int) (s : api_Shaft) (c : newellaw09_Crate) (b : api_Pose) (nl : Bool) (arr : Arr Int) (N : Nat) (e0 : Arr3_int) (k0 : Arr3_int → Option R) : ∀ (q i n : Nat) (e : Arr3_int), i + q = 3 → q < n → E3 e → LE3 e e0 →
    ∃ e', E3 e' ∧ LE3 e' e0 ∧ newellaw09_ShaftSmaller_l6 N n r (i : Int) s c b nl arr e k0 = k0 e' := by
  intro q
  induction q with
  | zero =>
    intro i n e h1 h2 h3 h4
    obtain ⟨n, rfl⟩ : ∃ m, n = m + 1 := ⟨n - 1, by omega⟩
    unfold newellaw09_ShaftSmaller_l6 newellaw09_ShaftSmaller_b6
    exact ⟨e, h3, h4, by rw [decide_eq_false (show ¬ (i : Int) < 3 by omega), cond_false]⟩
  | succ q ih =>
    intro i n e h1 h2 h3 h4
    obtain ⟨n, rfl⟩ : ∃ m, n = m + 1 := ⟨n - 1, by omega⟩
    have hi : (i : Int) = 0 ∨ (i : Int) = 1 ∨ (i : Int) = 2 := by omega
    obtain ⟨g1, g2⟩ := nE_ok h3 hi
    unfold newellaw09_ShaftSmaller_l6 newellaw09_ShaftSmaller_b6
    rw [decide_eq_true (show (i : Int) < 3 by omega), cond_true, u64_pos (show (0 : Int) ≤ (i : Int) by omega) (by omega), decide_eq_false (show ¬ (i : Int) < 0 by omega), cond_false, w64_eq (show -9223372036854775808 ≤ (i : Int) + 1 by omega) (by omega), show (i : Int) + 1 = ((i + 1 : Nat) : Int) by omega]
    rw [show (decide ((0 : Int) ≤ (i : Int)) && decide ((i : Int) < ((3 : Nat) : Int))) = true by simp; omega, cond_true, cond_true]
    obtain ⟨x1, x2, x3, x4⟩ := ih (i + 1) n (nE e i) (by omega) (by omega) g1 (g2.trans h4)
    obtain ⟨y1, y2, y3, y4⟩ := ih (i + 1) n e (by omega) (by omega) h3 h4
    generalize hc : (w64 (↑(BitVec.toNat (BitVec.ofInt (IntKind.bits IntKind.i64) (Int.fdiv (newellaw09_Crate.Move c) ((2 : Int) ^ min (Int.toNat (i : Int)) (IntKind.bits IntKind.i64))) &&& BitVec.ofInt (IntKind.bits IntKind.i64) (1 : Int))) : Int) == (1 : Int)) = bb
    cases bb
    · exact ⟨y1, y2, y3, by rw [cond_false]; exact y4⟩
    · exact ⟨x1, x2, x3, by rw [cond_true]; exact x4⟩
theorem shaftSmaller_true (s : api_Shaft) (c : newellaw09_Crate) (b : api_Pose) (hs : s.wf) (hc : c.wf) (hb : b.wf) : ∃ N, newellaw09_ShaftSmaller N s c b (fun q0 => okK (lget [.bool q0] 0, [])) = some () := by
  refine ⟨200200, ?_⟩
  rw [newellaw09_ShaftSmaller_def]
  unfold newellaw09_ShaftSmaller_m
  have hM : (200100 : Nat) ≤ 200200 := by omega
  have h4 : (4000 : Nat) ≤ 200200 := by omega
  simp only [ready_eq _ (show 300 ≤ 200200 by omega), works_eq _ hM]
  by_cases hr : Ready s c b
  rotate_left
  · rw [decide_eq_false hr]; rfl
  rw [decide_eq_true hr, Bool.not_true, cond_false]
  obtain ⟨v, he, fa, fb⟩ := hr
  refine viaCarry h4 (fun nl arr ha => ?_)
  obtain ⟨e', g1, g2, g3⟩ := small_l6 (R := Unit) (carE s c.Edges c.Pose b) s c b nl arr 200200 c.Edges (fun r1024 => shaft_Carry 200200 s r1024 (newellaw09_Crate.Pose c) b (fun r1025 r1026 r1027 =>
    bif carE s c.Edges c.Pose b != (0 : Int) then
     bif r1025 == (0 : Int) then okK (lget [SV.bool true] 0, [])
     else
      bif r1025 == (3 : Int) then okK (lget [SV.bool true] 0, [])
      else okK (lget [SV.bool false] 0, [])
    else
     bif r1025 == (0 : Int) then
      bif decide ((↑(Arr.n r1027) : Int) ≤ (↑(Arr.n arr) : Int)) then
       bif r1025 == (0 : Int) then okK (lget [SV.bool true] 0, [])
       else
        bif r1025 == (3 : Int) then okK (lget [SV.bool true] 0, [])
        else okK (lget [SV.bool false] 0, [])
      else okK (lget [SV.bool false] 0, [])
     else okK (lget [SV.bool false] 0, []))) 3 0 200200 c.Edges (by omega) (by omega) he ⟨Int.le_refl _, Int.le_refl _, Int.le_refl _⟩
  refine Eq.trans g3 ?_
  refine viaCarry h4 (fun nl' arr' ha' => ?_)
  have hE' := carE_of v g1 (fits_mono g2 fa) (fits_mono g2 fb)
  by_cases h0 : carE s c.Edges c.Pose b = 0
  · obtain ⟨ms, w1, w2, w3⟩ := ha.1 h0
    have hw := way_mono g2 w1.Way
    have hE : carE s e' c.Pose b = 0 := by rw [hE', if_pos ⟨_, hw⟩]
    obtain ⟨ms', u1, u2, u3⟩ := ha'.1 hE
    have : ms'.length ≤ ms.length := by
      by_cases g : ms'.length ≤ ms.length
      · exact g
      · exact absurd hw (u1.way.2 _ (by omega))
    rw [h0, hE, w3.1, u3.1, decide_eq_true (show ((ms'.length : Nat) : Int) ≤ ((ms.length : Nat) : Int) by omega)]
    rfl
  · rw [bne0 h0, cond_true]
    by_cases g : ∃ n, Br.Way (stepV s e') c.Pose b n
    · rw [hE', if_pos g]; rfl
    · rw [hE', if_neg g]; rfl
end
end
end Go.Proofs.YtckkodiefpdmhaaDoor
