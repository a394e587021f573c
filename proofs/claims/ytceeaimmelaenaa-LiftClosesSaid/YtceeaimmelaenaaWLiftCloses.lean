/-
  The model of the statement LiftCloses, that it is what the code does (written by a program), and that it answers true.
-/
import Derived.Test.YtceeaimmelaenaaP12
set_option maxRecDepth 100000
set_option maxHeartbeats 0
set_option linter.unusedVariables false
set_option linter.unusedSimpArgs false
namespace Go.Proofs.Ytceeaimmelaenaa
open Go.Sx
noncomputable section

def newellaw05_LiftCloses_L13 : LoopSp := ⟨⟨[2, 3, 11, 12, 13], ⟨(dr 2 ((rInt .i64) :: (rPtr 0 0) :: (dr 7 ((rInt .i64) :: (rRow 1) :: (rInt .i64) :: (dr 118 []))))), [(0, eBlkC api_DoorC), (1, eRow intC)]⟩, 2⟩, [(some 0, ⟨[2, 3, 12], ⟨(dr 2 ((rInt .i64) :: (rPtr 0 0) :: (dr 8 ((rRow 1) :: (dr 119 []))))), [(0, eBlkC api_DoorC), (1, eRow intC)]⟩, 2⟩)]⟩
theorem newellaw05_LiftCloses_L13_ok : newellaw05_LiftCloses_L13.Ok := ⟨⟨(drCons 2 (allCons (rInt_ok .i64) (allCons (rPtr_ok 0 0) (drCons 7 (allCons (rInt_ok .i64) (allCons (rRow_ok 1) (allCons (rInt_ok .i64) (drCons 118 allNil)))))))), (eCons (eBlkC_ok api_DoorC_ok api_DoorC_len) (eCons (eRow_ok intC_ok) eNil))⟩, (xCons ⟨(drCons 2 (allCons (rInt_ok .i64) (allCons (rPtr_ok 0 0) (drCons 8 (allCons (rRow_ok 1) (drCons 119 allNil)))))), (eCons (eBlkC_ok api_DoorC_ok api_DoorC_len) (eCons (eRow_ok intC_ok) eNil))⟩ xNil)⟩
def newellaw05_LiftCloses_h13 (v1295 : Int) (v1296 : Int) (v1297 : Int) (v1298 : api_Door) (v1299 : Bool) (v1300 : Arr Int) : St := ⟨(un 2 ((.int .i64 v1295) :: (.ptr 0 0) :: (un 7 ((.int .i64 v1296) :: (.row 1) :: (.int .i64 v1297) :: (un 118 []))))), [(0, .blk (Cod.enc api_DoorC v1298)), (1, rowE intC v1299 v1300)], 2⟩
def newellaw05_LiftCloses_x13_0 (v1295 : Int) (v1298 : api_Door) (q2 : Bool) (q3 : Arr Int) : St := ⟨(un 2 ((.int .i64 v1295) :: (.ptr 0 0) :: (un 8 ((.row 1) :: (un 119 []))))), [(0, .blk (Cod.enc api_DoorC v1298)), (1, rowE intC q2 q3)], 2⟩
def newellaw05_LiftCloses_b13 {R : Type} (N : Nat) (rc : Int → Int → Int → api_Door → Bool → Arr Int → Option R) (v1295 : Int) (v1296 : Int) (v1297 : Int) (v1298 : api_Door) (v1299 : Bool) (v1300 : Arr Int) (k0 : Bool → Arr Int → Option R) : Option R :=
  bif decide (v1297 < v1295) then
   bif room (Arr.n v1300 + (1 : Nat)) then
    rc v1295 v1296 (w64 (v1297 + (1 : Int))) v1298 false (lst intC (Arr.n v1300 + (1 : Nat)) (catC (Arr.n v1300) (Cod.cell intC (Arr.f v1300)) (litC [SV.int IntKind.i64 (0 : Int)] [[SV.int IntKind.i64 (w64 (w64 (w64 (w64 ((2 : Int) * api_Door.Wide v1298) + api_Door.Wait v1298) - (1 : Int)) + w64 (v1297 * v1296)))]])))
   else
    Option.none
  else
   k0 v1299 v1300
def newellaw05_LiftCloses_l13 {R : Type} (N : Nat) : Nat → Int → Int → Int → api_Door → Bool → Arr Int → (Bool → Arr Int → Option R) → Option R
  | 0, _, _, _, _, _, _, _ => Option.none
  | n + 1, v1295, v1296, v1297, v1298, v1299, v1300, k0 => newellaw05_LiftCloses_b13 N (fun v1295 v1296 v1297 v1298 v1299 v1300 => newellaw05_LiftCloses_l13 N n v1295 v1296 v1297 v1298 v1299 v1300 k0) v1295 v1296 v1297 v1298 v1299 v1300 k0


def newellaw05_LiftCloses_m {R : Type} (N : Nat) (a1280 : api_Door) (a1281 : Arr Int) (a1282 : Int) (k : Bool → Option R) : Option R :=
  bif decide ((↑(Arr.n a1281) : Int) > (20 : Int)) then
   newellaw05_works N  (fun r1283 =>
   k r1283)
  else
   newelref05_CheckDoor N a1280 (fun r1284 =>
   bif r1284 != (0 : Int) then
    newellaw05_works N  (fun r1285 =>
    k r1285)
   else
    bif decide (a1282 < (0 : Int)) then
     newellaw05_works N  (fun r1286 =>
     k r1286)
    else
     bif decide (a1282 > (20 : Int)) then
      newellaw05_works N  (fun r1287 =>
      k r1287)
     else
      newelref05_Breaks N a1281 (fun r1288 =>
      bif r1288 then
       lift_Doors N a1280 a1281 (fun r1289 r1290 r1291 =>
       lift_Dwell N a1280 ((↑(Arr.n a1281) : Int)) (fun r1292 r1293 =>
       bif r1289 != (0 : Int) then
        k false
       else
        bif r1293 != (0 : Int) then
         k false
        else
         bif (↑(Arr.n r1291) : Int) == (0 : Int) then
          k false
         else
          bif decide ((↑(Arr.n r1291) : Int) > r1292) then
           k false
          else
           bif decide ((0 : Int) ≤ w64 ((↑(Arr.n r1291) : Int) - (1 : Int))) && decide (w64 ((↑(Arr.n r1291) : Int) - (1 : Int)) < (↑(Arr.n r1291) : Int)) then
            bif Arr.f r1291 (Int.toNat (w64 ((↑(Arr.n r1291) : Int) - (1 : Int)))) != (0 : Int) then
             k false
            else
             bif w64 (w64 ((2 : Int) * w64 (api_Door.Wide a1280 - (1 : Int))) + api_Door.Wait a1280) == (0 : Int) then
              newellaw05_works N  (fun r1294 =>
              k r1294)
             else
              newellaw05_LiftCloses_l13 N N a1282 (w64 (w64 ((2 : Int) * w64 (api_Door.Wide a1280 - (1 : Int))) + api_Door.Wait a1280)) (0 : Int) a1280 true (lst intC (0 : Nat) (zeroC [SV.int IntKind.i64 (0 : Int)])) (fun r1301 r1302 =>
               lift_Doors N a1280 r1302 (fun r1303 r1304 r1305 =>
               lift_Dwell N a1280 a1282 (fun r1306 r1307 =>
               bif r1303 == (0 : Int) then
                bif r1307 == (0 : Int) then
                 bif (↑(Arr.n r1305) : Int) == r1306 then
                  newellaw05_works N  (fun r1308 =>
                  k r1308)
                 else
                  k false
                else
                 k false
               else
                k false)))
           else
            Option.none))
      else
       bif w64 (w64 ((2 : Int) * w64 (api_Door.Wide a1280 - (1 : Int))) + api_Door.Wait a1280) == (0 : Int) then
        newellaw05_works N  (fun r1309 =>
        k r1309)
       else
        newellaw05_LiftCloses_l13 N N a1282 (w64 (w64 ((2 : Int) * w64 (api_Door.Wide a1280 - (1 : Int))) + api_Door.Wait a1280)) (0 : Int) a1280 true (lst intC (0 : Nat) (zeroC [SV.int IntKind.i64 (0 : Int)])) (fun r1310 r1311 =>
         lift_Doors N a1280 r1311 (fun r1312 r1313 r1314 =>
         lift_Dwell N a1280 a1282 (fun r1315 r1316 =>
         bif r1312 == (0 : Int) then
          bif r1316 == (0 : Int) then
           bif (↑(Arr.n r1314) : Int) == r1315 then
            newellaw05_works N  (fun r1317 =>
            k r1317)
           else
            k false
          else
           k false
         else
          k false)))))
noncomputable def newellaw05_LiftCloses {R : Type} : Nat → api_Door → Arr Int → Int → (Bool → Option R) → Option R := lock (@newellaw05_LiftCloses_m R)
theorem newellaw05_LiftCloses_def {R : Type} (N : Nat) (a1280 : api_Door) (a1281 : Arr Int) (a1282 : Int) (k : Bool → Option R) : newellaw05_LiftCloses N a1280 a1281 a1282 k = newellaw05_LiftCloses_m N a1280 a1281 a1282 k := by unfold newellaw05_LiftCloses; rw [lock_eq]
def newellaw05_LiftCloses_sp : Sp := ⟨[rAgg api_DoorC, rSl intC, rInt .i64], []⟩
theorem newellaw05_LiftCloses_sp_ok : newellaw05_LiftCloses_sp.Ok := ⟨(allCons (rAgg_ok api_DoorC_ok api_DoorC_len) (allCons (rSl_ok intC_ok) (allCons (rInt_ok .i64) allNil))), eNil⟩
def newellaw05_LiftCloses_rs : Sp := ⟨[rBool], []⟩
theorem newellaw05_LiftCloses_rs_ok : newellaw05_LiftCloses_rs.Ok := ⟨(allCons rBool_ok allNil), eNil⟩
def newellaw05_LiftCloses_run {R : Type} (N : Nat) (args : List SV) (T : Tab) (kf : SV × Tab → Option R) : Option R :=
  newellaw05_LiftCloses_m N (Cod.dec api_DoorC (lget (toCs (lget args 0)))) (lstC intC (lget args 1)) (toI (lget args 2)) (fun q0 => kf (lget [.bool q0] 0, []))
def newellaw05_LiftCloses_d13 {R : Type} (N : Nat) (S0 : St) (k : Exit → St → Option R) : Option R :=
  newellaw05_LiftCloses_l13 N N (toI (lget S0.tmps 2)) (toI (lget S0.tmps 11)) (toI (lget S0.tmps 13)) (Cod.dec api_DoorC (lget (entCs (entAt S0.tab 0)))) (entNl (entAt S0.tab 1)) (lst intC (entN (entAt S0.tab 1)) (entC (entAt S0.tab 1))) (fun q2 q3 => k (.exit 0) (newellaw05_LiftCloses_x13_0 (toI (lget S0.tmps 2)) (Cod.dec api_DoorC (lget (entCs (entAt S0.tab 0)))) q2 q3))
def newellaw05_LiftCloses_lp {R : Type} (N : Nat) : Lp R := fun body S k => bif (Go.Sx.keyOf body).getD 0 == 13 then newellaw05_LiftCloses_L13.head.raw 0 S (fun S0 => newellaw05_LiftCloses_d13 N S0 k) else Option.none
theorem newellaw05_LiftCloses_l13_eq {R : Type} (N : Nat) (k : Exit → St → Option R) (n : Nat) : ∀ (v0 : Int) (v1 : Int) (v2 : Int) (v3 : api_Door) (v4 : Bool) (v5 : Arr Int), loopM E.Θ (newellaw05_works_cal N) (newellaw05_LiftCloses_lp N) 0 newellaw05_LiftCloses_L13 (bodyAt E 14 13) n (newellaw05_LiftCloses_h13 v0 v1 v2 v3 v4 v5) k = newellaw05_LiftCloses_l13 N n v0 v1 v2 v3 v4 v5 (fun q2 q3 => k (.exit 0) (newellaw05_LiftCloses_x13_0 v0 v3 q2 q3)) := by
  induction n with
  | zero => intro v0 v1 v2 v3 v4 v5; rfl
  | succ n ih =>
    intro v0 v1 v2 v3 v4 v5
    refine Eq.trans (b := newellaw05_LiftCloses_b13 N (fun v0 v1 v2 v3 v4 v5 => loopM E.Θ (newellaw05_works_cal N) (newellaw05_LiftCloses_lp N) 0 newellaw05_LiftCloses_L13 (bodyAt E 14 13) n (newellaw05_LiftCloses_h13 v0 v1 v2 v3 v4 v5) k) v0 v1 v2 v3 v4 v5 (fun q2 q3 => k (.exit 0) (newellaw05_LiftCloses_x13_0 v0 v3 q2 q3))) (by kernel_rfl) ?_
    have h : (fun (v0 : Int) (v1 : Int) (v2 : Int) (v3 : api_Door) (v4 : Bool) (v5 : Arr Int) => loopM E.Θ (newellaw05_works_cal N) (newellaw05_LiftCloses_lp N) 0 newellaw05_LiftCloses_L13 (bodyAt E 14 13) n (newellaw05_LiftCloses_h13 v0 v1 v2 v3 v4 v5) k) = (fun (v0 : Int) (v1 : Int) (v2 : Int) (v3 : api_Door) (v4 : Bool) (v5 : Arr Int) => newellaw05_LiftCloses_l13 N n v0 v1 v2 v3 v4 v5 (fun q2 q3 => k (.exit 0) (newellaw05_LiftCloses_x13_0 v0 v3 q2 q3))) := funext fun v0 => funext fun v1 => funext fun v2 => funext fun v3 => funext fun v4 => funext fun v5 => ih v0 v1 v2 v3 v4 v5
    rw [h]
    rfl
theorem newellaw05_LiftCloses_k13 {R : Type} (N : Nat) : LpKey (R := R) E 14 0 (newellaw05_LiftCloses_lp N) 13 :=
  lpKey_of hE (newellaw05_works_cal_ok N) newellaw05_LiftCloses_L13_ok [] kNil (by kernel_rfl) N fun S k =>
    Eq.trans (b := newellaw05_LiftCloses_L13.head.raw 0 S (fun S0 => newellaw05_LiftCloses_d13 N S0 k)) (by kernel_rfl) (congrArg (newellaw05_LiftCloses_L13.head.raw 0 S) (funext fun S0 => Eq.trans (newellaw05_LiftCloses_l13_eq N k N (toI (lget S0.tmps 2)) (toI (lget S0.tmps 11)) (toI (lget S0.tmps 13)) (Cod.dec api_DoorC (lget (entCs (entAt S0.tab 0)))) (entNl (entAt S0.tab 1)) (lst intC (entN (entAt S0.tab 1)) (entC (entAt S0.tab 1)))).symm (by kernel_rfl)))
noncomputable def newellaw05_LiftCloses_go {R : Type} (N : Nat) (args : List SV) (T : Tab) (kf : SV × Tab → Option R) : Option R :=
  newellaw05_LiftCloses N (Cod.dec api_DoorC (lget (toCs (lget args 0)))) (lstC intC (lget args 1)) (toI (lget args 2)) (fun q0 => kf (lget [.bool q0] 0, []))
noncomputable def newellaw05_LiftCloses_cal {R : Type} (N : Nat) : Cal R := callM (newellaw05_works_cal N) 14 0 newellaw05_LiftCloses_sp (newellaw05_LiftCloses_go N)
theorem newellaw05_LiftCloses_cal_ok {R : Type} (N : Nat) : CalOk E.P (newellaw05_LiftCloses_cal (R := R) N) :=
  callM_ok hE (newellaw05_works_cal_ok N) (lp := newellaw05_LiftCloses_lp N) (keys := [13]) (kCons (newellaw05_LiftCloses_k13 N) kNil) (by kernel_rfl) newellaw05_LiftCloses_sp_ok newellaw05_LiftCloses_rs_ok (fun args T kf => Eq.trans (newellaw05_LiftCloses_def N (Cod.dec api_DoorC (lget (toCs (lget args 0)))) (lstC intC (lget args 1)) (toI (lget args 2)) (fun q0 => kf (lget [.bool q0] 0, []))) (by kernel_rfl : newellaw05_LiftCloses_run N args T kf = fnM E (newellaw05_works_cal N) (newellaw05_LiftCloses_lp N) 14 (newellaw05_LiftCloses_sp.vs args) (newellaw05_LiftCloses_sp.tab T) 0 (resK newellaw05_LiftCloses_rs kf)))

theorem cntB_zero {f : Nat → Int} {t : Int} : ∀ n : Nat, (∀ j, j < n → f j < t) → cntB f t n = 0
  | 0, _ => rfl
  | n + 1, h => by
    simp only [cntB]
    rw [cntB_zero n (fun j hj => h j (by omega)), if_neg (by have := h n (by omega); omega)]
    rfl
theorem cntB_at {f : Nat → Int} {i : Nat} : ∀ n : Nat, (∀ a b, a < b → b < n → f a < f b) → i < n → cntB f (f i) n = (n : Int) - i
  | 0, _, h => by omega
  | n + 1, hu, h => by
    simp only [cntB]
    by_cases e : i = n
    · subst e
      rw [cntB_zero i (fun j hj => hu j i hj (by omega)), if_pos (Int.le_refl _)]
      omega
    · rw [cntB_at n (fun a b h1 h2 => hu a b h1 (by omega)) (by omega), if_pos (by have := hu i n (by omega) (by omega); omega)]
      omega

theorem dStep_opens {W T : Int} {b : Bool} {s : Int × Int × Int} (h : DV W T s) (hb : DV W T (dBrk W T b s)) : (dStep W T b s).2.1 = 0 → 1 ≤ (dStep W T b s).1 := by
  unfold dStep
  generalize dBrk W T b s = q at hb ⊢
  obtain ⟨a, p, l⟩ := q
  unfold DV at hb
  unfold dMv
  simp only at hb ⊢
  rcases hb with ⟨h1, h2, h3⟩ | ⟨h1, h2, h3, h4⟩ | ⟨h1, h2, h3⟩
  · subst h1
    simp only [if_true]
    split
    · unfold dHold; simp only; intro _; omega
    · intro _; simp only; omega
  · subst h1
    simp only [show ¬ ((1 : Int) = 0) by omega, if_false, if_true]
    intro h; split at h <;> omega
  · subst h1
    rw [if_neg (by omega), if_neg (by omega)]
    intro h; exact absurd (show (2 : Int) = 0 from h) (by omega)

/-- The worst breaks. -/
def worstF (W T : Int) (i : Nat) : Int := 2 * W + T - 1 + (i : Int) * stepS W T

theorem worst_up {W T : Int} (hs : 1 ≤ stepS W T) {i j : Nat} (h : i < j) : worstF W T i < worstF W T j := by
  unfold worstF
  have h1 : ((i : Int) + 1) * stepS W T ≤ (j : Int) * stepS W T := Int.mul_le_mul_of_nonneg_right (by omega) (by omega)
  rw [Int.add_mul, Int.one_mul] at h1
  omega

theorem pot_one {W T : Int} (hW : 1 ≤ W) (hT : 0 ≤ T) {s : Int × Int × Int} (h : DV W T s) (h1 : dPot W T s = 1) : s.2.1 = 2 ∧ s.1 = 1 := by
  obtain ⟨a, p, l⟩ := s
  unfold DV at h
  unfold dPot at h1
  simp only at h h1 ⊢
  rcases h with ⟨h1', h2, h3⟩ | ⟨h1', h2, h3, h4⟩ | ⟨h1', h2, h3⟩ <;> subst h1' <;> simp at h1 ⊢ <;> omega

theorem brk_one {W T : Int} (hW : 1 ≤ W) (hT : 0 ≤ T) {s : Int × Int × Int} (h : DV W T s) (h1 : s.2.1 = 2 ∧ s.1 = 1) : dPot W T (dBrk W T true s) = 1 + stepS W T := by
  obtain ⟨a, p, l⟩ := s
  simp only at h1
  obtain ⟨rfl, rfl⟩ := h1
  unfold dBrk
  rw [if_pos ⟨rfl, by simp⟩]
  unfold stepS
  by_cases hw : (1 : Int) < W
  · simp only [hw, if_true]
    unfold dPot
    simp only [if_true]
    omega
  · simp only [hw, if_false]
    unfold dHold dPot
    by_cases ht : T = 0
    · simp [ht]; omega
    · simp [ht]; omega

theorem worst_run {W T : Int} (hW : 1 ≤ W) (hT : 0 ≤ T) (hs : 1 ≤ stepS W T) {n : Nat} {c : Arr Int} (hc : c.Is n (worstF W T)) : ∀ t : Nat, (t : Int) < 2 * W + T + (n : Int) * stepS W T →
    DV W T (dSt W T c t) ∧ 1 ≤ dPot W T (dSt W T c t) ∧ phi W T c t = 2 * W + T + (n : Int) * stepS W T - t ∧ (1 ≤ t → 0 < (dSt W T c t).1) ∧ DV W T (dSt W T c (t + 1)) ∧ phi W T c (t + 1) = 2 * W + T + (n : Int) * stepS W T - (t + 1) := by
  classical
  have hlen := hc.len
  have hcu : ∀ a b, a < b → b < c.n → c.f a < c.f b := fun a b h1 h2 => by
    rw [hc.get a (by omega), hc.get b (by omega)]; exact worst_up hs h1
  have hcf : ∀ j, j < c.n → 1 ≤ c.f j := fun j hj => by
    rw [hc.get j (by omega)]
    unfold worstF
    have : 0 ≤ (j : Int) * stepS W T := Int.mul_nonneg (by omega) (by omega)
    omega
  intro t
  induction t with
  | zero =>
    intro ht
    have hd : DV W T (dSt W T c 0) := .inl ⟨rfl, Int.le_refl 0, by show (0 : Int) < W; omega⟩
    have hp : dPot W T (dSt W T c 0) = 2 * W + T := by show 2 * W - 0 + T = _; omega
    have hph : phi W T c 0 = 2 * W + T + (n : Int) * stepS W T := by
      rw [phi0, cntB_all c.n (fun j hj => by have := hcf j hj; omega), hlen]
    have hnb : ¬ isBr c ((0 : Nat) : Int) := fun ⟨j, h1, h2⟩ => by have := hcf j h1; omega
    obtain ⟨m1, m2⟩ := dMv_ok hW hT hd (fun h => by have e : (dSt W T c 0).2.1 = 0 := rfl; omega)
    have e1 : dSt W T c 1 = dMv W T (dSt W T c 0) := by
      show dMv W T (dBrk W T (decide (isBr c ((0 : Nat) : Int))) (dSt W T c 0)) = _
      rw [decide_eq_false hnb]; rfl
    refine ⟨hd, by omega, by simpa using hph, by omega, by rw [e1]; exact m1, ?_⟩
    unfold phi at hph ⊢
    rw [e1, m2, show ((0 + 1 : Nat) : Int) = 0 + 1 from rfl, cntB_no c.n (fun j hj => by have := hcf j hj; omega)]
    change dPot W T (dSt W T c 0) + cntB c.f (0 : Int) c.n * stepS W T = _ at hph
    have : ((0 : Nat) : Int) = 0 := rfl
    omega
  | succ t ih =>
    intro ht
    obtain ⟨h1, h2, h3, h4, h5, h6⟩ := ih (by omega)
    have ep : phi W T c (t + 1) = dPot W T (dSt W T c (t + 1)) + cntB c.f ((t + 1 : Nat) : Int) c.n * stepS W T := rfl
    -- something is left
    have hpos : 1 ≤ dPot W T (dSt W T c (t + 1)) := by
      have hp0 := (pot_pos hW hT h5).1
      rcases Int.lt_or_le 0 (dPot W T (dSt W T c (t + 1))) with h | h
      · exact h
      exfalso
      have hz : dPot W T (dSt W T c (t + 1)) = 0 := by omega
      have hcb := cntB_bounds c.f ((t + 1 : Nat) : Int) c.n
      obtain ⟨m, hm⟩ : ∃ m : Nat, cntB c.f ((t + 1 : Nat) : Int) c.n = m := ⟨(cntB c.f ((t + 1 : Nat) : Int) c.n).toNat, by omega⟩
      rw [hm] at ep hcb
      have hmn : m ≤ n := by omega
      have e7 : ((n - m : Nat) : Int) * stepS W T = (n : Int) * stepS W T - m * stepS W T := by rw [← Int.sub_mul]; congr 1; omega
      rcases Nat.eq_zero_or_pos m with h0 | h0
      · subst h0
        have : ((0 : Nat) : Int) * stepS W T = 0 := Int.zero_mul _
        omega
      · have e8 : worstF W T (n - m) = (t : Int) := by unfold worstF; omega
        have hcm := hc.get (n - m) (by omega)
        have e9 : cntB c.f (t : Int) c.n = (c.n : Int) - ((n - m : Nat) : Int) := by
          have := cntB_at (f := c.f) (i := n - m) c.n hcu (by omega)
          rwa [hcm, e8] at this
        have hbt : isBr c (t : Int) := ⟨n - m, by omega, by rw [hcm, e8]⟩
        have e10 := cntB_step (br := c) hcu (t : Int)
        rw [if_pos hbt, e9] at e10
        rw [show (t : Int) + 1 = ((t + 1 : Nat) : Int) by omega, hm] at e10
        omega
    have hp2 : (dSt W T c (t + 1)).2.1 = 2 → 1 ≤ (dSt W T c (t + 1)).1 := fun h => by
      unfold dPot at hpos
      rw [h] at hpos
      simp at hpos
      omega
    have hat : 0 < (dSt W T c (t + 1)).1 := by
      have hb := (dBrk_ok hW hT (b := decide (isBr c (t : Int))) h1 (fun h => by unfold dPot at h2; rw [h] at h2; simp at h2; omega)).1
      have ho := dStep_opens h1 hb
      change (dSt W T c (t + 1)).2.1 = 0 → 1 ≤ (dSt W T c (t + 1)).1 at ho
      have h5' := h5
      unfold DV at h5'
      omega
    obtain ⟨b1, b2, b3⟩ := dBrk_ok hW hT (b := decide (isBr c ((t + 1 : Nat) : Int))) h5 hp2
    obtain ⟨m1, m2⟩ := dMv_ok hW hT b1 b2
    refine ⟨h5, hpos, by rw [h6]; omega, fun _ => hat, m1, ?_⟩
    have e1 : phi W T c (t + 1 + 1) = dPot W T (dBrk W T (decide (isBr c ((t + 1 : Nat) : Int))) (dSt W T c (t + 1))) - 1 + cntB c.f (((t + 1 : Nat) : Int) + 1) c.n * stepS W T := by
      rw [← m2]; rfl
    rw [e1, cntB_step (br := c) hcu]
    by_cases hb : isBr c ((t + 1 : Nat) : Int)
    · rw [if_pos hb, decide_eq_true hb]
      obtain ⟨i, hi, hie⟩ := id hb
      rw [hc.get i (by omega)] at hie
      have e9 : cntB c.f ((t + 1 : Nat) : Int) c.n = (c.n : Int) - (i : Int) := by
        have := cntB_at (f := c.f) (i := i) c.n hcu hi
        rwa [hc.get i (by omega), hie] at this
      have hone : dPot W T (dSt W T c (t + 1)) = 1 := by
        rw [h6, e9, hlen, Int.sub_mul] at ep
        unfold worstF at hie
        omega
      rw [brk_one hW hT h5 (pot_one hW hT h5 hone), Int.sub_mul, Int.one_mul]
      omega
    · rw [if_neg hb, decide_eq_false hb, Int.sub_zero]
      have : dBrk W T false (dSt W T c (t + 1)) = dSt W T c (t + 1) := by unfold dBrk; rw [if_neg (fun h => by cases h.1)]
      rw [this]
      omega

theorem worst_dn {W T : Int} (hW : 1 ≤ W) (hT : 0 ≤ T) (hs : 1 ≤ stepS W T) {n : Nat} {c : Arr Int} (hc : c.Is n (worstF W T)) : DN W T c (2 * W + T + (n : Int) * stepS W T).toNat := by
  have h0 : 0 ≤ (n : Int) * stepS W T := Int.mul_nonneg (by omega) (by omega)
  refine ⟨by omega, ?_, fun j h1 h2 => (worst_run hW hT hs hc j (by omega)).2.2.2.1 h1⟩
  obtain ⟨h1, h2, h3, h4, h5, h6⟩ := worst_run hW hT hs hc ((2 * W + T + (n : Int) * stepS W T).toNat - 1) (by omega)
  have e : (2 * W + T + (n : Int) * stepS W T).toNat - 1 + 1 = (2 * W + T + (n : Int) * stepS W T).toNat := by omega
  rw [e] at h5 h6
  have h7 := pot_pos hW hT h5
  have h8 := cntB_bounds c.f ((2 * W + T + (n : Int) * stepS W T).toNat : Int) c.n
  have h9 : 0 ≤ cntB c.f ((2 * W + T + (n : Int) * stepS W T).toNat : Int) c.n * stepS W T := Int.mul_nonneg h8.1 (by omega)
  have h10 : phi W T c (2 * W + T + (n : Int) * stepS W T).toNat = dPot W T (dSt W T c (2 * W + T + (n : Int) * stepS W T).toNat) + cntB c.f ((2 * W + T + (n : Int) * stepS W T).toNat : Int) c.n * stepS W T := rfl
  exact h7.2.1 (by omega)

theorem closes_l13 {N : Nat} {d : api_Door} (hd : VD d) {m : Nat} (hm : m ≤ 20) : ∀ (r i n : Nat) (b : Bool) (a : Arr Int), i + r = m → r < n → a.Is i (worstF d.Wide d.Wait) →
    ∃ (b' : Bool) (a' : Arr Int), a'.Is m (worstF d.Wide d.Wait) ∧ ∀ {R : Type} (k : Bool → Arr Int → Option R), newellaw05_LiftCloses_l13 N n (m : Int) (stepS d.Wide d.Wait) (i : Int) d b a k = k b' a' := by
  intro r
  induction r with
  | zero =>
    intro i n b a h1 h2 ha
    obtain ⟨n, rfl⟩ : ∃ m, n = m + 1 := ⟨n - 1, by omega⟩
    have : i = m := by omega
    subst this
    refine ⟨b, a, ha, fun k => ?_⟩
    unfold newellaw05_LiftCloses_l13 newellaw05_LiftCloses_b13
    have e1 : decide ((i : Int) < (i : Int)) = false := by simp
    simp only [e1, cond_false]
  | succ r ih =>
    intro i n b a h1 h2 ha
    obtain ⟨n, rfl⟩ : ∃ m, n = m + 1 := ⟨n - 1, by omega⟩
    have ha' := ha.push_int (z := [SV.int IntKind.i64 0]) (v := worstF d.Wide d.Wait i) rfl
    obtain ⟨b', a', h3, h4⟩ := ih (i + 1) n false _ (by omega) (by omega) ha'
    refine ⟨b', a', h3, fun {R} k => ?_⟩
    unfold newellaw05_LiftCloses_l13 newellaw05_LiftCloses_b13
    have e1 : decide ((i : Int) < (m : Int)) = true := by simp; omega
    have hr : room (a.n + 1) = true := room_of (by rw [ha.len]; omega)
    obtain ⟨w1, w2, t1, t2⟩ := id hd
    have hs : 0 ≤ stepS d.Wide d.Wait ∧ stepS d.Wide d.Wait ≤ 300 := by unfold stepS; omega
    have hm := mul_range (a := (i : Int)) (A := 20) (by omega) (by omega) hs.1 hs.2
    have e2 : w64 (w64 (w64 (w64 ((2 : Int) * d.Wide) + d.Wait) - (1 : Int)) + w64 ((i : Int) * stepS d.Wide d.Wait)) = worstF d.Wide d.Wait i := by
      rw [w64_eq (n := 2 * d.Wide) (by omega) (by omega), w64_eq (n := 2 * d.Wide + d.Wait) (by omega) (by omega), w64_eq (n := 2 * d.Wide + d.Wait - 1) (by omega) (by omega), w64_eq (n := (i : Int) * _) (by omega) (by omega), w64_eq (by omega) (by omega)]
      rfl
    simp only [e1, cond_true, hr, w64_succ (show i < 1000000000000 by omega), e2]
    exact h4 k

open Classical in
theorem liftCloses_true (d : api_Door) (o : Arr Int) (n : Int) (hd : d.wf) (ho : o.n ≤ maxLen) (hoi : ∀ i, i < o.n → i64 (o.f i)) (hn : i64 n) : ∃ N, newellaw05_LiftCloses N d o n (fun q0 => okK (lget [.bool q0] 0, [])) = some () := by
  refine ⟨NN, ?_⟩
  have hNN : NN = 20000 := rfl
  rw [newellaw05_LiftCloses_def]
  unfold newellaw05_LiftCloses_m
  have ht : okK (lget [SV.bool true] 0, []) = some () := rfl
  simp only [works_eq, ht]
  by_cases hon : (o.n : Int) > 20
  · simp only [hon, decide_true, cond_true]
  simp only [hon, decide_false, cond_false, refCheckDoor_eq]
  by_cases hv : VD d
  rotate_left
  · rw [doorV_ne hv]; rfl
  obtain ⟨w1, w2, t1, t2⟩ := id hv
  simp only [doorV_pos hv, bne_self_eq_false, cond_false]
  by_cases c1 : n < 0
  · simp only [c1, decide_true, cond_true]
  by_cases c2 : n > 20
  · simp only [c1, c2, decide_false, decide_true, cond_true, cond_false]
  simp only [c1, c2, decide_false, cond_false, Breaks_eq (show o.n ≤ 1000000 by omega) (show o.n < NN by omega)]
  have es : w64 (w64 ((2 : Int) * w64 (d.Wide - (1 : Int))) + d.Wait) = stepS d.Wide d.Wait := by
    rw [w64_eq (n := d.Wide - 1) (by omega) (by omega), w64_eq (n := 2 * (d.Wide - 1)) (by omega) (by omega), w64_eq (by omega) (by omega)]; rfl
  -- the last part
  have tail : (bif stepS d.Wide d.Wait == (0 : Int) then some () else
        newellaw05_LiftCloses_l13 NN NN n (stepS d.Wide d.Wait) (0 : Int) d true (lst intC (0 : Nat) (zeroC [SV.int IntKind.i64 (0 : Int)])) (fun r1310 r1311 =>
         lift_Doors NN d r1311 (fun r1312 r1313 r1314 =>
         lift_Dwell NN d n (fun r1315 r1316 =>
         bif r1312 == (0 : Int) then
          bif r1316 == (0 : Int) then
           bif (↑(Arr.n r1314) : Int) == r1315 then some ()
           else okK (lget [SV.bool false] 0, [])
          else okK (lget [SV.bool false] 0, [])
         else okK (lget [SV.bool false] 0, []))))) = some () := by
    by_cases hz : stepS d.Wide d.Wait = 0
    · have : (stepS d.Wide d.Wait == (0 : Int)) = true := by simpa using hz
      simp only [this, cond_true]
    have hz' : (stepS d.Wide d.Wait == (0 : Int)) = false := by simpa using hz
    have hs1 : 1 ≤ stepS d.Wide d.Wait ∧ stepS d.Wide d.Wait ≤ 300 := by unfold stepS at hz ⊢; omega
    simp only [hz', cond_false]
    obtain ⟨m, rfl⟩ : ∃ m : Nat, n = m := ⟨n.toNat, by omega⟩
    obtain ⟨b', c, hc, hq⟩ := closes_l13 (N := NN) hv (m := m) (by omega) m 0 NN true (lst intC (0 : Nat) (zeroC [SV.int IntKind.i64 (0 : Int)])) (by omega) (by omega) Arr.Is.zero
    refine Eq.trans (hq _) ?_
    have hlen := hc.len
    obtain ⟨b1, a1, i1, q1⟩ := Doors_eq (show 10000 ≤ NN by decide) d c (by omega) (by omega)
    have hbp : brP c := by
      refine ⟨fun j _ hj => ?_, by omega⟩
      have hm := mul_range (a := (j : Int)) (A := 20) (by omega) (by omega) (show 0 ≤ stepS d.Wide d.Wait by omega) hs1.2
      rw [hc.get j (by omega)]
      cases j with
      | zero =>
        have e : pB c 0 = -1 := rfl
        unfold worstF at *
        omega
      | succ j =>
        have e : pB c (j + 1) = c.f j := rfl
        rw [e, hc.get j (by omega)]
        have := worst_up (W := d.Wide) (T := d.Wait) hs1.1 (show j < j + 1 by omega)
        unfold worstF at *
        omega
    have he := doorsE_zero.2 ⟨hv, hbp⟩
    have hN := dn_unique (doors_all hv hbp).1 (worst_dn w1 t1 hs1.1 hc)
    have hdw : dwellV d (m : Int) = (2 * d.Wide + d.Wait + (m : Int) * stepS d.Wide d.Wait, 0) := by
      unfold dwellV
      rw [if_pos hv, if_pos ⟨by omega, by omega⟩]
      have : stepS d.Wide d.Wait = 2 * d.Wide + d.Wait - 2 := by unfold stepS; omega
      rw [this]
      rfl
    have h0 : 0 ≤ (m : Int) * stepS d.Wide d.Wait := Int.mul_nonneg (by omega) (by omega)
    have hl : ((a1.n : Int) == 2 * d.Wide + d.Wait + (m : Int) * stepS d.Wide d.Wait) = true := by
      rw [i1.len, hN]
      simp
      omega
    simp only [q1, he, Dwell_eq, hdw, BEq.rfl, cond_true, hl]
  simp only [es, tail]
  by_cases hb : brP o
  · obtain ⟨b1, a1, i1, q1⟩ := Doors_eq (show 10000 ≤ NN by decide) d o (by omega) (by omega)
    have he := doorsE_zero.2 ⟨hv, hb⟩
    obtain ⟨h1, h2, h3⟩ := doors_all hv hb
    have hp := h1.pos
    have hdw : dwellV d (o.n : Int) = (dwellS d o.n, 0) := by
      unfold dwellV
      rw [if_pos hv, if_pos ⟨by omega, by omega⟩]
    have l1 := i1.len
    have e1 : ((doorsN d o : Int) == (0 : Int)) = false := by simp; omega
    have e2 : decide ((doorsN d o : Int) > dwellS d o.n) = false := by simp; omega
    have e3 : w64 ((doorsN d o : Int) - 1) = ((doorsN d o - 1 : Nat) : Int) := by rw [w64_eq (by omega) (by omega)]; omega
    have e4 : decide (((doorsN d o - 1 : Nat) : Int) < (doorsN d o : Int)) = true := by simp; omega
    have e5 : (a1.f (doorsN d o - 1) != 0) = false := by
      rw [i1.get _ (by omega)]
      have hz := h1.zero
      show ((dSt d.Wide d.Wait o (doorsN d o - 1 + 1)).1 != 0) = false
      rw [show doorsN d o - 1 + 1 = doorsN d o by omega, hz]
      rfl
    have e6 : ((0 : Int) != 0) = false := rfl
    simp only [hb, decide_true, cond_true, q1, he, Dwell_eq, hdw, e6, cond_false, l1, e1, e2, e3, nat_nonneg, e4, Bool.and_self, Int.toNat_natCast, e5]
  · simp only [hb, decide_false, cond_false]
end
end Go.Proofs.Ytceeaimmelaenaa
