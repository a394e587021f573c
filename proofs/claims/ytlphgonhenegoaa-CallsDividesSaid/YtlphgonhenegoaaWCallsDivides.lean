import Derived.Test.YtlphgonhenegoaaQ4
set_option maxRecDepth 100000
set_option maxHeartbeats 0
set_option linter.unusedSectionVars false
set_option linter.unusedVariables false
set_option linter.unusedSimpArgs false
namespace Go.Proofs.Ytlphgonhenegoaa
open Go.Sx
noncomputable section
def w7CallsDivides_L4 : LoopSp := ⟨⟨[0, 1, 5], ⟨((rSl api_CarC) :: (rInt .i64) :: (dr 3 ((rInt .i64) :: (dr 77 [])))), []⟩, 0⟩, [(Option.none, ⟨[4], ⟨(dr 4 ((rBool) :: (dr 78 []))), []⟩, 0⟩), (some 0, ⟨[0, 1], ⟨((rSl api_CarC) :: (rInt .i64) :: (dr 81 [])), []⟩, 0⟩)]⟩
theorem w7CallsDivides_L4_ok : w7CallsDivides_L4.Ok := ⟨⟨(allCons (rSl_ok api_CarC_ok) (allCons (rInt_ok .i64) (drCons 3 (allCons (rInt_ok .i64) (drCons 77 allNil))))), eNil⟩, (xCons ⟨(drCons 4 (allCons rBool_ok (drCons 78 allNil))), eNil⟩ (xCons ⟨(allCons (rSl_ok api_CarC_ok) (allCons (rInt_ok .i64) (drCons 81 allNil))), eNil⟩ xNil))⟩
def w7CallsDivides_h4 (v1077 : Arr api_Car) (v1078 : Int) (v1079 : Int) : St := ⟨((slC api_CarC v1077) :: (.int .i64 v1078) :: (un 3 ((.int .i64 v1079) :: (un 77 [])))), [], 0⟩
def w7CallsDivides_x4_r (q0 : Bool) : St := ⟨(un 4 ((.bool q0) :: (un 78 []))), [], 0⟩
def w7CallsDivides_x4_0 (v1077 : Arr api_Car) (v1078 : Int) : St := ⟨((slC api_CarC v1077) :: (.int .i64 v1078) :: (un 81 [])), [], 0⟩
def w7CallsDivides_b4 {R : Type} (N : Nat) (rc : Arr api_Car → Int → Int → Option R) (v1077 : Arr api_Car) (v1078 : Int) (v1079 : Int) (kr : Bool → Option R) (k0 : Unit → Option R) : Option R :=
  bif decide (v1079 < (↑(Arr.n v1077) : Int)) then
   bif decide ((0 : Int) ≤ v1079) && decide (v1079 < (↑(Arr.n v1077) : Int)) then
    r7CheckCar N (Arr.f v1077 (Int.toNat v1079)) (fun r1080 =>
    bif r1080 == (0 : Int) then
     bif decide ((0 : Int) ≤ v1079) && decide (v1079 < (↑(Arr.n v1077) : Int)) then
      bif decide ((0 : Int) ≤ v1079) && decide (v1079 < (↑(Arr.n v1077) : Int)) then
       bif decide (w64 (api_Car.Move (Arr.f v1077 (Int.toNat v1079)) + api_Car.Stop (Arr.f v1077 (Int.toNat v1079))) > (4 : Int)) then
        w7works N  (fun r1081 =>
        kr r1081)
       else
        rc v1077 v1078 (w64 (v1079 + (1 : Int)))
      else
       Option.none
     else
      Option.none
    else
     rc v1077 v1078 (w64 (v1079 + (1 : Int))))
   else
    Option.none
  else
   k0 ()
def w7CallsDivides_l4 {R : Type} (N : Nat) : Nat → Arr api_Car → Int → Int → (Bool → Option R) → (Unit → Option R) → Option R
  | 0, _, _, _, _, _ => Option.none
  | n + 1, v1077, v1078, v1079, kr, k0 => w7CallsDivides_b4 N (fun v1077 v1078 v1079 => w7CallsDivides_l4 N n v1077 v1078 v1079 kr k0) v1077 v1078 v1079 kr k0
def w7CallsDivides_m {R : Type} (N : Nat) (a1073 : Arr api_Car) (a1074 : Int) (k : Bool → Option R) : Option R :=
  bif decide ((↑(Arr.n a1073) : Int) > (5 : Int)) then
   w7works N  (fun r1075 =>
   k r1075)
  else
   bif decide (a1074 > (4 : Int)) then
    bif decide (a1074 ≤ (6 : Int)) then
     w7works N  (fun r1076 =>
     k r1076)
    else
     w7CallsDivides_l4 N N a1073 a1074 (0 : Int) (fun r1082 =>
      k r1082) (fun (_ : Unit) =>
      bif room ((0 : Nat) + Arr.n a1073) then
       calls_Divide N (lst api_CarC ((0 : Nat) + Arr.n a1073) (catC (0 : Nat) (litC [SV.int IntKind.i64 (0 : Int), SV.int IntKind.i64 (0 : Int), SV.int IntKind.i64 (0 : Int), SV.int IntKind.i64 (0 : Int), SV.int IntKind.i64 (0 : Int)] []) (Cod.cell api_CarC (Arr.f a1073)))) a1074 (fun r1083 r1084 r1085 r1086 =>
       r7Divide N a1073 a1074 (fun r1087 r1088 r1089 r1090 =>
       w7sameInts N r1086 r1090 (fun r1091 =>
       bif r1091 then
        bif r1083 == r1087 then
         bif r1084 == r1088 then
          w7works N  (fun r1092 =>
          k r1092)
         else
          k false
        else
         k false
       else
        k false)))
      else
       Option.none)
   else
    w7CallsDivides_l4 N N a1073 a1074 (0 : Int) (fun r1093 =>
     k r1093) (fun (_ : Unit) =>
     bif room ((0 : Nat) + Arr.n a1073) then
      calls_Divide N (lst api_CarC ((0 : Nat) + Arr.n a1073) (catC (0 : Nat) (litC [SV.int IntKind.i64 (0 : Int), SV.int IntKind.i64 (0 : Int), SV.int IntKind.i64 (0 : Int), SV.int IntKind.i64 (0 : Int), SV.int IntKind.i64 (0 : Int)] []) (Cod.cell api_CarC (Arr.f a1073)))) a1074 (fun r1094 r1095 r1096 r1097 =>
      r7Divide N a1073 a1074 (fun r1098 r1099 r1100 r1101 =>
      w7sameInts N r1097 r1101 (fun r1102 =>
      bif r1102 then
       bif r1094 == r1098 then
        bif r1095 == r1099 then
         w7works N  (fun r1103 =>
         k r1103)
        else
         k false
       else
        k false
      else
       k false)))
     else
      Option.none)
noncomputable def w7CallsDivides {R : Type} : Nat → Arr api_Car → Int → (Bool → Option R) → Option R := lock (@w7CallsDivides_m R)
theorem w7CallsDivides_def {R : Type} (N : Nat) (a1073 : Arr api_Car) (a1074 : Int) (k : Bool → Option R) : w7CallsDivides N a1073 a1074 k = w7CallsDivides_m N a1073 a1074 k := by unfold w7CallsDivides; rw [lock_eq]
def w7CallsDivides_sp : Sp := ⟨[rSl api_CarC, rInt .i64], []⟩
theorem w7CallsDivides_sp_ok : w7CallsDivides_sp.Ok := ⟨(allCons (rSl_ok api_CarC_ok) (allCons (rInt_ok .i64) allNil)), eNil⟩
def w7CallsDivides_rs : Sp := ⟨[rBool], []⟩
theorem w7CallsDivides_rs_ok : w7CallsDivides_rs.Ok := ⟨(allCons rBool_ok allNil), eNil⟩
def w7CallsDivides_run {R : Type} (N : Nat) (args : List SV) (T : Tab) (kf : SV × Tab → Option R) : Option R :=
  w7CallsDivides_m N (lstC api_CarC (lget args 0)) (toI (lget args 1)) (fun q0 => kf (lget [.bool q0] 0, []))
def w7CallsDivides_d4 {R : Type} (N : Nat) (S0 : St) (k : Exit → St → Option R) : Option R :=
  w7CallsDivides_l4 N N (lstC api_CarC (lget S0.tmps 0)) (toI (lget S0.tmps 1)) (toI (lget S0.tmps 5)) (fun q0 => k .ret (w7CallsDivides_x4_r q0)) (fun (_ : Unit) => k (.exit 0) (w7CallsDivides_x4_0 (lstC api_CarC (lget S0.tmps 0)) (toI (lget S0.tmps 1))))
def w7CallsDivides_lp {R : Type} (N : Nat) : Lp R := fun body S k => bif (Go.Sx.keyOf body).getD 0 == 4 then (w7CallsDivides_L4.head.raw 0 S (fun S0 => w7CallsDivides_d4 N S0 k)) else Option.none
theorem w7CallsDivides_l4_eq {R : Type} (N : Nat) (k : Exit → St → Option R) (n : Nat) : ∀ (v0 : Arr api_Car) (v1 : Int) (v2 : Int), loopM E.Θ (r7Divide_cal N) (w7CallsDivides_lp N) (noJn) 0 w7CallsDivides_L4 (bodyAt E 10 4) n (w7CallsDivides_h4 v0 v1 v2) k = w7CallsDivides_l4 N n v0 v1 v2 (fun q0 => k .ret (w7CallsDivides_x4_r q0)) (fun (_ : Unit) => k (.exit 0) (w7CallsDivides_x4_0 v0 v1)) := by
  induction n with
  | zero => intro v0 v1 v2; rfl
  | succ n ih =>
    intro v0 v1 v2
    refine Eq.trans (b := w7CallsDivides_b4 N (fun v0 v1 v2 => loopM E.Θ (r7Divide_cal N) (w7CallsDivides_lp N) (noJn) 0 w7CallsDivides_L4 (bodyAt E 10 4) n (w7CallsDivides_h4 v0 v1 v2) k) v0 v1 v2 (fun q0 => k .ret (w7CallsDivides_x4_r q0)) (fun (_ : Unit) => k (.exit 0) (w7CallsDivides_x4_0 v0 v1))) (by kernel_rfl) ?_
    have h : (fun (v0 : Arr api_Car) (v1 : Int) (v2 : Int) => loopM E.Θ (r7Divide_cal N) (w7CallsDivides_lp N) (noJn) 0 w7CallsDivides_L4 (bodyAt E 10 4) n (w7CallsDivides_h4 v0 v1 v2) k) = (fun (v0 : Arr api_Car) (v1 : Int) (v2 : Int) => w7CallsDivides_l4 N n v0 v1 v2 (fun q0 => k .ret (w7CallsDivides_x4_r q0)) (fun (_ : Unit) => k (.exit 0) (w7CallsDivides_x4_0 v0 v1))) := funext fun v0 => funext fun v1 => funext fun v2 => ih v0 v1 v2
    rw [h]
    rfl
theorem w7CallsDivides_k4 {R : Type} (N : Nat) : LpKey (R := R) E 10 0 (w7CallsDivides_lp N) 4 :=
  lpKey_of hE (r7Divide_cal_ok N) (lp := w7CallsDivides_lp N) (jn := noJn) w7CallsDivides_L4_ok [] kNil (by kernel_rfl) [] jNil (by kernel_rfl) N fun S k =>
    Eq.trans (b := w7CallsDivides_L4.head.raw 0 S (fun S0 => w7CallsDivides_d4 N S0 k)) (by kernel_rfl) (congrArg (w7CallsDivides_L4.head.raw 0 S) (funext fun S0 => Eq.trans (w7CallsDivides_l4_eq N k N (lstC api_CarC (lget S0.tmps 0)) (toI (lget S0.tmps 1)) (toI (lget S0.tmps 5))).symm (by kernel_rfl)))
noncomputable def w7CallsDivides_go {R : Type} (N : Nat) (args : List SV) (T : Tab) (kf : SV × Tab → Option R) : Option R :=
  w7CallsDivides N (lstC api_CarC (lget args 0)) (toI (lget args 1)) (fun q0 => kf (lget [.bool q0] 0, []))
noncomputable def w7CallsDivides_cal {R : Type} (N : Nat) : Cal R := callM (r7Divide_cal N) 10 0 w7CallsDivides_sp (w7CallsDivides_go N)
theorem w7CallsDivides_cal_ok {R : Type} (N : Nat) : CalOk E.P (w7CallsDivides_cal (R := R) N) :=
  callM_ok hE (r7Divide_cal_ok N) (lp := w7CallsDivides_lp N) (jn := noJn) (keys := [4]) (kCons (w7CallsDivides_k4 N) kNil) (by kernel_rfl) (js := []) jNil (by kernel_rfl) w7CallsDivides_sp_ok w7CallsDivides_rs_ok (fun args T kf => Eq.trans (w7CallsDivides_def N (lstC api_CarC (lget args 0)) (toI (lget args 1)) (fun q0 => kf (lget [.bool q0] 0, []))) (by kernel_rfl : w7CallsDivides_run N args T kf = fnM E (r7Divide_cal N) (w7CallsDivides_lp N) (noJn) 10 (w7CallsDivides_sp.vs args) (w7CallsDivides_sp.tab T) 0 (resK w7CallsDivides_rs kf)))
theorem lst_again {α : Type} {C : Cod α} (hC : ∀ x, C.dec (lget (C.enc x)) = x) (a : Arr α) (z : List SV) : lst C ((0 : Nat) + Arr.n a) (catC (0 : Nat) (litC z []) (Cod.cell C (Arr.f a))) = a := by
  obtain ⟨n, f⟩ := a
  unfold lst
  congr 1
  · exact Nat.zero_add n
  · funext i
    exact hC (f i)
theorem lw_l4 {N : Nat} (hN : 2000 < N) {g : Arr api_Car} (hgn : g.n ≤ 100) (fl : Int) {R : Type} (kr : Bool → Option R) (k0 : Unit → Option R) (z : Option R) (hr : kr true = z) : ∀ (q i n : Nat), i + q = g.n → q < n → (∀ j, j < i → VC (g.f j) → (g.f j).Move + (g.f j).Stop ≤ 4) →
    ((∀ j, j < g.n → VC (g.f j) → (g.f j).Move + (g.f j).Stop ≤ 4) → k0 () = z) → w7CallsDivides_l4 N n g fl (i : Int) kr k0 = z := by
  intro q
  induction q with
  | zero =>
    intro i n h1 h2 h3 h4
    obtain ⟨n, rfl⟩ : ∃ m, n = m + 1 := ⟨n - 1, by omega⟩
    unfold w7CallsDivides_l4 w7CallsDivides_b4
    rw [ltF (show g.n ≤ i by omega), cond_false]
    exact h4 fun j hj => h3 j (by omega)
  | succ q ih =>
    intro i n h1 h2 h3 h4
    obtain ⟨n, rfl⟩ : ∃ m, n = m + 1 := ⟨n - 1, by omega⟩
    have hi : i < g.n := by omega
    unfold w7CallsDivides_l4 w7CallsDivides_b4
    rw [ltT hi, cond_true, nat_nonneg, Bool.and_self, cond_true, Int.toNat_natCast, refCar]
    have next : ((VC (g.f i) → (g.f i).Move + (g.f i).Stop ≤ 4)) → w7CallsDivides_l4 N n g fl (w64 ((i : Int) + 1)) kr k0 = z := fun h => by
      rw [w64_succ (show i < 1000000000000 by omega)]
      exact ih (i + 1) n (by omega) (by omega) (fun j hj => by
        by_cases e : j = i
        · subst e; exact h
        · exact h3 j (by omega)) h4
    by_cases hv : VC (g.f i)
    rotate_left
    · rw [if_neg hv, show ((70 : Int) == 0) = false from rfl, cond_false]
      exact next fun h => absurd h hv
    rw [if_pos hv, BEq.rfl, cond_true, cond_true, cond_true]
    obtain ⟨c, hc, e⟩ := hv.cn
    have a1 := hc.m1
    have a2 := hc.m3
    have a3 := hc.s1
    have a4 := hc.s4
    have em : (g.f i).Move = (c.M : Int) := by rw [e]; rfl
    have es : (g.f i).Stop = (c.S : Int) := by rw [e]; rfl
    have hw : w64 ((g.f i).Move + (g.f i).Stop) = (g.f i).Move + (g.f i).Stop := w64_eq (by omega) (by omega)
    rw [hw]
    by_cases h5 : (g.f i).Move + (g.f i).Stop > 4
    · rw [decide_eq_true h5, cond_true]
      exact (works_eq hN _).trans hr
    · rw [decide_eq_false h5, cond_false]
      exact next fun _ => by omega
theorem divides_body {N : Nat} (hN : 70000 < N) (g : Arr api_Car) (hg : g.n ≤ 5) (fl : Int) (hfl : fl ≤ 4 ∨ 6 < fl) (hq : ∀ i, i < g.n → VC (g.f i) → (g.f i).Move + (g.f i).Stop ≤ 4) {R : Type} (k : Bool → Option R) :
    calls_Divide N g fl (fun r1083 r1084 r1085 r1086 =>
       r7Divide N g fl (fun r1087 r1088 r1089 r1090 =>
       w7sameInts N r1086 r1090 (fun r1091 =>
       bif r1091 then
        bif r1083 == r1087 then
         bif r1084 == r1088 then
          w7works N  (fun r1092 =>
          k r1092)
         else
          k false
        else
         k false
       else
        k false))) = k true := by
  obtain ⟨m, e, b, b', x, x', s1, s2, s3, s4, s5⟩ := divide_same hN (show g.n ≤ 100 by omega) hq hfl
  rw [s4, s5, same_eq (by omega) s1 (by omega) s3, cond_true, BEq.rfl, cond_true, BEq.rfl, cond_true]
  exact works_eq (by omega) _
theorem callsDivides_true (g : Arr api_Car) (fl : Int) (hg : g.n ≤ maxLen) (hg2 : ∀ i, i < g.n → (g.f i).wf) (hf : i64 fl) : ∃ N, w7CallsDivides N g fl (fun q0 => okK (lget [.bool q0] 0, [])) = some () := by
  refine ⟨80000, ?_⟩
  rw [w7CallsDivides_def]
  unfold w7CallsDivides_m
  have wk : w7works 80000 (fun r => okK (lget [.bool r] 0, [])) = some () := works_eq (by decide) _
  by_cases h0 : (g.n : Int) > 5
  · rw [decide_eq_true h0, cond_true]
    exact wk
  rw [decide_eq_false h0, cond_false]
  have e1 := room_of (show (0 : Nat) + g.n ≤ 1073741824 by omega)
  have e3 := lst_again (C := api_CarC) (fun _ => rfl) g
  simp only [e1, cond_true, e3]
  by_cases h1 : fl > 4
  · rw [decide_eq_true h1, cond_true]
    by_cases h2 : fl ≤ 6
    · rw [decide_eq_true h2, cond_true]
      exact wk
    rw [decide_eq_false h2, cond_false]
    exact lw_l4 (by decide) (show g.n ≤ 100 by omega) fl _ _ (some ()) rfl g.n 0 80000 (by omega) (by omega) (fun j hj => by omega) fun hq => divides_body (by decide) g (by omega) fl (by omega) hq (fun r => okK (lget [.bool r] 0, []))
  · rw [decide_eq_false h1, cond_false]
    exact lw_l4 (by decide) (show g.n ≤ 100 by omega) fl _ _ (some ()) rfl g.n 0 80000 (by omega) (by omega) (fun j hj => by omega) fun hq => divides_body (by decide) g (by omega) fl (by omega) hq (fun r => okK (lget [.bool r] 0, []))
end
end Go.Proofs.Ytlphgonhenegoaa
