import Derived.Test.YtlphgonhenegoaaPH
set_option maxRecDepth 100000
set_option maxHeartbeats 0
set_option linter.unusedSectionVars false
set_option linter.unusedVariables false
set_option linter.unusedSimpArgs false
namespace Go.Proofs.Ytlphgonhenegoaa
open Go.Sx
noncomputable section
def newellaw07_CallsProves_L12 : LoopSp := ⟨⟨[1, 5, 7, 9, 10, 11, 12], ⟨(dr 1 ((rInt .i64) :: (dr 3 ((rRow 0) :: (dr 1 ((rInt .i64) :: (dr 1 ((rRow 1) :: (rInt .i64) :: (rBool) :: (rInt .i64) :: (dr 64 []))))))))), [(0, eRow api_PressC), (1, eRow intC)]⟩, 2⟩, [(some 0, ⟨[10, 11], ⟨(dr 10 ((rInt .i64) :: (rBool) :: (dr 65 []))), []⟩, 0⟩)]⟩
theorem newellaw07_CallsProves_L12_ok : newellaw07_CallsProves_L12.Ok := ⟨⟨(drCons 1 (allCons (rInt_ok .i64) (drCons 3 (allCons (rRow_ok 0) (drCons 1 (allCons (rInt_ok .i64) (drCons 1 (allCons (rRow_ok 1) (allCons (rInt_ok .i64) (allCons rBool_ok (allCons (rInt_ok .i64) (drCons 64 allNil)))))))))))), (eCons (eRow_ok api_PressC_ok) (eCons (eRow_ok intC_ok) eNil))⟩, (xCons ⟨(drCons 10 (allCons (rInt_ok .i64) (allCons rBool_ok (drCons 65 allNil)))), eNil⟩ xNil)⟩
def newellaw07_CallsProves_h12 (v823 : Int) (v824 : Int) (v825 : Int) (v826 : Bool) (v827 : Int) (v828 : Bool) (v829 : Arr api_Press) (v830 : Bool) (v831 : Arr Int) : St := ⟨(un 1 ((.int .i64 v823) :: (un 3 ((.row 0) :: (un 1 ((.int .i64 v824) :: (un 1 ((.row 1) :: (.int .i64 v825) :: (.bool v826) :: (.int .i64 v827) :: (un 64 []))))))))), [(0, rowE api_PressC v828 v829), (1, rowE intC v830 v831)], 2⟩
def newellaw07_CallsProves_x12_0 (v825 : Int) (q1 : Bool) : St := ⟨(un 10 ((.int .i64 v825) :: (.bool q1) :: (un 65 []))), [], 0⟩
def newellaw07_CallsProves_b12 {R : Type} (N : Nat) (rc : Int → Int → Int → Bool → Int → Bool → Arr api_Press → Bool → Arr Int → Option R) (v823 : Int) (v824 : Int) (v825 : Int) (v826 : Bool) (v827 : Int) (v828 : Bool) (v829 : Arr api_Press) (v830 : Bool) (v831 : Arr Int) (k0 : Bool → Option R) : Option R :=
  bif decide (v827 < (↑(Arr.n v831) : Int)) then
   bif v826 then
    rc v823 v824 v825 true (w64 (v827 + (1 : Int))) v828 v829 v830 v831
   else
    bif decide ((0 : Int) ≤ v827) && decide (v827 < (↑(Arr.n v829) : Int)) then
     bif api_Press.Floor (Arr.f v829 (Int.toNat v827)) == v823 then
      bif decide ((0 : Int) ≤ v827) && decide (v827 < (↑(Arr.n v831) : Int)) then
       rc v823 v824 v825 (Arr.f v831 (Int.toNat v827) == v824) (w64 (v827 + (1 : Int))) v828 v829 v830 v831
      else
       Option.none
     else
      rc v823 v824 v825 false (w64 (v827 + (1 : Int))) v828 v829 v830 v831
    else
     Option.none
  else
   k0 v826
def newellaw07_CallsProves_l12 {R : Type} (N : Nat) : Nat → Int → Int → Int → Bool → Int → Bool → Arr api_Press → Bool → Arr Int → (Bool → Option R) → Option R
  | 0, _, _, _, _, _, _, _, _, _, _ => Option.none
  | n + 1, v823, v824, v825, v826, v827, v828, v829, v830, v831, k0 => newellaw07_CallsProves_b12 N (fun v823 v824 v825 v826 v827 v828 v829 v830 v831 => newellaw07_CallsProves_l12 N n v823 v824 v825 v826 v827 v828 v829 v830 v831 k0) v823 v824 v825 v826 v827 v828 v829 v830 v831 k0
def newellaw07_CallsProves_m {R : Type} (N : Nat) (a810 : api_Car) (a811 : Int) (k : Bool → Option R) : Option R :=
  newellaw07_Tall N a810 (fun r812 =>
  bif r812 then
   newellaw07_works N  (fun r813 =>
   k r813)
  else
   calls_Witness N a810 a811 (fun r814 r815 r816 =>
   newelref07_Worst N a810 a811 (fun r817 r818 =>
   bif r814 != r818 then
    k false
   else
    bif r814 != (0 : Int) then
     bif (↑(Arr.n r816) : Int) == (0 : Int) then
      newellaw07_works N  (fun r819 =>
      k r819)
     else
      k false
    else
     newelref07_Waits N a810 r816 (fun r820 r821 r822 =>
     newellaw07_CallsProves_l12 N N a811 r817 r820 false (0 : Int) r815 r816 r821 r822 (fun r832 =>
      bif r820 == (0 : Int) then
       bif r832 then
        newellaw07_works N  (fun r833 =>
        k r833)
       else
        k false
      else
       k false)))))
noncomputable def newellaw07_CallsProves {R : Type} : Nat → api_Car → Int → (Bool → Option R) → Option R := lock (@newellaw07_CallsProves_m R)
theorem newellaw07_CallsProves_def {R : Type} (N : Nat) (a810 : api_Car) (a811 : Int) (k : Bool → Option R) : newellaw07_CallsProves N a810 a811 k = newellaw07_CallsProves_m N a810 a811 k := by unfold newellaw07_CallsProves; rw [lock_eq]
def newellaw07_CallsProves_sp : Sp := ⟨[rAgg api_CarC, rInt .i64], []⟩
theorem newellaw07_CallsProves_sp_ok : newellaw07_CallsProves_sp.Ok := ⟨(allCons (rAgg_ok api_CarC_ok api_CarC_len) (allCons (rInt_ok .i64) allNil)), eNil⟩
def newellaw07_CallsProves_rs : Sp := ⟨[rBool], []⟩
theorem newellaw07_CallsProves_rs_ok : newellaw07_CallsProves_rs.Ok := ⟨(allCons rBool_ok allNil), eNil⟩
def newellaw07_CallsProves_run {R : Type} (N : Nat) (args : List SV) (T : Tab) (kf : SV × Tab → Option R) : Option R :=
  newellaw07_CallsProves_m N (Cod.dec api_CarC (lget (toCs (lget args 0)))) (toI (lget args 1)) (fun q0 => kf (lget [.bool q0] 0, []))
def newellaw07_CallsProves_d12 {R : Type} (N : Nat) (S0 : St) (k : Exit → St → Option R) : Option R :=
  newellaw07_CallsProves_l12 N N (toI (lget S0.tmps 1)) (toI (lget S0.tmps 7)) (toI (lget S0.tmps 10)) (toB (lget S0.tmps 11)) (toI (lget S0.tmps 12)) (entNl (entAt S0.tab 0)) (lst api_PressC (entN (entAt S0.tab 0)) (entC (entAt S0.tab 0))) (entNl (entAt S0.tab 1)) (lst intC (entN (entAt S0.tab 1)) (entC (entAt S0.tab 1))) (fun q1 => k (.exit 0) (newellaw07_CallsProves_x12_0 (toI (lget S0.tmps 10)) q1))
def newellaw07_CallsProves_lp {R : Type} (N : Nat) : Lp R := fun body S k => bif (Go.Sx.keyOf body).getD 0 == 12 then (newellaw07_CallsProves_L12.head.raw 0 S (fun S0 => newellaw07_CallsProves_d12 N S0 k)) else Option.none
theorem newellaw07_CallsProves_l12_eq {R : Type} (N : Nat) (k : Exit → St → Option R) (n : Nat) : ∀ (v0 : Int) (v1 : Int) (v2 : Int) (v3 : Bool) (v4 : Int) (v5 : Bool) (v6 : Arr api_Press) (v7 : Bool) (v8 : Arr Int), loopM E.Θ (calls_waits_v2_cal N) (newellaw07_CallsProves_lp N) (noJn) 0 newellaw07_CallsProves_L12 (bodyAt E 6 12) n (newellaw07_CallsProves_h12 v0 v1 v2 v3 v4 v5 v6 v7 v8) k = newellaw07_CallsProves_l12 N n v0 v1 v2 v3 v4 v5 v6 v7 v8 (fun q1 => k (.exit 0) (newellaw07_CallsProves_x12_0 v2 q1)) := by
  induction n with
  | zero => intro v0 v1 v2 v3 v4 v5 v6 v7 v8; rfl
  | succ n ih =>
    intro v0 v1 v2 v3 v4 v5 v6 v7 v8
    refine Eq.trans (b := newellaw07_CallsProves_b12 N (fun v0 v1 v2 v3 v4 v5 v6 v7 v8 => loopM E.Θ (calls_waits_v2_cal N) (newellaw07_CallsProves_lp N) (noJn) 0 newellaw07_CallsProves_L12 (bodyAt E 6 12) n (newellaw07_CallsProves_h12 v0 v1 v2 v3 v4 v5 v6 v7 v8) k) v0 v1 v2 v3 v4 v5 v6 v7 v8 (fun q1 => k (.exit 0) (newellaw07_CallsProves_x12_0 v2 q1))) (by kernel_rfl) ?_
    have h : (fun (v0 : Int) (v1 : Int) (v2 : Int) (v3 : Bool) (v4 : Int) (v5 : Bool) (v6 : Arr api_Press) (v7 : Bool) (v8 : Arr Int) => loopM E.Θ (calls_waits_v2_cal N) (newellaw07_CallsProves_lp N) (noJn) 0 newellaw07_CallsProves_L12 (bodyAt E 6 12) n (newellaw07_CallsProves_h12 v0 v1 v2 v3 v4 v5 v6 v7 v8) k) = (fun (v0 : Int) (v1 : Int) (v2 : Int) (v3 : Bool) (v4 : Int) (v5 : Bool) (v6 : Arr api_Press) (v7 : Bool) (v8 : Arr Int) => newellaw07_CallsProves_l12 N n v0 v1 v2 v3 v4 v5 v6 v7 v8 (fun q1 => k (.exit 0) (newellaw07_CallsProves_x12_0 v2 q1))) := funext fun v0 => funext fun v1 => funext fun v2 => funext fun v3 => funext fun v4 => funext fun v5 => funext fun v6 => funext fun v7 => funext fun v8 => ih v0 v1 v2 v3 v4 v5 v6 v7 v8
    rw [h]
    rfl
theorem newellaw07_CallsProves_k12 {R : Type} (N : Nat) : LpKey (R := R) E 6 0 (newellaw07_CallsProves_lp N) 12 :=
  lpKey_of hE (calls_waits_v2_cal_ok N) (lp := newellaw07_CallsProves_lp N) (jn := noJn) newellaw07_CallsProves_L12_ok [] kNil (by kernel_rfl) [] jNil (by kernel_rfl) N fun S k =>
    Eq.trans (b := newellaw07_CallsProves_L12.head.raw 0 S (fun S0 => newellaw07_CallsProves_d12 N S0 k)) (by kernel_rfl) (congrArg (newellaw07_CallsProves_L12.head.raw 0 S) (funext fun S0 => Eq.trans (newellaw07_CallsProves_l12_eq N k N (toI (lget S0.tmps 1)) (toI (lget S0.tmps 7)) (toI (lget S0.tmps 10)) (toB (lget S0.tmps 11)) (toI (lget S0.tmps 12)) (entNl (entAt S0.tab 0)) (lst api_PressC (entN (entAt S0.tab 0)) (entC (entAt S0.tab 0))) (entNl (entAt S0.tab 1)) (lst intC (entN (entAt S0.tab 1)) (entC (entAt S0.tab 1)))).symm (by kernel_rfl)))
noncomputable def newellaw07_CallsProves_go {R : Type} (N : Nat) (args : List SV) (T : Tab) (kf : SV × Tab → Option R) : Option R :=
  newellaw07_CallsProves N (Cod.dec api_CarC (lget (toCs (lget args 0)))) (toI (lget args 1)) (fun q0 => kf (lget [.bool q0] 0, []))
noncomputable def newellaw07_CallsProves_cal {R : Type} (N : Nat) : Cal R := callM (calls_waits_v2_cal N) 6 0 newellaw07_CallsProves_sp (newellaw07_CallsProves_go N)
theorem newellaw07_CallsProves_cal_ok {R : Type} (N : Nat) : CalOk E.P (newellaw07_CallsProves_cal (R := R) N) :=
  callM_ok hE (calls_waits_v2_cal_ok N) (lp := newellaw07_CallsProves_lp N) (jn := noJn) (keys := [12]) (kCons (newellaw07_CallsProves_k12 N) kNil) (by kernel_rfl) (js := []) jNil (by kernel_rfl) newellaw07_CallsProves_sp_ok newellaw07_CallsProves_rs_ok (fun args T kf => Eq.trans (newellaw07_CallsProves_def N (Cod.dec api_CarC (lget (toCs (lget args 0)))) (toI (lget args 1)) (fun q0 => kf (lget [.bool q0] 0, []))) (by kernel_rfl : newellaw07_CallsProves_run N args T kf = fnM E (calls_waits_v2_cal N) (newellaw07_CallsProves_lp N) (noJn) 6 (newellaw07_CallsProves_sp.vs args) (newellaw07_CallsProves_sp.tab T) 0 (resK newellaw07_CallsProves_rs kf)))
theorem proves_l12 (N : Nat) {c : Cn} (hc : c.Ok) {f : Nat} {l : Arr api_Press} (hl : VL c l) (b1 b2 : Bool) {w : Arr Int} (hw : WE c l allP w) {j : Nat} (hj : j < l.n) (hjf : (l.f j).Floor = (f : Int)) (hjw : wt c l allP j = worstN c f) (e : Int) {R : Type} (k : Bool → Option R) : ∀ (q i n : Nat) (b : Bool), i + q = l.n → q < n → (j < i → b = true) →
    newellaw07_CallsProves_l12 N n (f : Int) ((worstN c f : Nat) : Int) e b (i : Int) b1 l b2 w k = k true := by
  have h5 := hc.h5
  have hln := hl.n
  intro q
  induction q with
  | zero =>
    intro i n b h1 h2 h3
    obtain ⟨n, rfl⟩ : ∃ m, n = m + 1 := ⟨n - 1, by omega⟩
    unfold newellaw07_CallsProves_l12 newellaw07_CallsProves_b12
    rw [hw.n, ltF (show l.n ≤ i by omega), cond_false, h3 (by omega)]
  | succ q ih =>
    intro i n b h1 h2 h3
    obtain ⟨n, rfl⟩ : ∃ m, n = m + 1 := ⟨n - 1, by omega⟩
    have hi : i < l.n := by omega
    have e0 : decide ((i : Int) < (l.n : Int)) = true := ltT hi
    have e1 : decide ((i : Int) < (w.n : Int)) = true := by rw [hw.n]; exact e0
    unfold newellaw07_CallsProves_l12 newellaw07_CallsProves_b12
    rw [e1, cond_true, e0, nat_nonneg, Bool.true_and, cond_true, cond_true, w64_succ (show i < 1000000000000 by omega)]
    cases b with
    | true =>
      rw [cond_true]
      exact ih (i + 1) n true (by omega) (by omega) (fun _ => rfl)
    | false =>
      rw [cond_false]
      have hij : i ≤ j := by
        refine Classical.byContradiction fun hn => ?_
        have := h3 (by omega)
        cases this
      by_cases hgi : api_Press.Floor (Arr.f l (Int.toNat (i : Int))) = (f : Int)
      · rw [hgi, BEq.rfl, cond_true]
        refine ih (i + 1) n _ (by omega) (by omega) fun hlt => ?_
        have : j = i := by omega
        subst this
        rw [Int.toNat_natCast, hw.f j hj]
        show ((wt c l allP j : Int) == _) = true
        rw [hjw, BEq.rfl]
      · have e4 : (api_Press.Floor (Arr.f l (Int.toNat (i : Int))) == (f : Int)) = false := by simpa using hgi
        rw [e4, cond_false]
        refine ih (i + 1) n false (by omega) (by omega) fun hlt => ?_
        have : j = i := by omega
        subst this
        exact absurd hjf hgi
theorem callsProves_true (c : api_Car) (fl : Int) (hc : c.wf) (hf : i64 fl) : ∃ N, newellaw07_CallsProves N c fl (fun q0 => okK (lget [.bool q0] 0, [])) = some () := by
  refine ⟨80000, ?_⟩
  have hN : 70000 < 80000 := by decide
  have wk : newellaw07_works 80000 (fun r => okK (lget [.bool r] 0, [])) = some () := works_eq (by decide) _
  have z0 : ((0 : Int) != 0) = false := rfl
  rw [newellaw07_CallsProves_def]
  unfold newellaw07_CallsProves_m
  have bad : ∀ h : servesE c fl ≠ 0, (bif (false : Bool) then newellaw07_works 80000 (fun r813 => okK (lget [.bool r813] 0, [])) else calls_Witness 80000 c fl (fun r814 r815 r816 =>
   newelref07_Worst 80000 c fl (fun r817 r818 =>
   bif r814 != r818 then okK (lget [.bool false] 0, []) else
    bif r814 != (0 : Int) then
     bif (↑(Arr.n r816) : Int) == (0 : Int) then newellaw07_works 80000 (fun r819 => okK (lget [.bool r819] 0, [])) else okK (lget [.bool false] 0, [])
    else
     newelref07_Waits 80000 c r816 (fun r820 r821 r822 =>
     newellaw07_CallsProves_l12 80000 80000 fl r817 r820 false (0 : Int) r815 r816 r821 r822 (fun r832 =>
      bif r820 == (0 : Int) then bif r832 then newellaw07_works 80000 (fun r833 => okK (lget [.bool r833] 0, [])) else okK (lget [.bool false] 0, []) else okK (lget [.bool false] 0, [])))))) = some () := fun h => by
    obtain ⟨l, h1, h2⟩ := witness_err 80000 h
    rw [cond_false]
    refine (h2 _).trans ?_
    have e0 : (servesE c fl != 0) = true := by simpa using h
    rw [refWorst_err _ h, bne_self_eq_false, cond_false, e0, cond_true, h1]
    exact wk
  by_cases hv : VC c
  · obtain ⟨n, hn, rfl⟩ := hv.cn
    rw [tall_eq 80000 hn]
    by_cases hs : Sm n
    · rw [decide_eq_true hs, Bool.not_true]
      by_cases h0 : servesE n.car fl = 0
      · obtain ⟨n', f, hn', hcn', rfl, h1, h2⟩ := servesE_zero h0
        have : n = n' := by
          unfold Cn.car at hcn'
          obtain ⟨a1, a2, a3, a4, a5⟩ := n
          obtain ⟨b1, b2, b3, b4, b5⟩ := n'
          simp only [api_Car.mk.injEq] at hcn'
          obtain ⟨k1, k2, k3, k4, k5⟩ := hcn'
          congr 1 <;> omega
        subst this
        rw [cond_false]
        obtain ⟨b, p, p1, p2⟩ := witness_eq (show 2000 < 80000 by decide) hn ⟨h1, h2⟩
        obtain ⟨w1, w2, w3, w4⟩ := wit_ok hn hs ⟨h1, h2⟩ p1
        refine (p2 _).trans ?_
        rw [refWorst_eq hN hn hs ⟨h1, h2⟩, z0, cond_false, cond_false]
        obtain ⟨b', w, o1, o2⟩ := refWaits_eq (show 2000 < 80000 by decide) hn w1
        have hpn := w1.n
        refine (o2 _).trans ?_
        refine (proves_l12 80000 hn w1 b b' o1 w2 w3 w4 0 _ p.n 0 80000 false (by omega) (by omega) (fun h => by omega)).trans ?_
        exact wk
      · exact bad h0
    · rw [decide_eq_false hs, Bool.not_false, cond_true]
      exact wk
  · rw [tall_no 80000 hv]
    refine bad ?_
    unfold servesE
    rw [if_neg hv]
    decide
end
end Go.Proofs.Ytlphgonhenegoaa
