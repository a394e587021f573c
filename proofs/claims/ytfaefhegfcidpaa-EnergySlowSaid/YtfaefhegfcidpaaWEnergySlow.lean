/-
  The model of the statement EnergySlow, that it is what the code does (written by a program), and that it answers true.
-/
import Derived.Test.YtfaefhegfcidpaaP5
set_option maxRecDepth 100000
set_option maxHeartbeats 0
set_option linter.unusedVariables false
set_option linter.unusedSimpArgs false
namespace Go.Proofs.Ytfaefhegfcidpaa
open Go.Sx
noncomputable section

def newellaw11_EnergySlow_L7 : LoopSp := ⟨⟨[1, 2, 5, 6, 7], ⟨(dr 1 ((rInt .i64) :: (rPtr 0 0) :: (dr 2 ((rInt .i64) :: (rInt .i64) :: (rInt .i64) :: (dr 99 []))))), [(0, eBlkC api_BandC)]⟩, 1⟩, [(Option.none, ⟨[4], ⟨(dr 4 ((rBool) :: (dr 102 []))), []⟩, 0⟩), (some 0, ⟨[], ⟨(dr 107 []), []⟩, 0⟩)]⟩
theorem newellaw11_EnergySlow_L7_ok : newellaw11_EnergySlow_L7.Ok := ⟨⟨(drCons 1 (allCons (rInt_ok .i64) (allCons (rPtr_ok 0 0) (drCons 2 (allCons (rInt_ok .i64) (allCons (rInt_ok .i64) (allCons (rInt_ok .i64) (drCons 99 allNil)))))))), (eCons (eBlkC_ok api_BandC_ok api_BandC_len) eNil)⟩, (xCons ⟨(drCons 4 (allCons rBool_ok (drCons 102 allNil))), eNil⟩ (xCons ⟨(drCons 107 allNil), eNil⟩ xNil))⟩
def newellaw11_EnergySlow_h7 (v711 : Int) (v712 : Int) (v713 : Int) (v714 : Int) (v715 : api_Band) : St := ⟨(un 1 ((.int .i64 v711) :: (.ptr 0 0) :: (un 2 ((.int .i64 v712) :: (.int .i64 v713) :: (.int .i64 v714) :: (un 99 []))))), [(0, .blk (Cod.enc api_BandC v715))], 1⟩
def newellaw11_EnergySlow_x7_r (q0 : Bool) : St := ⟨(un 4 ((.bool q0) :: (un 102 []))), [], 0⟩
def newellaw11_EnergySlow_x7_0  : St := ⟨(un 107 []), [], 0⟩
def newellaw11_EnergySlow_b7 {R : Type} (N : Nat) (rc : Int → Int → Int → Int → api_Band → Option R) (v711 : Int) (v712 : Int) (v713 : Int) (v714 : Int) (v715 : api_Band) (kr : Bool → Option R) (k0 : Unit → Option R) : Option R :=
  bif decide (v714 < (↑(Arr.n (api_Band.Paces v715)) : Int)) then
   bif decide ((0 : Int) ≤ v714) && decide (v714 < (↑(Arr.n (api_Band.Paces v715)) : Int)) then
    energy_Load N v715 v711 (Arr.f (api_Band.Paces v715) (Int.toNat v714)) (fun r716 r717 =>
    bif r717 != (0 : Int) then
     kr false
    else
     bif decide (r716 ≤ api_Band.Most v715) then
      bif v713 != (0 : Int) then
       kr false
      else
       bif decide ((0 : Int) ≤ v714) && decide (v714 < (↑(Arr.n (api_Band.Paces v715)) : Int)) then
        bif decide (Arr.f (api_Band.Paces v715) (Int.toNat v714) < v712) then
         kr false
        else
         bif decide (r716 > api_Band.Most v715) then
          bif v713 == (0 : Int) then
           bif decide ((0 : Int) ≤ v714) && decide (v714 < (↑(Arr.n (api_Band.Paces v715)) : Int)) then
            bif Arr.f (api_Band.Paces v715) (Int.toNat v714) == v712 then
             kr false
            else
             rc v711 v712 v713 (w64 (v714 + (1 : Int))) v715
           else
            Option.none
          else
           rc v711 v712 v713 (w64 (v714 + (1 : Int))) v715
         else
          rc v711 v712 v713 (w64 (v714 + (1 : Int))) v715
       else
        Option.none
     else
      bif decide (r716 > api_Band.Most v715) then
       bif v713 == (0 : Int) then
        bif decide ((0 : Int) ≤ v714) && decide (v714 < (↑(Arr.n (api_Band.Paces v715)) : Int)) then
         bif Arr.f (api_Band.Paces v715) (Int.toNat v714) == v712 then
          kr false
         else
          rc v711 v712 v713 (w64 (v714 + (1 : Int))) v715
        else
         Option.none
       else
        rc v711 v712 v713 (w64 (v714 + (1 : Int))) v715
      else
       rc v711 v712 v713 (w64 (v714 + (1 : Int))) v715)
   else
    Option.none
  else
   k0 ()
def newellaw11_EnergySlow_l7 {R : Type} (N : Nat) : Nat → Int → Int → Int → Int → api_Band → (Bool → Option R) → (Unit → Option R) → Option R
  | 0, _, _, _, _, _, _, _ => Option.none
  | n + 1, v711, v712, v713, v714, v715, kr, k0 => newellaw11_EnergySlow_b7 N (fun v711 v712 v713 v714 v715 => newellaw11_EnergySlow_l7 N n v711 v712 v713 v714 v715 kr k0) v711 v712 v713 v714 v715 kr k0


def newellaw11_EnergySlow_m {R : Type} (N : Nat) (a700 : api_Band) (a701 : Int) (k : Bool → Option R) : Option R :=
  newellaw11_Far N a700 (fun r702 =>
  bif r702 then
   newellaw11_works N  (fun r703 =>
   k r703)
  else
   newelref11_Check N a700 (fun r704 =>
   bif r704 != (0 : Int) then
    newellaw11_works N  (fun r705 =>
    k r705)
   else
    bif decide (a701 < (0 : Int)) then
     newellaw11_works N  (fun r706 =>
     k r706)
    else
     bif decide (a701 > (100 : Int)) then
      newellaw11_works N  (fun r707 =>
      k r707)
     else
      energy_Slow N a700 a701 (fun r708 r709 =>
      bif r709 != (0 : Int) then
       bif r709 != (3 : Int) then
        k false
       else
        bif r709 == (0 : Int) then
         newelref11_Pace N a700 r708 (fun r710 =>
         bif !r710 then
          k false
         else
          newellaw11_EnergySlow_l7 N N a701 r708 r709 (0 : Int) a700 (fun r718 =>
           k r718) (fun (_ : Unit) =>
           newellaw11_works N  (fun r719 =>
           k r719)))
        else
         newellaw11_EnergySlow_l7 N N a701 r708 r709 (0 : Int) a700 (fun r720 =>
          k r720) (fun (_ : Unit) =>
          newellaw11_works N  (fun r721 =>
          k r721))
      else
       bif r709 == (0 : Int) then
        newelref11_Pace N a700 r708 (fun r722 =>
        bif !r722 then
         k false
        else
         newellaw11_EnergySlow_l7 N N a701 r708 r709 (0 : Int) a700 (fun r723 =>
          k r723) (fun (_ : Unit) =>
          newellaw11_works N  (fun r724 =>
          k r724)))
       else
        newellaw11_EnergySlow_l7 N N a701 r708 r709 (0 : Int) a700 (fun r725 =>
         k r725) (fun (_ : Unit) =>
         newellaw11_works N  (fun r726 =>
         k r726)))))
noncomputable def newellaw11_EnergySlow {R : Type} : Nat → api_Band → Int → (Bool → Option R) → Option R := lock (@newellaw11_EnergySlow_m R)
theorem newellaw11_EnergySlow_def {R : Type} (N : Nat) (a700 : api_Band) (a701 : Int) (k : Bool → Option R) : newellaw11_EnergySlow N a700 a701 k = newellaw11_EnergySlow_m N a700 a701 k := by unfold newellaw11_EnergySlow; rw [lock_eq]
def newellaw11_EnergySlow_sp : Sp := ⟨[rAgg api_BandC, rInt .i64], []⟩
theorem newellaw11_EnergySlow_sp_ok : newellaw11_EnergySlow_sp.Ok := ⟨(allCons (rAgg_ok api_BandC_ok api_BandC_len) (allCons (rInt_ok .i64) allNil)), eNil⟩
def newellaw11_EnergySlow_rs : Sp := ⟨[rBool], []⟩
theorem newellaw11_EnergySlow_rs_ok : newellaw11_EnergySlow_rs.Ok := ⟨(allCons rBool_ok allNil), eNil⟩
def newellaw11_EnergySlow_run {R : Type} (N : Nat) (args : List SV) (T : Tab) (kf : SV × Tab → Option R) : Option R :=
  newellaw11_EnergySlow_m N (Cod.dec api_BandC (lget (toCs (lget args 0)))) (toI (lget args 1)) (fun q0 => kf (lget [.bool q0] 0, []))
def newellaw11_EnergySlow_d7 {R : Type} (N : Nat) (S0 : St) (k : Exit → St → Option R) : Option R :=
  newellaw11_EnergySlow_l7 N N (toI (lget S0.tmps 1)) (toI (lget S0.tmps 5)) (toI (lget S0.tmps 6)) (toI (lget S0.tmps 7)) (Cod.dec api_BandC (lget (entCs (entAt S0.tab 0)))) (fun q0 => k .ret (newellaw11_EnergySlow_x7_r q0)) (fun (_ : Unit) => k (.exit 0) (newellaw11_EnergySlow_x7_0 ))
def newellaw11_EnergySlow_lp {R : Type} (N : Nat) : Lp R := fun body S k => bif (Go.Sx.keyOf body).getD 0 == 7 then newellaw11_EnergySlow_L7.head.raw 0 S (fun S0 => newellaw11_EnergySlow_d7 N S0 k) else Option.none
theorem newellaw11_EnergySlow_l7_eq {R : Type} (N : Nat) (k : Exit → St → Option R) (n : Nat) : ∀ (v0 : Int) (v1 : Int) (v2 : Int) (v3 : Int) (v4 : api_Band), loopM E.Θ (newellaw11_works_cal N) (newellaw11_EnergySlow_lp N) 0 newellaw11_EnergySlow_L7 (bodyAt E 5 7) n (newellaw11_EnergySlow_h7 v0 v1 v2 v3 v4) k = newellaw11_EnergySlow_l7 N n v0 v1 v2 v3 v4 (fun q0 => k .ret (newellaw11_EnergySlow_x7_r q0)) (fun (_ : Unit) => k (.exit 0) (newellaw11_EnergySlow_x7_0 )) := by
  induction n with
  | zero => intro v0 v1 v2 v3 v4; rfl
  | succ n ih =>
    intro v0 v1 v2 v3 v4
    refine Eq.trans (b := newellaw11_EnergySlow_b7 N (fun v0 v1 v2 v3 v4 => loopM E.Θ (newellaw11_works_cal N) (newellaw11_EnergySlow_lp N) 0 newellaw11_EnergySlow_L7 (bodyAt E 5 7) n (newellaw11_EnergySlow_h7 v0 v1 v2 v3 v4) k) v0 v1 v2 v3 v4 (fun q0 => k .ret (newellaw11_EnergySlow_x7_r q0)) (fun (_ : Unit) => k (.exit 0) (newellaw11_EnergySlow_x7_0 ))) (by kernel_rfl) ?_
    have h : (fun (v0 : Int) (v1 : Int) (v2 : Int) (v3 : Int) (v4 : api_Band) => loopM E.Θ (newellaw11_works_cal N) (newellaw11_EnergySlow_lp N) 0 newellaw11_EnergySlow_L7 (bodyAt E 5 7) n (newellaw11_EnergySlow_h7 v0 v1 v2 v3 v4) k) = (fun (v0 : Int) (v1 : Int) (v2 : Int) (v3 : Int) (v4 : api_Band) => newellaw11_EnergySlow_l7 N n v0 v1 v2 v3 v4 (fun q0 => k .ret (newellaw11_EnergySlow_x7_r q0)) (fun (_ : Unit) => k (.exit 0) (newellaw11_EnergySlow_x7_0 ))) := funext fun v0 => funext fun v1 => funext fun v2 => funext fun v3 => funext fun v4 => ih v0 v1 v2 v3 v4
    rw [h]
    rfl
theorem newellaw11_EnergySlow_k7 {R : Type} (N : Nat) : LpKey (R := R) E 5 0 (newellaw11_EnergySlow_lp N) 7 :=
  lpKey_of hE (newellaw11_works_cal_ok N) newellaw11_EnergySlow_L7_ok [] kNil (by kernel_rfl) N fun S k =>
    Eq.trans (b := newellaw11_EnergySlow_L7.head.raw 0 S (fun S0 => newellaw11_EnergySlow_d7 N S0 k)) (by kernel_rfl) (congrArg (newellaw11_EnergySlow_L7.head.raw 0 S) (funext fun S0 => Eq.trans (newellaw11_EnergySlow_l7_eq N k N (toI (lget S0.tmps 1)) (toI (lget S0.tmps 5)) (toI (lget S0.tmps 6)) (toI (lget S0.tmps 7)) (Cod.dec api_BandC (lget (entCs (entAt S0.tab 0))))).symm (by kernel_rfl)))
noncomputable def newellaw11_EnergySlow_go {R : Type} (N : Nat) (args : List SV) (T : Tab) (kf : SV × Tab → Option R) : Option R :=
  newellaw11_EnergySlow N (Cod.dec api_BandC (lget (toCs (lget args 0)))) (toI (lget args 1)) (fun q0 => kf (lget [.bool q0] 0, []))
noncomputable def newellaw11_EnergySlow_cal {R : Type} (N : Nat) : Cal R := callM (newellaw11_works_cal N) 5 0 newellaw11_EnergySlow_sp (newellaw11_EnergySlow_go N)
theorem newellaw11_EnergySlow_cal_ok {R : Type} (N : Nat) : CalOk E.P (newellaw11_EnergySlow_cal (R := R) N) :=
  callM_ok hE (newellaw11_works_cal_ok N) (lp := newellaw11_EnergySlow_lp N) (keys := [7]) (kCons (newellaw11_EnergySlow_k7 N) kNil) (by kernel_rfl) newellaw11_EnergySlow_sp_ok newellaw11_EnergySlow_rs_ok (fun args T kf => Eq.trans (newellaw11_EnergySlow_def N (Cod.dec api_BandC (lget (toCs (lget args 0)))) (toI (lget args 1)) (fun q0 => kf (lget [.bool q0] 0, []))) (by kernel_rfl : newellaw11_EnergySlow_run N args T kf = fnM E (newellaw11_works_cal N) (newellaw11_EnergySlow_lp N) 5 (newellaw11_EnergySlow_sp.vs args) (newellaw11_EnergySlow_sp.tab T) 0 (resK newellaw11_EnergySlow_rs kf)))

theorem pace_mono {b : api_Band} (h : VB b) : ∀ (d i : Nat), i + d < b.Paces.n → b.Paces.f i + d ≤ b.Paces.f (i + d) := by
  intro d
  induction d with
  | zero => intro i hi; simp
  | succ d ih =>
    intro i hi
    have h1 := ih i (by omega)
    have h2 := h.pa (i + d + 1) (by omega)
    unfold paP at h2
    have e : pP b (i + d + 1) = b.Paces.f (i + d) := rfl
    rw [show i + (d + 1) = i + d + 1 by omega]
    omega

theorem slowS_spec (b : api_Band) (flow : Int) : ∀ (r i : Nat), i + r ≤ b.Paces.n →
    (∃ j, i ≤ j ∧ j < i + r ∧ slowS b flow r i = (b.Paces.f j, 0) ∧ loadS b flow (b.Paces.f j) ≤ b.Most ∧ ∀ u, i ≤ u → u < j → ¬ loadS b flow (b.Paces.f u) ≤ b.Most) ∨ (slowS b flow r i = (0, 3) ∧ ∀ u, i ≤ u → u < i + r → ¬ loadS b flow (b.Paces.f u) ≤ b.Most) := by
  intro r
  induction r with
  | zero => intro i _; right; exact ⟨rfl, fun u h1 h2 => by omega⟩
  | succ r ih =>
    intro i hi
    simp only [slowS]
    by_cases c : loadS b flow (b.Paces.f i) ≤ b.Most
    · left
      rw [if_pos c]
      exact ⟨i, Nat.le_refl _, by omega, rfl, c, fun u h1 h2 => by omega⟩
    · rw [if_neg c]
      rcases ih (i + 1) (by omega) with ⟨j, h1, h2, h3, h4, h5⟩ | ⟨h1, h2⟩
      · left
        refine ⟨j, by omega, by omega, h3, h4, fun u u1 u2 => ?_⟩
        by_cases e : u = i
        · subst e; exact c
        · exact h5 u (by omega) u2
      · right
        refine ⟨h1, fun u u1 u2 => ?_⟩
        by_cases e : u = i
        · subst e; exact c
        · exact h2 u (by omega) (by omega)

theorem slow_l7 {R : Type} {N : Nat} (hN : 20 ≤ N) {b : api_Band} (h : VB b) {flow pace e : Int} (hf : 0 ≤ flow ∧ flow ≤ 100) (hok : ∀ j, j < b.Paces.n → (loadS b flow (b.Paces.f j) ≤ b.Most → e = 0 ∧ pace ≤ b.Paces.f j) ∧ (¬ loadS b flow (b.Paces.f j) ≤ b.Most → e = 0 → b.Paces.f j ≠ pace)) (kr : Bool → Option R) (k0 : Unit → Option R) : ∀ (r i n : Nat), i + r = b.Paces.n → r < n →
    newellaw11_EnergySlow_l7 N n flow pace e (i : Int) b kr k0 = k0 () := by
  have hl := h.l2
  intro r
  induction r with
  | zero =>
    intro i n h1 h2
    obtain ⟨n, rfl⟩ : ∃ m, n = m + 1 := ⟨n - 1, by omega⟩
    unfold newellaw11_EnergySlow_l7 newellaw11_EnergySlow_b7
    simp only [lt_false (show b.Paces.n ≤ i by omega), cond_false]
  | succ r ih =>
    intro i n h1 h2
    obtain ⟨n, rfl⟩ : ∃ m, n = m + 1 := ⟨n - 1, by omega⟩
    unfold newellaw11_EnergySlow_l7 newellaw11_EnergySlow_b7
    have ha : askV b flow (b.Paces.f i) = 0 := askV_zero.2 ⟨h, ⟨i, by omega, rfl⟩, hf⟩
    have hlv : loadV b flow (b.Paces.f i) = loadS b flow (b.Paces.f i) := by unfold loadV; rw [if_pos ha]
    obtain ⟨g1, g2⟩ := hok i (by omega)
    simp only [lt_true (show i < b.Paces.n by omega), nat_nonneg, Bool.and_self, cond_true, Int.toNat_natCast, w64_succ (show i < 1000000000000 by omega), Load_eq hN, ha, hlv, bne_self_eq_false, cond_false]
    by_cases c : loadS b flow (b.Paces.f i) ≤ b.Most
    · obtain ⟨e1, e2⟩ := g1 c
      have c2 : ¬ b.Paces.f i < pace := by omega
      have c3 : ¬ loadS b flow (b.Paces.f i) > b.Most := by omega
      subst e1
      simp only [c, c2, c3, decide_true, decide_false, cond_true, cond_false, bne_self_eq_false]
      exact ih (i + 1) n (by omega) (by omega)
    · have c3 : loadS b flow (b.Paces.f i) > b.Most := by omega
      by_cases ce : e = 0
      · have c4 : (b.Paces.f i == pace) = false := by simpa using g2 c ce
        subst ce
        simp only [c, c3, c4, decide_true, decide_false, cond_true, cond_false, BEq.rfl]
        exact ih (i + 1) n (by omega) (by omega)
      · have c4 : (e == 0) = false := by simpa using ce
        simp only [c, c3, c4, decide_true, decide_false, cond_true, cond_false]
        exact ih (i + 1) n (by omega) (by omega)

theorem energySlow_true (b : api_Band) (flow : Int) (hb : b.wf) (hf : i64 flow) : ∃ N, newellaw11_EnergySlow N b flow (fun q0 => okK (lget [.bool q0] 0, [])) = some () := by
  classical
  refine ⟨NN, ?_⟩
  have hNN : NN = 20000 := rfl
  rw [newellaw11_EnergySlow_def]
  unfold newellaw11_EnergySlow_m
  have ht : okK (lget [SV.bool true] 0, []) = some () := rfl
  simp only [Far_eq, works_eq, refCheck_eq (show 20 ≤ NN by decide), ht]
  cases decide ((b.Paces.n : Int) > 10)
  rotate_left
  · rfl
  by_cases hv : VB b
  rotate_left
  · rw [checkV_ne hv]; rfl
  have hl := hv.l2
  simp only [checkV_pos hv, bne_self_eq_false, cond_false, Pace_eq (show b.Paces.n ≤ 1000000 by omega) (show b.Paces.n < NN by omega)]
  by_cases c1 : flow < 0
  · simp only [c1, decide_true, cond_true]
  by_cases c2 : flow > 100
  · simp only [c1, c2, decide_false, cond_false, decide_true, cond_true]
  have hfl : 0 ≤ flow ∧ flow ≤ 100 := ⟨by omega, by omega⟩
  have hs : slowV b flow = slowS b flow b.Paces.n 0 := by unfold slowV; rw [if_pos hv, if_pos hfl]
  simp only [c1, c2, decide_false, cond_false, Slow_eq (show 20 ≤ NN by decide), hs]
  rcases slowS_spec b flow b.Paces.n 0 (by omega) with ⟨j, h1, h2, h3, h4, h5⟩ | ⟨h1, h2⟩
  · have hin : isIn b.Paces (b.Paces.f j) := ⟨j, by omega, rfl⟩
    have e0 : ((0 : Int) != 0) = false := rfl
    have lp : ∀ kr : Bool → Option Unit, newellaw11_EnergySlow_l7 NN NN flow (b.Paces.f j) 0 (0 : Int) b kr (fun (_ : Unit) => some ()) = some () := fun kr => by
      refine slow_l7 (by decide) hv hfl (fun u hu => ⟨fun c => ⟨rfl, ?_⟩, fun c _ e => ?_⟩) kr (fun _ => some ()) b.Paces.n 0 NN (by omega) (by omega)
      · rcases Nat.lt_or_ge u j with g | g
        · exact absurd c (h5 u (by omega) g)
        · have := pace_mono hv (u - j) j (by omega)
          rw [show j + (u - j) = u by omega] at this
          omega
      · rw [e] at c; exact c h4
    rw [h3]
    simp only [e0, cond_false, BEq.rfl, cond_true, hin, decide_true, Bool.not_true, lp]
  · have e3 : ((3 : Int) != 0) = true := rfl
    have e4 : ((3 : Int) != 3) = false := rfl
    have e5 : ((3 : Int) == 0) = false := rfl
    have lp : ∀ kr : Bool → Option Unit, newellaw11_EnergySlow_l7 NN NN flow 0 3 (0 : Int) b kr (fun (_ : Unit) => some ()) = some () := fun kr =>
      slow_l7 (by decide) hv hfl (fun u hu => ⟨fun c => absurd c (h2 u (by omega) (by omega)), fun c e => by omega⟩) kr (fun _ => some ()) b.Paces.n 0 NN (by omega) (by omega)
    rw [h1]
    simp only [e3, e4, e5, cond_true, cond_false, lp]
end
end Go.Proofs.Ytfaefhegfcidpaa
