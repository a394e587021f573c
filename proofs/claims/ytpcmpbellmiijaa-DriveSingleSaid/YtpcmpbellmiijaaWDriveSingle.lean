/-
  The model of the statement DriveSingle, that it is what the code does (written by a program), and that it answers true.
-/
import Derived.Test.YtpcmpbellmiijaaP8
set_option maxRecDepth 100000
set_option maxHeartbeats 0
set_option linter.unusedVariables false
set_option linter.unusedSimpArgs false
namespace Go.Proofs.Ytpcmpbellmiijaa
open Go.Sx
noncomputable section


def newellaw01_DriveSingle_m {R : Type} (N : Nat) (a675 : api_Escalator) (a676 : api_Stop) (a677 : newellaw01_One) (k : Bool → Option R) : Option R :=
  newellaw01_Far N a675 (fun r678 =>
  bif r678 then
   newellaw01_works N  (fun r679 =>
   k r679)
  else
   bif decide ((↑(Arr.n (newellaw01_One.Loads a677)) : Int) > (100 : Int)) then
    newellaw01_works N  (fun r680 =>
    k r680)
   else
    newelref01_CheckStop N a675 a676 (fun r681 =>
    bif r681 != (0 : Int) then
     newellaw01_works N  (fun r682 =>
     k r682)
    else
     newelref01_History N a676 (newellaw01_One.Loads a677) (fun r683 =>
     bif !r683 then
      newellaw01_works N  (fun r684 =>
      k r684)
     else
      bif decide (newellaw01_One.Brake a677 < (0 : Int)) then
       newellaw01_works N  (fun r685 =>
       k r685)
      else
       bif decide (newellaw01_One.Brake a677 ≥ (↑(Arr.n (api_Escalator.Brakes a675)) : Int)) then
        newellaw01_works N  (fun r686 =>
        k r686)
       else
        drive_Critical N a675 a676 (newellaw01_Bounds.Way (newellaw01_One.Bounds a677)) (newellaw01_Bounds.Back (newellaw01_One.Bounds a677)) (fun r687 r688 r689 =>
        bif r687 != (0 : Int) then
         bif r687 == (0 : Int) then
          newellaw01_works N  (fun r690 =>
          k r690)
         else
          bif r687 == (1 : Int) then
           newellaw01_works N  (fun r691 =>
           k r691)
          else
           k false
        else
         bif decide ((↑(Arr.n r689) : Int) > (0 : Int)) then
          bif r687 == (0 : Int) then
           newellaw01_works N  (fun r692 =>
           k r692)
          else
           bif r687 == (1 : Int) then
            newellaw01_works N  (fun r693 =>
            k r693)
           else
            k false
         else
          bif decide (IntKind.wrap IntKind.u64 (newellaw01_One.Brake a677) < (0 : Int)) then
           Option.none
          else
           bif w64 (↑(BitVec.toNat (BitVec.ofInt (IntKind.bits IntKind.i64) (Int.fdiv (api_Stop.Fail a676) ((2 : Int) ^ min (Int.toNat (IntKind.wrap IntKind.u64 (newellaw01_One.Brake a677))) (IntKind.bits IntKind.i64))) &&& BitVec.ofInt (IntKind.bits IntKind.i64) (1 : Int))) : Int) == (1 : Int) then
            bif r687 == (0 : Int) then
             newellaw01_works N  (fun r694 =>
             k r694)
            else
             bif r687 == (1 : Int) then
              newellaw01_works N  (fun r695 =>
              k r695)
             else
              k false
           else
            bif decide (IntKind.wrap IntKind.u64 (newellaw01_One.Brake a677) < (0 : Int)) then
             Option.none
            else
             drive_Play N a675 (api_Stop.mk (api_Stop.Speed a676) (api_Stop.Loads a676) (w64 (↑(BitVec.toNat (BitVec.ofInt (IntKind.bits IntKind.i64) (api_Stop.Fail a676) ||| BitVec.ofInt (IntKind.bits IntKind.i64) (w64 ((1 : Int) * (2 : Int) ^ min (Int.toNat (IntKind.wrap IntKind.u64 (newellaw01_One.Brake a677))) (IntKind.bits IntKind.i64))))) : Int))) (newellaw01_One.Loads a677) (fun r696 r697 r698 =>
             drive_Holds N a675 (api_Stop.mk (api_Stop.Speed a676) (api_Stop.Loads a676) (w64 (↑(BitVec.toNat (BitVec.ofInt (IntKind.bits IntKind.i64) (api_Stop.Fail a676) ||| BitVec.ofInt (IntKind.bits IntKind.i64) (w64 ((1 : Int) * (2 : Int) ^ min (Int.toNat (IntKind.wrap IntKind.u64 (newellaw01_One.Brake a677))) (IntKind.bits IntKind.i64))))) : Int))) (fun r699 r700 =>
             bif r696 != (0 : Int) then
              k false
             else
              bif r700 != (0 : Int) then
               k false
              else
               bif !r699 then
                k false
               else
                bif (↑(Arr.n r698) : Int) != (↑(Arr.n (newellaw01_One.Loads a677)) : Int) then
                 k false
                else
                 newelref01_Behind N r698 (fun r701 =>
                 bif decide (r701 > newellaw01_Bounds.Back (newellaw01_One.Bounds a677)) then
                  k false
                 else
                  newelref01_Rest N (api_Stop.Speed a676) r698 (fun r702 r703 r704 =>
                  bif decide (r702 ≤ newellaw01_Bounds.Way (newellaw01_One.Bounds a677)) then
                   bif r704 then
                    newellaw01_works N  (fun r705 =>
                    k r705)
                   else
                    bif decide ((↑(Arr.n (newellaw01_One.Loads a677)) : Int) < (100 : Int)) then
                     newellaw01_works N  (fun r706 =>
                     k r706)
                    else
                     k false
                  else
                   k false))))))))
noncomputable def newellaw01_DriveSingle {R : Type} : Nat → api_Escalator → api_Stop → newellaw01_One → (Bool → Option R) → Option R := lock (@newellaw01_DriveSingle_m R)
theorem newellaw01_DriveSingle_def {R : Type} (N : Nat) (a675 : api_Escalator) (a676 : api_Stop) (a677 : newellaw01_One) (k : Bool → Option R) : newellaw01_DriveSingle N a675 a676 a677 k = newellaw01_DriveSingle_m N a675 a676 a677 k := by unfold newellaw01_DriveSingle; rw [lock_eq]
def newellaw01_DriveSingle_sp : Sp := ⟨[rAgg api_EscalatorC, rAgg api_StopC, rAgg newellaw01_OneC], []⟩
theorem newellaw01_DriveSingle_sp_ok : newellaw01_DriveSingle_sp.Ok := ⟨(allCons (rAgg_ok api_EscalatorC_ok api_EscalatorC_len) (allCons (rAgg_ok api_StopC_ok api_StopC_len) (allCons (rAgg_ok newellaw01_OneC_ok newellaw01_OneC_len) allNil))), eNil⟩
def newellaw01_DriveSingle_rs : Sp := ⟨[rBool], []⟩
theorem newellaw01_DriveSingle_rs_ok : newellaw01_DriveSingle_rs.Ok := ⟨(allCons rBool_ok allNil), eNil⟩
def newellaw01_DriveSingle_run {R : Type} (N : Nat) (args : List SV) (T : Tab) (kf : SV × Tab → Option R) : Option R :=
  newellaw01_DriveSingle_m N (Cod.dec api_EscalatorC (lget (toCs (lget args 0)))) (Cod.dec api_StopC (lget (toCs (lget args 1)))) (Cod.dec newellaw01_OneC (lget (toCs (lget args 2)))) (fun q0 => kf (lget [.bool q0] 0, []))
def newellaw01_DriveSingle_lp {R : Type} (N : Nat) : Lp R := fun body S k => Option.none
noncomputable def newellaw01_DriveSingle_go {R : Type} (N : Nat) (args : List SV) (T : Tab) (kf : SV × Tab → Option R) : Option R :=
  newellaw01_DriveSingle N (Cod.dec api_EscalatorC (lget (toCs (lget args 0)))) (Cod.dec api_StopC (lget (toCs (lget args 1)))) (Cod.dec newellaw01_OneC (lget (toCs (lget args 2)))) (fun q0 => kf (lget [.bool q0] 0, []))
noncomputable def newellaw01_DriveSingle_cal {R : Type} (N : Nat) : Cal R := callM (newelref01_Legal_cal N) 14 0 newellaw01_DriveSingle_sp (newellaw01_DriveSingle_go N)
theorem newellaw01_DriveSingle_cal_ok {R : Type} (N : Nat) : CalOk E.P (newellaw01_DriveSingle_cal (R := R) N) :=
  callM_ok hE (newelref01_Legal_cal_ok N) (lp := newellaw01_DriveSingle_lp N) (keys := []) kNil (by kernel_rfl) newellaw01_DriveSingle_sp_ok newellaw01_DriveSingle_rs_ok (fun args T kf => Eq.trans (newellaw01_DriveSingle_def N (Cod.dec api_EscalatorC (lget (toCs (lget args 0)))) (Cod.dec api_StopC (lget (toCs (lget args 1)))) (Cod.dec newellaw01_OneC (lget (toCs (lget args 2)))) (fun q0 => kf (lget [.bool q0] 0, []))) (by kernel_rfl : newellaw01_DriveSingle_run N args T kf = fnM E (newelref01_Legal_cal N) (newellaw01_DriveSingle_lp N) 14 (newellaw01_DriveSingle_sp.vs args) (newellaw01_DriveSingle_sp.tab T) 0 (resK newellaw01_DriveSingle_rs kf)))

theorem bit_eq1 {a : Int} (h0 : 0 ≤ a) (h1 : a < 9223372036854775808) {i : Nat} (hi : i < 64) :
    (w64 (↑(BitVec.toNat (BitVec.ofInt (IntKind.bits IntKind.i64) (Int.fdiv a ((2 : Int) ^ min i (IntKind.bits IntKind.i64))) &&& BitVec.ofInt (IntKind.bits IntKind.i64) (1 : Int))) : Int) == (1 : Int)) = a.toNat.testBit i := by
  have := bit64 h0 h1 hi
  unfold w64
  rw [this]
  cases a.toNat.testBit i <;> rfl
/-- Any history of a stop that comes to rest. -/
theorem play_rest {e : api_Escalator} {s : api_Stop} {a : Arr Int} (hH : HistOk e s a) (hr : pathV e s true (restS e s true) = 0) :
    wayS (playV e s a.f) (stopF (playV e s a.f) a.n 0) ≤ wayS (pathV e s true) (restS e s true) ∧ (playV e s a.f (stopF (playV e s a.f) a.n 0) = 0 ∨ a.n < 100) ∧ backS (playV e s a.f) a.n ≤ backS (pathV e s false) 100 := by
  have hS := hH.vs
  have hbt := play_between hH
  have sv := stopF_spec (playV e s a.f) a.n 0
  have hTM := rest_le e s true
  have hn := hH.n
  have hsoftv := play_soft (e := e) hS.s1 a.f
  have hsoftM := path_soft (e := e) hS.s1 true
  have hup : stopF (playV e s a.f) a.n 0 ≤ restS e s true := by
    rcases Nat.lt_or_ge a.n (restS e s true) with hlt | hge
    · omega
    · exact (Soft.less hsoftv hsoftM (n := a.n) (m := 100) (fun t h6 _ _ _ => (hbt t h6).2) hr hge).1
  refine ⟨?_, ?_, ?_⟩
  · have a1 := way_le (u := playV e s a.f) (v := pathV e s true) (n := a.n) (fun t ht => (hbt t ht).2) (stopF (playV e s a.f) a.n 0) (by omega)
    have a2 := way_mono (v := pathV e s true) (n := restS e s true) (fun t ht => (hsoftM.pos (n := 100) t ht).1) hup (Nat.le_refl _)
    omega
  · rcases Nat.lt_or_ge a.n 100 with h6 | h6
    · exact Or.inr h6
    · exact Or.inl (Soft.less hsoftv hsoftM (n := a.n) (m := 100) (fun t h6 _ _ _ => (hbt t h6).2) hr (Nat.le_trans hTM h6)).2.1
  · have a1 := back_le (u := playV e s a.f) (v := pathV e s false) (n := a.n) (fun t ht => (hbt t ht).1) a.n (Nat.le_refl _)
    have a2 := back_mono (v := pathV e s false) (a := a.n) (b := 100) (by omega)
    omega
theorem driveSingle_true (e : api_Escalator) (s : api_Stop) (x : newellaw01_One) (he : e.wf) (hs : s.wf) (hx : x.wf) : ∃ N, newellaw01_DriveSingle N e s x (fun q0 => okK (lget [.bool q0] 0, [])) = some () := by
  refine ⟨NN, ?_⟩
  rw [newellaw01_DriveSingle_def]
  unfold newellaw01_DriveSingle_m
  simp only [Far_eq, works_eq, refCheckStop_eq (show 10 ≤ NN by decide)]
  by_cases h1 : (e.Brakes.n : Int) > 10
  · simp only [h1, decide_true, cond_true]; rfl
  simp only [h1, decide_false, cond_false]
  by_cases h2 : (x.Loads.n : Int) > 100
  · simp only [h2, decide_true, cond_true]; rfl
  simp only [h2, decide_false, cond_false, History_eq (show 2000 ≤ NN by decide) (show x.Loads.n ≤ 1000 by omega)]
  by_cases h3 : stopV e s = 0
  case neg =>
    have : (stopV e s != 0) = true := by simpa using h3
    simp only [this, cond_true]; rfl
  obtain ⟨hV, hS⟩ := stopV_zero h3
  simp only [h3, bne_self_eq_false, cond_false]
  cases hv : histV s x.Loads
  · rfl
  simp only [Bool.not_true, cond_false]
  by_cases h4 : x.Brake < 0
  · simp only [h4, decide_true, cond_true]; rfl
  simp only [h4, decide_false, cond_false]
  by_cases h5 : x.Brake ≥ (e.Brakes.n : Int)
  · simp only [h5, decide_true, cond_true]; rfl
  simp only [h5, decide_false, cond_false, Critical_eq (show 2000 ≤ NN by decide)]
  obtain ⟨i, hi⟩ : ∃ i : Nat, x.Brake = (i : Int) := ⟨x.Brake.toNat, by omega⟩
  have hn := hV.n
  have hin : i < e.Brakes.n := by omega
  have hf := (hS.ls hV).f2
  have hf1 := hS.f1
  have hu : IntKind.wrap IntKind.u64 x.Brake = (i : Int) := by rw [hi]; exact u64_nat (by omega)
  have e2 : decide ((i : Int) < 0) = false := by simp
  simp only [hu, e2, cond_false, Int.toNat_natCast, bit_eq1 hf1 (show s.Fail < 9223372036854775808 by omega) (show i < 64 by omega), or_eq hf1 hf (show i < 3 by omega)]
  have hcrit : critV e s x.Bounds.Way x.Bounds.Back = if (0 ≤ x.Bounds.Way ∧ x.Bounds.Way ≤ 10000000) ∧ (0 ≤ x.Bounds.Back ∧ x.Bounds.Back ≤ 10000000) then (0, critA e s x.Bounds.Way x.Bounds.Back e.Brakes.n) else (1, true, lst intC 0 (zeroC [SV.int IntKind.i64 0])) := by
    unfold critV; rw [h3]; simp
  by_cases h6 : (0 ≤ x.Bounds.Way ∧ x.Bounds.Way ≤ 10000000) ∧ (0 ≤ x.Bounds.Back ∧ x.Bounds.Back ≤ 10000000)
  case neg => rw [hcrit, if_neg h6]; rfl
  rw [hcrit, if_pos h6]
  simp only [bne_self_eq_false, cond_false, BEq.rfl, cond_true]
  by_cases h7 : (critA e s x.Bounds.Way x.Bounds.Back e.Brakes.n).2.n = 0
  case neg =>
    have : ((critA e s x.Bounds.Way x.Bounds.Back e.Brakes.n).2.n : Int) > 0 := by omega
    simp only [this, decide_true, cond_true]; rfl
  have h7' : ¬ (((critA e s x.Bounds.Way x.Bounds.Back e.Brakes.n).2.n : Int) > 0) := by omega
  simp only [h7', decide_false, cond_false]
  cases hb : s.Fail.toNat.testBit i
  case true => rfl
  simp only [cond_false]
  have hS' := moreF_ok hV hS hin
  have hsafe : SafeP e (moreF s i) x.Bounds.Way x.Bounds.Back := by
    rcases critA_none h7 i hin with h8 | h8
    · exfalso
      have h9 : (s.Fail.toNat ||| 2 ^ i : Nat) = s.Fail.toNat := by
        have : (((s.Fail.toNat ||| 2 ^ i : Nat) : Int)) = s.Fail := h8
        omega
      have h10 : (s.Fail.toNat ||| 2 ^ i).testBit i = true := by rw [Nat.testBit_or, Nat.testBit_two_pow_self]; simp
      rw [h9, hb] at h10
      cases h10
    · exact h8
  obtain ⟨a1, a2, a3, a4, a5⟩ := hsafe
  have hH : HistOk e (moreF s i) x.Loads := ⟨hV, hS', (histV_iff.1 hv).1, by omega⟩
  obtain ⟨l, b, hb2, hk⟩ := Play_eq (N := NN) (by decide) e (moreF s i) x.Loads
  rw [playE_of hH, if_pos rfl] at hb2
  have hplay := playE_of hH
  have hrest := fun k => Rest_eq (R := Unit) (N := NN) (by decide) (v := playV e (moreF s i) x.Loads.f) (m := x.Loads.n) (by omega) (play_B hH) hb2 k
  have e0 : playV e (moreF s i) x.Loads.f 0 = s.Speed := rfl
  rw [e0] at hrest
  have hpr := play_rest hH a1
  have hbeh := fun k => Behind_eq (R := Unit) (N := NN) (by decide) (v := playV e (moreF s i) x.Loads.f) (m := x.Loads.n) (by omega) (play_B hH) hb2 k
  show drive_Play NN e (moreF s i) x.Loads _ = some ()
  rw [hk]
  show drive_Holds NN e (moreF s i) _ = some ()
  rw [Holds_eq (by decide), hold_zero hV hS', hplay]
  have c1 : ¬ (backS (playV e (moreF s i) x.Loads.f) x.Loads.n > x.Bounds.Back) := by omega
  have c2 : wayS (playV e (moreF s i) x.Loads.f) (stopF (playV e (moreF s i) x.Loads.f) x.Loads.n 0) ≤ x.Bounds.Way := by omega
  simp only [bne_self_eq_false, cond_false, a5, decide_true, Bool.not_true, hb2.len, hbeh, c1, decide_false, hrest, c2, cond_true]
  rcases hpr.2.1 with h8 | h8
  · simp only [h8, BEq.rfl, cond_true]; rfl
  · have c3 : decide ((x.Loads.n : Int) < 100) = true := by simp; omega
    simp only [c3, cond_true]
    cases (playV e (moreF s i) x.Loads.f (stopF (playV e (moreF s i) x.Loads.f) x.Loads.n 0) == 0) <;> rfl
end
end Go.Proofs.Ytpcmpbellmiijaa
