/-
  The model of the statement TopRuns, that it is what the code does (written by a program), and that it answers true.
-/
import Derived.Test.YtpillmoddoccfaaDrP5
set_option maxRecDepth 100000
set_option maxHeartbeats 0
set_option linter.unusedVariables false
set_option linter.unusedSimpArgs false
namespace Go.Proofs.Ytpillmoddoccfaa
open Go.Sx
noncomputable section


def neweltop_TopRuns_m {R : Type} (N : Nat) (a134 : api_Escalator) (a135 : api_Band) (a136 : newellaw11_Two) (k : Bool → Option R) : Option R :=
  newellaw01_Far N a134 (fun r137 =>
  bif r137 then
   neweltop_measures N  (fun r138 =>
   k r138)
  else
   newellaw11_Far N (api_Band.mk (api_Escalator.Up a134) (api_Escalator.Pull a134) (api_Escalator.Drag a134) (api_Band.Body a135) (api_Band.Ride a135) (api_Band.Most a135) (api_Band.Paces a135) (api_Band.Num a135) (api_Band.Den a135)) (fun r139 =>
   bif r139 then
    neweltop_measures N  (fun r140 =>
    k r140)
   else
    newelref01_Check N a134 (fun r141 =>
    bif r141 != (0 : Int) then
     neweltop_measures N  (fun r142 =>
     k r142)
    else
     newelref11_Check N (api_Band.mk (api_Escalator.Up a134) (api_Escalator.Pull a134) (api_Escalator.Drag a134) (api_Band.Body a135) (api_Band.Ride a135) (api_Band.Most a135) (api_Band.Paces a135) (api_Band.Num a135) (api_Band.Den a135)) (fun r143 =>
     bif r143 != (0 : Int) then
      neweltop_measures N  (fun r144 =>
      k r144)
     else
      bif decide (newellaw11_Two.Less a136 < (0 : Int)) then
       neweltop_measures N  (fun r145 =>
       k r145)
      else
       bif decide (newellaw11_Two.Less a136 > (100 : Int)) then
        neweltop_measures N  (fun r146 =>
        k r146)
       else
        newelref11_Pace N (api_Band.mk (api_Escalator.Up a134) (api_Escalator.Pull a134) (api_Escalator.Drag a134) (api_Band.Body a135) (api_Band.Ride a135) (api_Band.Most a135) (api_Band.Paces a135) (api_Band.Num a135) (api_Band.Den a135)) (newellaw11_Two.Slow a136) (fun r147 =>
        bif !r147 then
         neweltop_measures N  (fun r148 =>
         k r148)
        else
         energy_Load N (api_Band.mk (api_Escalator.Up a134) (api_Escalator.Pull a134) (api_Escalator.Drag a134) (api_Band.Body a135) (api_Band.Ride a135) (api_Band.Most a135) (api_Band.Paces a135) (api_Band.Num a135) (api_Band.Den a135)) (newellaw11_Two.Less a136) (newellaw11_Two.Slow a136) (fun r149 r150 =>
         energy_Power N (api_Band.mk (api_Escalator.Up a134) (api_Escalator.Pull a134) (api_Escalator.Drag a134) (api_Band.Body a135) (api_Band.Ride a135) (api_Band.Most a135) (api_Band.Paces a135) (api_Band.Num a135) (api_Band.Den a135)) (newellaw11_Two.Less a136) (newellaw11_Two.Slow a136) (fun r151 r152 =>
         bif r150 != (0 : Int) then
          k false
         else
          bif r152 != (0 : Int) then
           k false
          else
           bif decide (r149 > (100000 : Int)) then
            neweltop_measures N  (fun r153 =>
            k r153)
           else
            drive_Step N a134 (newellaw11_Two.Slow a136) r149 (0 : Int) (fun r154 r155 =>
            drive_Step N a134 (0 : Int) r149 (0 : Int) (fun r156 r157 =>
            bif r155 != (0 : Int) then
             k false
            else
             bif r157 != (0 : Int) then
              k false
             else
              bif decide (r151 < (0 : Int)) then
               bif decide (r154 < newellaw11_Two.Slow a136) then
                k false
               else
                bif decide (r151 > (0 : Int)) then
                 bif decide (r154 > newellaw11_Two.Slow a136) then
                  k false
                 else
                  bif r151 != (0 : Int) then
                   neweltop_measures N  (fun r158 =>
                   k r158)
                  else
                   bif decide (api_Band.Num a135 < api_Band.Den a135) then
                    neweltop_measures N  (fun r159 =>
                    k r159)
                   else
                    bif r156 == (0 : Int) then
                     neweltop_measures N  (fun r160 =>
                     k r160)
                    else
                     k false
                else
                 bif r151 != (0 : Int) then
                  neweltop_measures N  (fun r161 =>
                  k r161)
                 else
                  bif decide (api_Band.Num a135 < api_Band.Den a135) then
                   neweltop_measures N  (fun r162 =>
                   k r162)
                  else
                   bif r156 == (0 : Int) then
                    neweltop_measures N  (fun r163 =>
                    k r163)
                   else
                    k false
              else
               bif decide (r151 > (0 : Int)) then
                bif decide (r154 > newellaw11_Two.Slow a136) then
                 k false
                else
                 bif r151 != (0 : Int) then
                  neweltop_measures N  (fun r164 =>
                  k r164)
                 else
                  bif decide (api_Band.Num a135 < api_Band.Den a135) then
                   neweltop_measures N  (fun r165 =>
                   k r165)
                  else
                   bif r156 == (0 : Int) then
                    neweltop_measures N  (fun r166 =>
                    k r166)
                   else
                    k false
               else
                bif r151 != (0 : Int) then
                 neweltop_measures N  (fun r167 =>
                 k r167)
                else
                 bif decide (api_Band.Num a135 < api_Band.Den a135) then
                  neweltop_measures N  (fun r168 =>
                  k r168)
                 else
                  bif r156 == (0 : Int) then
                   neweltop_measures N  (fun r169 =>
                   k r169)
                  else
                   k false)))))))))
noncomputable def neweltop_TopRuns {R : Type} : Nat → api_Escalator → api_Band → newellaw11_Two → (Bool → Option R) → Option R := lock (@neweltop_TopRuns_m R)
theorem neweltop_TopRuns_def {R : Type} (N : Nat) (a134 : api_Escalator) (a135 : api_Band) (a136 : newellaw11_Two) (k : Bool → Option R) : neweltop_TopRuns N a134 a135 a136 k = neweltop_TopRuns_m N a134 a135 a136 k := by unfold neweltop_TopRuns; rw [lock_eq]
def neweltop_TopRuns_sp : Sp := ⟨[rAgg api_EscalatorC, rAgg api_BandC, rAgg newellaw11_TwoC], []⟩
theorem neweltop_TopRuns_sp_ok : neweltop_TopRuns_sp.Ok := ⟨(allCons (rAgg_ok api_EscalatorC_ok api_EscalatorC_len) (allCons (rAgg_ok api_BandC_ok api_BandC_len) (allCons (rAgg_ok newellaw11_TwoC_ok newellaw11_TwoC_len) allNil))), eNil⟩
def neweltop_TopRuns_rs : Sp := ⟨[rBool], []⟩
theorem neweltop_TopRuns_rs_ok : neweltop_TopRuns_rs.Ok := ⟨(allCons rBool_ok allNil), eNil⟩
def neweltop_TopRuns_run {R : Type} (N : Nat) (args : List SV) (T : Tab) (kf : SV × Tab → Option R) : Option R :=
  neweltop_TopRuns_m N (Cod.dec api_EscalatorC (lget (toCs (lget args 0)))) (Cod.dec api_BandC (lget (toCs (lget args 1)))) (Cod.dec newellaw11_TwoC (lget (toCs (lget args 2)))) (fun q0 => kf (lget [.bool q0] 0, []))
def neweltop_TopRuns_lp {R : Type} (N : Nat) : Lp R := fun body S k => Option.none
noncomputable def neweltop_TopRuns_go {R : Type} (N : Nat) (args : List SV) (T : Tab) (kf : SV × Tab → Option R) : Option R :=
  neweltop_TopRuns N (Cod.dec api_EscalatorC (lget (toCs (lget args 0)))) (Cod.dec api_BandC (lget (toCs (lget args 1)))) (Cod.dec newellaw11_TwoC (lget (toCs (lget args 2)))) (fun q0 => kf (lget [.bool q0] 0, []))
noncomputable def neweltop_TopRuns_cal {R : Type} (N : Nat) : Cal R := callM (neweltop_measures_cal N) 3 0 neweltop_TopRuns_sp (neweltop_TopRuns_go N)
theorem neweltop_TopRuns_cal_ok {R : Type} (N : Nat) : CalOk E.P (neweltop_TopRuns_cal (R := R) N) :=
  callM_ok hE (neweltop_measures_cal_ok N) (lp := neweltop_TopRuns_lp N) (jn := noJn) (keys := []) kNil (by kernel_rfl) (js := []) jNil (by kernel_rfl) neweltop_TopRuns_sp_ok neweltop_TopRuns_rs_ok (fun args T kf => Eq.trans (neweltop_TopRuns_def N (Cod.dec api_EscalatorC (lget (toCs (lget args 0)))) (Cod.dec api_BandC (lget (toCs (lget args 1)))) (Cod.dec newellaw11_TwoC (lget (toCs (lget args 2)))) (fun q0 => kf (lget [.bool q0] 0, []))) (by kernel_rfl : neweltop_TopRuns_run N args T kf = fnM E (neweltop_measures_cal N) (neweltop_TopRuns_lp N) (noJn) 3 (neweltop_TopRuns_sp.vs args) (neweltop_TopRuns_sp.tab T) 0 (resK neweltop_TopRuns_rs kf)))

theorem farE_eq {R : Type} (N : Nat) (e : api_Escalator) (k : Bool → Option R) : newellaw01_Far N e k = k (decide ((e.Brakes.n : Int) > 10)) := by rw [newellaw01_Far_def]; rfl
theorem farB_eq {R : Type} (N : Nat) (b : api_Band) (k : Bool → Option R) : newellaw11_Far N b k = k (decide ((b.Paces.n : Int) > 10)) := by rw [newellaw11_Far_def]; rfl

theorem ediv_nonpos {a m : Int} (hm : 0 < m) (h : a ≤ 0) : a / m ≤ 0 := by
  have := Int.ediv_le_ediv hm h
  rwa [Int.zero_ediv] at this

/-- The power and the speed in the next tick. -/
theorem runs_plain {m : api_Escalator} {b : api_Band} (hm : Dr.VE m) (hb : En.VB b) (hU : b.Up = m.Up) (hP : b.Pull = m.Pull) (hD : b.Drag = m.Drag) {flow pace : Int} (hf : En.Fp flow pace) (hl : En.loadS b flow pace ≤ 100000) :
    (En.powerS b flow pace < 0 → pace ≤ Dr.tickS m pace (En.loadS b flow pace) 0) ∧ (En.powerS b flow pace > 0 → Dr.tickS m pace (En.loadS b flow pace) 0 ≤ pace) ∧
    (En.powerS b flow pace = 0 → b.Den ≤ b.Num → Dr.tickS m 0 (En.loadS b flow pace) 0 = 0) := by
  have hl0 := (En.load_bounds hb hf).1
  have hpl := (En.pull_bounds hb hf).1
  have hf1 := hf.p1
  have hd1 := hm.d1
  have he1 := hm.e1
  have hmass : 0 < m.Empty + En.loadS b flow pace := by omega
  have hpe : m.Pull * En.loadS b flow pace = En.pullS b flow pace := by unfold En.pullS; rw [hP]
  unfold Dr.tickS Dr.gOf En.powerS
  rw [hU, hD, hpe]
  generalize En.pullS b flow pace = p at *
  generalize En.loadS b flow pace = L at *
  cases hu : m.Up with
  | true =>
    simp only [if_true]
    have hx : 0 ≤ (p + m.Drag) * pace := Int.mul_nonneg (by omega) (by omega)
    have hg := ediv_nonpos hmass (a := -p - (m.Drag + 0)) (by omega)
    refine ⟨fun h => by omega, fun _ => ?_, fun h _ => ?_⟩
    · rw [if_neg (by omega)]; omega
    · have h0 : p + m.Drag = 0 := by
        rcases Int.mul_eq_zero.1 h with h | h <;> omega
      have : p = 0 := by omega
      have hd : m.Drag = 0 := by omega
      rw [this, hd]
      simp
  | false =>
    simp only [Bool.false_eq_true, if_false]
    by_cases hdp : m.Drag - p ≥ 0
    · rw [if_pos hdp]
      have hx : 0 ≤ (m.Drag - p) * pace := Int.mul_nonneg hdp (by omega)
      have hg := ediv_nonpos hmass (a := p - (m.Drag + 0)) (by omega)
      refine ⟨fun h => by omega, fun _ => ?_, fun h _ => ?_⟩
      · rw [if_neg (by omega)]; omega
      · have h0 : m.Drag - p = 0 := by
          rcases Int.mul_eq_zero.1 h with h | h <;> omega
        rw [if_neg (by omega), show p - (m.Drag + 0) = 0 by omega]
        simp
    · rw [if_neg hdp]
      have hgap : 0 < p - m.Drag := by omega
      have hx : 0 < (p - m.Drag) * pace := Int.mul_pos hgap (by omega)
      have hge : 0 ≤ (p - (m.Drag + 0)) / (m.Empty + L) := Int.ediv_nonneg (by omega) (by omega)
      have hn1 := hb.n1
      have he := hb.e1
      have hq : 0 ≤ ((p - m.Drag) * pace * b.Num).tdiv b.Den := Int.tdiv_nonneg (Int.mul_nonneg (by omega) hn1) (by omega)
      refine ⟨fun _ => ?_, fun h => by omega, fun h hd => ?_⟩
      · rw [if_neg (by omega)]; omega
      · exfalso
        have hnd : b.Num = b.Den := by have := hb.n2; omega
        rw [hnd, Int.mul_tdiv_cancel _ (by omega)] at h
        omega

theorem topRuns_true (m : api_Escalator) (b : api_Band) (x : newellaw11_Two) (hm : m.wf) (hb : b.wf) (hx : x.wf) : ∃ N, neweltop_TopRuns N m b x (fun q0 => okK (lget [.bool q0] 0, [])) = some () := by
  classical
  refine ⟨100, ?_⟩
  rw [neweltop_TopRuns_def]
  unfold neweltop_TopRuns_m
  have htr : okK (lget [SV.bool true] 0, []) = some () := rfl
  have hNum : b.Num = (api_Band.mk m.Up m.Pull m.Drag b.Body b.Ride b.Most b.Paces b.Num b.Den).Num := rfl
  have hDen : b.Den = (api_Band.mk m.Up m.Pull m.Drag b.Body b.Ride b.Most b.Paces b.Num b.Den).Den := rfl
  have hPac : b.Paces = (api_Band.mk m.Up m.Pull m.Drag b.Body b.Ride b.Most b.Paces b.Num b.Den).Paces := rfl
  have hU : (api_Band.mk m.Up m.Pull m.Drag b.Body b.Ride b.Most b.Paces b.Num b.Den).Up = m.Up := rfl
  have hP : (api_Band.mk m.Up m.Pull m.Drag b.Body b.Ride b.Most b.Paces b.Num b.Den).Pull = m.Pull := rfl
  have hD : (api_Band.mk m.Up m.Pull m.Drag b.Body b.Ride b.Most b.Paces b.Num b.Den).Drag = m.Drag := rfl
  generalize api_Band.mk m.Up m.Pull m.Drag b.Body b.Ride b.Most b.Paces b.Num b.Den = c at *
  simp only [farE_eq, farB_eq, neweltop_measures_eq, htr, Dr.refCheck_eq (show 10 ≤ 100 by decide), En.refCheck_eq (show 20 ≤ 100 by decide), En.Load_eq (show 20 ≤ 100 by decide), En.Power_eq (show 20 ≤ 100 by decide), Dr.Step_eq (show 10 ≤ 100 by decide)]
  cases decide ((m.Brakes.n : Int) > 10)
  rotate_left
  · rfl
  cases decide ((c.Paces.n : Int) > 10)
  rotate_left
  · rfl
  by_cases hv : Dr.VE m
  rotate_left
  · have : (Dr.checkV m != 0) = true := by unfold Dr.checkV; rw [if_neg hv]; rfl
    simp only [cond_false, this, cond_true]
  have e1 : (Dr.checkV m != 0) = false := by unfold Dr.checkV; rw [if_pos hv]; rfl
  by_cases hc : En.VB c
  rotate_left
  · have : (En.checkV c != 0) = true := by rw [En.checkV_ne hc]; rfl
    simp only [cond_false, e1, this, cond_true]
  have e2 : (En.checkV c != 0) = false := by rw [En.checkV_pos hc]; rfl
  simp only [cond_false, e1, e2]
  by_cases h1 : x.Less < 0
  · simp only [h1, decide_true, cond_true]
  by_cases h2 : x.Less > 100
  · simp only [h1, h2, decide_true, decide_false, cond_true, cond_false]
  simp only [h1, h2, decide_false, cond_false]
  have hl2 := hc.l2
  rw [En.Pace_eq (by omega) (by omega)]
  by_cases hp : En.isIn c.Paces x.Slow
  rotate_left
  · simp only [hp, decide_false, Bool.not_false, cond_true]
  have hfl : 0 ≤ x.Less ∧ x.Less ≤ 100 := by omega
  have hask : En.askV c x.Less x.Slow = 0 := En.askV_zero.2 ⟨hc, hp, hfl⟩
  have hfp := En.isIn_fp hc hp hfl
  have hlv : En.loadV c x.Less x.Slow = En.loadS c x.Less x.Slow := by unfold En.loadV; rw [if_pos hask]
  have hpv : En.powerV c x.Less x.Slow = En.powerS c x.Less x.Slow := by unfold En.powerV; rw [if_pos hask]
  simp only [hp, decide_true, Bool.not_true, cond_false, hask, hlv, hpv, bne_self_eq_false]
  by_cases h3 : En.loadS c x.Less x.Slow > 100000
  · simp only [h3, decide_true, cond_true]
  have hl0 := (En.load_bounds hc hfp).1
  have g1 := hfp.p1
  have g2 := hfp.p2
  have s1 : Dr.StepArgs x.Slow (En.loadS c x.Less x.Slow) 0 := ⟨by omega, by omega, hl0, by omega, by omega, by omega⟩
  have s2 : Dr.StepArgs 0 (En.loadS c x.Less x.Slow) 0 := ⟨by omega, by omega, hl0, by omega, by omega, by omega⟩
  simp only [h3, decide_false, cond_false, Dr.stepV_pos hv s1, Dr.stepV_pos hv s2, bne_self_eq_false]
  obtain ⟨k1, k2, k3⟩ := runs_plain hv hc hU hP hD hfp (by omega)
  rw [hNum, hDen]
  generalize En.powerS c x.Less x.Slow = pw at *
  generalize Dr.tickS m x.Slow (En.loadS c x.Less x.Slow) 0 = sp at *
  generalize Dr.tickS m 0 (En.loadS c x.Less x.Slow) 0 = rs at *
  by_cases a1 : pw < 0
  · have b1 : ¬ sp < x.Slow := by have := k1 a1; omega
    have b2 : ¬ pw > 0 := by omega
    have b3 : (pw != 0) = true := by simp; omega
    simp only [a1, b1, b2, b3, decide_true, decide_false, cond_true, cond_false]
  by_cases a2 : pw > 0
  · have b1 : ¬ sp > x.Slow := by have := k2 a2; omega
    have b3 : (pw != 0) = true := by simp; omega
    simp only [a1, a2, b1, b3, decide_true, decide_false, cond_true, cond_false]
  have a3 : pw = 0 := by omega
  have b3 : (pw != 0) = false := by simp [a3]
  simp only [a1, a2, b3, decide_true, decide_false, cond_true, cond_false]
  by_cases a4 : c.Num < c.Den
  · simp only [a4, decide_true, cond_true]
  · have := k3 a3 (by omega)
    have b4 : (rs == 0) = true := by simp [this]
    simp only [a4, b4, decide_false, cond_true, cond_false]
end
end Go.Proofs.Ytpillmoddoccfaa
