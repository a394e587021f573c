/-
  The model of the statement DriveOrder, that it is what the code does (written by a program), and that it answers true.
-/
import Derived.Test.YtpcmpbellmiijaaP5
set_option maxRecDepth 100000
set_option maxHeartbeats 0
set_option linter.unusedVariables false
set_option linter.unusedSimpArgs false
namespace Go.Proofs.Ytpcmpbellmiijaa
open Go.Sx
noncomputable section


def newellaw01_DriveOrder_m {R : Type} (N : Nat) (a521 : api_Escalator) (a522 : newellaw01_Push) (a523 : newellaw01_Push) (k : Bool → Option R) : Option R :=
  newellaw01_Far N a521 (fun r524 =>
  bif r524 then
   newellaw01_works N  (fun r525 =>
   k r525)
  else
   newelref01_Check N a521 (fun r526 =>
   bif r526 != (0 : Int) then
    newellaw01_works N  (fun r527 =>
    k r527)
   else
    drive_Step N a521 (newellaw01_Push.Speed a522) (newellaw01_Push.Load a522) (newellaw01_Push.Force a522) (fun r528 r529 =>
    drive_Step N a521 (newellaw01_Push.Speed a523) (newellaw01_Push.Load a522) (newellaw01_Push.Force a522) (fun r530 r531 =>
    drive_Step N a521 (newellaw01_Push.Speed a522) (newellaw01_Push.Load a522) (newellaw01_Push.Force a523) (fun r532 r533 =>
    bif r529 == (0 : Int) then
     bif r531 == (0 : Int) then
      bif decide (newellaw01_Push.Speed a522 ≤ newellaw01_Push.Speed a523) then
       bif decide (r528 > r530) then
        k false
       else
        bif r529 == (0 : Int) then
         bif r533 == (0 : Int) then
          bif decide (newellaw01_Push.Force a522 ≤ newellaw01_Push.Force a523) then
           bif decide ((if w64 ((0 : Int) - r532) > r532 then w64 ((0 : Int) - r532) else r532) > if w64 ((0 : Int) - r528) > r528 then w64 ((0 : Int) - r528) else r528) then
            k false
           else
            newellaw01_works N  (fun r534 =>
            k r534)
          else
           newellaw01_works N  (fun r535 =>
           k r535)
         else
          newellaw01_works N  (fun r536 =>
          k r536)
        else
         newellaw01_works N  (fun r537 =>
         k r537)
      else
       bif r529 == (0 : Int) then
        bif r533 == (0 : Int) then
         bif decide (newellaw01_Push.Force a522 ≤ newellaw01_Push.Force a523) then
          bif decide ((if w64 ((0 : Int) - r532) > r532 then w64 ((0 : Int) - r532) else r532) > if w64 ((0 : Int) - r528) > r528 then w64 ((0 : Int) - r528) else r528) then
           k false
          else
           newellaw01_works N  (fun r538 =>
           k r538)
         else
          newellaw01_works N  (fun r539 =>
          k r539)
        else
         newellaw01_works N  (fun r540 =>
         k r540)
       else
        newellaw01_works N  (fun r541 =>
        k r541)
     else
      bif r529 == (0 : Int) then
       bif r533 == (0 : Int) then
        bif decide (newellaw01_Push.Force a522 ≤ newellaw01_Push.Force a523) then
         bif decide ((if w64 ((0 : Int) - r532) > r532 then w64 ((0 : Int) - r532) else r532) > if w64 ((0 : Int) - r528) > r528 then w64 ((0 : Int) - r528) else r528) then
          k false
         else
          newellaw01_works N  (fun r542 =>
          k r542)
        else
         newellaw01_works N  (fun r543 =>
         k r543)
       else
        newellaw01_works N  (fun r544 =>
        k r544)
      else
       newellaw01_works N  (fun r545 =>
       k r545)
    else
     bif r529 == (0 : Int) then
      bif r533 == (0 : Int) then
       bif decide (newellaw01_Push.Force a522 ≤ newellaw01_Push.Force a523) then
        bif decide ((if w64 ((0 : Int) - r532) > r532 then w64 ((0 : Int) - r532) else r532) > if w64 ((0 : Int) - r528) > r528 then w64 ((0 : Int) - r528) else r528) then
         k false
        else
         newellaw01_works N  (fun r546 =>
         k r546)
       else
        newellaw01_works N  (fun r547 =>
        k r547)
      else
       newellaw01_works N  (fun r548 =>
       k r548)
     else
      newellaw01_works N  (fun r549 =>
      k r549))))))
noncomputable def newellaw01_DriveOrder {R : Type} : Nat → api_Escalator → newellaw01_Push → newellaw01_Push → (Bool → Option R) → Option R := lock (@newellaw01_DriveOrder_m R)
theorem newellaw01_DriveOrder_def {R : Type} (N : Nat) (a521 : api_Escalator) (a522 : newellaw01_Push) (a523 : newellaw01_Push) (k : Bool → Option R) : newellaw01_DriveOrder N a521 a522 a523 k = newellaw01_DriveOrder_m N a521 a522 a523 k := by unfold newellaw01_DriveOrder; rw [lock_eq]
def newellaw01_DriveOrder_sp : Sp := ⟨[rAgg api_EscalatorC, rAgg newellaw01_PushC, rAgg newellaw01_PushC], []⟩
theorem newellaw01_DriveOrder_sp_ok : newellaw01_DriveOrder_sp.Ok := ⟨(allCons (rAgg_ok api_EscalatorC_ok api_EscalatorC_len) (allCons (rAgg_ok newellaw01_PushC_ok newellaw01_PushC_len) (allCons (rAgg_ok newellaw01_PushC_ok newellaw01_PushC_len) allNil))), eNil⟩
def newellaw01_DriveOrder_rs : Sp := ⟨[rBool], []⟩
theorem newellaw01_DriveOrder_rs_ok : newellaw01_DriveOrder_rs.Ok := ⟨(allCons rBool_ok allNil), eNil⟩
def newellaw01_DriveOrder_run {R : Type} (N : Nat) (args : List SV) (T : Tab) (kf : SV × Tab → Option R) : Option R :=
  newellaw01_DriveOrder_m N (Cod.dec api_EscalatorC (lget (toCs (lget args 0)))) (Cod.dec newellaw01_PushC (lget (toCs (lget args 1)))) (Cod.dec newellaw01_PushC (lget (toCs (lget args 2)))) (fun q0 => kf (lget [.bool q0] 0, []))
def newellaw01_DriveOrder_lp {R : Type} (N : Nat) : Lp R := fun body S k => Option.none
noncomputable def newellaw01_DriveOrder_go {R : Type} (N : Nat) (args : List SV) (T : Tab) (kf : SV × Tab → Option R) : Option R :=
  newellaw01_DriveOrder N (Cod.dec api_EscalatorC (lget (toCs (lget args 0)))) (Cod.dec newellaw01_PushC (lget (toCs (lget args 1)))) (Cod.dec newellaw01_PushC (lget (toCs (lget args 2)))) (fun q0 => kf (lget [.bool q0] 0, []))
noncomputable def newellaw01_DriveOrder_cal {R : Type} (N : Nat) : Cal R := callM (newelref01_Legal_cal N) 6 0 newellaw01_DriveOrder_sp (newellaw01_DriveOrder_go N)
theorem newellaw01_DriveOrder_cal_ok {R : Type} (N : Nat) : CalOk E.P (newellaw01_DriveOrder_cal (R := R) N) :=
  callM_ok hE (newelref01_Legal_cal_ok N) (lp := newellaw01_DriveOrder_lp N) (keys := []) kNil (by kernel_rfl) newellaw01_DriveOrder_sp_ok newellaw01_DriveOrder_rs_ok (fun args T kf => Eq.trans (newellaw01_DriveOrder_def N (Cod.dec api_EscalatorC (lget (toCs (lget args 0)))) (Cod.dec newellaw01_PushC (lget (toCs (lget args 1)))) (Cod.dec newellaw01_PushC (lget (toCs (lget args 2)))) (fun q0 => kf (lget [.bool q0] 0, []))) (by kernel_rfl : newellaw01_DriveOrder_run N args T kf = fnM E (newelref01_Legal_cal N) (newellaw01_DriveOrder_lp N) 6 (newellaw01_DriveOrder_sp.vs args) (newellaw01_DriveOrder_sp.tab T) 0 (resK newellaw01_DriveOrder_rs kf)))

theorem stepV_abs (e : api_Escalator) (v load force : Int) : -20000000 ≤ (stepV e v load force).1 ∧ (stepV e v load force).1 ≤ 20000000 := by
  by_cases he : VE e
  · by_cases hs : StepArgs v load force
    · rw [stepV_pos he hs]
      have := tick_abs (hs.ok he) (B := 10000000) (by omega) hs.v1 hs.v2
      simp only; omega
    · rw [stepV_neg he hs]; simp
  · unfold stepV; rw [if_neg he]; simp
theorem stepV_ok {e : api_Escalator} {v load force : Int} (h : (stepV e v load force).2 = 0) : VE e ∧ StepArgs v load force ∧ (stepV e v load force).1 = tickS e v load force := by
  by_cases he : VE e
  · by_cases hs : StepArgs v load force
    · exact ⟨he, hs, by rw [stepV_pos he hs]⟩
    · rw [stepV_neg he hs] at h; simp at h
  · unfold stepV at h; rw [if_neg he] at h; simp at h
theorem driveOrder_true (e : api_Escalator) (p m : newellaw01_Push) (he : e.wf) (hp : p.wf) (hm : m.wf) : ∃ N, newellaw01_DriveOrder N e p m (fun q0 => okK (lget [.bool q0] 0, [])) = some () := by
  refine ⟨NN, ?_⟩
  rw [newellaw01_DriveOrder_def]
  unfold newellaw01_DriveOrder_m
  simp only [Far_eq, works_eq, refCheck_eq (show 10 ≤ NN by decide), Step_eq (show 10 ≤ NN by decide)]
  have H1 : (stepV e p.Speed p.Load p.Force).2 = 0 → (stepV e m.Speed p.Load p.Force).2 = 0 → p.Speed ≤ m.Speed → (stepV e p.Speed p.Load p.Force).1 ≤ (stepV e m.Speed p.Load p.Force).1 := by
    intro h1 h2 h3
    rw [(stepV_ok h1).2.2, (stepV_ok h2).2.2]
    exact tick_mono h3
  have H2 : (stepV e p.Speed p.Load p.Force).2 = 0 → (stepV e p.Speed p.Load m.Force).2 = 0 → p.Force ≤ m.Force → max (stepV e p.Speed p.Load m.Force).1 (-(stepV e p.Speed p.Load m.Force).1) ≤ max (stepV e p.Speed p.Load p.Force).1 (-(stepV e p.Speed p.Load p.Force).1) := by
    intro h1 h2 h3
    obtain ⟨a1, a2, a3⟩ := stepV_ok h1
    rw [a3, (stepV_ok h2).2.2]
    exact tick_force (by have := a1.e1; have := a2.l1; omega) h3
  have b1 := stepV_abs e p.Speed p.Load p.Force
  have b3 := stepV_abs e p.Speed p.Load m.Force
  rw [w64_eq (n := 0 - (stepV e p.Speed p.Load p.Force).1) (by omega) (by omega), w64_eq (n := 0 - (stepV e p.Speed p.Load m.Force).1) (by omega) (by omega)]
  generalize stepV e p.Speed p.Load p.Force = s1 at *
  generalize stepV e m.Speed p.Load p.Force = s2 at *
  generalize stepV e p.Speed p.Load m.Force = s3 at *
  have m1 : ∀ x : Int, (if 0 - x > x then 0 - x else x) = max x (-x) := fun x => by omega
  simp only [m1, cond_if, beq_iff_eq, bne_iff_ne, decide_eq_true_eq]
  repeat' split
  all_goals first
    | rfl
    | (exfalso; omega)
end
end Go.Proofs.Ytpcmpbellmiijaa
