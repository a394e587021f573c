/-
  'DriveChecks': for every input the statement returns true, and each argument reads as it did.
-/
import Derived.Test.YtpcmpbellmiijaaRows
import Derived.Test.YtpcmpbellmiijaaWDriveChecks
import Derived.ProofKit
set_option linter.unusedVariables false
namespace Go.Proofs.Ytpcmpbellmiijaa
open Go.Sx Go.ChangeShapes Go.WideShapes Go.ChangeAt Go.RowKit

theorem Try.own : ownKnob Try.prog.godebug = none := by kernel_rfl
def tiOf (t : Go.Sx.Tys) (i : TypeId) : TI := match Go.Sx.Tys.get t i with
  | some x => x
  | Option.none => ⟨.other, 0, 0, []⟩
theorem hty0 : Go.Sx.Tys.get Tys 24 = some (tiOf Tys 24) := by kernel_rfl
theorem hty1 : Go.Sx.Tys.get Tys 50 = some (tiOf Tys 50) := by kernel_rfl
theorem progOk : ProgOk Try.prog := ⟨by kernel_rfl, by kernel_rfl, by kernel_rfl⟩

theorem driveChecks_fn (fs : List (Nat → SV)) (h : RngA Tys [24, 50] fs) : ∃ T', FnOk Try.prog 11 (argsOf Tys [24, 50] fs) [] 0 (.bool true) T' := by
  match fs, h with
  | [f0, f1], ⟨h0, h1, _⟩ =>
    obtain ⟨o0, w0⟩ := arg_agg (C := api_EscalatorC) api_EscalatorC_ok (by rfl) (by kernel_rfl) (by kernel_rfl) (by kernel_rfl) (P := api_Escalator.wf) (fun _ h => api_EscalatorC_rng h) (h0 _ hty0)
    obtain ⟨o1, w1⟩ := arg_agg (C := newellaw01_PushC) newellaw01_PushC_ok (by rfl) (by kernel_rfl) (by kernel_rfl) (by kernel_rfl) (P := newellaw01_Push.wf) (fun _ h => newellaw01_PushC_rng h) (h1 _ hty1)
    obtain ⟨N, hN⟩ := driveChecks_true (Cod.dec api_EscalatorC (lget (toCs (argOf (tiOf Tys 24) f0)))) (Cod.dec newellaw01_PushC (lget (toCs (argOf (tiOf Tys 50) f1)))) w0 w1
    refine law_of (P := E.P) (newellaw01_DriveChecks_cal_ok N) ?_
    have hok : newellaw01_DriveChecks_sp.ok (argsOf Tys [24, 50] [f0, f1]) [] = true := by
      show (true && (((rAgg api_EscalatorC).ok (argOf (tiOf Tys 24) f0) && ((rAgg newellaw01_PushC).ok (argOf (tiOf Tys 50) f1) && true))) && true) = true
      simp only [o0, o1, Bool.and_self]
    exact (callM_run hok okK).trans hN

set_option maxRecDepth 100000 in
theorem driveChecks_lifted (os : Os) (started : os.Started) (H : Type) (enc : TypeId × Value → H) :
    ReturnsInHanded {} Try.checked os 11 .any (Rows.driveChecksSpec.pre6 enc Try.prog Try.f11 Rows.driveChecksRow.domain false) (Rows.driveChecksSpec.post enc Try.prog Try.f11 false true false false) := by
  refine returnsInHanded_of_change (C := Try.checked) Try.own started (by kernel_rfl) Try.func11
    (ChangeSpec.witness6 (enc := enc) (C := Try.checked) false ⟨#[], #[.agg #[.bool false, .int .i64 0, .int .i64 0, .int .i64 0, .int .i64 0, .slice none 0 0], .agg #[.int .i64 0, .int .i64 0, .int .i64 0]], []⟩ 8 (by kernel_rfl) (by kernel_rfl) (by kernel_rfl) (by kernel_rfl)) ?_
  intro W base args ds gs before hval0 hW hcnd _
  have hval : ∀ (j : Nat) t v, Try.f11.params[j]? = some t → args[j]? = some v → Value.okWide Try.prog W .any base t v := hval0
  have hW' := hW
  obtain ⟨p, q, hA0, hV, rfl, hfz, hnd⟩ := hW
  have hA : DataW.TrodAll enc Try.prog W 0 (fun _ => true) true Try.f11.params.toList args.toList ds p := hA0
  have hps : Try.f11.params.toList = [24, 50] := by kernel_rfl
  rw [hps] at hA
  have hcall := law_below (P := Try.prog) hty (f := 11) (ts := [24, 50]) (by kernel_rfl) driveChecks_fn (fun j t v ht hv => hval j t v (by rw [← Array.getElem?_toList, hps]; exact ht) (by rw [← Array.getElem?_toList]; exact hv)) hA
  have hargs : args.toList.toArray = args := by simp
  rw [hargs] at hcall
  refine hcall.mono ?_
  rintro e W' ⟨rfl, hb⟩
  refine ⟨_, rfl, law_post progOk (tb := 4) rfl (by rw [hps]; exact fun t ht => of_decide_eq_true (List.all_eq_true.1 (show ([24, 50] : List TypeId).all (fun t => decide (t < Try.prog.types.size)) = true by kernel_rfl) t ht)) (by kernel_rfl) (by kernel_rfl) ?_ hW' hb⟩
  intro hl
  rw [hps] at hl
  match ds, hl with
  | [_, _], _ => rfl

theorem driveChecks_holds : Rows.DriveChecksSaid :=
  OpenClaim.holds_of_wide 11 Try.f11 rfl rfl rfl rfl rfl rfl rfl ⟨rfl, rfl, rfl, rfl, rfl⟩ rfl rfl rfl rfl rfl (by kernel_rfl) Try.func11 (by kernel_rfl)
    (of_decide_eq_true (by kernel_rfl)) (by unfold Func.isWrapper; first | (rw [if_pos (by decide +kernel)]; kernel_rfl) | (rw [if_neg (by decide +kernel)]; exact ⟨rfl, rfl⟩))
    (fun os started H enc _ => driveChecks_lifted os started H enc)

end Go.Proofs.Ytpcmpbellmiijaa
