import Derived.Test.YtlphgonhenegoaaRows
import Derived.Test.YtlphgonhenegoaaWCallsDivides
import Derived.ProofKit
set_option linter.unusedVariables false
namespace Go.Proofs.Ytlphgonhenegoaa
open Go.Sx Go.ChangeShapes Go.WideShapes Go.ChangeAt Go.RowKit
theorem Try.own : ownKnob Try.prog.godebug = none := by kernel_rfl
def tiOf (t : Go.Sx.Tys) (i : TypeId) : TI := match Go.Sx.Tys.get t i with
  | some x => x
  | Option.none => ⟨.other, 0, 0, []⟩
theorem hty0 : Go.Sx.Tys.get Tys 54 = some (tiOf Tys 54) := by kernel_rfl
theorem hty1 : Go.Sx.Tys.get Tys 3 = some (tiOf Tys 3) := by kernel_rfl
theorem arg_sl2 {α : Type} {C : Cod α} {ti : TI} (hd : Go.Sx.isAgg ti.d = false) (hz : ckL ti.zero = .cons (.sl C.sg) .nil) {P : α → Prop} (hP : ∀ g, rng C.sg g 0 → P (C.dec g)) {f : Nat → SV} (h : rng (ckL ti.zero) f 0) :
    (rSl C).ok (argOf ti f) = true ∧ (lstC C (argOf ti f)).n ≤ maxLen ∧ ∀ i, i < (lstC C (argOf ti f)).n → P ((lstC C (argOf ti f)).f i) := by
  have e : argOf ti f = f 0 := by simp only [argOf, hd, cond_false]
  rw [e]
  rw [hz] at h
  obtain ⟨h1, _⟩ := h
  refine ⟨?_, rng_sl hP h1⟩
  obtain ⟨n, cell, h3, _⟩ := h1
  rw [h3]
  simp [rSl, ckOk, ckEq_refl]
theorem progOk : ProgOk Try.prog := ⟨by kernel_rfl, by kernel_rfl, by kernel_rfl⟩
theorem callsDivides_fn (fs : List (Nat → SV)) (h : RngA Tys [54, 3] fs) : ∃ T', FnOk Try.prog 10 (argsOf Tys [54, 3] fs) [] 0 (.bool true) T' := by
  match fs, h with
  | [f0, f1], ⟨h0, h1, _⟩ =>
    obtain ⟨o0, w0, u0⟩ := arg_sl2 (C := api_CarC) (ti := tiOf Tys 54) (by kernel_rfl) (by kernel_rfl) (P := api_Car.wf) (fun _ h => api_CarC_rng h) (h0 _ hty0)
    obtain ⟨o1, w1⟩ := arg_int (ti := tiOf Tys 3) (z := 0) (by kernel_rfl) (by kernel_rfl) (h1 _ hty1)
    obtain ⟨N, hN⟩ := callsDivides_true (lstC api_CarC (argOf (tiOf Tys 54) f0)) (toI (argOf (tiOf Tys 3) f1)) w0 u0 w1
    refine law_of (P := E.P) (w7CallsDivides_cal_ok N) ?_
    have hok : w7CallsDivides_sp.ok (argsOf Tys [54, 3] [f0, f1]) [] = true := by
      show (true && (((rSl api_CarC).ok (argOf (tiOf Tys 54) f0) && ((rInt .i64).ok (argOf (tiOf Tys 3) f1) && true))) && true) = true
      simp only [o0, o1, Bool.and_self]
    exact (callM_run hok okK).trans hN
set_option maxRecDepth 100000 in
theorem callsDivides_lifted (os : Os) (started : os.Started) (H : Type) (enc : TypeId × Value → H) :
    ReturnsInHanded {} Try.checked os 10 .any (Rows.callsDividesSpec.pre6 enc Try.prog Try.f10 Rows.callsDividesRow.domain false) (Rows.callsDividesSpec.post enc Try.prog Try.f10 false true false false) := by
  refine returnsInHanded_of_change (C := Try.checked) Try.own started (by kernel_rfl) Try.func10
    (ChangeSpec.witness6 (enc := enc) (C := Try.checked) false ⟨#[], #[.slice none 0 0, .int .i64 0], []⟩ 8 (by kernel_rfl) (by kernel_rfl) (by kernel_rfl) (by kernel_rfl)) ?_
  intro W base args ds gs before hval0 hW hcnd _
  have hval : ∀ (j : Nat) t v, Try.f10.params[j]? = some t → args[j]? = some v → Value.okWide Try.prog W .any base t v := hval0
  have hW' := hW
  obtain ⟨p, q, hA0, hV, rfl, hfz, hnd⟩ := hW
  have hA : DataW.TrodAll enc Try.prog W 0 (fun _ => true) true Try.f10.params.toList args.toList ds p := hA0
  have hps : Try.f10.params.toList = [54, 3] := by kernel_rfl
  rw [hps] at hA
  have hcall := law_below (P := Try.prog) hty (f := 10) (ts := [54, 3]) (by kernel_rfl) callsDivides_fn (fun g cs hg => by cases hg) (fun j t v ht hv => hval j t v (by rw [← Array.getElem?_toList, hps]; exact ht) (by rw [← Array.getElem?_toList]; exact hv)) hA
  have hargs : args.toList.toArray = args := by simp
  rw [hargs] at hcall
  refine hcall.mono ?_
  rintro e W' ⟨rfl, hb⟩
  refine ⟨_, rfl, law_post progOk (tb := 4) rfl (by rw [hps]; exact fun t ht => of_decide_eq_true (List.all_eq_true.1 (show ([54, 3] : List TypeId).all (fun t => decide (t < Try.prog.types.size)) = true by kernel_rfl) t ht)) (by kernel_rfl) (by kernel_rfl) ?_ hW' hb⟩
  intro hl
  rw [hps] at hl
  match ds, hl with
  | [_, _], _ => rfl
theorem callsDivides_holds : Rows.CallsDividesSaid :=
  OpenClaim.holds_of_wide 10 Try.f10 rfl rfl rfl rfl rfl rfl rfl ⟨rfl, rfl, rfl, rfl, rfl⟩ rfl rfl rfl rfl rfl (by kernel_rfl) Try.func10 (by kernel_rfl)
    (of_decide_eq_true (by kernel_rfl)) (by unfold Func.isWrapper; first | (rw [if_pos (by decide +kernel)]; kernel_rfl) | (rw [if_neg (by decide +kernel)]; exact ⟨rfl, rfl⟩))
    (fun os started H enc _ => callsDivides_lifted os started H enc)
end Go.Proofs.Ytlphgonhenegoaa
