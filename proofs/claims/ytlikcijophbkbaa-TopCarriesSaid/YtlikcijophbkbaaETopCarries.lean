import Derived.Test.YtlikcijophbkbaaRows
import Derived.Test.YtlikcijophbkbaaWTopCarries
import Derived.ProofKit
set_option linter.unusedVariables false
namespace Go.Proofs.Ytlikcijophbkbaa
open Go.Sx Go.ChangeShapes Go.WideShapes Go.ChangeAt Go.RowKit
theorem Try.own : ownKnob Try.prog.godebug = none := by kernel_rfl
def tiOf (t : Go.Sx.Tys) (i : TypeId) : TI := match Go.Sx.Tys.get t i with
  | some x => x
  | Option.none => ⟨.other, 0, 0, []⟩
theorem hty0 : Go.Sx.Tys.get Tys 26 = some (tiOf Tys 26) := by kernel_rfl
theorem hty1 : Go.Sx.Tys.get Tys 30 = some (tiOf Tys 30) := by kernel_rfl
theorem hty2 : Go.Sx.Tys.get Tys 72 = some (tiOf Tys 72) := by kernel_rfl
theorem arg_sl2 {α : Type} {C : Cod α} {ti : TI} (hd : Go.Sx.isAgg ti.d = false) (hz : ckL ti.zero = .cons (.sl C.sg) .nil) {P : α → Prop} (hP : ∀ g, rng C.sg g 0 → P (C.dec g)) {f : Nat → SV} (h : rng (ckL ti.zero) f 0) :
    (rSl C).ok (argOf ti f) = true ∧ (lstC C (argOf ti f)).n ≤ maxLen ∧ ∀ i, i < (lstC C (argOf ti f)).n → P ((lstC C (argOf ti f)).f i) := by
  have e : argOf ti f = f 0 := by simp only [argOf, hd, cond_false]
  rw [e]
  rw [hz] at h
  obtain ⟨h1, _⟩ := h
  refine ⟨?_, rng_sl hP h1⟩
  obtain ⟨n, cell, h3, _⟩ := h1
  rw [h3]
  simp [rSl, ckOk, ckEq_refl]
theorem progOk : ProgOk Try.prog := ⟨by kernel_rfl, by kernel_rfl, by kernel_rfl⟩
theorem topCarries_fn (fs : List (Nat → SV)) (h : RngA Tys [26, 30, 72] fs) : ∃ T', FnOk Try.prog 5 (argsOf Tys [26, 30, 72] fs) [] 0 (.bool true) T' := by
  match fs, h with
  | [f0, f1, f2], ⟨h0, h1, h2, _⟩ =>
    obtain ⟨o0, w0⟩ := arg_agg (C := api_HallC) api_HallC_ok (by rfl) (by kernel_rfl) (by kernel_rfl) (by kernel_rfl) (P := api_Hall.wf) (fun _ h => api_HallC_rng h) (h0 _ hty0)
    obtain ⟨o1, w1⟩ := arg_agg (C := api_DayC) api_DayC_ok (by rfl) (by kernel_rfl) (by kernel_rfl) (by kernel_rfl) (P := api_Day.wf) (fun _ h => api_DayC_rng h) (h1 _ hty1)
    obtain ⟨o2, w2⟩ := arg_agg (C := neweltop_LadenC) neweltop_LadenC_ok (by rfl) (by kernel_rfl) (by kernel_rfl) (by kernel_rfl) (P := neweltop_Laden.wf) (fun _ h => neweltop_LadenC_rng h) (h2 _ hty2)
    obtain ⟨N, hN⟩ := topCarries_true (Cod.dec api_HallC (lget (toCs (argOf (tiOf Tys 26) f0)))) (Cod.dec api_DayC (lget (toCs (argOf (tiOf Tys 30) f1)))) (Cod.dec neweltop_LadenC (lget (toCs (argOf (tiOf Tys 72) f2)))) w0 w1 w2
    refine law_of (P := E.P) (neweltop_TopCarries_cal_ok N) ?_
    have hok : neweltop_TopCarries_sp.ok (argsOf Tys [26, 30, 72] [f0, f1, f2]) [] = true := by
      show (true && (((rAgg api_HallC).ok (argOf (tiOf Tys 26) f0) && ((rAgg api_DayC).ok (argOf (tiOf Tys 30) f1) && ((rAgg neweltop_LadenC).ok (argOf (tiOf Tys 72) f2) && true)))) && true) = true
      simp only [o0, o1, o2, Bool.and_self]
    exact (callM_run hok okK).trans hN
set_option maxRecDepth 100000 in
theorem topCarries_lifted (os : Os) (started : os.Started) (H : Type) (enc : TypeId × Value → H) :
    ReturnsInHanded {} Try.checked os 5 .any (Rows.topCarriesSpec.pre6 enc Try.prog Try.f5 Rows.topCarriesRow.domain false) (Rows.topCarriesSpec.post enc Try.prog Try.f5 false true false false) := by
  refine returnsInHanded_of_change (C := Try.checked) Try.own started (by kernel_rfl) Try.func5
    (ChangeSpec.witness6 (enc := enc) (C := Try.checked) false ⟨#[], #[.agg #[.slice none 0 0, .slice none 0 0, .slice none 0 0, .int .i64 0], .agg #[.slice none 0 0, .slice none 0 0, .slice none 0 0], .agg #[.int .i64 0, .int .i64 0, .int .i64 0, .int .i64 0, .slice none 0 0, .int .i64 0, .int .i64 0, .int .i64 0, .int .i64 0, .int .i64 0, .int .i64 0, .int .i64 0, .int .i64 0, .int .i64 0, .int .i64 0, .int .i64 0, .int .i64 0, .int .i64 0, .int .i64 0, .int .i64 0, .int .i64 0, .int .i64 0]], []⟩ 8 (by kernel_rfl) (by kernel_rfl) (by kernel_rfl) (by kernel_rfl)) ?_
  intro W base args ds gs before hval0 hW hcnd _
  have hval : ∀ (j : Nat) t v, Try.f5.params[j]? = some t → args[j]? = some v → Value.okWide Try.prog W .any base t v := hval0
  have hW' := hW
  obtain ⟨p, q, hA0, hV, rfl, hfz, hnd⟩ := hW
  have hA : DataW.TrodAll enc Try.prog W 0 (fun _ => true) true Try.f5.params.toList args.toList ds p := hA0
  have hps : Try.f5.params.toList = [26, 30, 72] := by kernel_rfl
  rw [hps] at hA
  have hcall := law_below (P := Try.prog) hty (f := 5) (ts := [26, 30, 72]) (by kernel_rfl) topCarries_fn (fun g cs hg => by cases hg) (fun j t v ht hv => hval j t v (by rw [← Array.getElem?_toList, hps]; exact ht) (by rw [← Array.getElem?_toList]; exact hv)) hA
  have hargs : args.toList.toArray = args := by simp
  rw [hargs] at hcall
  refine hcall.mono ?_
  rintro e W' ⟨rfl, hb⟩
  refine ⟨_, rfl, law_post progOk (tb := 4) rfl (by rw [hps]; exact fun t ht => of_decide_eq_true (List.all_eq_true.1 (show ([26, 30, 72] : List TypeId).all (fun t => decide (t < Try.prog.types.size)) = true by kernel_rfl) t ht)) (by kernel_rfl) (by kernel_rfl) ?_ hW' hb⟩
  intro hl
  rw [hps] at hl
  match ds, hl with
  | [_, _, _], _ => rfl
theorem topCarries_holds : Rows.TopCarriesSaid :=
  OpenClaim.holds_of_wide 5 Try.f5 rfl rfl rfl rfl rfl rfl rfl ⟨rfl, rfl, rfl, rfl, rfl⟩ rfl rfl rfl rfl rfl (by kernel_rfl) Try.func5 (by kernel_rfl)
    (of_decide_eq_true (by kernel_rfl)) (by unfold Func.isWrapper; first | (rw [if_pos (by decide +kernel)]; kernel_rfl) | (rw [if_neg (by decide +kernel)]; exact ⟨rfl, rfl⟩))
    (fun os started H enc _ => topCarries_lifted os started H enc)
end Go.Proofs.Ytlikcijophbkbaa
