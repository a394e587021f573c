import Derived.Test.YtckkodiefpdmhaaDoorRows
import Derived.Test.YtckkodiefpdmhaaDoorWShaftLeast
import Derived.Test.YtckkodiefpdmhaaDoorLay
import Derived.Test.YtckkodiefpdmhaaDoorCards
import Derived.Test.YtckkodiefpdmhaaDoorTie
import Derived.ProofKit
import Derived.SevenTiedAt
set_option linter.unusedVariables false
namespace Go.Proofs.YtckkodiefpdmhaaDoor
open Go.Sx Go.ChangeShapes Go.WideShapes Go.ChangeAt Go.RowKit
def tiOf (t : Go.Sx.Tys) (i : TypeId) : TI := match Go.Sx.Tys.get t i with
  | some x => x
  | Option.none => ⟨.other, 0, 0, []⟩
theorem hty0 : Go.Sx.Tys.get Tys 41 = some (tiOf Tys 41) := by kernel_rfl
theorem hty1 : Go.Sx.Tys.get Tys 32 = some (tiOf Tys 32) := by kernel_rfl
theorem arg_sl2 {α : Type} {C : Cod α} {ti : TI} (hd : Go.Sx.isAgg ti.d = false) (hz : ckL ti.zero = .cons (.sl C.sg) .nil) {P : α → Prop} (hP : ∀ g, rng C.sg g 0 → P (C.dec g)) {f : Nat → SV} (h : rng (ckL ti.zero) f 0) :
    (rSl C).ok (argOf ti f) = true ∧ (lstC C (argOf ti f)).n ≤ maxLen ∧ ∀ i, i < (lstC C (argOf ti f)).n → P ((lstC C (argOf ti f)).f i) := by
  have e : argOf ti f = f 0 := by simp only [argOf, hd, cond_false]
  rw [e]
  rw [hz] at h
  obtain ⟨h1, _⟩ := h
  refine ⟨?_, rng_sl hP h1⟩
  obtain ⟨n, cell, h3, _⟩ := h1
  rw [h3]
  simp [rSl, ckOk, ckEq_refl]
theorem progOk : ProgOk Tryd.prog := ⟨by kernel_rfl, by kernel_rfl, by kernel_rfl⟩
theorem shaftLeast_fn (fs : List (Nat → SV)) (h : RngA Tys [41, 32] fs) : ∃ T', FnOk Tryd.prog 14 (argsOf Tys [41, 32] fs) [] 0 (.bool true) T' := by
  match fs, h with
  | [f0, f1], ⟨h0, h1, _⟩ =>
    obtain ⟨o0, w0⟩ := arg_agg (C := api_WorksC) api_WorksC_ok (by rfl) (by kernel_rfl) (by kernel_rfl) (by kernel_rfl) (P := api_Works.wf) (fun _ h => api_WorksC_rng h) (h0 _ hty0)
    obtain ⟨o1, w1, u1⟩ := arg_sl2 (C := intC) (ti := tiOf Tys 32) (by kernel_rfl) (by kernel_rfl) (P := i64) (fun _ h => rng_i64 h.1) (h1 _ hty1)
    obtain ⟨N, hN⟩ := shaftLeast_true (Cod.dec api_WorksC (lget (toCs (argOf (tiOf Tys 41) f0)))) (lstC intC (argOf (tiOf Tys 32) f1)) w0 w1 u1
    refine law_of (P := E.P) (newellaw09_ShaftLeast_cal_ok N) ?_
    have hok : newellaw09_ShaftLeast_sp.ok (argsOf Tys [41, 32] [f0, f1]) [] = true := by
      show (true && (((rAgg api_WorksC).ok (argOf (tiOf Tys 41) f0) && ((rSl intC).ok (argOf (tiOf Tys 32) f1) && true))) && true) = true
      simp only [o0, o1, Bool.and_self]
    exact (callM_run hok okK).trans hN
set_option maxRecDepth 100000 in
theorem shaftLeast_lifted (os : Os) (started : os.Started) (H : Type) (enc : TypeId × Value → H) :
    ReturnsInHanded {} Tryd.checked os 14 .any (fun w args => (Rows.shaftLeastSpec.pre enc Tryd.prog Tryd.f14 [] false w args ∧ laidMetH Tryd.prog laidL w) ∧ sizedMet enc Tryd.prog Tryd.f14 (OpenSpec.ofChange Rows.shaftLeastSpec) false w args) (Rows.shaftLeastSpec.post enc Tryd.prog Tryd.f14 false true false false) := by
  refine returnsInHanded_of_change_and (C := Tryd.checked) (X := fun w _ => laidMetH Tryd.prog laidL w) (fun _ _ _ hh h => h.of_heap hh) Tryd.own started (by kernel_rfl) Tryd.func14
    (ChangeSpec.witness_shaped (enc := enc) (C := Tryd.checked) (os := os) (X := fun w _ => laidMetH Tryd.prog laidL w) false (World.doorLaid Tryd.prog 28 os) #[.agg #[.int .i64 0, .slice none 0 0, .slice none 0 0, .int .i64 0, .int .i64 0], .slice none 0 0] 8 rfl (World.shaped_of_RefB (by kernel_rfl) (by kernel_rfl)) (by kernel_rfl) (by kernel_rfl) (by kernel_rfl) (door_met os _)) ?_
  intro W base args ds gs before hval0 hW hcnd _ hL _
  have hval : ∀ (j : Nat) t v, Tryd.f14.params[j]? = some t → args[j]? = some v → Value.okWide Tryd.prog W .any base t v := hval0
  have hW' := hW
  obtain ⟨p, q, hA0, hV, rfl, hfz, hnd⟩ := hW
  have hA : DataW.TrodAll enc Tryd.prog W 0 (fun _ => true) true Tryd.f14.params.toList args.toList ds p := hA0
  have hps : Tryd.f14.params.toList = [41, 32] := by kernel_rfl
  rw [hps] at hA
  have hcall := law_below (P := Tryd.prog) hty (f := 14) (ts := [41, 32]) (by kernel_rfl) shaftLeast_fn (gls_laid hL) (fun j t v ht hv => hval j t v (by rw [← Array.getElem?_toList, hps]; exact ht) (by rw [← Array.getElem?_toList]; exact hv)) hA
  have hargs : args.toList.toArray = args := by simp
  rw [hargs] at hcall
  refine hcall.mono ?_
  rintro e W' ⟨rfl, hb⟩
  refine ⟨_, rfl, law_post progOk (tb := 4) rfl (by rw [hps]; exact fun t ht => of_decide_eq_true (List.all_eq_true.1 (show ([41, 32] : List TypeId).all (fun t => decide (t < Tryd.prog.types.size)) = true by kernel_rfl) t ht)) (by kernel_rfl) (by kernel_rfl) ?_ hW' hb⟩
  intro hl
  rw [hps] at hl
  match ds, hl with
  | [_, _], _ => rfl
theorem shaftLeast_rowholds : Rows.ShaftLeastSaid :=
  OpenClaim.holds_of_wide 14 Tryd.f14 rfl rfl rfl rfl rfl rfl rfl ⟨rfl, rfl, rfl, rfl, rfl⟩ rfl rfl rfl rfl rfl (by kernel_rfl) Tryd.func14 (by kernel_rfl)
    (of_decide_eq_true (by kernel_rfl)) (by unfold Func.isWrapper; first | (rw [if_pos (by decide +kernel)]; kernel_rfl) | (rw [if_neg (by decide +kernel)]; exact ⟨rfl, rfl⟩))
    (fun os started H enc _ => shaftLeast_lifted os started H enc)
theorem shaftLeast_holds : Rows.ShaftLeastCardSaid :=
  Claim7.holds_tied_plain_at .later [] [.widerDeep, .data] true (true, "4809771208100514c0bfea1b17d8d5b3a7fabfda0a0fe0ca29c0a580a8d0936c") false
    shaftLeast_rowholds (fun _ h => by cases h) (by kernel_rfl) (fun _ h => by cases h) shaftLeast_row_tie rfl ⟨rfl, rfl⟩ (by kernel_rfl) rfl
    (fun f fn hf hfn => by
      obtain rfl : f = 14 := Option.some.inj ((show Tryd.prog.funcNamed "newel/newellaw09.ShaftLeast" = some 14 by kernel_rfl).symm.trans hf) |>.symm
      obtain rfl : fn = Tryd.f14 := (Option.some.inj (Tryd.func14.symm.trans hfn)).symm
      exact ⟨by kernel_rfl, fun j t ht => by
        have hm : t ∈ ([41, 32] : List TypeId) := by
          have := Array.mem_of_getElem? ht
          have hps : Tryd.f14.params.toList = [41, 32] := by kernel_rfl
          rw [← hps]; exact Array.mem_toList_iff.2 this
        have hall : (([41, 32] : List TypeId).all fun u => !Tryd.prog.wantsStandIn u) = true := by kernel_rfl
        exact (show Tryd.prog.wantsStandIn t = false by simpa using List.all_eq_true.1 hall t hm)⟩)
    (by kernel_rfl)
end Go.Proofs.YtckkodiefpdmhaaDoor
