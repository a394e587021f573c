import Derived.Test.YtpillmoddoccfabDoorRows
import Derived.Test.YtpillmoddoccfabDoorWTopHalted
import Derived.Test.YtpillmoddoccfabDoorLay
import Derived.Test.YtpillmoddoccfabDoorCards
import Derived.Test.YtpillmoddoccfabDoorTie
import Derived.ProofKit
import Derived.SevenTiedAt
set_option linter.unusedVariables false
namespace Go.Proofs.YtpillmoddoccfabDoor
open Go.Sx Go.ChangeShapes Go.WideShapes Go.ChangeAt Go.RowKit
def tiOf (t : Go.Sx.Tys) (i : TypeId) : TI := match Go.Sx.Tys.get t i with
  | some x => x
  | Option.none => ⟨.other, 0, 0, []⟩
theorem hty0 : Go.Sx.Tys.get Tys 53 = some (tiOf Tys 53) := by kernel_rfl
theorem hty1 : Go.Sx.Tys.get Tys 59 = some (tiOf Tys 59) := by kernel_rfl
theorem hty2 : Go.Sx.Tys.get Tys 62 = some (tiOf Tys 62) := by kernel_rfl
theorem arg_sl2 {α : Type} {C : Cod α} {ti : TI} (hd : Go.Sx.isAgg ti.d = false) (hz : ckL ti.zero = .cons (.sl C.sg) .nil) {P : α → Prop} (hP : ∀ g, rng C.sg g 0 → P (C.dec g)) {f : Nat → SV} (h : rng (ckL ti.zero) f 0) :
    (rSl C).ok (argOf ti f) = true ∧ (lstC C (argOf ti f)).n ≤ maxLen ∧ ∀ i, i < (lstC C (argOf ti f)).n → P ((lstC C (argOf ti f)).f i) := by
  have e : argOf ti f = f 0 := by simp only [argOf, hd, cond_false]
  rw [e]
  rw [hz] at h
  obtain ⟨h1, _⟩ := h
  refine ⟨?_, rng_sl hP h1⟩
  obtain ⟨n, cell, h3, _⟩ := h1
  rw [h3]
  simp [rSl, ckOk, ckEq_refl]
theorem progOk : ProgOk Tryd.prog := ⟨by kernel_rfl, by kernel_rfl, by kernel_rfl⟩
theorem topHalted_fn (fs : List (Nat → SV)) (h : RngA Tys [53, 59, 62] fs) : ∃ T', FnOk Tryd.prog 4 (argsOf Tys [53, 59, 62] fs) [] 0 (.bool true) T' := by
  match fs, h with
  | [f0, f1, f2], ⟨h0, h1, h2, _⟩ =>
    obtain ⟨o0, w0⟩ := arg_agg (C := api_CircuitC) api_CircuitC_ok (by rfl) (by kernel_rfl) (by kernel_rfl) (by kernel_rfl) (P := api_Circuit.wf) (fun _ h => api_CircuitC_rng h) (h0 _ hty0)
    obtain ⟨o1, w1⟩ := arg_agg (C := api_MachineC) api_MachineC_ok (by rfl) (by kernel_rfl) (by kernel_rfl) (by kernel_rfl) (P := api_Machine.wf) (fun _ h => api_MachineC_rng h) (h1 _ hty1)
    obtain ⟨o2, w2⟩ := arg_agg (C := neweltop_InterlockC) neweltop_InterlockC_ok (by rfl) (by kernel_rfl) (by kernel_rfl) (by kernel_rfl) (P := neweltop_Interlock.wf) (fun _ h => neweltop_InterlockC_rng h) (h2 _ hty2)
    obtain ⟨N, hN⟩ := topHalted_true (Cod.dec api_CircuitC (lget (toCs (argOf (tiOf Tys 53) f0)))) (Cod.dec api_MachineC (lget (toCs (argOf (tiOf Tys 59) f1)))) (Cod.dec neweltop_InterlockC (lget (toCs (argOf (tiOf Tys 62) f2)))) w0 w1 w2
    refine law_of (P := E.P) (neweltop_TopHalted_cal_ok N) ?_
    have hok : neweltop_TopHalted_sp.ok (argsOf Tys [53, 59, 62] [f0, f1, f2]) [] = true := by
      show (true && (((rAgg api_CircuitC).ok (argOf (tiOf Tys 53) f0) && ((rAgg api_MachineC).ok (argOf (tiOf Tys 59) f1) && ((rAgg neweltop_InterlockC).ok (argOf (tiOf Tys 62) f2) && true)))) && true) = true
      simp only [o0, o1, o2, Bool.and_self]
    exact (callM_run hok okK).trans hN
set_option maxRecDepth 100000 in
theorem topHalted_lifted (os : Os) (started : os.Started) (H : Type) (enc : TypeId × Value → H) :
    ReturnsInHanded {} Tryd.checked os 4 .any (fun w args => (Rows.topHaltedSpec.pre enc Tryd.prog Tryd.f4 [] false w args ∧ laidMetH Tryd.prog laidL w) ∧ sizedMet enc Tryd.prog Tryd.f4 (OpenSpec.ofChange Rows.topHaltedSpec) false w args) (Rows.topHaltedSpec.post enc Tryd.prog Tryd.f4 false true false false) := by
  refine returnsInHanded_of_change_and (C := Tryd.checked) (X := fun w _ => laidMetH Tryd.prog laidL w) (fun _ _ _ hh h => h.of_heap hh) Tryd.own started (by kernel_rfl) Tryd.func4
    (ChangeSpec.witness_shaped (enc := enc) (C := Tryd.checked) (os := os) (X := fun w _ => laidMetH Tryd.prog laidL w) false (World.doorLaid Tryd.prog 24 os) #[.agg #[.int .i64 0, .slice none 0 0, .slice none 0 0], .agg #[.slice none 0 0, .slice none 0 0, .slice none 0 0, .slice none 0 0, .slice none 0 0], .agg #[.int .i64 0, .int .i64 0, .int .i64 0, .slice none 0 0]] 8 rfl (World.shaped_of_RefB (by kernel_rfl) (by kernel_rfl)) (by kernel_rfl) (by kernel_rfl) (by kernel_rfl) (door_met os _)) ?_
  intro W base args ds gs before hval0 hW hcnd _ hL _
  have hval : ∀ (j : Nat) t v, Tryd.f4.params[j]? = some t → args[j]? = some v → Value.okWide Tryd.prog W .any base t v := hval0
  have hW' := hW
  obtain ⟨p, q, hA0, hV, rfl, hfz, hnd⟩ := hW
  have hA : DataW.TrodAll enc Tryd.prog W 0 (fun _ => true) true Tryd.f4.params.toList args.toList ds p := hA0
  have hps : Tryd.f4.params.toList = [53, 59, 62] := by kernel_rfl
  rw [hps] at hA
  have hcall := law_below (P := Tryd.prog) hty (f := 4) (ts := [53, 59, 62]) (by kernel_rfl) topHalted_fn (gls_laid hL) (fun j t v ht hv => hval j t v (by rw [← Array.getElem?_toList, hps]; exact ht) (by rw [← Array.getElem?_toList]; exact hv)) hA
  have hargs : args.toList.toArray = args := by simp
  rw [hargs] at hcall
  refine hcall.mono ?_
  rintro e W' ⟨rfl, hb⟩
  refine ⟨_, rfl, law_post progOk (tb := 4) rfl (by rw [hps]; exact fun t ht => of_decide_eq_true (List.all_eq_true.1 (show ([53, 59, 62] : List TypeId).all (fun t => decide (t < Tryd.prog.types.size)) = true by kernel_rfl) t ht)) (by kernel_rfl) (by kernel_rfl) ?_ hW' hb⟩
  intro hl
  rw [hps] at hl
  match ds, hl with
  | [_, _, _], _ => rfl
theorem topHalted_rowholds : Rows.TopHaltedSaid :=
  OpenClaim.holds_of_wide 4 Tryd.f4 rfl rfl rfl rfl rfl rfl rfl ⟨rfl, rfl, rfl, rfl, rfl⟩ rfl rfl rfl rfl rfl (by kernel_rfl) Tryd.func4 (by kernel_rfl)
    (of_decide_eq_true (by kernel_rfl)) (by unfold Func.isWrapper; first | (rw [if_pos (by decide +kernel)]; kernel_rfl) | (rw [if_neg (by decide +kernel)]; exact ⟨rfl, rfl⟩))
    (fun os started H enc _ => topHalted_lifted os started H enc)
theorem topHalted_holds : Rows.TopHaltedCardSaid :=
  Claim7.holds_tied_plain_at .later [] [.data] true (true, "b974ce5b8ddbfaddcb13e7bc22cdb63db6bec4b69502accf4794989277c4d491") false
    topHalted_rowholds (fun _ h => by cases h) (by kernel_rfl) (fun _ h => by cases h) topHalted_row_tie rfl ⟨rfl, rfl⟩ (by kernel_rfl) rfl
    (fun f fn hf hfn => by
      obtain rfl : f = 4 := Option.some.inj ((show Tryd.prog.funcNamed "newel/neweltop.TopHalted" = some 4 by kernel_rfl).symm.trans hf) |>.symm
      obtain rfl : fn = Tryd.f4 := (Option.some.inj (Tryd.func4.symm.trans hfn)).symm
      exact ⟨by kernel_rfl, fun j t ht => by
        have hm : t ∈ ([53, 59, 62] : List TypeId) := by
          have := Array.mem_of_getElem? ht
          have hps : Tryd.f4.params.toList = [53, 59, 62] := by kernel_rfl
          rw [← hps]; exact Array.mem_toList_iff.2 this
        have hall : (([53, 59, 62] : List TypeId).all fun u => !Tryd.prog.wantsStandIn u) = true := by kernel_rfl
        exact (show Tryd.prog.wantsStandIn t = false by simpa using List.all_eq_true.1 hall t hm)⟩)
    (by kernel_rfl)
end Go.Proofs.YtpillmoddoccfabDoor
