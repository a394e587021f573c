import Derived.Test.YtlphgonhenegoaaRows
import Derived.Test.YtlphgonhenegoaaWCallsShares
import Derived.ProofKit
import Derived.SizedLaws
set_option linter.unusedVariables false
namespace Go.Proofs.Ytlphgonhenegoaa
open Go.Sx Go.ChangeShapes Go.WideShapes Go.ChangeAt Go.RowKit
theorem Try.own : ownKnob Try.prog.godebug = none := by kernel_rfl
def tiOf (t : Go.Sx.Tys) (i : TypeId) : TI := match Go.Sx.Tys.get t i with
  | some x => x
  | Option.none => ⟨.other, 0, 0, []⟩
theorem hty0 : Go.Sx.Tys.get Tys 54 = some (tiOf Tys 54) := by kernel_rfl
theorem hty1 : Go.Sx.Tys.get Tys 30 = some (tiOf Tys 30) := by kernel_rfl
theorem hty2 : Go.Sx.Tys.get Tys 37 = some (tiOf Tys 37) := by kernel_rfl
theorem arg_sl2 {α : Type} {C : Cod α} {ti : TI} (hd : Go.Sx.isAgg ti.d = false) (hz : ckL ti.zero = .cons (.sl C.sg) .nil) {P : α → Prop} (hP : ∀ g, rng C.sg g 0 → P (C.dec g)) {f : Nat → SV} (h : rng (ckL ti.zero) f 0) :
    (rSl C).ok (argOf ti f) = true ∧ (lstC C (argOf ti f)).n ≤ maxLen ∧ ∀ i, i < (lstC C (argOf ti f)).n → P ((lstC C (argOf ti f)).f i) := by
  have e : argOf ti f = f 0 := by simp only [argOf, hd, cond_false]
  rw [e]
  rw [hz] at h
  obtain ⟨h1, _⟩ := h
  refine ⟨?_, rng_sl hP h1⟩
  obtain ⟨n, cell, h3, _⟩ := h1
  rw [h3]
  simp [rSl, ckOk, ckEq_refl]
theorem trod_at {H : Type} {enc : TypeId × Value → H} {P : Program} {w : World} {spare : Nat → Bool} : ∀ {ts : List TypeId} {vs : List Value} {ds : List (DataW H)} {ps : List MemPlace}, DataW.TrodAll enc P w 0 spare true ts vs ds ps →
    ∀ (j : Nat) (t : TypeId) (v : Value), ts[j]? = some t → vs[j]? = some v → ∃ d p, ds[j]? = some d ∧ ∃ fuel, DataW.trod enc P w 0 spare true fuel t v.cells.toList = some (d, p)
  | [], [], _, _, _ => fun j t v h => by simp at h
  | _ :: _, _ :: _, _ :: _, _, ⟨p, q, ⟨n, h1⟩, h2, e⟩ => fun j t v ht hv => by
    cases j with
    | zero => simp at ht hv; subst ht hv; exact ⟨_, _, rfl, n, h1⟩
    | succ j => simpa using trod_at h2 j t v (by simpa using ht) (by simpa using hv)
  | [], _ :: _, _, _, _ => fun j t v h => by simp at h
  | _ :: _, [], _, _, _ => fun j t v _ h => by simp at h
  | _ :: _, _ :: _, [], _, h => h.elim
theorem progOk : ProgOk Try.prog := ⟨by kernel_rfl, by kernel_rfl, by kernel_rfl⟩
theorem callsShares_fn (fs : List (Nat → SV)) (h : RngA Tys [54, 30, 37] fs) (hbig : ∀ s, (argsOf Tys [54, 30, 37] fs)[2]? = some s → (lstC intC s).n ≤ 17592186044416) : ∃ T', FnOk Try.prog 11 (argsOf Tys [54, 30, 37] fs) [] 0 (.bool true) T' := by
  match fs, h with
  | [f0, f1, f2], ⟨h0, h1, h2, _⟩ =>
    obtain ⟨o0, w0, u0⟩ := arg_sl2 (C := api_CarC) (ti := tiOf Tys 54) (by kernel_rfl) (by kernel_rfl) (P := api_Car.wf) (fun _ h => api_CarC_rng h) (h0 _ hty0)
    obtain ⟨o1, w1, u1⟩ := arg_sl2 (C := api_PressC) (ti := tiOf Tys 30) (by kernel_rfl) (by kernel_rfl) (P := api_Press.wf) (fun _ h => api_PressC_rng h) (h1 _ hty1)
    obtain ⟨o2, w2, u2⟩ := arg_sl2 (C := intC) (ti := tiOf Tys 37) (by kernel_rfl) (by kernel_rfl) (P := i64) (fun _ h => rng_i64 h.1) (h2 _ hty2)
    obtain ⟨N, hN⟩ := callsShares_true (lstC api_CarC (argOf (tiOf Tys 54) f0)) (lstC api_PressC (argOf (tiOf Tys 30) f1)) (lstC intC (argOf (tiOf Tys 37) f2)) w0 u0 w1 u1 (hbig _ rfl)
    refine law_of (P := E.P) (newellaw07_CallsShares_cal_ok N) ?_
    have hok : newellaw07_CallsShares_sp.ok (argsOf Tys [54, 30, 37] [f0, f1, f2]) [] = true := by
      show (true && (((rSl api_CarC).ok (argOf (tiOf Tys 54) f0) && ((rSl api_PressC).ok (argOf (tiOf Tys 30) f1) && ((rSl intC).ok (argOf (tiOf Tys 37) f2) && true)))) && true) = true
      simp only [o0, o1, o2, Bool.and_self]
    exact (callM_run hok okK).trans hN
set_option maxRecDepth 100000 in
theorem callsShares_lifted (os : Os) (started : os.Started) (H : Type) (enc : TypeId × Value → H) :
    ReturnsInHanded {} Try.checked os 11 .any (Rows.callsSharesSpec.pre6 enc Try.prog Try.f11 Rows.callsSharesRow.domain false) (Rows.callsSharesSpec.post enc Try.prog Try.f11 false true false false) := by
  refine returnsInHanded_of_change_sized (C := Try.checked) Try.own started (by kernel_rfl) Try.func11
    (ChangeSpec.witness6 (enc := enc) (C := Try.checked) false ⟨#[], #[.slice none 0 0, .slice none 0 0, .slice none 0 0], []⟩ 8 (by kernel_rfl) (by kernel_rfl) (by kernel_rfl) (by kernel_rfl)) ?_
  intro W base args ds gs before hval0 hW hcnd hsized _
  have hval : ∀ (j : Nat) t v, Try.f11.params[j]? = some t → args[j]? = some v → Value.okWide Try.prog W .any base t v := hval0
  have hW' := hW
  obtain ⟨p, q, hA0, hV, rfl, hfz, hnd⟩ := hW
  have hA : DataW.TrodAll enc Try.prog W 0 (fun _ => true) true Try.f11.params.toList args.toList ds p := hA0
  have hps : Try.f11.params.toList = [54, 30, 37] := by kernel_rfl
  rw [hps] at hA
  have hvl : ∀ (j : Nat) t v, ([54, 30, 37] : List TypeId)[j]? = some t → args.toList[j]? = some v → Value.okWide Try.prog W .any base t v := fun j t v ht hv => hval j t v (by rw [← Array.getElem?_toList, hps]; exact ht) (by rw [← Array.getElem?_toList]; exact hv)
  obtain ⟨fs, hr, hd⟩ := lawArgs_den (P := Try.prog) hty [54, 30, 37] args.toList ds p (by kernel_rfl) hvl hA
  have hbig : ∀ s, (argsOf Tys [54, 30, 37] fs)[2]? = some s → (lstC intC s).n ≤ 17592186044416 := by
    intro s hs
    have hlen : (argsOf Tys [54, 30, 37] fs).length = args.toList.length := hd.1
    have hk : 2 < args.toList.length := by rw [← hlen]; exact (List.getElem?_eq_some_iff.1 hs).1
    obtain ⟨v, hv⟩ : ∃ v, args.toList[2]? = some v := ⟨_, List.getElem?_eq_getElem hk⟩
    have hden := hd.2 2 s v hs hv
    obtain ⟨d, ps, hdj, fuel, htr⟩ := trod_at hA 2 37 v rfl hv
    have hund : Try.prog.underlying 37 = some (.slice 3) := by kernel_rfl
    have hbytes : Try.checked.prog.bytesOf 3 = 8 := by kernel_rfl
    cases s with
    | sl k fl size n cl =>
      cases k with
      | any =>
        obtain ⟨aa, cap, U, hve, _⟩ := hden.sl_inv
        subst hve
        rcases DataW.trod_slice hund htr with ⟨hc, _⟩ | ⟨a, len, cap', elems, rest, n', _, hc, hx, _, _, _, hel, _⟩
        · have : n = 0 := by simp [Value.cells] at hc; omega
          show n ≤ _
          omega
        · have hn : n = len := by simp [Value.cells] at hc; omega
          injection hx with hx1 hx2
          have := sized_slice hsized (j := 2) (t := 37) (e := 3) (elems := elems.map (·.1)) (spare := rest.map (·.1)) (by rw [hps]; rfl) (by rw [List.getElem?_append_left (List.getElem?_eq_some_iff.1 hdj).1, hdj, hx1]) hund
          rw [hbytes] at this
          simp only [List.length_map] at this
          have h47 := reachBytes_lt
          show n ≤ _
          omega
      | nil =>
        have := hden.slnil_inv.1
        show n ≤ _
        omega
      | cap0 =>
        have := hden.slcap_inv.1
        show n ≤ _
        omega
    | _ => exact Nat.zero_le _
  have hcall : Calls Try.prog 11 args.toList.toArray W fun e w' => e = .returned (.bool true) ∧ Below W.heap.size W w' := by
    obtain ⟨T', _, hF⟩ := callsShares_fn fs hr hbig
    refine (hF (Cx.start W) args.toList (fun _ => rfl) (fun id => ⟨fun h => h.elim, fun h => absurd h (Nat.not_lt_zero _)⟩) (start_ok W (fun g cs hg => by cases hg)) hd).mono ?_
    rintro e w' ⟨v, c', rfl, rfl, _, _, hv, ht⟩
    rw [hv.bool_inv]
    exact ⟨rfl, ht.os, ht.tape, ht.output, ht.size, fun k hk => ht.keep k hk (fun id e h => by cases h)⟩
  have hargs : args.toList.toArray = args := by simp
  rw [hargs] at hcall
  refine hcall.mono ?_
  rintro e W' ⟨rfl, hb⟩
  refine ⟨_, rfl, law_post progOk (tb := 4) rfl (by rw [hps]; exact fun t ht => of_decide_eq_true (List.all_eq_true.1 (show ([54, 30, 37] : List TypeId).all (fun t => decide (t < Try.prog.types.size)) = true by kernel_rfl) t ht)) (by kernel_rfl) (by kernel_rfl) ?_ hW' hb⟩
  intro hl
  rw [hps] at hl
  match ds, hl with
  | [_, _, _], _ => rfl
theorem callsShares_holds : Rows.CallsSharesSaid :=
  OpenClaim.holds_of_wide 11 Try.f11 rfl rfl rfl rfl rfl rfl rfl ⟨rfl, rfl, rfl, rfl, rfl⟩ rfl rfl rfl rfl rfl (by kernel_rfl) Try.func11 (by kernel_rfl)
    (of_decide_eq_true (by kernel_rfl)) (by unfold Func.isWrapper; first | (rw [if_pos (by decide +kernel)]; kernel_rfl) | (rw [if_neg (by decide +kernel)]; exact ⟨rfl, rfl⟩))
    (fun os started H enc _ => callsShares_lifted os started H enc)
end Go.Proofs.Ytlphgonhenegoaa
