import Derived.Test.YtpillmoddoccfaaSiP6
set_option linter.unusedVariables false
set_option linter.unusedSimpArgs false
set_option linter.unusedSectionVars false
set_option maxHeartbeats 0
set_option maxRecDepth 100000
namespace Go.Proofs.Ytpillmoddoccfaa
namespace Si
open Go.Sx
open Classical
noncomputable section
variable {R : Type}
def brk : ByteArray := ⟨#[98, 114, 101, 97, 107, 115]⟩
def oneT (l : List (List SV)) (n : Nat) (fl : SK) : Arr (Arr pLi) := lst (lsC pLiC) 1 (litC [SV.sl SK.nil (CK.cons (CK.int IntKind.i64) (CK.cons (CK.int IntKind.i64) (CK.cons (CK.int IntKind.i64) (CK.cons CK.bool CK.nil)))) 4 0 (zeroC [SV.int IntKind.i64 0, SV.int IntKind.i64 0, SV.int IntKind.i64 0, SV.bool false])] [[SV.sl fl (CK.cons (CK.int IntKind.i64) (CK.cons (CK.int IntKind.i64) (CK.cons (CK.int IntKind.i64) (CK.cons CK.bool CK.nil)))) 4 n (litC [SV.int IntKind.i64 0, SV.int IntKind.i64 0, SV.int IntKind.i64 0, SV.bool false] l)]])
def cA : Arr (Arr pLi) := oneT [] 0 SK.any
def cB : Arr (Arr pLi) := oneT [[SV.int IntKind.i64 1, SV.int IntKind.i64 0, SV.int IntKind.i64 0, SV.bool false]] 1 SK.any
def cF : Arr (Arr pLi) := oneT [[SV.int IntKind.i64 1, SV.int IntKind.i64 0, SV.int IntKind.i64 0, SV.bool true]] 1 SK.any
structure DM (W K : Nat) (m : pMa) (wide : Arr Int) : Prop where
  i : m.Inputs.Is 1 (fun _ => brk)
  o : m.Outputs.n = 0
  c : m.Counters.n = 0
  s : m.States.Is (2 * W + K + 1) stF
  r : m.Rules.Is (W + 2 * K + 2 * W) (ruleF W K cA cB cF)
  w : wide.Is (2 * W + K + 1) (wideF W K)
def I1 : Arr ByteArray := lst strC (1 : Nat) (litC [SV.str (ByteArray.mk (Array.mk []))] [[SV.str brk]])
def O0 : Arr ByteArray := lst strC (0 : Nat) (zeroC [SV.str (ByteArray.mk (Array.mk []))])
def C0 : Arr pCo := lst pCoC (0 : Nat) (zeroC [SV.str (ByteArray.mk (Array.mk [])), SV.int IntKind.i64 (0 : Int)])
theorem doorway_eq {N : Nat} (hN : 100 ≤ N) {W K : Nat} {d : pDo} (hW : d.Wide = (W : Int)) (hK : d.Wait = (K : Int)) (h1 : 1 ≤ W) (h2 : 2 * W + K ≤ 11) :
    ∃ (b1 b2 b3 : Bool) (s : Arr pSt) (r : Arr pRu) (w : Arr Int), DM W K ⟨I1, O0, C0, s, r⟩ w ∧ ∀ (k : Bool → Bool → Arr ByteArray → Bool → Arr ByteArray → Bool → Arr pCo → Bool → Arr pSt → Bool → Arr pRu → Bool → Arr Int → Option R), nT_doorway N d k = k true false I1 true O0 true C0 b1 s b2 r b3 w := by
  obtain ⟨b3, b1, w, s, gw, gs, g8⟩ := dw_l8 (R := R) hW hK h1 h2 N (2 * W + K + 1) 0 N true true (lst intC (0 : Nat) (zeroC [SV.int IntKind.i64 (0 : Int)])) (lst pStC (0 : Nat) (zeroC [SV.str (ByteArray.mk (Array.mk [])), SV.int IntKind.i64 (0 : Int)])) (by omega) (by omega) Arr.Is.zero Arr.Is.zero
  obtain ⟨x1, r1, gr1, g29⟩ := dw_l29 (R := R) hW hK h1 h2 cA cB cF N W 0 N true (lst pRuC (0 : Nat) (zeroC [SV.int IntKind.i64 (0 : Int), SV.int IntKind.i64 (0 : Int), SV.sl SK.nil (CK.cons (CK.sl (CK.cons (CK.int IntKind.i64) (CK.cons (CK.int IntKind.i64) (CK.cons (CK.int IntKind.i64) (CK.cons CK.bool CK.nil))))) CK.nil) (1 : Nat) (0 : Nat) (zeroC [SV.sl SK.nil (CK.cons (CK.int IntKind.i64) (CK.cons (CK.int IntKind.i64) (CK.cons (CK.int IntKind.i64) (CK.cons CK.bool CK.nil)))) (4 : Nat) (0 : Nat) (zeroC [SV.int IntKind.i64 (0 : Int), SV.int IntKind.i64 (0 : Int), SV.int IntKind.i64 (0 : Int), SV.bool false])]), SV.sl SK.nil (CK.cons (CK.int IntKind.i64) (CK.cons (CK.int IntKind.i64) CK.nil)) (2 : Nat) (0 : Nat) (zeroC [SV.int IntKind.i64 (0 : Int), SV.int IntKind.i64 (0 : Int)])])) (by omega) (by omega) Arr.Is.zero
  obtain ⟨x2, r2, gr2, g36⟩ := dw_l36 (R := R) hW hK h1 h2 cA cB cF N K 0 N x1 r1 (by omega) (by omega) gr1
  obtain ⟨x3, r3, gr3, g43⟩ := dw_l43 (R := R) hW hK h1 h2 cA cB cF N W 0 N x2 r2 (by omega) (by omega) gr2
  refine ⟨b1, x3, b3, s, r3, w, ⟨⟨rfl, fun i hi => by
    have h0 : i = 0 := Nat.lt_one_iff.1 hi
    rw [h0]; rfl⟩, rfl, rfl, gs, gr3, gw⟩, fun k => ?_⟩
  have e1 : w64 (2 * (W : Int)) = ((2 * W : Nat) : Int) := by rw [w64_eq (by omega) (by omega)]; omega
  have e2 : w64 (((2 * W : Nat) : Int) + (K : Int)) = ((2 * W + K : Nat) : Int) := by rw [w64_eq (by omega) (by omega)]; omega
  have e3 : w64 (((2 * W + K : Nat) : Int) + 1) = ((2 * W + K + 1 : Nat) : Int) := by rw [w64_eq (by omega) (by omega)]; omega
  have e4 : w64 (((2 * W + K + 1 : Nat) : Int) - 1) = ((2 * W + K : Nat) : Int) := by rw [w64_eq (by omega) (by omega)]; omega
  have e5 : w64 ((W : Int) - 1) = (W : Int) - 1 := w64_eq (by omega) (by omega)
  have e6 : w64 ((W : Int) + (K : Int)) = (W : Int) + (K : Int) := w64_eq (by omega) (by omega)
  have e7 : w64 ((W : Int) + (K : Int) - 1) = (W : Int) + (K : Int) - 1 := w64_eq (by omega) (by omega)
  have e8 : w64 ((W : Int) + (K : Int) - 1 + (W : Int)) = ((2 * W + K : Nat) : Int) - 1 := by rw [w64_eq (by omega) (by omega)]; omega
  have e9 : w64 ((W : Int) - 1 + (K : Int)) = (W : Int) + (K : Int) - 1 := by rw [w64_eq (by omega) (by omega)]; omega
  have e10 : w64 ((W : Int) + (K : Int) - 1 - 1) = (W : Int) + (K : Int) - 2 := by rw [w64_eq (by omega) (by omega)]; omega
  have e11 : decide (((2 * W + K + 1 : Nat) : Int) > 12) = false := by simp; omega
  rw [nT_doorway_def]
  unfold nT_doorway_m
  simp only [hW, hK, e1, e2, e3, e4, e5, e6, e7, e8, e9, e10, e11, cond_false]
  refine Eq.trans (g8 _ _ _ _ _ _ _ _ _ _ _ _ _ _ _ _ _ _ _) ?_
  by_cases c1 : 0 < K
  · have d1 : decide ((K : Int) > 0) = true := by simp; omega
    have o1 : opE W K = (W : Int) + (K : Int) - 1 := by unfold opE; rw [if_pos c1]
    rw [o1] at g29 g43
    by_cases c2 : 1 < K
    · have d2 : decide ((K : Int) > 1) = true := by simp; omega
      have a1 : agE W K = (W : Int) + (K : Int) - 2 := by unfold agE; rw [if_pos c2]
      rw [a1] at g36 g43
      simp only [d1, d2, cond_true]
      refine Eq.trans (g29 _ _ _ _ _ _ _ _ _ _ _ _ _ _ _ _ _ _ _ _ _ _ _ _ _ _) ?_
      refine Eq.trans (g36 _ _ _ _ _ _ _ _ _ _ _ _ _ _ _ _ _ _ _ _ _ _ _ _ _) ?_
      exact g43 _ _ _ _ _ _ _ _ _ _ _ _ _ _ _ _ _ _ _ _ _
    · have d2 : decide ((K : Int) > 1) = false := by simp; omega
      have a1 : agE W K = ((2 * W + K : Nat) : Int) - 1 := by unfold agE; rw [if_neg c2]; omega
      rw [a1] at g36 g43
      simp only [d1, d2, cond_true, cond_false]
      refine Eq.trans (g29 _ _ _ _ _ _ _ _ _ _ _ _ _ _ _ _ _ _ _ _ _ _ _ _ _ _) ?_
      refine Eq.trans (g36 _ _ _ _ _ _ _ _ _ _ _ _ _ _ _ _ _ _ _ _ _ _ _ _ _) ?_
      exact g43 _ _ _ _ _ _ _ _ _ _ _ _ _ _ _ _ _ _ _ _ _
  · have d1 : decide ((K : Int) > 0) = false := by simp; omega
    have d2 : decide ((K : Int) > 1) = false := by simp; omega
    have o1 : opE W K = ((2 * W + K : Nat) : Int) - 1 := by unfold opE; rw [if_neg c1]; omega
    have a1 : agE W K = ((2 * W + K : Nat) : Int) - 1 := by unfold agE; rw [if_neg (by omega)]; omega
    rw [o1] at g29 g43
    rw [a1] at g36 g43
    simp only [d1, d2, cond_true, cond_false]
    refine Eq.trans (g29 _ _ _ _ _ _ _ _ _ _ _ _ _ _ _ _ _ _ _ _ _ _ _ _ _ _) ?_
    refine Eq.trans (g36 _ _ _ _ _ _ _ _ _ _ _ _ _ _ _ _ _ _ _ _ _ _ _ _ _) ?_
    exact g43 _ _ _ _ _ _ _ _ _ _ _ _ _ _ _ _ _ _ _ _ _
theorem doorway_no {N : Nat} {d : pDo} (hd : Li.VD d) (h : ¬ 2 * d.Wide + d.Wait ≤ 11) :
    ∃ (c1 c2 c3 c4 c5 c6 : Bool) (i o : Arr ByteArray) (c : Arr pCo) (s : Arr pSt) (r : Arr pRu) (w : Arr Int), ∀ (k : Bool → Bool → Arr ByteArray → Bool → Arr ByteArray → Bool → Arr pCo → Bool → Arr pSt → Bool → Arr pRu → Bool → Arr Int → Option R), nT_doorway N d k = k false c1 i c2 o c3 c c4 s c5 r c6 w := by
  obtain ⟨w1, w2, t1, t2⟩ := hd
  refine ⟨true, true, true, true, true, true, O0, O0, C0, lst pStC (0 : Nat) (zeroC [SV.str (ByteArray.mk (Array.mk [])), SV.int IntKind.i64 (0 : Int)]), (lst pRuC (0 : Nat) (zeroC [SV.int IntKind.i64 (0 : Int), SV.int IntKind.i64 (0 : Int), SV.sl SK.nil (CK.cons (CK.sl (CK.cons (CK.int IntKind.i64) (CK.cons (CK.int IntKind.i64) (CK.cons (CK.int IntKind.i64) (CK.cons CK.bool CK.nil))))) CK.nil) (1 : Nat) (0 : Nat) (zeroC [SV.sl SK.nil (CK.cons (CK.int IntKind.i64) (CK.cons (CK.int IntKind.i64) (CK.cons (CK.int IntKind.i64) (CK.cons CK.bool CK.nil)))) (4 : Nat) (0 : Nat) (zeroC [SV.int IntKind.i64 (0 : Int), SV.int IntKind.i64 (0 : Int), SV.int IntKind.i64 (0 : Int), SV.bool false])]), SV.sl SK.nil (CK.cons (CK.int IntKind.i64) (CK.cons (CK.int IntKind.i64) CK.nil)) (2 : Nat) (0 : Nat) (zeroC [SV.int IntKind.i64 (0 : Int), SV.int IntKind.i64 (0 : Int)])])), lst intC (0 : Nat) (zeroC [SV.int IntKind.i64 (0 : Int)]), fun k => ?_⟩
  rw [nT_doorway_def]
  unfold nT_doorway_m
  rw [w64_eq (n := 2 * d.Wide) (by omega) (by omega), w64_eq (n := 2 * d.Wide + d.Wait) (by omega) (by omega), w64_eq (n := 2 * d.Wide + d.Wait + 1) (by omega) (by omega)]
  have : decide (2 * d.Wide + d.Wait + 1 > 12) = true := by simp; omega
  simp only [this, cond_true]
  rfl
theorem litB_ok {m : pMa} (h : m.Inputs.n = 1) (x : Bool) : litP m ⟨1, 0, 0, x⟩ := .inl ⟨rfl, by rw [h]; exact ⟨Int.le_refl _, Int.le_refl _⟩, rfl⟩
theorem cond_ok {m : pMa} (h : m.Inputs.n = 1) : condP m cA ∧ condP m cB ∧ condP m cF := by
  refine ⟨⟨by show (1 : Nat) ≤ 6; omega, fun i hi => ?_⟩, ⟨by show (1 : Nat) ≤ 6; omega, fun i hi => ?_⟩, ⟨by show (1 : Nat) ≤ 6; omega, fun i hi => ?_⟩⟩
  · have hi : i < 1 := hi
    obtain rfl : i = 0 := by omega
    exact ⟨by show (0 : Nat) ≤ 6; omega, fun j hj => absurd (show j < 0 from hj) (by omega)⟩
  · have hi : i < 1 := hi
    obtain rfl : i = 0 := by omega
    refine ⟨by show (1 : Nat) ≤ 6; omega, fun j hj => ?_⟩
    have hj : j < 1 := hj
    obtain rfl : j = 0 := by omega
    exact litB_ok h false
  · have hi : i < 1 := hi
    obtain rfl : i = 0 := by omega
    refine ⟨by show (1 : Nat) ≤ 6; omega, fun j hj => ?_⟩
    have hj : j < 1 := hj
    obtain rfl : j = 0 := by omega
    exact litB_ok h true
end
end Si
end Go.Proofs.Ytpillmoddoccfaa
