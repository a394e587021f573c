import Derived.Test.YtpillmoddoccfaaLiQ1
set_option linter.unusedVariables false
set_option linter.unusedSimpArgs false
set_option linter.unusedSectionVars false
set_option maxHeartbeats 0
set_option maxRecDepth 100000
namespace Go.Proofs.Ytpillmoddoccfaa
namespace Si
open Go.Sx
open Classical
noncomputable section
variable {R : Type}
theorem push2 {α : Type} {C : Cod α} (hC : ∀ x, C.dec (lget (C.enc x)) = x) {a : Arr α} {n : Nat} {g : Nat → α} (h : a.Is n g) {z e e' : List SV} (he : C.dec (lget e) = g n) (he' : C.dec (lget e') = g (n + 1)) :
    (lst C (a.n + 2) (catC a.n (Cod.cell C a.f) (litC z [e, e']))).Is (n + 2) g where
  len := by simp [lst, h.len]
  get := fun i hi => by
    simp only [lst]
    by_cases hlt : i < n
    · have : (fun j => catC a.n (Cod.cell C a.f) (litC z [e, e']) i j) = lget (C.enc (a.f i)) := by
        funext j
        have : Nat.blt i a.n = true := by rw [Nat.blt_eq, h.len]; exact hlt
        simp only [catC, this, cond_true, Cod.cell]
      show C.dec (fun j => catC a.n (Cod.cell C a.f) (litC z [e, e']) i j) = g i
      rw [this, hC, h.get i hlt]
    · by_cases hi2 : i = n
      · subst hi2
        have : (fun j => catC a.n (Cod.cell C a.f) (litC z [e, e']) i j) = lget e := by
          funext j
          have h1 : Nat.blt i i = false := by
            cases hb : Nat.blt i i
            · rfl
            · rw [Nat.blt_eq] at hb; omega
          simp only [catC, litC, h.len, Nat.sub_self, h1, cond_false]
          rfl
        show C.dec (fun j => catC a.n (Cod.cell C a.f) (litC z [e, e']) i j) = g i
        rw [this, he]
      · have hi3 : i = n + 1 := by omega
        subst hi3
        have : (fun j => catC a.n (Cod.cell C a.f) (litC z [e, e']) (n + 1) j) = lget e' := by
          funext j
          have h1 : Nat.blt (n + 1) n = false := by
            cases hb : Nat.blt (n + 1) n
            · rfl
            · rw [Nat.blt_eq] at hb; omega
          simp only [catC, litC, h.len, Nat.add_sub_cancel_left, h1, cond_false]
          rfl
        show C.dec (fun j => catC a.n (Cod.cell C a.f) (litC z [e, e']) (n + 1) j) = g (n + 1)
        rw [this, he']
def nmS (i : Nat) : ByteArray := ⟨#[115, UInt8.ofNat (97 + i)]⟩
theorem letter_eq (N : Nat) {i : Nat} (hi : i < 12) (k : ByteArray → Option R) : nT_letter N ⟨#[115]⟩ (i : Int) k = k (nmS i) := by
  rw [nT_letter_def]
  unfold nT_letter_m
  have key : ∀ j : Fin 12, Nat.ble (ByteArray.size ⟨#[115]⟩ + ByteArray.size (Utf8.encode (IntKind.wrap IntKind.i32 (w64 (97 + (j.val : Int)))))) 1073741824 = true ∧
      Array.toList (ByteArray.data ⟨#[115]⟩) ++ Array.toList (ByteArray.data (Utf8.encode (IntKind.wrap IntKind.i32 (w64 (97 + (j.val : Int)))))) = (nmS j.val).data.toList := by decide +kernel
  obtain ⟨h1, h2⟩ := key ⟨i, hi⟩
  simp only at h1 h2
  show (bif Nat.ble (ByteArray.size ⟨#[115]⟩ + ByteArray.size (Utf8.encode (IntKind.wrap IntKind.i32 (w64 (97 + (i : Int)))))) 1073741824 then k (ByteArray.mk (Array.mk (Array.toList (ByteArray.data ⟨#[115]⟩) ++ Array.toList (ByteArray.data (Utf8.encode (IntKind.wrap IntKind.i32 (w64 (97 + (i : Int))))))))) else Option.none) = _
  rw [h1, h2]
  rfl
def wideF (W K : Nat) (i : Nat) : Int := if i < W then i else if i < W + K then W else if i < 2 * W + K then (i : Int) - (W + K - 1) else 0
def stF (i : Nat) : pSt := ⟨nmS i, 0⟩
def SE : Arr api_Set := lst api_SetC 0 (zeroC [SV.int IntKind.i64 0, SV.int IntKind.i64 0])
def rl (f t : Int) (w : Arr (Arr pLi)) : pRu := ⟨f, t, w, SE⟩
def opE (W K : Nat) : Int := if 0 < K then W + K - 1 else 2 * W + K - 1
def agE (W K : Nat) : Int := if 1 < K then W + K - 2 else 2 * W + K - 1
def lessE (W K : Nat) (a : Nat) : Int := if 1 < a then W + K + a - 2 else 2 * W + K
def backE (W K : Nat) (a : Nat) : Int := if a + 1 = W then opE W K else if a = W then (if 0 < K then agE W K else lessE W K a) else a + 1
def rule1 (W K : Nat) (A : Arr (Arr pLi)) (i : Nat) : pRu := rl i (if i + 1 = W then opE W K else i + 1) A
def rule2 (W K : Nat) (w : Arr (Arr pLi)) (k : Nat) (br : Bool) : pRu := rl (W - 1 + k) (if br then agE W K else if 1 < k then W + k - 2 else 2 * W + K - 1) w
def rule3 (W K : Nat) (w : Arr (Arr pLi)) (a : Nat) (br : Bool) : pRu := rl (W + K - 1 + a) (if br then backE W K a else lessE W K a) w
def ruleF (W K : Nat) (A B F : Arr (Arr pLi)) (i : Nat) : pRu :=
  if i < W then rule1 W K A i
  else if i < W + 2 * K then (if (i - W) % 2 = 0 then rule2 W K B ((i - W) / 2 + 1) true else rule2 W K F ((i - W) / 2 + 1) false)
  else (if (i - (W + 2 * K)) % 2 = 0 then rule3 W K B ((i - (W + 2 * K)) / 2 + 1) true else rule3 W K F ((i - (W + 2 * K)) / 2 + 1) false)
section
variable {W K : Nat} {d : pDo} (hW : d.Wide = (W : Int)) (hK : d.Wait = (K : Int)) (h1 : 1 ≤ W) (h2 : 2 * W + K ≤ 11)
include hW hK h1 h2
theorem dw_l8 (N : Nat) : ∀ (q i n : Nat) (b b' : Bool) (a : Arr Int) (s : Arr pSt), i + q = 2 * W + K + 1 → q < n → a.Is i (wideF W K) → s.Is i stF →
    ∃ (b2 b2' : Bool) (a2 : Arr Int) (s2 : Arr pSt), a2.Is (2 * W + K + 1) (wideF W K) ∧ s2.Is (2 * W + K + 1) stF ∧ ∀ (x22 : Bool) (y23 : Arr ByteArray) (x24 : Bool) (y25 : Arr ByteArray) (x26 : Bool) (y27 : Arr pCo) (x28 : Bool) (y29 : Arr pSt) (x30 : Bool) (y31 : Arr pRu) (x32 : Bool) (y33 : Arr ByteArray) (x34 : Bool) (y35 : Arr ByteArray) (x36 : Bool) (y37 : Arr pCo) (x40 : Bool) (y41 : Arr pRu) (k0 : Bool → Arr Int → Bool → Arr pSt → Option R),
      nT_doorway_l8 N n ((2 * W + K + 1 : Nat) : Int) 0 (W - 1) (W + K - 1) ((2 * W + K : Nat) : Int) (i : Int) d b a x22 y23 x24 y25 x26 y27 x28 y29 x30 y31 x32 y33 x34 y35 x36 y37 b' s x40 y41 k0 = k0 b2 a2 b2' s2 := by
  intro q
  induction q with
  | zero =>
    intro i n b b' a s e hn ha hs
    obtain ⟨n, rfl⟩ : ∃ m, n = m + 1 := ⟨n - 1, by omega⟩
    have : i = 2 * W + K + 1 := by omega
    subst this
    refine ⟨b, b', a, s, ha, hs, fun x22 y23 x24 y25 x26 y27 x28 y29 x30 y31 x32 y33 x34 y35 x36 y37 x40 y41 k0 => ?_⟩
    unfold nT_doorway_l8 nT_doorway_b8
    simp only [ltF (Nat.le_refl _), cond_false]
  | succ q ih =>
    intro i n b b' a s e hn ha hs
    obtain ⟨n, rfl⟩ : ∃ m, n = m + 1 := ⟨n - 1, by omega⟩
    have r1 : room (a.n + 1) = true := room_of (by rw [ha.len]; omega)
    have r2 : room (s.n + 1) = true := room_of (by rw [hs.len]; omega)
    have e1 : w64 ((W : Int) + (K : Int)) = ((W + K : Nat) : Int) := by rw [w64_eq (by omega) (by omega)]; omega
    have e2 : w64 ((i : Int) - ((W : Int) + K - 1)) = (i : Int) - (W + K - 1) := w64_eq (by omega) (by omega)
    have ps := hs.push (C := pStC) (fun _ => rfl) (z := [SV.str (ByteArray.mk (Array.mk [])), SV.int IntKind.i64 (0 : Int)]) (e := [SV.str (nmS i), SV.int IntKind.i64 (0 : Int)]) rfl
    have pa := ha.push_int (z := [SV.int IntKind.i64 (0 : Int)]) (v := wideF W K i) rfl
    obtain ⟨b2, b2', a2, s2, g1, g2, g3⟩ := ih (i + 1) n false false _ _ (by omega) (by omega) pa ps
    refine ⟨b2, b2', a2, s2, g1, g2, fun x22 y23 x24 y25 x26 y27 x28 y29 x30 y31 x32 y33 x34 y35 x36 y37 x40 y41 k0 => ?_⟩
    refine Eq.trans ?_ (g3 x22 y23 x24 y25 x26 y27 x28 y29 x30 y31 x32 y33 x34 y35 x36 y37 x40 y41 k0)
    conv => lhs; unfold nT_doorway_l8 nT_doorway_b8
    have lt := letter_eq (R := R) N (show i < 12 by omega)
    simp only [ltT (show i < 2 * W + K + 1 by omega), cond_true]
    refine Eq.trans (lt _) ?_
    simp only [r1, r2, cond_true, hW, hK, e1, e2, w64_succ (show i < 1000000000000 by omega)]
    by_cases c1 : i < W
    · simp only [ltT c1, cond_true, wideF, if_pos c1]
    · simp only [ltF (show W ≤ i by omega), cond_false, wideF, if_neg c1]
      by_cases c2 : i < W + K
      · simp only [ltT c2, cond_true, if_pos c2]
      · simp only [ltF (show W + K ≤ i by omega), cond_false, if_neg c2]
        by_cases c3 : i < 2 * W + K
        · simp only [ltT c3, cond_true, if_pos c3]
        · simp only [ltF (show 2 * W + K ≤ i by omega), cond_false, if_neg c3]
end
end
end Si
end Go.Proofs.Ytpillmoddoccfaa
