import Derived.Test.YtlphgonhenegoaaPB
set_option linter.unusedVariables false
set_option linter.unusedSimpArgs false
set_option maxHeartbeats 0
set_option maxRecDepth 100000
namespace Go.Proofs.Ytlphgonhenegoaa
open Go.Sx
section
theorem press_dec (x : api_Press) : api_PressC.dec (lget (api_PressC.enc x)) = x := rfl
theorem tall_no (N : Nat) {c : api_Car} (h : ¬ VC c) {R : Type} (k : Bool → Option R) : newellaw07_Tall N c k = k false := by
  rw [newellaw07_Tall_def]
  unfold newellaw07_Tall_m
  rw [refCar, if_neg h]
  rfl
instance (c : Cn) : Decidable (Sm c) := if h : c.H ≤ 3 ∧ c.M + c.S ≤ 4 then isTrue ⟨h.1, h.2⟩ else isFalse fun g => h ⟨g.h, g.q⟩
theorem tall_eq (N : Nat) {c : Cn} (hc : c.Ok) {R : Type} (k : Bool → Option R) : newellaw07_Tall N c.car k = k (!decide (Sm c)) := by
  rw [newellaw07_Tall_def]
  unfold newellaw07_Tall_m
  rw [refCar, if_pos hc.vc]
  have hm := hc.m3
  have hs := hc.s4
  show (bif decide ((c.H : Int) > 3) then k true else k (decide (w64 ((c.M : Int) + (c.S : Int)) > (4 : Int)))) = _
  by_cases h1 : c.H ≤ 3
  · rw [decide_eq_false (show ¬ (c.H : Int) > 3 by omega), cond_false, w64_eq (by omega) (by omega)]
    by_cases h2 : c.M + c.S ≤ 4
    · rw [decide_eq_false (show ¬ (c.M : Int) + (c.S : Int) > 4 by omega), decide_eq_true (show Sm c from ⟨h1, h2⟩)]; rfl
    · rw [decide_eq_true (show (c.M : Int) + (c.S : Int) > 4 by omega), decide_eq_false (show ¬ Sm c from fun g => h2 g.q)]; rfl
  · rw [decide_eq_true (show (c.H : Int) > 3 by omega), cond_true, decide_eq_false (show ¬ Sm c from fun g => h1 g.h)]; rfl
def servesE (c : api_Car) (f : Int) : Int := if VC c then (if c.Low ≤ f ∧ f ≤ c.High then 0 else 1) else 70
theorem serves_eq (N : Nat) (c : api_Car) (f : Int) {R : Type} (k : Int → Option R) : calls_serves N c f k = k (servesE c f) := by
  rw [calls_serves_def]
  unfold calls_serves_m servesE
  rw [valid_eq, in_eq]
  by_cases h : VC c
  · rw [decide_eq_true h, if_pos h]
    by_cases h2 : c.Low ≤ f ∧ f ≤ c.High
    · rw [decide_eq_true h2, if_pos h2]; rfl
    · rw [decide_eq_false h2, if_neg h2]; rfl
  · rw [decide_eq_false h, if_neg h]; rfl
theorem servesE_ok {c : Cn} (hc : c.Ok) {f : Nat} (hf : c.L ≤ f ∧ f ≤ c.H) : servesE c.car (f : Int) = 0 := by
  unfold servesE
  rw [if_pos hc.vc, if_pos (by show ((c.L : Nat) : Int) ≤ _ ∧ _ ≤ ((c.H : Nat) : Int); omega)]
theorem worst_err (N : Nat) {c : api_Car} {f : Int} (h : servesE c f ≠ 0) {R : Type} (k : Int → Int → Option R) : calls_Worst N c f k = k 0 (servesE c f) := by
  rw [calls_Worst_def]
  unfold calls_Worst_m
  rw [serves_eq]
  have e0 : (servesE c f != 0) = true := by simpa using h
  rw [e0, cond_true]
theorem far_w : ∀ f : Nat, f < 6 → ∀ L : Nat, L < 6 → ∀ H : Nat, H < 6 → (L ≤ f ∧ f ≤ H) → mxI (w64 ((H : Int) - (f : Int))) (w64 ((f : Int) - (L : Int))) = ((max (H - f) (f - L) : Nat) : Int) ∧ decide (w64 ((H : Int) - (f : Int)) ≥ w64 ((f : Int) - (L : Int))) = decide (f - L ≤ H - f) := by decide +kernel
theorem leaves_w : ∀ f : Nat, f < 6 → ∀ s : Nat, s < 6 → ∀ M : Nat, M < 4 → ∀ S : Nat, S < 5 → w64 (w64 (mxI (w64 ((f : Int) - (s : Int))) (w64 ((s : Int) - (f : Int))) * (M : Int)) + (S : Int)) = ((max (f - s) (s - f) * M + S : Nat) : Int) := by decide +kernel
theorem ends_w : ∀ x : Nat, x < 25 → ∀ n : Nat, n < 6 → ∀ M : Nat, M < 4 → ∀ S : Nat, S < 5 → n = 0 ∨ w64 (w64 ((x : Int) + w64 ((n : Int) * (M : Int))) + w64 (w64 ((n : Int) - (1 : Int)) * (S : Int))) = ((x + n * M + (n - 1) * S : Nat) : Int) := by decide +kernel
theorem flo_w {f i : Nat} {s : Int} (hf : f < 6) (hi : i < 100) (hs : s = 1 ∨ s = -1) : w64 ((f : Int) + w64 ((i : Int) * s)) = (f : Int) + (i : Int) * s := by
  rcases hs with rfl | rfl
  · rw [Int.mul_one, w64_eq (n := (i : Int)) (by omega) (by omega), w64_eq (by omega) (by omega)]
  · rw [w64_eq (n := (i : Int) * -1) (by omega) (by omega), w64_eq (by omega) (by omega)]
theorem wit_l14 (N : Nat) {c : Cn} {f : Nat} (hf : f < 6) (hfar : farN c f < 6) (h0 : farN c f ≠ 0) (en : Int) : ∀ (q i n : Nat) (b : Bool) (a : Arr api_Press), i + q = farN c f + 1 → q < n → a.Is (i + 1) (wit c f) →
    ∃ (b' : Bool) (a' : Arr api_Press), a'.Is (farN c f + 2) (wit c f) ∧ ∀ {R : Type} (k : Bool → Arr api_Press → Option R), calls_Witness_l14 N n (f : Int) ((farN c f : Nat) : Int) (stepZ c f) ((leavesN c f : Nat) : Int) en ((farN c f + 1 : Nat) : Int) (i : Int) b a k = k b' a' := by
  have hst : stepZ c f = 1 ∨ stepZ c f = -1 := by unfold stepZ; split; exact .inl rfl; exact .inr rfl
  intro q
  induction q with
  | zero =>
    intro i n b a h1 h2 h3
    obtain ⟨n, rfl⟩ : ∃ m, n = m + 1 := ⟨n - 1, by omega⟩
    have : i = farN c f + 1 := by omega
    subst this
    refine ⟨b, a, h3, fun {R} k => ?_⟩
    unfold calls_Witness_l14 calls_Witness_b14
    rw [ltF (Nat.le_refl _), cond_false]
  | succ q ih =>
    intro i n b a h1 h2 h3
    obtain ⟨n, rfl⟩ : ∃ m, n = m + 1 := ⟨n - 1, by omega⟩
    have hpush := Arr.Is.push (C := api_PressC) press_dec h3 (z := [SV.int IntKind.i64 (0 : Int), SV.int IntKind.i64 (0 : Int)]) (e := [SV.int IntKind.i64 ((leavesN c f : Nat) : Int), SV.int IntKind.i64 (w64 ((f : Int) + w64 ((i : Int) * stepZ c f)))]) (by
      rw [flo_w hf (by omega) hst]
      unfold wit
      rw [if_neg (by omega), if_pos (by omega)]
      rfl)
    obtain ⟨b', a', g1, g2⟩ := ih (i + 1) n false _ (by omega) (by omega) hpush
    refine ⟨b', a', g1, fun {R} k => ?_⟩
    unfold calls_Witness_l14 calls_Witness_b14
    rw [ltT (show i < farN c f + 1 by omega), cond_true, room_of (by rw [h3.1]; omega), cond_true, w64_succ (show i < 1000000000000 by omega)]
    exact g2 k
theorem wit_l19 (N : Nat) {c : Cn} {f : Nat} (hf : f < 6) (hfar : farN c f < 6) (h0 : farN c f ≠ 0) : ∀ (q i n : Nat) (b : Bool) (a : Arr api_Press), i + q = farN c f → 1 ≤ i → q < n → a.Is (farN c f + 1 + i) (wit c f) →
    ∃ (b' : Bool) (a' : Arr api_Press), a'.Is (farN c f + 1 + farN c f) (wit c f) ∧ ∀ {R : Type} (k : Bool → Arr api_Press → Option R), calls_Witness_l19 N n (f : Int) ((farN c f : Nat) : Int) (stepZ c f) ((endsN c f : Nat) : Int) (i : Int) b a k = k b' a' := by
  have hst : stepZ c f = 1 ∨ stepZ c f = -1 := by unfold stepZ; split; exact .inl rfl; exact .inr rfl
  intro q
  induction q with
  | zero =>
    intro i n b a h1 h1' h2 h3
    obtain ⟨n, rfl⟩ : ∃ m, n = m + 1 := ⟨n - 1, by omega⟩
    have : i = farN c f := by omega
    subst this
    refine ⟨b, a, h3, fun {R} k => ?_⟩
    unfold calls_Witness_l19 calls_Witness_b19
    rw [ltF (Nat.le_refl _), cond_false]
  | succ q ih =>
    intro i n b a h1 h1' h2 h3
    obtain ⟨n, rfl⟩ : ∃ m, n = m + 1 := ⟨n - 1, by omega⟩
    have hpush := Arr.Is.push (C := api_PressC) press_dec h3 (z := [SV.int IntKind.i64 (0 : Int), SV.int IntKind.i64 (0 : Int)]) (e := [SV.int IntKind.i64 ((endsN c f : Nat) : Int), SV.int IntKind.i64 (w64 ((f : Int) + w64 ((i : Int) * stepZ c f)))]) (by
      rw [flo_w hf (by omega) hst]
      unfold wit
      rw [if_neg (by omega), if_neg (by omega), show farN c f + 1 + i - farN c f - 1 = i by omega]
      rfl)
    obtain ⟨b', a', g1, g2⟩ := ih (i + 1) n false _ (by omega) (by omega) (by omega) hpush
    refine ⟨b', a', g1, fun {R} k => ?_⟩
    unfold calls_Witness_l19 calls_Witness_b19
    rw [ltT (show i < farN c f by omega), cond_true, room_of (by rw [h3.1]; omega), cond_true, w64_succ (show i < 1000000000000 by omega)]
    exact g2 k
theorem witness_eq {N : Nat} (hN : 2000 < N) {c : Cn} (hc : c.Ok) {f : Nat} (hf : c.L ≤ f ∧ f ≤ c.H) : ∃ (b : Bool) (l : Arr api_Press), l.Is (witL c f) (wit c f) ∧ ∀ {R : Type} (k : Int → Bool → Arr api_Press → Option R), calls_Witness N c.car (f : Int) k = k 0 b l := by
  have h5 := hc.h5
  have hm := hc.m3
  have hs := hc.s4
  have hls := hc.ls
  have hsh := hc.sh
  have hfar : farN c f < 6 := by unfold farN; omega
  obtain ⟨w1, w2⟩ := far_w f (by omega) c.L (by omega) c.H (by omega) hf
  have hlv := leaves_w f (by omega) c.s (by omega) c.M (by omega) c.S (by omega)
  have hlt : leavesN c f < 25 := by
    unfold leavesN
    have := Nat.mul_le_mul (show max (f - c.s) (c.s - f) ≤ 5 by omega) hm
    omega
  have hen := ends_w (leavesN c f) hlt (farN c f) hfar c.M (by omega) c.S (by omega)
  have a0 : (lst api_PressC (1 : Nat) (litC [SV.int IntKind.i64 (0 : Int), SV.int IntKind.i64 (0 : Int)] [[SV.int IntKind.i64 (0 : Int), SV.int IntKind.i64 (f : Int)]])).Is 1 (wit c f) := ⟨rfl, fun i hi => by
    have : i = 0 := by omega
    subst this
    rfl⟩
  have key : ∃ (b : Bool) (l : Arr api_Press), l.Is (witL c f) (wit c f) ∧ ∀ {R : Type} (k : Int → Bool → Arr api_Press → Option R), calls_Witness_j0 N (f : Int) ((farN c f : Nat) : Int) (stepZ c f) c.car k = k 0 b l := by
    by_cases h0 : farN c f = 0
    · refine ⟨false, (lst api_PressC (1 : Nat) (litC [SV.int IntKind.i64 (0 : Int), SV.int IntKind.i64 (0 : Int)] [[SV.int IntKind.i64 (0 : Int), SV.int IntKind.i64 (f : Int)]])), ?_, fun {R} k => ?_⟩
      · unfold witL
        rw [if_pos h0]
        exact a0
      · rw [calls_Witness_j0_def]
        unfold calls_Witness_j0_m
        rw [h0]
        rfl
    · obtain ⟨b1, a1, g1, g2⟩ := wit_l14 N (show f < 6 by omega) hfar h0 ((endsN c f : Nat) : Int) (farN c f + 1) 0 N false _ (by omega) (by omega) a0
      obtain ⟨b2, a2, g3, g4⟩ := wit_l19 N (show f < 6 by omega) hfar h0 (farN c f - 1) 1 N b1 a1 (by omega) (by omega) (by omega) g1
      refine ⟨b2, a2, ?_, fun {R} k => ?_⟩
      · unfold witL
        rw [if_neg h0, show 2 * farN c f + 1 = farN c f + 1 + farN c f by omega]
        exact g3
      · rw [calls_Witness_j0_def]
        unfold calls_Witness_j0_m
        have e1 : (((farN c f : Nat) : Int) == 0) = false := by rw [eqz]; simpa using h0
        rw [e1, cond_false]
        show calls_Witness_l14 N N (f : Int) ((farN c f : Nat) : Int) (stepZ c f) (w64 (w64 (mxI (w64 ((f : Int) - (c.s : Int))) (w64 ((c.s : Int) - (f : Int))) * (c.M : Int)) + (c.S : Int))) (w64 (w64 (w64 (w64 (mxI (w64 ((f : Int) - (c.s : Int))) (w64 ((c.s : Int) - (f : Int))) * (c.M : Int)) + (c.S : Int)) + w64 (((farN c f : Nat) : Int) * (c.M : Int))) + w64 (w64 (((farN c f : Nat) : Int) - (1 : Int)) * (c.S : Int)))) (w64 (((farN c f : Nat) : Int) + (1 : Int))) (0 : Int) false _ (fun r304 r305 => calls_Witness_l19 N N (f : Int) ((farN c f : Nat) : Int) (stepZ c f) (w64 (w64 (w64 (w64 (mxI (w64 ((f : Int) - (c.s : Int))) (w64 ((c.s : Int) - (f : Int))) * (c.M : Int)) + (c.S : Int)) + w64 (((farN c f : Nat) : Int) * (c.M : Int))) + w64 (w64 (((farN c f : Nat) : Int) - (1 : Int)) * (c.S : Int)))) (1 : Int) r304 r305 (fun r313 r314 => k (0 : Int) r313 r314)) = _
        rw [hlv]
        have hen' : w64 (w64 (((max (f - c.s) (c.s - f) * c.M + c.S : Nat) : Int) + w64 (((farN c f : Nat) : Int) * (c.M : Int))) + w64 (w64 (((farN c f : Nat) : Int) - (1 : Int)) * (c.S : Int))) = ((endsN c f : Nat) : Int) := hen.resolve_left h0
        rw [hen', w64_succ (show farN c f < 1000000000000 by omega)]
        exact (g2 _).trans (g4 _)
  obtain ⟨b, l, g1, g2⟩ := key
  refine ⟨b, l, g1, fun {R} k => ?_⟩
  rw [calls_Witness_def]
  unfold calls_Witness_m
  rw [serves_eq, servesE_ok hc hf]
  show calls_far N c.car (f : Int) _ = _
  rw [calls_far_def]
  unfold calls_far_m
  show (bif !(decide (w64 ((c.H : Int) - (f : Int)) ≥ w64 ((f : Int) - (c.L : Int)))) then calls_Witness_j0 N (f : Int) (mxI (w64 ((c.H : Int) - (f : Int))) (w64 ((f : Int) - (c.L : Int)))) (-1 : Int) c.car _ else calls_Witness_j0 N (f : Int) (mxI (w64 ((c.H : Int) - (f : Int))) (w64 ((f : Int) - (c.L : Int)))) (1 : Int) c.car _) = _
  rw [w1, w2]
  have hst : stepZ c f = if f - c.L ≤ c.H - f then 1 else -1 := rfl
  by_cases hd : f - c.L ≤ c.H - f
  · rw [if_pos hd] at hst
    rw [decide_eq_true hd, Bool.not_true, cond_false, ← hst]
    exact g2 _
  · rw [if_neg hd] at hst
    rw [decide_eq_false hd, Bool.not_false, cond_true, ← hst]
    exact g2 _
end
end Go.Proofs.Ytlphgonhenegoaa
