import Derived.Test.YtpillmoddoccfaaSiP5
set_option linter.unusedVariables false
set_option linter.unusedSimpArgs false
set_option linter.unusedSectionVars false
set_option maxHeartbeats 0
set_option maxRecDepth 100000
namespace Go.Proofs.Ytpillmoddoccfaa
namespace Si
open Go.Sx
open Classical
noncomputable section
variable {R : Type}
theorem leF {a b : Nat} (h : b < a) : decide ((a : Int) ≤ (b : Int)) = false := by simp; omega
theorem leT {a b : Nat} (h : a ≤ b) : decide ((a : Int) ≤ (b : Int)) = true := by simp; omega
theorem rl_eq (f t : Int) (w : Arr (Arr pLi)) : pRuC.dec (lget [SV.int IntKind.i64 f, SV.int IntKind.i64 t, slC (lsC pLiC) w, SV.sl SK.nil (CK.cons (CK.int IntKind.i64) (CK.cons (CK.int IntKind.i64) CK.nil)) (2 : Nat) (0 : Nat) (zeroC [SV.int IntKind.i64 (0 : Int), SV.int IntKind.i64 (0 : Int)])]) = rl f t w := rfl
section
variable {W K : Nat} {d : pDo} (hW : d.Wide = (W : Int)) (hK : d.Wait = (K : Int)) (h1 : 1 ≤ W) (h2 : 2 * W + K ≤ 11) (A B F : Arr (Arr pLi))
include hW hK h1 h2
theorem dw_l29 (N : Nat) : ∀ (q i n : Nat) (b : Bool) (a : Arr pRu), i + q = W → q < n → a.Is i (ruleF W K A B F) →
    ∃ (b2 : Bool) (a2 : Arr pRu), a2.Is W (ruleF W K A B F) ∧ ∀ (v50 v51 v52 v53 v55 : Int) (v61 : Bool) (v62 : Arr Int) (v63 : Bool) (v64 : Arr ByteArray) (v65 : Bool) (v66 : Arr ByteArray) (v67 : Bool) (v68 : Arr pCo) (v69 : Bool) (v70 : Arr pSt) (v71 : Bool) (v72 : Arr pRu) (v73 : Bool) (v74 : Arr ByteArray) (v75 : Bool) (v76 : Arr ByteArray) (v77 : Bool) (v78 : Arr pCo) (v79 : Bool) (v80 : Arr pSt) (k0 : Bool → Arr pRu → Option R),
      nT_doorway_l29 N n 0 v50 v51 v52 v53 (opE W K) v55 B F A (i : Int) d v61 v62 v63 v64 v65 v66 v67 v68 v69 v70 v71 v72 v73 v74 v75 v76 v77 v78 v79 v80 b a k0 = k0 b2 a2 := by
  intro q
  induction q with
  | zero =>
    intro i n b a e hn ha
    obtain ⟨n, rfl⟩ : ∃ m, n = m + 1 := ⟨n - 1, by omega⟩
    have : i = W := by omega
    subst this
    refine ⟨b, a, ha, fun v50 v51 v52 v53 v55 v61 v62 v63 v64 v65 v66 v67 v68 v69 v70 v71 v72 v73 v74 v75 v76 v77 v78 v79 v80 k0 => ?_⟩
    unfold nT_doorway_l29 nT_doorway_b29
    simp only [hW, ltF (Nat.le_refl _), cond_false]
  | succ q ih =>
    intro i n b a e hn ha
    obtain ⟨n, rfl⟩ : ∃ m, n = m + 1 := ⟨n - 1, by omega⟩
    have r1 : room (a.n + 1) = true := room_of (by rw [ha.len]; omega)
    have e0 : w64 (0 + (i : Int)) = (i : Int) := by rw [w64_eq (by omega) (by omega)]; omega
    have e1 : w64 ((i : Int) + 1) = ((i + 1 : Nat) : Int) := w64_succ (by omega)
    have pa := ha.push (C := pRuC) (fun _ => rfl) (z := [SV.int IntKind.i64 (0 : Int), SV.int IntKind.i64 (0 : Int), SV.sl SK.nil (CK.cons (CK.sl (CK.cons (CK.int IntKind.i64) (CK.cons (CK.int IntKind.i64) (CK.cons (CK.int IntKind.i64) (CK.cons CK.bool CK.nil))))) CK.nil) (1 : Nat) (0 : Nat) (zeroC [SV.sl SK.nil (CK.cons (CK.int IntKind.i64) (CK.cons (CK.int IntKind.i64) (CK.cons (CK.int IntKind.i64) (CK.cons CK.bool CK.nil)))) (4 : Nat) (0 : Nat) (zeroC [SV.int IntKind.i64 (0 : Int), SV.int IntKind.i64 (0 : Int), SV.int IntKind.i64 (0 : Int), SV.bool false])]), SV.sl SK.nil (CK.cons (CK.int IntKind.i64) (CK.cons (CK.int IntKind.i64) CK.nil)) (2 : Nat) (0 : Nat) (zeroC [SV.int IntKind.i64 (0 : Int), SV.int IntKind.i64 (0 : Int)])]) (e := [SV.int IntKind.i64 (i : Int), SV.int IntKind.i64 (if i + 1 = W then opE W K else ((i + 1 : Nat) : Int)), slC (lsC pLiC) A, SV.sl SK.nil (CK.cons (CK.int IntKind.i64) (CK.cons (CK.int IntKind.i64) CK.nil)) (2 : Nat) (0 : Nat) (zeroC [SV.int IntKind.i64 (0 : Int), SV.int IntKind.i64 (0 : Int)])]) (by
      rw [rl_eq]; unfold ruleF; rw [if_pos (show i < W by omega)]; unfold rule1; congr 1)
    obtain ⟨b2, a2, g1, g3⟩ := ih (i + 1) n false _ (by omega) (by omega) pa
    refine ⟨b2, a2, g1, fun v50 v51 v52 v53 v55 v61 v62 v63 v64 v65 v66 v67 v68 v69 v70 v71 v72 v73 v74 v75 v76 v77 v78 v79 v80 k0 => ?_⟩
    refine Eq.trans ?_ (g3 v50 v51 v52 v53 v55 v61 v62 v63 v64 v65 v66 v67 v68 v69 v70 v71 v72 v73 v74 v75 v76 v77 v78 v79 v80 k0)
    conv => lhs; unfold nT_doorway_l29 nT_doorway_b29
    simp only [hW, ltT (show i < W by omega), cond_true, e0, e1, r1]
    by_cases c1 : i + 1 = W
    · have : (((i + 1 : Nat) : Int) == (W : Int)) = true := by simp; omega
      simp only [this, cond_true, if_pos c1]
    · have : (((i + 1 : Nat) : Int) == (W : Int)) = false := by simp; omega
      simp only [this, cond_false, if_neg c1]
theorem dw_l36 (N : Nat) : ∀ (q i n : Nat) (b : Bool) (a : Arr pRu), i + q = K → q < n → a.Is (W + 2 * i) (ruleF W K A B F) →
    ∃ (b2 : Bool) (a2 : Arr pRu), a2.Is (W + 2 * K) (ruleF W K A B F) ∧ ∀ (v85 v87 v88 v90 : Int) (v96 : Bool) (v97 : Arr Int) (v98 : Bool) (v99 : Arr ByteArray) (v100 : Bool) (v101 : Arr ByteArray) (v102 : Bool) (v103 : Arr pCo) (v104 : Bool) (v105 : Arr pSt) (v106 : Bool) (v107 : Arr pRu) (v108 : Bool) (v109 : Arr ByteArray) (v110 : Bool) (v111 : Arr ByteArray) (v112 : Bool) (v113 : Arr pCo) (v114 : Bool) (v115 : Arr pSt) (k0 : Bool → Arr pRu → Option R),
      nT_doorway_l36 N n v85 ((W : Int) - 1) v87 v88 ((2 * W + K : Nat) - 1 : Int) v90 (agE W K) B F ((i + 1 : Nat) : Int) d v96 v97 v98 v99 v100 v101 v102 v103 v104 v105 v106 v107 v108 v109 v110 v111 v112 v113 v114 v115 b a k0 = k0 b2 a2 := by
  intro q
  induction q with
  | zero =>
    intro i n b a e hn ha
    obtain ⟨n, rfl⟩ : ∃ m, n = m + 1 := ⟨n - 1, by omega⟩
    have : i = K := by omega
    subst this
    refine ⟨b, a, ha, fun v85 v87 v88 v90 v96 v97 v98 v99 v100 v101 v102 v103 v104 v105 v106 v107 v108 v109 v110 v111 v112 v113 v114 v115 k0 => ?_⟩
    unfold nT_doorway_l36 nT_doorway_b36
    simp only [hK, leF (Nat.lt_succ_self _), cond_false]
  | succ q ih =>
    intro i n b a e hn ha
    obtain ⟨n, rfl⟩ : ∃ m, n = m + 1 := ⟨n - 1, by omega⟩
    have r1 : room (a.n + 2) = true := room_of (by rw [ha.len]; omega)
    have e0 : w64 ((W : Int) - 1 + ((i + 1 : Nat) : Int)) = ((W - 1 + (i + 1) : Nat) : Int) := by rw [w64_eq (by omega) (by omega)]; omega
    have e1 : w64 (((i + 1 : Nat) : Int) + 1) = ((i + 1 + 1 : Nat) : Int) := w64_succ (by omega)
    have e2 : w64 (((W - 1 + (i + 1) : Nat) : Int) - 1) = (W : Int) + (i + 1 : Nat) - 2 := by rw [w64_eq (by omega) (by omega)]; omega
    have pa := push2 (C := pRuC) (fun _ => rfl) ha (z := [SV.int IntKind.i64 (0 : Int), SV.int IntKind.i64 (0 : Int), SV.sl SK.nil (CK.cons (CK.sl (CK.cons (CK.int IntKind.i64) (CK.cons (CK.int IntKind.i64) (CK.cons (CK.int IntKind.i64) (CK.cons CK.bool CK.nil))))) CK.nil) (1 : Nat) (0 : Nat) (zeroC [SV.sl SK.nil (CK.cons (CK.int IntKind.i64) (CK.cons (CK.int IntKind.i64) (CK.cons (CK.int IntKind.i64) (CK.cons CK.bool CK.nil)))) (4 : Nat) (0 : Nat) (zeroC [SV.int IntKind.i64 (0 : Int), SV.int IntKind.i64 (0 : Int), SV.int IntKind.i64 (0 : Int), SV.bool false])]), SV.sl SK.nil (CK.cons (CK.int IntKind.i64) (CK.cons (CK.int IntKind.i64) CK.nil)) (2 : Nat) (0 : Nat) (zeroC [SV.int IntKind.i64 (0 : Int), SV.int IntKind.i64 (0 : Int)])]) (e := [SV.int IntKind.i64 ((W - 1 + (i + 1) : Nat) : Int), SV.int IntKind.i64 (agE W K), slC (lsC pLiC) B, SV.sl SK.nil (CK.cons (CK.int IntKind.i64) (CK.cons (CK.int IntKind.i64) CK.nil)) (2 : Nat) (0 : Nat) (zeroC [SV.int IntKind.i64 (0 : Int), SV.int IntKind.i64 (0 : Int)])]) (e' := [SV.int IntKind.i64 ((W - 1 + (i + 1) : Nat) : Int), SV.int IntKind.i64 (if 1 < i + 1 then (W : Int) + (i + 1 : Nat) - 2 else (2 * W + K : Nat) - 1), slC (lsC pLiC) F, SV.sl SK.nil (CK.cons (CK.int IntKind.i64) (CK.cons (CK.int IntKind.i64) CK.nil)) (2 : Nat) (0 : Nat) (zeroC [SV.int IntKind.i64 (0 : Int), SV.int IntKind.i64 (0 : Int)])]) (by
      rw [rl_eq]; unfold ruleF rule2
      have h3 : (W + 2 * i - W) / 2 + 1 = i + 1 := by omega
      rw [if_neg (show ¬ (W + 2 * i < W) by omega), if_pos (show W + 2 * i < W + 2 * K by omega), if_pos (show (W + 2 * i - W) % 2 = 0 by omega), h3, if_pos rfl]
      congr 1; omega) (by
      rw [rl_eq]; unfold ruleF rule2
      have h3 : (W + 2 * i + 1 - W) / 2 + 1 = i + 1 := by omega
      rw [if_neg (show ¬ (W + 2 * i + 1 < W) by omega), if_pos (show W + 2 * i + 1 < W + 2 * K by omega), if_neg (show ¬ ((W + 2 * i + 1 - W) % 2 = 0) by omega), h3, if_neg (show ¬ (false = true) by simp)]
      congr 1 <;> first | omega | (split <;> omega))
    obtain ⟨b2, a2, g1, g3⟩ := ih (i + 1) n false _ (by omega) (by omega) pa
    refine ⟨b2, a2, g1, fun v85 v87 v88 v90 v96 v97 v98 v99 v100 v101 v102 v103 v104 v105 v106 v107 v108 v109 v110 v111 v112 v113 v114 v115 k0 => ?_⟩
    refine Eq.trans ?_ (g3 v85 v87 v88 v90 v96 v97 v98 v99 v100 v101 v102 v103 v104 v105 v106 v107 v108 v109 v110 v111 v112 v113 v114 v115 k0)
    conv => lhs; unfold nT_doorway_l36 nT_doorway_b36
    simp only [hK, leT (show i + 1 ≤ K by omega), cond_true, e0, e1, e2, r1]
    by_cases c1 : 1 < i + 1
    · have : decide (((i + 1 : Nat) : Int) > 1) = true := by simp; omega
      simp only [this, cond_true, if_pos c1]
    · have : decide (((i + 1 : Nat) : Int) > 1) = false := by simp; omega
      simp only [this, cond_false, if_neg c1]
theorem dw_l43 (N : Nat) : ∀ (q i n : Nat) (b : Bool) (a : Arr pRu), i + q = W → q < n → a.Is (W + 2 * K + 2 * i) (ruleF W K A B F) →
    ∃ (b2 : Bool) (a2 : Arr pRu), a2.Is (W + 2 * K + 2 * W) (ruleF W K A B F) ∧ ∀ (v129 : Bool) (v130 : Arr Int) (v131 : Bool) (v132 : Arr ByteArray) (v133 : Bool) (v134 : Arr ByteArray) (v135 : Bool) (v136 : Arr pCo) (v137 : Bool) (v138 : Arr pSt) (v139 : Bool) (v140 : Arr pRu) (v141 : Bool) (v142 : Arr ByteArray) (v143 : Bool) (v144 : Arr ByteArray) (v145 : Bool) (v146 : Arr pCo) (v147 : Bool) (v148 : Arr pSt) (k0 : Bool → Arr pRu → Option R),
      nT_doorway_l43 N n 0 ((W : Int) + K - 1) ((2 * W + K : Nat) : Int) (opE W K) (agE W K) B F ((i + 1 : Nat) : Int) d v129 v130 v131 v132 v133 v134 v135 v136 v137 v138 v139 v140 v141 v142 v143 v144 v145 v146 v147 v148 b a k0 = k0 b2 a2 := by
  intro q
  induction q with
  | zero =>
    intro i n b a e hn ha
    obtain ⟨n, rfl⟩ : ∃ m, n = m + 1 := ⟨n - 1, by omega⟩
    have : i = W := by omega
    subst this
    refine ⟨b, a, ha, fun v129 v130 v131 v132 v133 v134 v135 v136 v137 v138 v139 v140 v141 v142 v143 v144 v145 v146 v147 v148 k0 => ?_⟩
    unfold nT_doorway_l43 nT_doorway_b43
    simp only [hW, leF (Nat.lt_succ_self _), cond_false]
  | succ q ih =>
    intro i n b a e hn ha
    obtain ⟨n, rfl⟩ : ∃ m, n = m + 1 := ⟨n - 1, by omega⟩
    have r1 : room (a.n + 2) = true := room_of (by rw [ha.len]; omega)
    have e0 : w64 ((W : Int) + K - 1 + ((i + 1 : Nat) : Int)) = (W : Int) + K - 1 + (i + 1 : Nat) := by rw [w64_eq (by omega) (by omega)]
    have e1 : w64 (((i + 1 : Nat) : Int) + 1) = ((i + 1 + 1 : Nat) : Int) := w64_succ (by omega)
    have e2 : w64 ((W : Int) + K - 1 + (i + 1 : Nat) - 1) = (W : Int) + K + (i + 1 : Nat) - 2 := by rw [w64_eq (by omega) (by omega)]; omega
    have e3 : w64 (0 + ((i + 1 : Nat) : Int)) = ((i + 1 : Nat) : Int) := by rw [w64_eq (by omega) (by omega)]; omega
    have pa := push2 (C := pRuC) (fun _ => rfl) ha (z := [SV.int IntKind.i64 (0 : Int), SV.int IntKind.i64 (0 : Int), SV.sl SK.nil (CK.cons (CK.sl (CK.cons (CK.int IntKind.i64) (CK.cons (CK.int IntKind.i64) (CK.cons (CK.int IntKind.i64) (CK.cons CK.bool CK.nil))))) CK.nil) (1 : Nat) (0 : Nat) (zeroC [SV.sl SK.nil (CK.cons (CK.int IntKind.i64) (CK.cons (CK.int IntKind.i64) (CK.cons (CK.int IntKind.i64) (CK.cons CK.bool CK.nil)))) (4 : Nat) (0 : Nat) (zeroC [SV.int IntKind.i64 (0 : Int), SV.int IntKind.i64 (0 : Int), SV.int IntKind.i64 (0 : Int), SV.bool false])]), SV.sl SK.nil (CK.cons (CK.int IntKind.i64) (CK.cons (CK.int IntKind.i64) CK.nil)) (2 : Nat) (0 : Nat) (zeroC [SV.int IntKind.i64 (0 : Int), SV.int IntKind.i64 (0 : Int)])]) (e := [SV.int IntKind.i64 ((W : Int) + K - 1 + (i + 1 : Nat)), SV.int IntKind.i64 (backE W K (i + 1)), slC (lsC pLiC) B, SV.sl SK.nil (CK.cons (CK.int IntKind.i64) (CK.cons (CK.int IntKind.i64) CK.nil)) (2 : Nat) (0 : Nat) (zeroC [SV.int IntKind.i64 (0 : Int), SV.int IntKind.i64 (0 : Int)])]) (e' := [SV.int IntKind.i64 ((W : Int) + K - 1 + (i + 1 : Nat)), SV.int IntKind.i64 (lessE W K (i + 1)), slC (lsC pLiC) F, SV.sl SK.nil (CK.cons (CK.int IntKind.i64) (CK.cons (CK.int IntKind.i64) CK.nil)) (2 : Nat) (0 : Nat) (zeroC [SV.int IntKind.i64 (0 : Int), SV.int IntKind.i64 (0 : Int)])]) (by
      rw [rl_eq]; unfold ruleF rule3
      have h3 : (W + 2 * K + 2 * i - (W + 2 * K)) / 2 + 1 = i + 1 := by omega
      rw [if_neg (show ¬ (W + 2 * K + 2 * i < W) by omega), if_neg (show ¬ (W + 2 * K + 2 * i < W + 2 * K) by omega), if_pos (show (W + 2 * K + 2 * i - (W + 2 * K)) % 2 = 0 by omega), h3, if_pos rfl]) (by
      rw [rl_eq]; unfold ruleF rule3
      have h3 : (W + 2 * K + 2 * i + 1 - (W + 2 * K)) / 2 + 1 = i + 1 := by omega
      rw [if_neg (show ¬ (W + 2 * K + 2 * i + 1 < W) by omega), if_neg (show ¬ (W + 2 * K + 2 * i + 1 < W + 2 * K) by omega), if_neg (show ¬ ((W + 2 * K + 2 * i + 1 - (W + 2 * K)) % 2 = 0) by omega), h3, if_neg (show ¬ (false = true) by simp)])
    obtain ⟨b2, a2, g1, g3⟩ := ih (i + 1) n false _ (by omega) (by omega) pa
    refine ⟨b2, a2, g1, fun v129 v130 v131 v132 v133 v134 v135 v136 v137 v138 v139 v140 v141 v142 v143 v144 v145 v146 v147 v148 k0 => ?_⟩
    refine Eq.trans ?_ (g3 v129 v130 v131 v132 v133 v134 v135 v136 v137 v138 v139 v140 v141 v142 v143 v144 v145 v146 v147 v148 k0)
    conv => lhs; unfold nT_doorway_l43 nT_doorway_b43
    simp only [hW, hK, leT (show i + 1 ≤ W by omega), cond_true, e0, e1, e2, e3, r1]
    have hb : backE W K (i + 1) = bif decide (i + 1 + 1 = W) then opE W K else bif decide (i + 1 = W) then (bif decide (0 < K) then agE W K else lessE W K (i + 1)) else ((i + 1 + 1 : Nat) : Int) := by
      unfold backE; simp only [Bool.cond_decide]; rfl
    have hl : lessE W K (i + 1) = bif decide (1 < i + 1) then (W : Int) + K + (i + 1 : Nat) - 2 else ((2 * W + K : Nat) : Int) := by unfold lessE; simp only [Bool.cond_decide]; split <;> omega
    have d1 : decide (((i + 1 : Nat) : Int) > 1) = decide (1 < i + 1) := by simp; omega
    have d2 : (((i + 1 + 1 : Nat) : Int) == (W : Int)) = decide (i + 1 + 1 = W) := by rw [Bool.eq_iff_iff]; simp; omega
    have d3 : (((i + 1 : Nat) : Int) == (W : Int)) = decide (i + 1 = W) := by rw [Bool.eq_iff_iff]; simp; omega
    have d4 : decide ((K : Int) > 0) = decide (0 < K) := by rw [Bool.eq_iff_iff]; simp
    rw [hb, hl]
    clear hb hl pa g3 g1
    simp only [d1, d2, d3, d4]
    generalize decide (1 < i + 1) = x1
    generalize decide (i + 1 + 1 = W) = x2
    generalize decide (i + 1 = W) = x3
    generalize decide (0 < K) = x4
    cases x1 <;> cases x2 <;> cases x3 <;> cases x4 <;> rfl
end
end
end Si
end Go.Proofs.Ytpillmoddoccfaa
