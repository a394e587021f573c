/-
  The model of the statement LiftBalanced, that it is what the code does (written by a program), and that it answers true.
-/
import Derived.Test.YtceeaimmelaenaaP7
set_option maxRecDepth 100000
set_option maxHeartbeats 0
set_option linter.unusedVariables false
set_option linter.unusedSimpArgs false
namespace Go.Proofs.Ytceeaimmelaenaa
open Go.Sx
noncomputable section


def newellaw05_LiftBalanced_m {R : Type} (N : Nat) (a1039 : api_Lift) (a1040 : api_Span) (a1041 : newellaw05_Place) (k : Bool → Option R) : Option R :=
  newellaw05_Far N a1039 (fun r1042 =>
  bif r1042 then
   newellaw05_works N  (fun r1043 =>
   k r1043)
  else
   newelref05_Check N a1039 (fun r1044 =>
   bif r1044 != (0 : Int) then
    newellaw05_works N  (fun r1045 =>
    k r1045)
   else
    newelref05_Spans N a1039 (api_Span.mk (0 : Int) (0 : Int)) a1040 (fun r1046 =>
    bif !r1046 then
     newellaw05_works N  (fun r1047 =>
     k r1047)
    else
     lift_Balance N a1039 a1040 (fun r1048 r1049 r1050 =>
     bif r1050 != (0 : Int) then
      k false
     else
      bif decide (r1048 < (1 : Int)) then
       k false
      else
       bif decide (r1048 > (100000 : Int)) then
        k false
       else
        bif decide (newellaw05_Place.Accel a1041 ≥ (1 : Int)) then
         bif decide (newellaw05_Place.Accel a1041 ≤ (100000 : Int)) then
          newelref05_Worst N a1039 a1040 (newellaw05_Place.Accel a1041) (fun r1051 =>
          bif decide (r1051 < r1049) then
           k false
          else
           bif r1051 == r1049 then
            bif decide (newellaw05_Place.Accel a1041 < r1048) then
             k false
            else
             bif decide (newellaw05_Place.Load a1041 < api_Span.Low a1040) then
              newellaw05_works N  (fun r1052 =>
              k r1052)
             else
              bif decide (newellaw05_Place.Load a1041 > api_Span.High a1040) then
               newellaw05_works N  (fun r1053 =>
               k r1053)
              else
               lift_Sides N (api_Lift.mk (api_Lift.Car a1039) r1048 (api_Lift.Rated a1039) (api_Lift.Rope a1039) (api_Lift.Floors a1039) (api_Lift.Num a1039) (api_Lift.Den a1039) (api_Lift.Speed a1039) (api_Lift.Accel a1039) (api_Lift.Over a1039) (api_Lift.Stiff a1039) (api_Lift.Level a1039)) (newellaw05_Place.Height a1041) (newellaw05_Place.Load a1041) (fun r1054 r1055 r1056 =>
               bif r1056 != (0 : Int) then
                bif r1056 == (1 : Int) then
                 newellaw05_works N  (fun r1057 =>
                 k r1057)
                else
                 k false
               else
                bif decide ((if w64 (r1055 - r1054) > w64 (r1054 - r1055) then w64 (r1055 - r1054) else w64 (r1054 - r1055)) ≤ r1049) then
                 newellaw05_works N  (fun r1058 =>
                 k r1058)
                else
                 k false)
           else
            bif decide (newellaw05_Place.Load a1041 < api_Span.Low a1040) then
             newellaw05_works N  (fun r1059 =>
             k r1059)
            else
             bif decide (newellaw05_Place.Load a1041 > api_Span.High a1040) then
              newellaw05_works N  (fun r1060 =>
              k r1060)
             else
              lift_Sides N (api_Lift.mk (api_Lift.Car a1039) r1048 (api_Lift.Rated a1039) (api_Lift.Rope a1039) (api_Lift.Floors a1039) (api_Lift.Num a1039) (api_Lift.Den a1039) (api_Lift.Speed a1039) (api_Lift.Accel a1039) (api_Lift.Over a1039) (api_Lift.Stiff a1039) (api_Lift.Level a1039)) (newellaw05_Place.Height a1041) (newellaw05_Place.Load a1041) (fun r1061 r1062 r1063 =>
              bif r1063 != (0 : Int) then
               bif r1063 == (1 : Int) then
                newellaw05_works N  (fun r1064 =>
                k r1064)
               else
                k false
              else
               bif decide ((if w64 (r1062 - r1061) > w64 (r1061 - r1062) then w64 (r1062 - r1061) else w64 (r1061 - r1062)) ≤ r1049) then
                newellaw05_works N  (fun r1065 =>
                k r1065)
               else
                k false))
         else
          bif decide (newellaw05_Place.Load a1041 < api_Span.Low a1040) then
           newellaw05_works N  (fun r1066 =>
           k r1066)
          else
           bif decide (newellaw05_Place.Load a1041 > api_Span.High a1040) then
            newellaw05_works N  (fun r1067 =>
            k r1067)
           else
            lift_Sides N (api_Lift.mk (api_Lift.Car a1039) r1048 (api_Lift.Rated a1039) (api_Lift.Rope a1039) (api_Lift.Floors a1039) (api_Lift.Num a1039) (api_Lift.Den a1039) (api_Lift.Speed a1039) (api_Lift.Accel a1039) (api_Lift.Over a1039) (api_Lift.Stiff a1039) (api_Lift.Level a1039)) (newellaw05_Place.Height a1041) (newellaw05_Place.Load a1041) (fun r1068 r1069 r1070 =>
            bif r1070 != (0 : Int) then
             bif r1070 == (1 : Int) then
              newellaw05_works N  (fun r1071 =>
              k r1071)
             else
              k false
            else
             bif decide ((if w64 (r1069 - r1068) > w64 (r1068 - r1069) then w64 (r1069 - r1068) else w64 (r1068 - r1069)) ≤ r1049) then
              newellaw05_works N  (fun r1072 =>
              k r1072)
             else
              k false)
        else
         bif decide (newellaw05_Place.Load a1041 < api_Span.Low a1040) then
          newellaw05_works N  (fun r1073 =>
          k r1073)
         else
          bif decide (newellaw05_Place.Load a1041 > api_Span.High a1040) then
           newellaw05_works N  (fun r1074 =>
           k r1074)
          else
           lift_Sides N (api_Lift.mk (api_Lift.Car a1039) r1048 (api_Lift.Rated a1039) (api_Lift.Rope a1039) (api_Lift.Floors a1039) (api_Lift.Num a1039) (api_Lift.Den a1039) (api_Lift.Speed a1039) (api_Lift.Accel a1039) (api_Lift.Over a1039) (api_Lift.Stiff a1039) (api_Lift.Level a1039)) (newellaw05_Place.Height a1041) (newellaw05_Place.Load a1041) (fun r1075 r1076 r1077 =>
           bif r1077 != (0 : Int) then
            bif r1077 == (1 : Int) then
             newellaw05_works N  (fun r1078 =>
             k r1078)
            else
             k false
           else
            bif decide ((if w64 (r1076 - r1075) > w64 (r1075 - r1076) then w64 (r1076 - r1075) else w64 (r1075 - r1076)) ≤ r1049) then
             newellaw05_works N  (fun r1079 =>
             k r1079)
            else
             k false)))))
noncomputable def newellaw05_LiftBalanced {R : Type} : Nat → api_Lift → api_Span → newellaw05_Place → (Bool → Option R) → Option R := lock (@newellaw05_LiftBalanced_m R)
theorem newellaw05_LiftBalanced_def {R : Type} (N : Nat) (a1039 : api_Lift) (a1040 : api_Span) (a1041 : newellaw05_Place) (k : Bool → Option R) : newellaw05_LiftBalanced N a1039 a1040 a1041 k = newellaw05_LiftBalanced_m N a1039 a1040 a1041 k := by unfold newellaw05_LiftBalanced; rw [lock_eq]
def newellaw05_LiftBalanced_sp : Sp := ⟨[rAgg api_LiftC, rAgg api_SpanC, rAgg newellaw05_PlaceC], []⟩
theorem newellaw05_LiftBalanced_sp_ok : newellaw05_LiftBalanced_sp.Ok := ⟨(allCons (rAgg_ok api_LiftC_ok api_LiftC_len) (allCons (rAgg_ok api_SpanC_ok api_SpanC_len) (allCons (rAgg_ok newellaw05_PlaceC_ok newellaw05_PlaceC_len) allNil))), eNil⟩
def newellaw05_LiftBalanced_rs : Sp := ⟨[rBool], []⟩
theorem newellaw05_LiftBalanced_rs_ok : newellaw05_LiftBalanced_rs.Ok := ⟨(allCons rBool_ok allNil), eNil⟩
def newellaw05_LiftBalanced_run {R : Type} (N : Nat) (args : List SV) (T : Tab) (kf : SV × Tab → Option R) : Option R :=
  newellaw05_LiftBalanced_m N (Cod.dec api_LiftC (lget (toCs (lget args 0)))) (Cod.dec api_SpanC (lget (toCs (lget args 1)))) (Cod.dec newellaw05_PlaceC (lget (toCs (lget args 2)))) (fun q0 => kf (lget [.bool q0] 0, []))
def newellaw05_LiftBalanced_lp {R : Type} (N : Nat) : Lp R := fun body S k => Option.none
noncomputable def newellaw05_LiftBalanced_go {R : Type} (N : Nat) (args : List SV) (T : Tab) (kf : SV × Tab → Option R) : Option R :=
  newellaw05_LiftBalanced N (Cod.dec api_LiftC (lget (toCs (lget args 0)))) (Cod.dec api_SpanC (lget (toCs (lget args 1)))) (Cod.dec newellaw05_PlaceC (lget (toCs (lget args 2)))) (fun q0 => kf (lget [.bool q0] 0, []))
noncomputable def newellaw05_LiftBalanced_cal {R : Type} (N : Nat) : Cal R := callM (newellaw05_works_cal N) 10 0 newellaw05_LiftBalanced_sp (newellaw05_LiftBalanced_go N)
theorem newellaw05_LiftBalanced_cal_ok {R : Type} (N : Nat) : CalOk E.P (newellaw05_LiftBalanced_cal (R := R) N) :=
  callM_ok hE (newellaw05_works_cal_ok N) (lp := newellaw05_LiftBalanced_lp N) (keys := []) kNil (by kernel_rfl) newellaw05_LiftBalanced_sp_ok newellaw05_LiftBalanced_rs_ok (fun args T kf => Eq.trans (newellaw05_LiftBalanced_def N (Cod.dec api_LiftC (lget (toCs (lget args 0)))) (Cod.dec api_SpanC (lget (toCs (lget args 1)))) (Cod.dec newellaw05_PlaceC (lget (toCs (lget args 2)))) (fun q0 => kf (lget [.bool q0] 0, []))) (by kernel_rfl : newellaw05_LiftBalanced_run N args T kf = fnM E (newellaw05_works_cal N) (newellaw05_LiftBalanced_lp N) 10 (newellaw05_LiftBalanced_sp.vs args) (newellaw05_LiftBalanced_sp.tab T) 0 (resK newellaw05_LiftBalanced_rs kf)))

theorem VL.setC {l : api_Lift} (h : VL l) {c : Int} (h1 : 1 ≤ c) (h2 : c ≤ 100000) : VL (setC0 l c) := by
  have h' := h
  constructor <;> first | exact h1 | exact h2 | exact h.c1 | exact h.c2 | exact h.r1 | exact h.r2 | exact h.o1 | exact h.o2 | exact h.n1 | exact h.n2 | exact h.s1 | exact h.s2 | exact h.a1 | exact h.a2 | (cases h'; assumption)

theorem liftBalanced_true (l : api_Lift) (s : api_Span) (p : newellaw05_Place) (hl : l.wf) (hs : s.wf) (hp : p.wf) : ∃ N, newellaw05_LiftBalanced N l s p (fun q0 => okK (lget [.bool q0] 0, [])) = some () := by
  refine ⟨NN, ?_⟩
  rw [newellaw05_LiftBalanced_def]
  unfold newellaw05_LiftBalanced_m
  simp only [Far_eq, works_eq]
  cases decide ((l.Floors.n : Int) > 30)
  rotate_left
  · rfl
  simp only [cond_false, refCheck_eq (show 20 ≤ NN by decide)]
  by_cases hv : VL l
  rotate_left
  · rw [checkV_ne hv]; rfl
  simp only [checkV_pos hv, bne_self_eq_false, cond_false, Spans_eq hv]
  have ht := hv.top
  have hsp0 : spansP l ⟨0, 0⟩ s ↔ spanP s l.Rated := by
    unfold spansP spanP
    simp only
    omega
  by_cases hsp : spanP s l.Rated
  rotate_left
  · have : ¬ spansP l ⟨0, 0⟩ s := fun h => hsp (hsp0.1 h)
    simp only [this, decide_false, Bool.not_false, cond_true]; rfl
  have hb : balV l s = (bC l s, bW l s (bC l s), 0) := by unfold balV; rw [if_pos hv, if_pos hsp]
  simp only [hsp0.2 hsp, decide_true, Bool.not_true, cond_false, Balance_eq (show 20 ≤ NN by decide), hb]
  have b5 : 1 ≤ bC l s ∧ bC l s ≤ 100000 := by unfold bC; omega
  have e1 : ((0 : Int) != 0) = false := rfl
  have e2 : decide (bC l s < 1) = false := by simp; omega
  have e3 : decide (bC l s > 100000) = false := by simp; omega
  have hv' := hv.setC b5.1 b5.2
  have hSides : ∀ k : Int → Int → Int → Option Unit, lift_Sides NN (api_Lift.mk l.Car (bC l s) l.Rated l.Rope l.Floors l.Num l.Den l.Speed l.Accel l.Over l.Stiff l.Level) p.Height p.Load k = k (sidesV (setC0 l (bC l s)) p.Height p.Load).1 (sidesV (setC0 l (bC l s)) p.Height p.Load).2.1 (sidesV (setC0 l (bC l s)) p.Height p.Load).2.2 := fun k => Sides_eq (by decide) _ _ _ k
  simp only [e1, e2, e3, cond_false, hSides]
  have hW : ∀ c : Int, 1 ≤ c → c ≤ 100000 → ∀ k : Int → Option Unit, newelref05_Worst NN l s c k = k (bW l s c) := fun c h1 h2 k => Worst_eq (by decide) hv hsp (by omega) h2 k
  have hS : (p.Load < s.Low ∨ p.Load > s.High) ∨ (sidesV (setC0 l (bC l s)) p.Height p.Load = (0, 0, 1)) ∨ ∃ a b, sidesV (setC0 l (bC l s)) p.Height p.Load = (a, b, 0) ∧ (if w64 (b - a) > w64 (a - b) then w64 (b - a) else w64 (a - b)) ≤ bW l s (bC l s) := by
    rcases Classical.em (p.Load < s.Low ∨ p.Load > s.High) with h | h
    · exact .inl h
    · right
      unfold sidesV
      rw [if_pos hv']
      by_cases hin : inP (setC0 l (bC l s)) p.Height p.Load
      · right
        rw [if_pos hin]
        refine ⟨_, _, rfl, ?_⟩
        obtain ⟨⟨q1, q2⟩, q3, q4⟩ := hin
        obtain ⟨u1, u2, u3⟩ := id hsp
        have hr := hv.r2
        have sb := side_bounds hv'.sl (x := p.Height) (y := p.Load) q1 q2 (by omega) (by omega)
        have ea : sideA (setC0 l (bC l s)) p.Height p.Load = l.Car + p.Load + l.Rope * (topS l - p.Height) := rfl
        have eb : sideB (setC0 l (bC l s)) p.Height = bC l s + l.Rope * p.Height := rfl
        have q2' : p.Height ≤ topS l := q2
        have m1 : 0 ≤ l.Rope * p.Height := Int.mul_nonneg hv.o1 q1
        have m2 : l.Rope * (topS l - p.Height) = l.Rope * topS l - l.Rope * p.Height := Int.mul_sub _ _ _
        have m3 : l.Rope * p.Height ≤ l.Rope * topS l := Int.mul_le_mul_of_nonneg_left q2' hv.o1
        rw [w64_eq (by omega) (by omega), w64_eq (by omega) (by omega)]
        unfold bW bM bL
        omega
      · left
        rw [if_neg hin]
  have hbest := fun h1 h2 => bW_best hv hsp (c := p.Accel) h1 h2
  by_cases c1 : p.Accel ≥ 1 ∧ p.Accel ≤ 100000
  · obtain ⟨c1, c2⟩ := c1
    have hb2 := hbest c1 c2
    have e4 : decide (bW l s p.Accel < bW l s (bC l s)) = false := by simp; omega
    have e5 : (bW l s p.Accel == bW l s (bC l s)) = true → decide (p.Accel < bC l s) = false := fun h => by
      simp only [beq_iff_eq] at h
      simp; omega
    simp only [c1, c2, decide_true, cond_true, hW _ c1 c2, e4, cond_false]
    rcases hS with h | h | ⟨a, b, h, hle⟩
    · rcases h with h | h
      · simp only [h, decide_true, cond_true]
        cases hq : (bW l s p.Accel == bW l s (bC l s))
        · rfl
        · simp only [e5 hq, cond_true, cond_false]; rfl
      · simp only [h, decide_true, cond_true]
        cases hq : (bW l s p.Accel == bW l s (bC l s))
        · simp only [cond_false]
          cases decide (p.Load < s.Low) <;> rfl
        · simp only [e5 hq, cond_true, cond_false]
          cases decide (p.Load < s.Low) <;> rfl
    · simp only [h]
      cases hq : (bW l s p.Accel == bW l s (bC l s))
      · simp only [cond_false]
        cases decide (p.Load < s.Low) <;> cases decide (p.Load > s.High) <;> rfl
      · simp only [e5 hq, cond_true, cond_false]
        cases decide (p.Load < s.Low) <;> cases decide (p.Load > s.High) <;> rfl
    · simp only [h, hle, decide_true]
      cases hq : (bW l s p.Accel == bW l s (bC l s))
      · simp only [cond_false]
        cases decide (p.Load < s.Low) <;> cases decide (p.Load > s.High) <;> rfl
      · simp only [e5 hq, cond_true, cond_false]
        cases decide (p.Load < s.Low) <;> cases decide (p.Load > s.High) <;> rfl
  · have key : (bif decide (p.Load < s.Low) then okK (lget [SV.bool true] 0, []) else bif decide (p.Load > s.High) then okK (lget [SV.bool true] 0, []) else
        bif (sidesV (setC0 l (bC l s)) p.Height p.Load).2.2 != 0 then bif (sidesV (setC0 l (bC l s)) p.Height p.Load).2.2 == 1 then okK (lget [SV.bool true] 0, []) else okK (lget [SV.bool false] 0, [])
        else bif decide ((if w64 ((sidesV (setC0 l (bC l s)) p.Height p.Load).2.1 - (sidesV (setC0 l (bC l s)) p.Height p.Load).1) > w64 ((sidesV (setC0 l (bC l s)) p.Height p.Load).1 - (sidesV (setC0 l (bC l s)) p.Height p.Load).2.1) then w64 ((sidesV (setC0 l (bC l s)) p.Height p.Load).2.1 - (sidesV (setC0 l (bC l s)) p.Height p.Load).1) else w64 ((sidesV (setC0 l (bC l s)) p.Height p.Load).1 - (sidesV (setC0 l (bC l s)) p.Height p.Load).2.1)) ≤ bW l s (bC l s)) then okK (lget [SV.bool true] 0, []) else okK (lget [SV.bool false] 0, [])) = some () := by
      rcases hS with h | h | ⟨a, b, h, hle⟩
      · rcases h with h | h
        · simp only [h, decide_true, cond_true]; rfl
        · simp only [h, decide_true, cond_true]
          cases decide (p.Load < s.Low) <;> rfl
      · simp only [h]
        cases decide (p.Load < s.Low) <;> cases decide (p.Load > s.High) <;> rfl
      · simp only [h, hle, decide_true]
        cases decide (p.Load < s.Low) <;> cases decide (p.Load > s.High) <;> rfl
    by_cases c3 : p.Accel ≥ 1
    · have c4 : ¬ p.Accel ≤ 100000 := fun h => c1 ⟨c3, h⟩
      simp only [c3, c4, decide_true, decide_false, cond_true, cond_false]
      exact key
    · simp only [c3, decide_false, cond_false]
      exact key
end
end Go.Proofs.Ytceeaimmelaenaa
