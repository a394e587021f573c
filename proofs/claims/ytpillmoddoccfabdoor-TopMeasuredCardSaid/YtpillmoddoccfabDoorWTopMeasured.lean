/-
  The model of the statement TopMeasured, that it is what the code does (written by a program), and that it answers true.
-/
import Derived.Test.YtpillmoddoccfabDoorMeP1
import Derived.Test.YtpillmoddoccfabDoorSxRun
set_option maxRecDepth 100000
set_option maxHeartbeats 0
set_option linter.unusedSectionVars false
set_option linter.unusedVariables false
set_option linter.unusedSimpArgs false
namespace Go.Proofs.YtpillmoddoccfabDoor
open Go.Sx
noncomputable section

theorem neweltop_measures_closed {R : Type} (kf : SV × Tab → Option R) : (runG E 400 60).run 8 [] [] 0 kf = kf (.bool true, []) := by kernel_rfl
def neweltop_measures_m {R : Type} (N : Nat) (k : Bool → Option R) : Option R :=
  k true
noncomputable def neweltop_measures {R : Type} : Nat → (Bool → Option R) → Option R := lock (@neweltop_measures_m R)
theorem neweltop_measures_def {R : Type} (N : Nat) (k : Bool → Option R) : neweltop_measures N k = neweltop_measures_m N k := by unfold neweltop_measures; rw [lock_eq]
theorem neweltop_measures_eq {R : Type} (N : Nat) (k : Bool → Option R) : neweltop_measures N k = k true := by rw [neweltop_measures_def]; rfl
def neweltop_measures_sp : Sp := ⟨[], []⟩
noncomputable def neweltop_measures_go {R : Type} (N : Nat) (args : List SV) (T : Tab) (kf : SV × Tab → Option R) : Option R :=
  neweltop_measures N (fun q0 => kf (lget [.bool q0] 0, []))
noncomputable def neweltop_measures_cal {R : Type} (N : Nat) : Cal R := callM (faults_Liars_cal N) 8 0 neweltop_measures_sp (neweltop_measures_go N)
theorem neweltop_measures_cal_ok {R : Type} (N : Nat) : CalOk E.P (neweltop_measures_cal (R := R) N) :=
  callM_eq (m' := fun args T kf => kf (.bool true, [])) (fun args T kf => neweltop_measures_def N (fun q0 => kf (lget [.bool q0] 0, []))) (closed_ok hE (faults_Liars_cal_ok N) neweltop_measures_closed)


def neweltop_TopMeasured_m {R : Type} (N : Nat) (a260 : api_Escalator) (a261 : api_Stop) (a262 : neweltop_Marks) (k : Bool → Option R) : Option R :=
  newellaw01_Far N a260 (fun r263 =>
  bif r263 then
   neweltop_measures N  (fun r264 =>
   k r264)
  else
   newelref01_CheckStop N a260 a261 (fun r265 =>
   bif r265 != (0 : Int) then
    neweltop_measures N  (fun r266 =>
    k r266)
   else
    newelref01_History N a261 (neweltop_Marks.Loads a262) (fun r267 =>
    bif !r267 then
     neweltop_measures N  (fun r268 =>
     k r268)
    else
     bif decide ((↑(Arr.n (neweltop_Marks.Loads a262)) : Int) > (100 : Int)) then
      neweltop_measures N  (fun r269 =>
      k r269)
     else
      bif decide ((↑(Arr.n (neweltop_Marks.Readings a262)) : Int) > (7 : Int)) then
       neweltop_measures N  (fun r270 =>
       k r270)
      else
       drive_Distance N a260 a261 (fun r271 r272 r273 =>
       drive_Play N a260 a261 (neweltop_Marks.Loads a262) (fun r274 r275 r276 =>
       bif r274 != (0 : Int) then
        k false
       else
        bif r273 != (0 : Int) then
         bif r273 != (12 : Int) then
          k false
         else
          bif (↑(Arr.n r276) : Int) != (↑(Arr.n (neweltop_Marks.Loads a262)) : Int) then
           k false
          else
           bif r273 != (0 : Int) then
            neweltop_measures N  (fun r277 =>
            k r277)
           else
            bif decide (api_Span.High r271 > (1000 : Int)) then
             neweltop_measures N  (fun r278 =>
             k r278)
            else
             newelref01_Rest N (api_Stop.Speed a261) r276 (fun r279 r280 r281 =>
             bif !r281 then
              neweltop_measures N  (fun r282 =>
              k r282)
             else
              neweltop_allow N (neweltop_Marks.Readings a262) r279 (fun r283 =>
              bif !r283 then
               neweltop_measures N  (fun r284 =>
               k r284)
              else
               faults_Truth N (neweltop_Marks.Readings a262) (fun r285 r286 =>
               bif r286 != (0 : Int) then
                k false
               else
                bif decide (mxI (api_Span.Low r285) (api_Span.Low r271) > mnI (api_Span.High r285) (api_Span.High r271)) then
                 k false
                else
                 bif room ((0 : Nat) + Arr.n (neweltop_Marks.Readings a262)) then
                  bif room ((0 : Nat) + Arr.n (neweltop_Marks.Readings a262) + (1 : Nat)) then
                   faults_Truth N (lst api_ReadingC ((0 : Nat) + Arr.n (neweltop_Marks.Readings a262) + (1 : Nat)) (catC ((0 : Nat) + Arr.n (neweltop_Marks.Readings a262)) (catC (0 : Nat) (litC [SV.int IntKind.i64 (0 : Int), SV.int IntKind.i64 (0 : Int), SV.int IntKind.i64 (0 : Int), SV.int IntKind.i64 (0 : Int)] []) (Cod.cell api_ReadingC (Arr.f (neweltop_Marks.Readings a262)))) (litC [SV.int IntKind.i64 (0 : Int), SV.int IntKind.i64 (0 : Int), SV.int IntKind.i64 (0 : Int), SV.int IntKind.i64 (0 : Int)] [[SV.int IntKind.i64 (api_Span.Low r271), SV.int IntKind.i64 (w64 (api_Span.High r271 - api_Span.Low r271)), SV.int IntKind.i64 (0 : Int), SV.int IntKind.i64 (0 : Int)]]))) (fun r287 r288 =>
                   faults_Liars N (lst api_ReadingC ((0 : Nat) + Arr.n (neweltop_Marks.Readings a262) + (1 : Nat)) (catC ((0 : Nat) + Arr.n (neweltop_Marks.Readings a262)) (catC (0 : Nat) (litC [SV.int IntKind.i64 (0 : Int), SV.int IntKind.i64 (0 : Int), SV.int IntKind.i64 (0 : Int), SV.int IntKind.i64 (0 : Int)] []) (Cod.cell api_ReadingC (Arr.f (neweltop_Marks.Readings a262)))) (litC [SV.int IntKind.i64 (0 : Int), SV.int IntKind.i64 (0 : Int), SV.int IntKind.i64 (0 : Int), SV.int IntKind.i64 (0 : Int)] [[SV.int IntKind.i64 (api_Span.Low r271), SV.int IntKind.i64 (w64 (api_Span.High r271 - api_Span.Low r271)), SV.int IntKind.i64 (0 : Int), SV.int IntKind.i64 (0 : Int)]]))) (fun r289 r290 r291 =>
                   bif r288 == (0 : Int) then
                    bif r289 == (0 : Int) then
                     bif (↑(Arr.n r291) : Int) == (0 : Int) then
                      bif decide (api_Span.Low r287 ≤ r279) then
                       bif decide (r279 ≤ api_Span.High r287) then
                        bif decide (api_Span.High r287 ≤ api_Span.High r271) then
                         neweltop_measures N  (fun r292 =>
                         k r292)
                        else
                         k false
                       else
                        k false
                      else
                       k false
                     else
                      k false
                    else
                     k false
                   else
                    k false))
                  else
                   Option.none
                 else
                  Option.none)))
        else
         bif (↑(Arr.n r276) : Int) != (↑(Arr.n (neweltop_Marks.Loads a262)) : Int) then
          k false
         else
          bif r273 != (0 : Int) then
           neweltop_measures N  (fun r293 =>
           k r293)
          else
           bif decide (api_Span.High r271 > (1000 : Int)) then
            neweltop_measures N  (fun r294 =>
            k r294)
           else
            newelref01_Rest N (api_Stop.Speed a261) r276 (fun r295 r296 r297 =>
            bif !r297 then
             neweltop_measures N  (fun r298 =>
             k r298)
            else
             neweltop_allow N (neweltop_Marks.Readings a262) r295 (fun r299 =>
             bif !r299 then
              neweltop_measures N  (fun r300 =>
              k r300)
             else
              faults_Truth N (neweltop_Marks.Readings a262) (fun r301 r302 =>
              bif r302 != (0 : Int) then
               k false
              else
               bif decide (mxI (api_Span.Low r301) (api_Span.Low r271) > mnI (api_Span.High r301) (api_Span.High r271)) then
                k false
               else
                bif room ((0 : Nat) + Arr.n (neweltop_Marks.Readings a262)) then
                 bif room ((0 : Nat) + Arr.n (neweltop_Marks.Readings a262) + (1 : Nat)) then
                  faults_Truth N (lst api_ReadingC ((0 : Nat) + Arr.n (neweltop_Marks.Readings a262) + (1 : Nat)) (catC ((0 : Nat) + Arr.n (neweltop_Marks.Readings a262)) (catC (0 : Nat) (litC [SV.int IntKind.i64 (0 : Int), SV.int IntKind.i64 (0 : Int), SV.int IntKind.i64 (0 : Int), SV.int IntKind.i64 (0 : Int)] []) (Cod.cell api_ReadingC (Arr.f (neweltop_Marks.Readings a262)))) (litC [SV.int IntKind.i64 (0 : Int), SV.int IntKind.i64 (0 : Int), SV.int IntKind.i64 (0 : Int), SV.int IntKind.i64 (0 : Int)] [[SV.int IntKind.i64 (api_Span.Low r271), SV.int IntKind.i64 (w64 (api_Span.High r271 - api_Span.Low r271)), SV.int IntKind.i64 (0 : Int), SV.int IntKind.i64 (0 : Int)]]))) (fun r303 r304 =>
                  faults_Liars N (lst api_ReadingC ((0 : Nat) + Arr.n (neweltop_Marks.Readings a262) + (1 : Nat)) (catC ((0 : Nat) + Arr.n (neweltop_Marks.Readings a262)) (catC (0 : Nat) (litC [SV.int IntKind.i64 (0 : Int), SV.int IntKind.i64 (0 : Int), SV.int IntKind.i64 (0 : Int), SV.int IntKind.i64 (0 : Int)] []) (Cod.cell api_ReadingC (Arr.f (neweltop_Marks.Readings a262)))) (litC [SV.int IntKind.i64 (0 : Int), SV.int IntKind.i64 (0 : Int), SV.int IntKind.i64 (0 : Int), SV.int IntKind.i64 (0 : Int)] [[SV.int IntKind.i64 (api_Span.Low r271), SV.int IntKind.i64 (w64 (api_Span.High r271 - api_Span.Low r271)), SV.int IntKind.i64 (0 : Int), SV.int IntKind.i64 (0 : Int)]]))) (fun r305 r306 r307 =>
                  bif r304 == (0 : Int) then
                   bif r305 == (0 : Int) then
                    bif (↑(Arr.n r307) : Int) == (0 : Int) then
                     bif decide (api_Span.Low r303 ≤ r295) then
                      bif decide (r295 ≤ api_Span.High r303) then
                       bif decide (api_Span.High r303 ≤ api_Span.High r271) then
                        neweltop_measures N  (fun r308 =>
                        k r308)
                       else
                        k false
                      else
                       k false
                     else
                      k false
                    else
                     k false
                   else
                    k false
                  else
                   k false))
                 else
                  Option.none
                else
                 Option.none))))))))
noncomputable def neweltop_TopMeasured {R : Type} : Nat → api_Escalator → api_Stop → neweltop_Marks → (Bool → Option R) → Option R := lock (@neweltop_TopMeasured_m R)
theorem neweltop_TopMeasured_def {R : Type} (N : Nat) (a260 : api_Escalator) (a261 : api_Stop) (a262 : neweltop_Marks) (k : Bool → Option R) : neweltop_TopMeasured N a260 a261 a262 k = neweltop_TopMeasured_m N a260 a261 a262 k := by unfold neweltop_TopMeasured; rw [lock_eq]
def neweltop_TopMeasured_sp : Sp := ⟨[rAgg api_EscalatorC, rAgg api_StopC, rAgg neweltop_MarksC], []⟩
theorem neweltop_TopMeasured_sp_ok : neweltop_TopMeasured_sp.Ok := ⟨(allCons (rAgg_ok api_EscalatorC_ok api_EscalatorC_len) (allCons (rAgg_ok api_StopC_ok api_StopC_len) (allCons (rAgg_ok neweltop_MarksC_ok neweltop_MarksC_len) allNil))), eNil⟩
def neweltop_TopMeasured_rs : Sp := ⟨[rBool], []⟩
theorem neweltop_TopMeasured_rs_ok : neweltop_TopMeasured_rs.Ok := ⟨(allCons rBool_ok allNil), eNil⟩
def neweltop_TopMeasured_run {R : Type} (N : Nat) (args : List SV) (T : Tab) (kf : SV × Tab → Option R) : Option R :=
  neweltop_TopMeasured_m N (Cod.dec api_EscalatorC (lget (toCs (lget args 0)))) (Cod.dec api_StopC (lget (toCs (lget args 1)))) (Cod.dec neweltop_MarksC (lget (toCs (lget args 2)))) (fun q0 => kf (lget [.bool q0] 0, []))
def neweltop_TopMeasured_lp {R : Type} (N : Nat) : Lp R := fun body S k => Option.none
noncomputable def neweltop_TopMeasured_go {R : Type} (N : Nat) (args : List SV) (T : Tab) (kf : SV × Tab → Option R) : Option R :=
  neweltop_TopMeasured N (Cod.dec api_EscalatorC (lget (toCs (lget args 0)))) (Cod.dec api_StopC (lget (toCs (lget args 1)))) (Cod.dec neweltop_MarksC (lget (toCs (lget args 2)))) (fun q0 => kf (lget [.bool q0] 0, []))
noncomputable def neweltop_TopMeasured_cal {R : Type} (N : Nat) : Cal R := callM (neweltop_measures_cal N) 3 0 neweltop_TopMeasured_sp (neweltop_TopMeasured_go N)
theorem neweltop_TopMeasured_cal_ok {R : Type} (N : Nat) : CalOk E.P (neweltop_TopMeasured_cal (R := R) N) :=
  callM_ok hE (neweltop_measures_cal_ok N) (lp := neweltop_TopMeasured_lp N) (jn := noJn) (keys := []) kNil (by kernel_rfl) (js := []) jNil (by kernel_rfl) neweltop_TopMeasured_sp_ok neweltop_TopMeasured_rs_ok (fun args T kf => Eq.trans (neweltop_TopMeasured_def N (Cod.dec api_EscalatorC (lget (toCs (lget args 0)))) (Cod.dec api_StopC (lget (toCs (lget args 1)))) (Cod.dec neweltop_MarksC (lget (toCs (lget args 2)))) (fun q0 => kf (lget [.bool q0] 0, []))) (by kernel_rfl : neweltop_TopMeasured_run N args T kf = fnM E (neweltop_measures_cal N) (neweltop_TopMeasured_lp N) (noJn) 3 (neweltop_TopMeasured_sp.vs args) (neweltop_TopMeasured_sp.tab T) 0 (resK neweltop_TopMeasured_rs kf)))


section
open Ds We
/-- Loads are looked at in full, however many there are. -/
theorem History_long {R : Type} {N : Nat} {a : Arr Int} (hm : a.n ≤ maxLen) (hn : 100 < a.n) (hN : a.n < N) (s : api_Stop) (k : Bool → Option R) : newelref01_History N s a k = k false := by
  have hM : maxLen < 9223372036854775808 := by decide
  have hl : ∀ (kr : Bool → Option R) (k0 : Unit → Option R), kr false = k false → k0 () = k false → ∀ (n i : Nat), i ≤ a.n → a.n < n + i → newelref01_History_l2 N n a (i : Int) s kr k0 = k false := by
    intro kr k0 h1 h2 n
    induction n with
    | zero => intro i h3 h4; omega
    | succ n ih =>
      intro i h3 h4
      unfold newelref01_History_l2 newelref01_History_b2
      by_cases hi' : i < a.n
      · have e1 : decide ((i : Int) < (a.n : Int)) = true := by simpa using hi'
        have e2 : w64 ((i : Int) + 1) = ((i + 1 : Nat) : Int) := by rw [w64_eq (by omega) (by omega)]; omega
        simp only [e1, nat_nonneg, Bool.and_self, cond_true, Int.toNat_natCast, within_eq, e2]
        by_cases hb : s.Loads.Low ≤ a.f i ∧ a.f i ≤ s.Loads.High
        · simp only [hb, and_self, decide_true, Bool.not_true, cond_false]
          exact ih (i + 1) (by omega) (by omega)
        · simp only [hb, decide_false, Bool.not_false, cond_true]
          exact h1
      · have e1 : decide ((i : Int) < (a.n : Int)) = false := by simpa using hi'
        simp only [e1, cond_false]
        exact h2
  rw [newelref01_History_def]
  unfold newelref01_History_m
  refine hl _ _ rfl ?_ N 0 (Nat.zero_le _) (by omega)
  have : ¬ ((a.n : Int) ≤ 100) := by omega
  simp [this]

theorem dist_zero {e : api_Escalator} {s : api_Stop} (h1 : VE e) (h2 : VS e s) : distV e s = if pathV e s true (restS e s true) = 0 then
    (⟨wayS (pathV e s false) (restS e s false), wayS (pathV e s true) (restS e s true)⟩, ⟨restS e s false, restS e s true⟩, 0) else (⟨0, 0⟩, ⟨0, 0⟩, 12) := by
  unfold distV
  rw [stopV_of h1 h2]
  simp

/-- A stop that comes to rest ends within its bounds. -/
theorem gone_in {e : api_Escalator} {s : api_Stop} {a : Arr Int} (hH : HistOk e s a) (hr : pathV e s true (restS e s true) = 0) (hz : playV e s a.f (stopF (playV e s a.f) a.n 0) = 0) :
    0 ≤ wayS (pathV e s false) (restS e s false) ∧ wayS (pathV e s false) (restS e s false) ≤ wayS (playV e s a.f) (stopF (playV e s a.f) a.n 0) ∧
    wayS (playV e s a.f) (stopF (playV e s a.f) a.n 0) ≤ wayS (pathV e s true) (restS e s true) := by
  have hS := hH.vs
  have hn := hH.n
  have hbt := play_between hH
  have sv := stopF_spec (playV e s a.f) a.n 0
  have hTM := rest_le e s true
  have hsoftv := play_soft (e := e) hS.s1 a.f
  have hsoftM := path_soft (e := e) hS.s1 true
  have hsoftm := path_soft (e := e) hS.s1 false
  have hup : stopF (playV e s a.f) a.n 0 ≤ restS e s true := by
    rcases Nat.lt_or_ge a.n (restS e s true) with hlt | hge
    · omega
    · exact (Soft.less hsoftv hsoftM (n := a.n) (m := 100) (fun t h6 _ _ _ => (hbt t h6).2) hr hge).1
  refine ⟨?_, ?_, ?_⟩
  · have := way_mono (v := pathV e s false) (n := restS e s false) (fun t ht => (hsoftm.pos (n := 100) t ht).1) (Nat.zero_le _) (Nat.le_refl _)
    simpa [wayS] using this
  · exact (Soft.less hsoftm hsoftv (n := 100) (m := a.n) (fun t _ h7 _ _ => (hbt t h7).1) hz (by omega)).2.2
  · have a1 := way_le (u := playV e s a.f) (v := pathV e s true) (n := a.n) (fun t ht => (hbt t ht).2) (stopF (playV e s a.f) a.n 0) (by omega)
    have a2 := way_mono (v := pathV e s true) (n := restS e s true) (fun t ht => (hsoftM.pos (n := 100) t ht).1) hup (Nat.le_refl _)
    omega

theorem more_f (a : Arr api_Reading) (c0 : Nat → Nat → SV) (z : List SV) (e1 e2 e3 e4 : Int) : (lst api_ReadingC ((0 : Nat) + a.n + (1 : Nat)) (catC ((0 : Nat) + a.n) (catC (0 : Nat) c0 (Cod.cell api_ReadingC a.f)) (litC z [[SV.int IntKind.i64 e1, SV.int IntKind.i64 e2, SV.int IntKind.i64 e3, SV.int IntKind.i64 e4]]))).Is (a.n + 1) (fun j => if j < a.n then a.f j else ⟨e1, e2, e3, e4⟩) := by
  refine ⟨by show 0 + a.n + 1 = a.n + 1; omega, fun i hi => ?_⟩
  have hb : Nat.blt i (0 + a.n) = decide (i < a.n) := by
    rw [Nat.zero_add]
    cases hh : Nat.blt i a.n
    · have : ¬ i < a.n := fun h => by rw [← Nat.blt_eq, hh] at h; cases h
      simp [this]
    · rw [Nat.blt_eq] at hh; simp [hh]
  have h0 : ∀ i : Nat, Nat.blt i 0 = false := fun i => by
    cases hh : Nat.blt i 0
    · rfl
    · rw [Nat.blt_eq] at hh; omega
  show api_ReadingC.dec (fun j => bif Nat.blt i (0 + a.n) then (bif Nat.blt i 0 then c0 i j else Cod.cell api_ReadingC a.f (i - 0) j) else litC z [[SV.int IntKind.i64 e1, SV.int IntKind.i64 e2, SV.int IntKind.i64 e3, SV.int IntKind.i64 e4]] (i - (0 + a.n)) j) = _
  rw [hb, h0]
  by_cases h : i < a.n
  · simp only [h, decide_true, cond_true, cond_false, if_true]; rfl
  · have : i - (0 + a.n) = 0 := by omega
    simp only [h, decide_false, cond_false, if_false, this]; rfl

theorem topMeasured_true (e : api_Escalator) (s : api_Stop) (x : neweltop_Marks) (he : e.wf) (hs : s.wf) (hx : x.wf) : ∃ N, neweltop_TopMeasured N e s x (fun q0 => okK (lget [.bool q0] 0, [])) = some () := by
  refine ⟨10000 + x.Loads.n, ?_⟩
  have htr : okK (lget [SV.bool true] 0, []) = some () := rfl
  rw [neweltop_TopMeasured_def]
  unfold neweltop_TopMeasured_m
  simp only [neweltop_measures_eq, htr, Far_eq, refCheckStop_eq (show 10 ≤ 10000 + x.Loads.n by omega)]
  by_cases h1 : (e.Brakes.n : Int) > 10
  · simp only [h1, decide_true, cond_true]
  simp only [h1, decide_false, cond_false]
  by_cases h3 : stopV e s = 0
  case neg =>
    have : (stopV e s != 0) = true := by simpa using h3
    simp only [this, cond_true]
  obtain ⟨hV, hS⟩ := stopV_zero h3
  simp only [h3, bne_self_eq_false, cond_false]
  by_cases h2 : x.Loads.n ≤ 100
  case neg =>
    rw [History_long (hx.1.1) (by omega) (by omega)]
    rfl
  rw [History_eq (show 2000 ≤ 10000 + x.Loads.n by omega) (show x.Loads.n ≤ 1000 by omega)]
  cases hv : histV s x.Loads
  · rfl
  have hH : HistOk e s x.Loads := ⟨hV, hS, (histV_iff.1 hv).1, h2⟩
  have c2 : ¬ ((x.Loads.n : Int) > 100) := by omega
  simp only [Bool.not_true, cond_false, c2, decide_false]
  by_cases h4 : (x.Readings.n : Int) > 7
  · simp only [h4, decide_true, cond_true]
  simp only [h4, decide_false, cond_false, Distance_eq (show 200 ≤ 10000 + x.Loads.n by omega)]
  obtain ⟨l, b, hb, hk⟩ := Play_eq (N := 10000 + x.Loads.n) (by omega) e s x.Loads
  have hplay := playE_of hH
  rw [hplay, if_pos rfl] at hb
  have hrest := fun k => Rest_eq (R := Unit) (N := 10000 + x.Loads.n) (by omega) (v := playV e s x.Loads.f) (m := x.Loads.n) (by omega) (play_B hH) hb k
  have e0 : playV e s x.Loads.f 0 = s.Speed := rfl
  rw [e0] at hrest
  simp only [hk, hplay, bne_self_eq_false, cond_false]
  by_cases hr : pathV e s true (restS e s true) = 0
  case neg =>
    rw [dist_zero hV hS, if_neg hr]
    have e1 : ((12 : Int) != 0) = true := rfl
    have e2 : ((12 : Int) != 12) = false := rfl
    simp only [e1, e2, cond_true, cond_false, hb.len, bne_self_eq_false]
  rw [dist_zero hV hS, if_pos hr]
  simp only [bne_self_eq_false, cond_false, hb.len]
  by_cases h5 : wayS (pathV e s true) (restS e s true) > 1000
  · simp only [h5, decide_true, cond_true]
  simp only [h5, decide_false, cond_false, hrest]
  by_cases hz : playV e s x.Loads.f (stopF (playV e s x.Loads.f) x.Loads.n 0) = 0
  case neg =>
    have : (playV e s x.Loads.f (stopF (playV e s x.Loads.f) x.Loads.n 0) == 0) = false := by simpa using hz
    simp only [this, Bool.not_false, cond_true]
  obtain ⟨g0, g1, g2⟩ := gone_in hH hr hz
  simp only [hz, BEq.rfl, Bool.not_true, cond_false]
  generalize wayS (playV e s x.Loads.f) (stopF (playV e s x.Loads.f) x.Loads.n 0) = w at *
  generalize wayS (pathV e s false) (restS e s false) = lo at *
  generalize wayS (pathV e s true) (restS e s true) = hi at *
  refine (allow_cases (N := 10000 + x.Loads.n) (by omega) x.Readings w _).elim (fun h => h.trans rfl) (fun ⟨hA, h⟩ => h.trans ?_)
  simp only [Bool.not_true, cond_false]
  obtain ⟨t, t1, t2, t3, t4⟩ := truth_more (N := 10000 + x.Loads.n) (by omega) hA (by omega)
  have c5 : ¬ (mxI t.Low lo > mnI t.High hi) := by rw [mxI_eq, mnI_eq]; omega
  have hn8 : x.Readings.n ≤ 7 := by omega
  have r1 : room ((0 : Nat) + x.Readings.n) = true := by unfold room; rw [Nat.ble_eq]; omega
  have r2 : room ((0 : Nat) + x.Readings.n + 1) = true := by unfold room; rw [Nat.ble_eq]; omega
  simp only [t4, bne_self_eq_false, cond_false, c5, decide_false, r1, r2, cond_true]
  have hd : w64 (hi - lo) = hi - lo := w64_eq (by omega) (by omega)
  rw [hd]
  have hm := more_f x.Readings (litC [SV.int IntKind.i64 (0 : Int), SV.int IntKind.i64 (0 : Int), SV.int IntKind.i64 (0 : Int), SV.int IntKind.i64 (0 : Int)] []) [SV.int IntKind.i64 (0 : Int), SV.int IntKind.i64 (0 : Int), SV.int IntKind.i64 (0 : Int), SV.int IntKind.i64 (0 : Int)] lo (hi - lo) 0 0
  generalize (lst api_ReadingC ((0 : Nat) + x.Readings.n + (1 : Nat)) _) = L at hm ⊢
  have hA2 : AllowP L w := by
    refine ⟨by rw [hm.len]; omega, by rw [hm.len]; omega, fun j hj => ?_, fun j hj => ?_⟩
    · rw [hm.len] at hj
      rw [hm.get j hj]
      by_cases h : j < x.Readings.n
      · rw [if_pos h]; exact hA.r j h
      · rw [if_neg h]; exact ⟨by show (-100000 : Int) ≤ lo ∧ lo ≤ 100000; omega, by show (0 : Int) ≤ hi - lo ∧ hi - lo ≤ 1000; omega, by show (0 : Int) ≤ 0 ∧ (0 : Int) ≤ 1000; omega, by show (0 : Int) ≤ 0 ∧ (0 : Int) ≤ 1000; omega⟩
    · rw [hm.len] at hj
      rw [hm.get j hj]
      by_cases h : j < x.Readings.n
      · rw [if_pos h]; exact hA.w j h
      · rw [if_neg h]
        show lo - (hi - lo + 0 * 0) ≤ w ∧ w ≤ lo + (hi - lo + 0 * 0)
        omega
  obtain ⟨t', u1, u2, u3, u4⟩ := truth_more (N := 10000 + x.Loads.n) (by omega) hA2 (by omega)
  obtain ⟨l', b', v1, v2⟩ := liars_none (N := 10000 + x.Loads.n) (by omega) hA2 (by omega)
  have u5 := u3 x.Readings.n (by rw [hm.len]; omega)
  rw [hm.get _ (by omega), if_neg (by omega)] at u5
  have u6 : t'.High ≤ hi := by
    have : t'.High ≤ lo + (hi - lo + 0 * 0) := u5
    omega
  simp only [u4, v2, v1, BEq.rfl, cond_true, u1, u2, u6, decide_true]
  rfl
end
end
end Go.Proofs.YtpillmoddoccfabDoor
