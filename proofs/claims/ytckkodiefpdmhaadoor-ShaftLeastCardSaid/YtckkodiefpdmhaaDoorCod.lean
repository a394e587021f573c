import Derived.Test.YtckkodiefpdmhaaDoorEnv
import Derived.Test.YtckkodiefpdmhaaDoorSxEnd
set_option linter.unusedVariables false
namespace Go.Proofs.YtckkodiefpdmhaaDoor
open Go.Sx
structure Arr3_int where
  a0 : Int
  a1 : Int
  a2 : Int
def Arr3_intC : Cod Arr3_int := ⟨(.cons (.int .i64) (.cons (.int .i64) (.cons (.int .i64) .nil))), 3, fun x => [.int .i64 x.a0, .int .i64 x.a1, .int .i64 x.a2], fun f => ⟨toI (f 0), toI (f 1), toI (f 2)⟩⟩
theorem Arr3_intC_ok : Arr3_intC.Ok where
  slen := rfl
  ck := fun x j hj => match j, hj with
    | 0, _ => rfl
    | 1, _ => rfl
    | 2, _ => rfl
    | j + 3, h => absurd h (by simp [Arr3_intC])
  ok := fun f hf Z w j v hj hd => match j, hj, hd with
    | 0, hj, hd => den_int (hf 0 hj) hd
    | 1, hj, hd => den_int (hf 1 hj) hd
    | 2, hj, hd => den_int (hf 2 hj) hd
    | j + 3, h, _ => absurd h (by simp [Arr3_intC])
theorem Arr3_intC_len (x : Arr3_int) : (Arr3_intC.enc x).length = Arr3_intC.size := rfl
def Arr3_int.wf (x : Arr3_int) : Prop := i64 x.a0 ∧ i64 x.a1 ∧ i64 x.a2
theorem Arr3_intC_flat : Arr3_intC.Flat := ⟨fun f vc h hf => by
  obtain ⟨s0, t0, rfl, e0, g0⟩ := keyCells_cons h
  obtain ⟨s1, t1, rfl, e1, g1⟩ := keyCells_cons g0
  obtain ⟨s2, t2, rfl, e2, g2⟩ := keyCells_cons g1
  have z := keyCells_nil g2
  subst z
  have a0 := hf 0 s0 rfl
  have a1 := hf 1 s1 rfl
  have a2 := hf 2 s2 rfl
  simp only [Arr3_intC, a0, a1, a2]
  rw [← keyCell_int e0, ← keyCell_int e1, ← keyCell_int e2]⟩
structure api_Shaft where
  Size : Arr3_int
  Walls : Arr Arr3_int
def api_ShaftC : Cod api_Shaft := ⟨(.cons (.int .i64) (.cons (.int .i64) (.cons (.int .i64) (.cons (.sl Arr3_intC.sg) .nil)))), 4, fun x => [.int .i64 x.Size.a0, .int .i64 x.Size.a1, .int .i64 x.Size.a2, slC Arr3_intC x.Walls], fun f => ⟨⟨toI (f 0), toI (f 1), toI (f 2)⟩, lstC Arr3_intC (f 3)⟩⟩
theorem api_ShaftC_ok : api_ShaftC.Ok where
  slen := rfl
  ck := fun x j hj => match j, hj with
    | 0, _ => rfl
    | 1, _ => rfl
    | 2, _ => rfl
    | 3, _ => rfl
    | j + 4, h => absurd h (by simp [api_ShaftC])
  ok := fun f hf Z w j v hj hd => match j, hj, hd with
    | 0, hj, hd => den_int (hf 0 hj) hd
    | 1, hj, hd => den_int (hf 1 hj) hd
    | 2, hj, hd => den_int (hf 2 hj) hd
    | 3, hj, hd => den_slC Arr3_intC_ok (hf 3 hj) hd
    | j + 4, h, _ => absurd h (by simp [api_ShaftC])
theorem api_ShaftC_len (x : api_Shaft) : (api_ShaftC.enc x).length = api_ShaftC.size := rfl
def api_Shaft.wf (x : api_Shaft) : Prop := i64 x.Size.a0 ∧ i64 x.Size.a1 ∧ i64 x.Size.a2 ∧ (x.Walls.n ≤ maxLen ∧ ∀ i, i < x.Walls.n → (x.Walls.f i).wf)
structure api_Pose where
  At : Arr3_int
  Turn : Int
def api_PoseC : Cod api_Pose := ⟨(.cons (.int .i64) (.cons (.int .i64) (.cons (.int .i64) (.cons (.int .i64) .nil)))), 4, fun x => [.int .i64 x.At.a0, .int .i64 x.At.a1, .int .i64 x.At.a2, .int .i64 x.Turn], fun f => ⟨⟨toI (f 0), toI (f 1), toI (f 2)⟩, toI (f 3)⟩⟩
theorem api_PoseC_ok : api_PoseC.Ok where
  slen := rfl
  ck := fun x j hj => match j, hj with
    | 0, _ => rfl
    | 1, _ => rfl
    | 2, _ => rfl
    | 3, _ => rfl
    | j + 4, h => absurd h (by simp [api_PoseC])
  ok := fun f hf Z w j v hj hd => match j, hj, hd with
    | 0, hj, hd => den_int (hf 0 hj) hd
    | 1, hj, hd => den_int (hf 1 hj) hd
    | 2, hj, hd => den_int (hf 2 hj) hd
    | 3, hj, hd => den_int (hf 3 hj) hd
    | j + 4, h, _ => absurd h (by simp [api_PoseC])
theorem api_PoseC_len (x : api_Pose) : (api_PoseC.enc x).length = api_PoseC.size := rfl
def api_Pose.wf (x : api_Pose) : Prop := i64 x.At.a0 ∧ i64 x.At.a1 ∧ i64 x.At.a2 ∧ i64 x.Turn
theorem api_PoseC_flat : api_PoseC.Flat := ⟨fun f vc h hf => by
  obtain ⟨s0, t0, rfl, e0, g0⟩ := keyCells_cons h
  obtain ⟨s1, t1, rfl, e1, g1⟩ := keyCells_cons g0
  obtain ⟨s2, t2, rfl, e2, g2⟩ := keyCells_cons g1
  obtain ⟨s3, t3, rfl, e3, g3⟩ := keyCells_cons g2
  have z := keyCells_nil g3
  subst z
  have a0 := hf 0 s0 rfl
  have a1 := hf 1 s1 rfl
  have a2 := hf 2 s2 rfl
  have a3 := hf 3 s3 rfl
  simp only [api_PoseC, a0, a1, a2, a3]
  rw [← keyCell_int e0, ← keyCell_int e1, ← keyCell_int e2, ← keyCell_int e3]⟩
structure newellaw09_Crate where
  Edges : Arr3_int
  Pose : api_Pose
  Move : Int
def newellaw09_Crate.wf (x : newellaw09_Crate) : Prop := i64 x.Edges.a0 ∧ i64 x.Edges.a1 ∧ i64 x.Edges.a2 ∧ i64 x.Pose.At.a0 ∧ i64 x.Pose.At.a1 ∧ i64 x.Pose.At.a2 ∧ i64 x.Pose.Turn ∧ i64 x.Move
structure api_Job where
  Machine : Int
  Nights : Int
  After : Arr Int
def api_JobC : Cod api_Job := ⟨(.cons (.int .i64) (.cons (.int .i64) (.cons (.sl intC.sg) .nil))), 3, fun x => [.int .i64 x.Machine, .int .i64 x.Nights, slC intC x.After], fun f => ⟨toI (f 0), toI (f 1), lstC intC (f 2)⟩⟩
theorem api_JobC_ok : api_JobC.Ok where
  slen := rfl
  ck := fun x j hj => match j, hj with
    | 0, _ => rfl
    | 1, _ => rfl
    | 2, _ => rfl
    | j + 3, h => absurd h (by simp [api_JobC])
  ok := fun f hf Z w j v hj hd => match j, hj, hd with
    | 0, hj, hd => den_int (hf 0 hj) hd
    | 1, hj, hd => den_int (hf 1 hj) hd
    | 2, hj, hd => den_slC intC_ok (hf 2 hj) hd
    | j + 3, h, _ => absurd h (by simp [api_JobC])
theorem api_JobC_len (x : api_Job) : (api_JobC.enc x).length = api_JobC.size := rfl
def api_Job.wf (x : api_Job) : Prop := i64 x.Machine ∧ i64 x.Nights ∧ (x.After.n ≤ maxLen ∧ ∀ i, i < x.After.n → i64 ((x.After.f i)))
theorem api_JobC_rng {g : Nat → SV} (h : rng api_JobC.sg g 0) : (api_JobC.dec g).wf := by
  obtain ⟨h0, h1, h2, _⟩ := h
  exact ⟨rng_i64 h0, rng_i64 h1, rng_sl (C := intC) (P := fun y => i64 y) (fun _ h => rng_i64 h.1) h2⟩
structure api_Works where
  Machines : Int
  Jobs : Arr api_Job
  Never : Arr Int
  Crews : Int
  Until : Int
def api_WorksC : Cod api_Works := ⟨(.cons (.int .i64) (.cons (.sl api_JobC.sg) (.cons (.sl intC.sg) (.cons (.int .i64) (.cons (.int .i64) .nil))))), 5, fun x => [.int .i64 x.Machines, slC api_JobC x.Jobs, slC intC x.Never, .int .i64 x.Crews, .int .i64 x.Until], fun f => ⟨toI (f 0), lstC api_JobC (f 1), lstC intC (f 2), toI (f 3), toI (f 4)⟩⟩
theorem api_WorksC_ok : api_WorksC.Ok where
  slen := rfl
  ck := fun x j hj => match j, hj with
    | 0, _ => rfl
    | 1, _ => rfl
    | 2, _ => rfl
    | 3, _ => rfl
    | 4, _ => rfl
    | j + 5, h => absurd h (by simp [api_WorksC])
  ok := fun f hf Z w j v hj hd => match j, hj, hd with
    | 0, hj, hd => den_int (hf 0 hj) hd
    | 1, hj, hd => den_slC api_JobC_ok (hf 1 hj) hd
    | 2, hj, hd => den_slC intC_ok (hf 2 hj) hd
    | 3, hj, hd => den_int (hf 3 hj) hd
    | 4, hj, hd => den_int (hf 4 hj) hd
    | j + 5, h, _ => absurd h (by simp [api_WorksC])
theorem api_WorksC_len (x : api_Works) : (api_WorksC.enc x).length = api_WorksC.size := rfl
def api_Works.wf (x : api_Works) : Prop := i64 x.Machines ∧ (x.Jobs.n ≤ maxLen ∧ ∀ i, i < x.Jobs.n → (x.Jobs.f i).wf) ∧ (x.Never.n ≤ maxLen ∧ ∀ i, i < x.Never.n → i64 ((x.Never.f i))) ∧ i64 x.Crews ∧ i64 x.Until
theorem api_WorksC_rng {g : Nat → SV} (h : rng api_WorksC.sg g 0) : (api_WorksC.dec g).wf := by
  obtain ⟨h0, h1, h2, h3, h4, _⟩ := h
  exact ⟨rng_i64 h0, rng_sl (C := api_JobC) (P := fun y => y.wf) (fun _ h => api_JobC_rng h) h1, rng_sl (C := intC) (P := fun y => i64 y) (fun _ h => rng_i64 h.1) h2, rng_i64 h3, rng_i64 h4⟩
structure newellaw09_Tighter where
  Never : Int
  Crews : Int
  Until : Int
def newellaw09_Tighter.wf (x : newellaw09_Tighter) : Prop := i64 x.Never ∧ i64 x.Crews ∧ i64 x.Until
structure shaft_step where
  f_from : api_Pose
  f_move : Int
def shaft_stepC : Cod shaft_step := ⟨(.cons (.int .i64) (.cons (.int .i64) (.cons (.int .i64) (.cons (.int .i64) (.cons (.int .i64) .nil))))), 5, fun x => [.int .i64 x.f_from.At.a0, .int .i64 x.f_from.At.a1, .int .i64 x.f_from.At.a2, .int .i64 x.f_from.Turn, .int .i64 x.f_move], fun f => ⟨⟨⟨toI (f 0), toI (f 1), toI (f 2)⟩, toI (f 3)⟩, toI (f 4)⟩⟩
def shaft_step.wf (x : shaft_step) : Prop := i64 x.f_from.At.a0 ∧ i64 x.f_from.At.a1 ∧ i64 x.f_from.At.a2 ∧ i64 x.f_from.Turn ∧ i64 x.f_move
theorem shaft_stepC_flat : shaft_stepC.Flat := ⟨fun f vc h hf => by
  obtain ⟨s0, t0, rfl, e0, g0⟩ := keyCells_cons h
  obtain ⟨s1, t1, rfl, e1, g1⟩ := keyCells_cons g0
  obtain ⟨s2, t2, rfl, e2, g2⟩ := keyCells_cons g1
  obtain ⟨s3, t3, rfl, e3, g3⟩ := keyCells_cons g2
  obtain ⟨s4, t4, rfl, e4, g4⟩ := keyCells_cons g3
  have z := keyCells_nil g4
  subst z
  have a0 := hf 0 s0 rfl
  have a1 := hf 1 s1 rfl
  have a2 := hf 2 s2 rfl
  have a3 := hf 3 s3 rfl
  have a4 := hf 4 s4 rfl
  simp only [shaft_stepC, a0, a1, a2, a3, a4]
  rw [← keyCell_int e0, ← keyCell_int e1, ← keyCell_int e2, ← keyCell_int e3, ← keyCell_int e4]⟩
structure Arr6_T22 where
  a0 : Arr3_int
  a1 : Arr3_int
  a2 : Arr3_int
  a3 : Arr3_int
  a4 : Arr3_int
  a5 : Arr3_int
def Arr6_T22.wf (x : Arr6_T22) : Prop := i64 x.a0.a0 ∧ i64 x.a0.a1 ∧ i64 x.a0.a2 ∧ i64 x.a1.a0 ∧ i64 x.a1.a1 ∧ i64 x.a1.a2 ∧ i64 x.a2.a0 ∧ i64 x.a2.a1 ∧ i64 x.a2.a2 ∧ i64 x.a3.a0 ∧ i64 x.a3.a1 ∧ i64 x.a3.a2 ∧ i64 x.a4.a0 ∧ i64 x.a4.a1 ∧ i64 x.a4.a2 ∧ i64 x.a5.a0 ∧ i64 x.a5.a1 ∧ i64 x.a5.a2
structure Arr2_int where
  a0 : Int
  a1 : Int
def Arr2_int.wf (x : Arr2_int) : Prop := i64 x.a0 ∧ i64 x.a1
structure Arr3_T111 where
  a0 : Arr2_int
  a1 : Arr2_int
  a2 : Arr2_int
def Arr3_T111.wf (x : Arr3_T111) : Prop := i64 x.a0.a0 ∧ i64 x.a0.a1 ∧ i64 x.a1.a0 ∧ i64 x.a1.a1 ∧ i64 x.a2.a0 ∧ i64 x.a2.a1
end Go.Proofs.YtckkodiefpdmhaaDoor
