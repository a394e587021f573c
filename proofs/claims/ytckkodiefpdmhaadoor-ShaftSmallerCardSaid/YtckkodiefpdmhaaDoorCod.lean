import Derived.Test.YtckkodiefpdmhaaDoorEnv
import Derived.Test.YtckkodiefpdmhaaDoorSxEnd
set_option linter.unusedVariables false
namespace Go.Proofs.YtckkodiefpdmhaaDoor
open Go.Sx
structure Arr3_int where
  a0 : Int
  a1 : Int
  a2 : Int
def Arr3_intC : Cod Arr3_int := ⟨(.cons (.int .i64) (.cons (.int .i64) (.cons (.int .i64) .nil))), 3, fun x => [.int .i64 x.a0, .int .i64 x.a1, .int .i64 x.a2], fun f => ⟨toI (f 0), toI (f 1), toI (f 2)⟩⟩
theorem Arr3_intC_ok : Arr3_intC.Ok where
  slen := rfl
  ck := fun x j hj => match j, hj with
    | 0, _ => rfl
    | 1, _ => rfl
    | 2, _ => rfl
    | j + 3, h => absurd h (by simp [Arr3_intC])
  ok := fun f hf Z w j v hj hd => match j, hj, hd with
    | 0, hj, hd => den_int (hf 0 hj) hd
    | 1, hj, hd => den_int (hf 1 hj) hd
    | 2, hj, hd => den_int (hf 2 hj) hd
    | j + 3, h, _ => absurd h (by simp [Arr3_intC])
theorem Arr3_intC_len (x : Arr3_int) : (Arr3_intC.enc x).length = Arr3_intC.size := rfl
def Arr3_int.wf (x : Arr3_int) : Prop := i64 x.a0 ∧ i64 x.a1 ∧ i64 x.a2
theorem Arr3_intC_rng {g : Nat → SV} (h : rng Arr3_intC.sg g 0) : (Arr3_intC.dec g).wf := by
  obtain ⟨h0, h1, h2, _⟩ := h
  exact ⟨rng_i64 h0, rng_i64 h1, rng_i64 h2⟩
theorem Arr3_intC_flat : Arr3_intC.Flat := ⟨fun f vc h hf => by
  obtain ⟨s0, t0, rfl, e0, g0⟩ := keyCells_cons h
  obtain ⟨s1, t1, rfl, e1, g1⟩ := keyCells_cons g0
  obtain ⟨s2, t2, rfl, e2, g2⟩ := keyCells_cons g1
  have z := keyCells_nil g2
  subst z
  have a0 := hf 0 s0 rfl
  have a1 := hf 1 s1 rfl
  have a2 := hf 2 s2 rfl
  simp only [Arr3_intC, a0, a1, a2]
  rw [← keyCell_int e0, ← keyCell_int e1, ← keyCell_int e2]⟩
structure api_Shaft where
  Size : Arr3_int
  Walls : Arr Arr3_int
def api_ShaftC : Cod api_Shaft := ⟨(.cons (.int .i64) (.cons (.int .i64) (.cons (.int .i64) (.cons (.sl Arr3_intC.sg) .nil)))), 4, fun x => [.int .i64 x.Size.a0, .int .i64 x.Size.a1, .int .i64 x.Size.a2, slC Arr3_intC x.Walls], fun f => ⟨⟨toI (f 0), toI (f 1), toI (f 2)⟩, lstC Arr3_intC (f 3)⟩⟩
theorem api_ShaftC_ok : api_ShaftC.Ok where
  slen := rfl
  ck := fun x j hj => match j, hj with
    | 0, _ => rfl
    | 1, _ => rfl
    | 2, _ => rfl
    | 3, _ => rfl
    | j + 4, h => absurd h (by simp [api_ShaftC])
  ok := fun f hf Z w j v hj hd => match j, hj, hd with
    | 0, hj, hd => den_int (hf 0 hj) hd
    | 1, hj, hd => den_int (hf 1 hj) hd
    | 2, hj, hd => den_int (hf 2 hj) hd
    | 3, hj, hd => den_slC Arr3_intC_ok (hf 3 hj) hd
    | j + 4, h, _ => absurd h (by simp [api_ShaftC])
theorem api_ShaftC_len (x : api_Shaft) : (api_ShaftC.enc x).length = api_ShaftC.size := rfl
def api_Shaft.wf (x : api_Shaft) : Prop := i64 x.Size.a0 ∧ i64 x.Size.a1 ∧ i64 x.Size.a2 ∧ (x.Walls.n ≤ maxLen ∧ ∀ i, i < x.Walls.n → (x.Walls.f i).wf)
theorem api_ShaftC_rng {g : Nat → SV} (h : rng api_ShaftC.sg g 0) : (api_ShaftC.dec g).wf := by
  obtain ⟨h0, h1, h2, h3, _⟩ := h
  exact ⟨rng_i64 h0, rng_i64 h1, rng_i64 h2, rng_sl (C := Arr3_intC) (P := fun y => y.wf) (fun _ h => Arr3_intC_rng h) h3⟩
structure api_Pose where
  At : Arr3_int
  Turn : Int
def api_PoseC : Cod api_Pose := ⟨(.cons (.int .i64) (.cons (.int .i64) (.cons (.int .i64) (.cons (.int .i64) .nil)))), 4, fun x => [.int .i64 x.At.a0, .int .i64 x.At.a1, .int .i64 x.At.a2, .int .i64 x.Turn], fun f => ⟨⟨toI (f 0), toI (f 1), toI (f 2)⟩, toI (f 3)⟩⟩
theorem api_PoseC_ok : api_PoseC.Ok where
  slen := rfl
  ck := fun x j hj => match j, hj with
    | 0, _ => rfl
    | 1, _ => rfl
    | 2, _ => rfl
    | 3, _ => rfl
    | j + 4, h => absurd h (by simp [api_PoseC])
  ok := fun f hf Z w j v hj hd => match j, hj, hd with
    | 0, hj, hd => den_int (hf 0 hj) hd
    | 1, hj, hd => den_int (hf 1 hj) hd
    | 2, hj, hd => den_int (hf 2 hj) hd
    | 3, hj, hd => den_int (hf 3 hj) hd
    | j + 4, h, _ => absurd h (by simp [api_PoseC])
theorem api_PoseC_len (x : api_Pose) : (api_PoseC.enc x).length = api_PoseC.size := rfl
def api_Pose.wf (x : api_Pose) : Prop := i64 x.At.a0 ∧ i64 x.At.a1 ∧ i64 x.At.a2 ∧ i64 x.Turn
theorem api_PoseC_rng {g : Nat → SV} (h : rng api_PoseC.sg g 0) : (api_PoseC.dec g).wf := by
  obtain ⟨h0, h1, h2, h3, _⟩ := h
  exact ⟨rng_i64 h0, rng_i64 h1, rng_i64 h2, rng_i64 h3⟩
theorem api_PoseC_flat : api_PoseC.Flat := ⟨fun f vc h hf => by
  obtain ⟨s0, t0, rfl, e0, g0⟩ := keyCells_cons h
  obtain ⟨s1, t1, rfl, e1, g1⟩ := keyCells_cons g0
  obtain ⟨s2, t2, rfl, e2, g2⟩ := keyCells_cons g1
  obtain ⟨s3, t3, rfl, e3, g3⟩ := keyCells_cons g2
  have z := keyCells_nil g3
  subst z
  have a0 := hf 0 s0 rfl
  have a1 := hf 1 s1 rfl
  have a2 := hf 2 s2 rfl
  have a3 := hf 3 s3 rfl
  simp only [api_PoseC, a0, a1, a2, a3]
  rw [← keyCell_int e0, ← keyCell_int e1, ← keyCell_int e2, ← keyCell_int e3]⟩
structure newellaw09_Crate where
  Edges : Arr3_int
  Pose : api_Pose
  Move : Int
def newellaw09_CrateC : Cod newellaw09_Crate := ⟨(.cons (.int .i64) (.cons (.int .i64) (.cons (.int .i64) (.cons (.int .i64) (.cons (.int .i64) (.cons (.int .i64) (.cons (.int .i64) (.cons (.int .i64) .nil)))))))), 8, fun x => [.int .i64 x.Edges.a0, .int .i64 x.Edges.a1, .int .i64 x.Edges.a2, .int .i64 x.Pose.At.a0, .int .i64 x.Pose.At.a1, .int .i64 x.Pose.At.a2, .int .i64 x.Pose.Turn, .int .i64 x.Move], fun f => ⟨⟨toI (f 0), toI (f 1), toI (f 2)⟩, ⟨⟨toI (f 3), toI (f 4), toI (f 5)⟩, toI (f 6)⟩, toI (f 7)⟩⟩
theorem newellaw09_CrateC_ok : newellaw09_CrateC.Ok where
  slen := rfl
  ck := fun x j hj => match j, hj with
    | 0, _ => rfl
    | 1, _ => rfl
    | 2, _ => rfl
    | 3, _ => rfl
    | 4, _ => rfl
    | 5, _ => rfl
    | 6, _ => rfl
    | 7, _ => rfl
    | j + 8, h => absurd h (by simp [newellaw09_CrateC])
  ok := fun f hf Z w j v hj hd => match j, hj, hd with
    | 0, hj, hd => den_int (hf 0 hj) hd
    | 1, hj, hd => den_int (hf 1 hj) hd
    | 2, hj, hd => den_int (hf 2 hj) hd
    | 3, hj, hd => den_int (hf 3 hj) hd
    | 4, hj, hd => den_int (hf 4 hj) hd
    | 5, hj, hd => den_int (hf 5 hj) hd
    | 6, hj, hd => den_int (hf 6 hj) hd
    | 7, hj, hd => den_int (hf 7 hj) hd
    | j + 8, h, _ => absurd h (by simp [newellaw09_CrateC])
theorem newellaw09_CrateC_len (x : newellaw09_Crate) : (newellaw09_CrateC.enc x).length = newellaw09_CrateC.size := rfl
def newellaw09_Crate.wf (x : newellaw09_Crate) : Prop := i64 x.Edges.a0 ∧ i64 x.Edges.a1 ∧ i64 x.Edges.a2 ∧ i64 x.Pose.At.a0 ∧ i64 x.Pose.At.a1 ∧ i64 x.Pose.At.a2 ∧ i64 x.Pose.Turn ∧ i64 x.Move
theorem newellaw09_CrateC_rng {g : Nat → SV} (h : rng newellaw09_CrateC.sg g 0) : (newellaw09_CrateC.dec g).wf := by
  obtain ⟨h0, h1, h2, h3, h4, h5, h6, h7, _⟩ := h
  exact ⟨rng_i64 h0, rng_i64 h1, rng_i64 h2, rng_i64 h3, rng_i64 h4, rng_i64 h5, rng_i64 h6, rng_i64 h7⟩
structure api_Job where
  Machine : Int
  Nights : Int
  After : Arr Int
def api_JobC : Cod api_Job := ⟨(.cons (.int .i64) (.cons (.int .i64) (.cons (.sl intC.sg) .nil))), 3, fun x => [.int .i64 x.Machine, .int .i64 x.Nights, slC intC x.After], fun f => ⟨toI (f 0), toI (f 1), lstC intC (f 2)⟩⟩
theorem api_JobC_ok : api_JobC.Ok where
  slen := rfl
  ck := fun x j hj => match j, hj with
    | 0, _ => rfl
    | 1, _ => rfl
    | 2, _ => rfl
    | j + 3, h => absurd h (by simp [api_JobC])
  ok := fun f hf Z w j v hj hd => match j, hj, hd with
    | 0, hj, hd => den_int (hf 0 hj) hd
    | 1, hj, hd => den_int (hf 1 hj) hd
    | 2, hj, hd => den_slC intC_ok (hf 2 hj) hd
    | j + 3, h, _ => absurd h (by simp [api_JobC])
def api_Job.wf (x : api_Job) : Prop := i64 x.Machine ∧ i64 x.Nights ∧ (x.After.n ≤ maxLen ∧ ∀ i, i < x.After.n → i64 ((x.After.f i)))
structure api_Works where
  Machines : Int
  Jobs : Arr api_Job
  Never : Arr Int
  Crews : Int
  Until : Int
def api_WorksC : Cod api_Works := ⟨(.cons (.int .i64) (.cons (.sl api_JobC.sg) (.cons (.sl intC.sg) (.cons (.int .i64) (.cons (.int .i64) .nil))))), 5, fun x => [.int .i64 x.Machines, slC api_JobC x.Jobs, slC intC x.Never, .int .i64 x.Crews, .int .i64 x.Until], fun f => ⟨toI (f 0), lstC api_JobC (f 1), lstC intC (f 2), toI (f 3), toI (f 4)⟩⟩
theorem api_WorksC_ok : api_WorksC.Ok where
  slen := rfl
  ck := fun x j hj => match j, hj with
    | 0, _ => rfl
    | 1, _ => rfl
    | 2, _ => rfl
    | 3, _ => rfl
    | 4, _ => rfl
    | j + 5, h => absurd h (by simp [api_WorksC])
  ok := fun f hf Z w j v hj hd => match j, hj, hd with
    | 0, hj, hd => den_int (hf 0 hj) hd
    | 1, hj, hd => den_slC api_JobC_ok (hf 1 hj) hd
    | 2, hj, hd => den_slC intC_ok (hf 2 hj) hd
    | 3, hj, hd => den_int (hf 3 hj) hd
    | 4, hj, hd => den_int (hf 4 hj) hd
    | j + 5, h, _ => absurd h (by simp [api_WorksC])
theorem api_WorksC_len (x : api_Works) : (api_WorksC.enc x).length = api_WorksC.size := rfl
def api_Works.wf (x : api_Works) : Prop := i64 x.Machines ∧ (x.Jobs.n ≤ maxLen ∧ ∀ i, i < x.Jobs.n → (x.Jobs.f i).wf) ∧ (x.Never.n ≤ maxLen ∧ ∀ i, i < x.Never.n → i64 ((x.Never.f i))) ∧ i64 x.Crews ∧ i64 x.Until
structure newellaw09_Tighter where
  Never : Int
  Crews : Int
  Until : Int
def newellaw09_Tighter.wf (x : newellaw09_Tighter) : Prop := i64 x.Never ∧ i64 x.Crews ∧ i64 x.Until
structure shaft_step where
  f_from : api_Pose
  f_move : Int
def shaft_stepC : Cod shaft_step := ⟨(.cons (.int .i64) (.cons (.int .i64) (.cons (.int .i64) (.cons (.int .i64) (.cons (.int .i64) .nil))))), 5, fun x => [.int .i64 x.f_from.At.a0, .int .i64 x.f_from.At.a1, .int .i64 x.f_from.At.a2, .int .i64 x.f_from.Turn, .int .i64 x.f_move], fun f => ⟨⟨⟨toI (f 0), toI (f 1), toI (f 2)⟩, toI (f 3)⟩, toI (f 4)⟩⟩
def shaft_step.wf (x : shaft_step) : Prop := i64 x.f_from.At.a0 ∧ i64 x.f_from.At.a1 ∧ i64 x.f_from.At.a2 ∧ i64 x.f_from.Turn ∧ i64 x.f_move
theorem shaft_stepC_flat : shaft_stepC.Flat := ⟨fun f vc h hf => by
  obtain ⟨s0, t0, rfl, e0, g0⟩ := keyCells_cons h
  obtain ⟨s1, t1, rfl, e1, g1⟩ := keyCells_cons g0
  obtain ⟨s2, t2, rfl, e2, g2⟩ := keyCells_cons g1
  obtain ⟨s3, t3, rfl, e3, g3⟩ := keyCells_cons g2
  obtain ⟨s4, t4, rfl, e4, g4⟩ := keyCells_cons g3
  have z := keyCells_nil g4
  subst z
  have a0 := hf 0 s0 rfl
  have a1 := hf 1 s1 rfl
  have a2 := hf 2 s2 rfl
  have a3 := hf 3 s3 rfl
  have a4 := hf 4 s4 rfl
  simp only [shaft_stepC, a0, a1, a2, a3, a4]
  rw [← keyCell_int e0, ← keyCell_int e1, ← keyCell_int e2, ← keyCell_int e3, ← keyCell_int e4]⟩
structure Arr6_T22 where
  a0 : Arr3_int
  a1 : Arr3_int
  a2 : Arr3_int
  a3 : Arr3_int
  a4 : Arr3_int
  a5 : Arr3_int
def Arr6_T22C : Cod Arr6_T22 := ⟨(.cons (.int .i64) (.cons (.int .i64) (.cons (.int .i64) (.cons (.int .i64) (.cons (.int .i64) (.cons (.int .i64) (.cons (.int .i64) (.cons (.int .i64) (.cons (.int .i64) (.cons (.int .i64) (.cons (.int .i64) (.cons (.int .i64) (.cons (.int .i64) (.cons (.int .i64) (.cons (.int .i64) (.cons (.int .i64) (.cons (.int .i64) (.cons (.int .i64) .nil)))))))))))))))))), 18, fun x => [.int .i64 x.a0.a0, .int .i64 x.a0.a1, .int .i64 x.a0.a2, .int .i64 x.a1.a0, .int .i64 x.a1.a1, .int .i64 x.a1.a2, .int .i64 x.a2.a0, .int .i64 x.a2.a1, .int .i64 x.a2.a2, .int .i64 x.a3.a0, .int .i64 x.a3.a1, .int .i64 x.a3.a2, .int .i64 x.a4.a0, .int .i64 x.a4.a1, .int .i64 x.a4.a2, .int .i64 x.a5.a0, .int .i64 x.a5.a1, .int .i64 x.a5.a2], fun f => ⟨⟨toI (f 0), toI (f 1), toI (f 2)⟩, ⟨toI (f 3), toI (f 4), toI (f 5)⟩, ⟨toI (f 6), toI (f 7), toI (f 8)⟩, ⟨toI (f 9), toI (f 10), toI (f 11)⟩, ⟨toI (f 12), toI (f 13), toI (f 14)⟩, ⟨toI (f 15), toI (f 16), toI (f 17)⟩⟩⟩
theorem Arr6_T22C_ok : Arr6_T22C.Ok where
  slen := rfl
  ck := fun x j hj => match j, hj with
    | 0, _ => rfl
    | 1, _ => rfl
    | 2, _ => rfl
    | 3, _ => rfl
    | 4, _ => rfl
    | 5, _ => rfl
    | 6, _ => rfl
    | 7, _ => rfl
    | 8, _ => rfl
    | 9, _ => rfl
    | 10, _ => rfl
    | 11, _ => rfl
    | 12, _ => rfl
    | 13, _ => rfl
    | 14, _ => rfl
    | 15, _ => rfl
    | 16, _ => rfl
    | 17, _ => rfl
    | j + 18, h => absurd h (by simp [Arr6_T22C])
  ok := fun f hf Z w j v hj hd => match j, hj, hd with
    | 0, hj, hd => den_int (hf 0 hj) hd
    | 1, hj, hd => den_int (hf 1 hj) hd
    | 2, hj, hd => den_int (hf 2 hj) hd
    | 3, hj, hd => den_int (hf 3 hj) hd
    | 4, hj, hd => den_int (hf 4 hj) hd
    | 5, hj, hd => den_int (hf 5 hj) hd
    | 6, hj, hd => den_int (hf 6 hj) hd
    | 7, hj, hd => den_int (hf 7 hj) hd
    | 8, hj, hd => den_int (hf 8 hj) hd
    | 9, hj, hd => den_int (hf 9 hj) hd
    | 10, hj, hd => den_int (hf 10 hj) hd
    | 11, hj, hd => den_int (hf 11 hj) hd
    | 12, hj, hd => den_int (hf 12 hj) hd
    | 13, hj, hd => den_int (hf 13 hj) hd
    | 14, hj, hd => den_int (hf 14 hj) hd
    | 15, hj, hd => den_int (hf 15 hj) hd
    | 16, hj, hd => den_int (hf 16 hj) hd
    | 17, hj, hd => den_int (hf 17 hj) hd
    | j + 18, h, _ => absurd h (by simp [Arr6_T22C])
theorem Arr6_T22C_len (x : Arr6_T22) : (Arr6_T22C.enc x).length = Arr6_T22C.size := rfl
def Arr6_T22.wf (x : Arr6_T22) : Prop := i64 x.a0.a0 ∧ i64 x.a0.a1 ∧ i64 x.a0.a2 ∧ i64 x.a1.a0 ∧ i64 x.a1.a1 ∧ i64 x.a1.a2 ∧ i64 x.a2.a0 ∧ i64 x.a2.a1 ∧ i64 x.a2.a2 ∧ i64 x.a3.a0 ∧ i64 x.a3.a1 ∧ i64 x.a3.a2 ∧ i64 x.a4.a0 ∧ i64 x.a4.a1 ∧ i64 x.a4.a2 ∧ i64 x.a5.a0 ∧ i64 x.a5.a1 ∧ i64 x.a5.a2
structure Arr2_int where
  a0 : Int
  a1 : Int
def Arr2_int.wf (x : Arr2_int) : Prop := i64 x.a0 ∧ i64 x.a1
structure Arr3_T111 where
  a0 : Arr2_int
  a1 : Arr2_int
  a2 : Arr2_int
def Arr3_T111.wf (x : Arr3_T111) : Prop := i64 x.a0.a0 ∧ i64 x.a0.a1 ∧ i64 x.a1.a0 ∧ i64 x.a1.a1 ∧ i64 x.a2.a0 ∧ i64 x.a2.a1
end Go.Proofs.YtckkodiefpdmhaaDoor
