/-
  The program's plain types as structures, and how they lie in cells. Written by a program.
-/
import Derived.Test.YtpcmpbellmiijaaEnv
import Derived.Test.YtpcmpbellmiijaaSxEnd
set_option linter.unusedVariables false
namespace Go.Proofs.Ytpcmpbellmiijaa
open Go.Sx

structure api_Brake where
  Force : Int
  Delay : Int
def api_BrakeC : Cod api_Brake := ⟨(.cons (.int .i64) (.cons (.int .i64) .nil)), 2, fun x => [.int .i64 x.Force, .int .i64 x.Delay], fun f => ⟨toI (f 0), toI (f 1)⟩⟩
theorem api_BrakeC_ok : api_BrakeC.Ok where
  slen := rfl
  ck := fun x j hj => match j, hj with
    | 0, _ => rfl
    | 1, _ => rfl
    | j + 2, h => absurd h (by simp [api_BrakeC])
  ok := fun f hf Z w j v hj hd => match j, hj, hd with
    | 0, hj, hd => den_int (hf 0 hj) hd
    | 1, hj, hd => den_int (hf 1 hj) hd
    | j + 2, h, _ => absurd h (by simp [api_BrakeC])
theorem api_BrakeC_len (x : api_Brake) : (api_BrakeC.enc x).length = api_BrakeC.size := rfl
def api_Brake.wf (x : api_Brake) : Prop := i64 x.Force ∧ i64 x.Delay
theorem api_BrakeC_rng {g : Nat → SV} (h : rng api_BrakeC.sg g 0) : (api_BrakeC.dec g).wf := by
  obtain ⟨h0, h1, _⟩ := h
  exact ⟨rng_i64 h0, rng_i64 h1⟩

structure api_Escalator where
  Up : Bool
  Empty : Int
  Pull : Int
  Drag : Int
  Motor : Int
  Brakes : Arr api_Brake
def api_EscalatorC : Cod api_Escalator := ⟨(.cons .bool (.cons (.int .i64) (.cons (.int .i64) (.cons (.int .i64) (.cons (.int .i64) (.cons (.sl api_BrakeC.sg) .nil)))))), 6, fun x => [.bool x.Up, .int .i64 x.Empty, .int .i64 x.Pull, .int .i64 x.Drag, .int .i64 x.Motor, slC api_BrakeC x.Brakes], fun f => ⟨toB (f 0), toI (f 1), toI (f 2), toI (f 3), toI (f 4), lstC api_BrakeC (f 5)⟩⟩
theorem api_EscalatorC_ok : api_EscalatorC.Ok where
  slen := rfl
  ck := fun x j hj => match j, hj with
    | 0, _ => rfl
    | 1, _ => rfl
    | 2, _ => rfl
    | 3, _ => rfl
    | 4, _ => rfl
    | 5, _ => rfl
    | j + 6, h => absurd h (by simp [api_EscalatorC])
  ok := fun f hf Z w j v hj hd => match j, hj, hd with
    | 0, hj, hd => den_bool (hf 0 hj) hd
    | 1, hj, hd => den_int (hf 1 hj) hd
    | 2, hj, hd => den_int (hf 2 hj) hd
    | 3, hj, hd => den_int (hf 3 hj) hd
    | 4, hj, hd => den_int (hf 4 hj) hd
    | 5, hj, hd => den_slC api_BrakeC_ok (hf 5 hj) hd
    | j + 6, h, _ => absurd h (by simp [api_EscalatorC])
theorem api_EscalatorC_len (x : api_Escalator) : (api_EscalatorC.enc x).length = api_EscalatorC.size := rfl
def api_Escalator.wf (x : api_Escalator) : Prop := True ∧ i64 x.Empty ∧ i64 x.Pull ∧ i64 x.Drag ∧ i64 x.Motor ∧ (x.Brakes.n ≤ maxLen ∧ ∀ i, i < x.Brakes.n → (x.Brakes.f i).wf)
theorem api_EscalatorC_rng {g : Nat → SV} (h : rng api_EscalatorC.sg g 0) : (api_EscalatorC.dec g).wf := by
  obtain ⟨h0, h1, h2, h3, h4, h5, _⟩ := h
  exact ⟨trivial, rng_i64 h1, rng_i64 h2, rng_i64 h3, rng_i64 h4, rng_sl (C := api_BrakeC) (P := fun y => y.wf) (fun _ h => api_BrakeC_rng h) h5⟩

structure api_Span where
  Low : Int
  High : Int
def api_SpanC : Cod api_Span := ⟨(.cons (.int .i64) (.cons (.int .i64) .nil)), 2, fun x => [.int .i64 x.Low, .int .i64 x.High], fun f => ⟨toI (f 0), toI (f 1)⟩⟩
theorem api_SpanC_ok : api_SpanC.Ok where
  slen := rfl
  ck := fun x j hj => match j, hj with
    | 0, _ => rfl
    | 1, _ => rfl
    | j + 2, h => absurd h (by simp [api_SpanC])
  ok := fun f hf Z w j v hj hd => match j, hj, hd with
    | 0, hj, hd => den_int (hf 0 hj) hd
    | 1, hj, hd => den_int (hf 1 hj) hd
    | j + 2, h, _ => absurd h (by simp [api_SpanC])
theorem api_SpanC_len (x : api_Span) : (api_SpanC.enc x).length = api_SpanC.size := rfl
def api_Span.wf (x : api_Span) : Prop := i64 x.Low ∧ i64 x.High
theorem api_SpanC_rng {g : Nat → SV} (h : rng api_SpanC.sg g 0) : (api_SpanC.dec g).wf := by
  obtain ⟨h0, h1, _⟩ := h
  exact ⟨rng_i64 h0, rng_i64 h1⟩

structure api_Stop where
  Speed : Int
  Loads : api_Span
  Fail : Int
def api_StopC : Cod api_Stop := ⟨(.cons (.int .i64) (.cons (.int .i64) (.cons (.int .i64) (.cons (.int .i64) .nil)))), 4, fun x => [.int .i64 x.Speed, .int .i64 x.Loads.Low, .int .i64 x.Loads.High, .int .i64 x.Fail], fun f => ⟨toI (f 0), ⟨toI (f 1), toI (f 2)⟩, toI (f 3)⟩⟩
theorem api_StopC_ok : api_StopC.Ok where
  slen := rfl
  ck := fun x j hj => match j, hj with
    | 0, _ => rfl
    | 1, _ => rfl
    | 2, _ => rfl
    | 3, _ => rfl
    | j + 4, h => absurd h (by simp [api_StopC])
  ok := fun f hf Z w j v hj hd => match j, hj, hd with
    | 0, hj, hd => den_int (hf 0 hj) hd
    | 1, hj, hd => den_int (hf 1 hj) hd
    | 2, hj, hd => den_int (hf 2 hj) hd
    | 3, hj, hd => den_int (hf 3 hj) hd
    | j + 4, h, _ => absurd h (by simp [api_StopC])
theorem api_StopC_len (x : api_Stop) : (api_StopC.enc x).length = api_StopC.size := rfl
def api_Stop.wf (x : api_Stop) : Prop := i64 x.Speed ∧ i64 x.Loads.Low ∧ i64 x.Loads.High ∧ i64 x.Fail
theorem api_StopC_rng {g : Nat → SV} (h : rng api_StopC.sg g 0) : (api_StopC.dec g).wf := by
  obtain ⟨h0, h1, h2, h3, _⟩ := h
  exact ⟨rng_i64 h0, rng_i64 h1, rng_i64 h2, rng_i64 h3⟩

structure newellaw01_Better where
  Brake : Int
  Force : Int
  Delay : Int
  Mended : Int
  Slower : Int
  Loads : api_Span
def newellaw01_BetterC : Cod newellaw01_Better := ⟨(.cons (.int .i64) (.cons (.int .i64) (.cons (.int .i64) (.cons (.int .i64) (.cons (.int .i64) (.cons (.int .i64) (.cons (.int .i64) .nil))))))), 7, fun x => [.int .i64 x.Brake, .int .i64 x.Force, .int .i64 x.Delay, .int .i64 x.Mended, .int .i64 x.Slower, .int .i64 x.Loads.Low, .int .i64 x.Loads.High], fun f => ⟨toI (f 0), toI (f 1), toI (f 2), toI (f 3), toI (f 4), ⟨toI (f 5), toI (f 6)⟩⟩⟩
theorem newellaw01_BetterC_ok : newellaw01_BetterC.Ok where
  slen := rfl
  ck := fun x j hj => match j, hj with
    | 0, _ => rfl
    | 1, _ => rfl
    | 2, _ => rfl
    | 3, _ => rfl
    | 4, _ => rfl
    | 5, _ => rfl
    | 6, _ => rfl
    | j + 7, h => absurd h (by simp [newellaw01_BetterC])
  ok := fun f hf Z w j v hj hd => match j, hj, hd with
    | 0, hj, hd => den_int (hf 0 hj) hd
    | 1, hj, hd => den_int (hf 1 hj) hd
    | 2, hj, hd => den_int (hf 2 hj) hd
    | 3, hj, hd => den_int (hf 3 hj) hd
    | 4, hj, hd => den_int (hf 4 hj) hd
    | 5, hj, hd => den_int (hf 5 hj) hd
    | 6, hj, hd => den_int (hf 6 hj) hd
    | j + 7, h, _ => absurd h (by simp [newellaw01_BetterC])
theorem newellaw01_BetterC_len (x : newellaw01_Better) : (newellaw01_BetterC.enc x).length = newellaw01_BetterC.size := rfl
def newellaw01_Better.wf (x : newellaw01_Better) : Prop := i64 x.Brake ∧ i64 x.Force ∧ i64 x.Delay ∧ i64 x.Mended ∧ i64 x.Slower ∧ i64 x.Loads.Low ∧ i64 x.Loads.High
theorem newellaw01_BetterC_rng {g : Nat → SV} (h : rng newellaw01_BetterC.sg g 0) : (newellaw01_BetterC.dec g).wf := by
  obtain ⟨h0, h1, h2, h3, h4, h5, h6, _⟩ := h
  exact ⟨rng_i64 h0, rng_i64 h1, rng_i64 h2, rng_i64 h3, rng_i64 h4, rng_i64 h5, rng_i64 h6⟩

structure newellaw01_Push where
  Speed : Int
  Load : Int
  Force : Int
def newellaw01_PushC : Cod newellaw01_Push := ⟨(.cons (.int .i64) (.cons (.int .i64) (.cons (.int .i64) .nil))), 3, fun x => [.int .i64 x.Speed, .int .i64 x.Load, .int .i64 x.Force], fun f => ⟨toI (f 0), toI (f 1), toI (f 2)⟩⟩
theorem newellaw01_PushC_ok : newellaw01_PushC.Ok where
  slen := rfl
  ck := fun x j hj => match j, hj with
    | 0, _ => rfl
    | 1, _ => rfl
    | 2, _ => rfl
    | j + 3, h => absurd h (by simp [newellaw01_PushC])
  ok := fun f hf Z w j v hj hd => match j, hj, hd with
    | 0, hj, hd => den_int (hf 0 hj) hd
    | 1, hj, hd => den_int (hf 1 hj) hd
    | 2, hj, hd => den_int (hf 2 hj) hd
    | j + 3, h, _ => absurd h (by simp [newellaw01_PushC])
theorem newellaw01_PushC_len (x : newellaw01_Push) : (newellaw01_PushC.enc x).length = newellaw01_PushC.size := rfl
def newellaw01_Push.wf (x : newellaw01_Push) : Prop := i64 x.Speed ∧ i64 x.Load ∧ i64 x.Force
theorem newellaw01_PushC_rng {g : Nat → SV} (h : rng newellaw01_PushC.sg g 0) : (newellaw01_PushC.dec g).wf := by
  obtain ⟨h0, h1, h2, _⟩ := h
  exact ⟨rng_i64 h0, rng_i64 h1, rng_i64 h2⟩

structure newellaw01_Bounds where
  Way : Int
  Back : Int
def newellaw01_BoundsC : Cod newellaw01_Bounds := ⟨(.cons (.int .i64) (.cons (.int .i64) .nil)), 2, fun x => [.int .i64 x.Way, .int .i64 x.Back], fun f => ⟨toI (f 0), toI (f 1)⟩⟩
theorem newellaw01_BoundsC_ok : newellaw01_BoundsC.Ok where
  slen := rfl
  ck := fun x j hj => match j, hj with
    | 0, _ => rfl
    | 1, _ => rfl
    | j + 2, h => absurd h (by simp [newellaw01_BoundsC])
  ok := fun f hf Z w j v hj hd => match j, hj, hd with
    | 0, hj, hd => den_int (hf 0 hj) hd
    | 1, hj, hd => den_int (hf 1 hj) hd
    | j + 2, h, _ => absurd h (by simp [newellaw01_BoundsC])
theorem newellaw01_BoundsC_len (x : newellaw01_Bounds) : (newellaw01_BoundsC.enc x).length = newellaw01_BoundsC.size := rfl
def newellaw01_Bounds.wf (x : newellaw01_Bounds) : Prop := i64 x.Way ∧ i64 x.Back
theorem newellaw01_BoundsC_rng {g : Nat → SV} (h : rng newellaw01_BoundsC.sg g 0) : (newellaw01_BoundsC.dec g).wf := by
  obtain ⟨h0, h1, _⟩ := h
  exact ⟨rng_i64 h0, rng_i64 h1⟩

structure newellaw01_One where
  Brake : Int
  Loads : Arr Int
  Bounds : newellaw01_Bounds
def newellaw01_OneC : Cod newellaw01_One := ⟨(.cons (.int .i64) (.cons (.sl intC.sg) (.cons (.int .i64) (.cons (.int .i64) .nil)))), 4, fun x => [.int .i64 x.Brake, slC intC x.Loads, .int .i64 x.Bounds.Way, .int .i64 x.Bounds.Back], fun f => ⟨toI (f 0), lstC intC (f 1), ⟨toI (f 2), toI (f 3)⟩⟩⟩
theorem newellaw01_OneC_ok : newellaw01_OneC.Ok where
  slen := rfl
  ck := fun x j hj => match j, hj with
    | 0, _ => rfl
    | 1, _ => rfl
    | 2, _ => rfl
    | 3, _ => rfl
    | j + 4, h => absurd h (by simp [newellaw01_OneC])
  ok := fun f hf Z w j v hj hd => match j, hj, hd with
    | 0, hj, hd => den_int (hf 0 hj) hd
    | 1, hj, hd => den_slC intC_ok (hf 1 hj) hd
    | 2, hj, hd => den_int (hf 2 hj) hd
    | 3, hj, hd => den_int (hf 3 hj) hd
    | j + 4, h, _ => absurd h (by simp [newellaw01_OneC])
theorem newellaw01_OneC_len (x : newellaw01_One) : (newellaw01_OneC.enc x).length = newellaw01_OneC.size := rfl
def newellaw01_One.wf (x : newellaw01_One) : Prop := i64 x.Brake ∧ (x.Loads.n ≤ maxLen ∧ ∀ i, i < x.Loads.n → i64 ((x.Loads.f i))) ∧ i64 x.Bounds.Way ∧ i64 x.Bounds.Back
theorem newellaw01_OneC_rng {g : Nat → SV} (h : rng newellaw01_OneC.sg g 0) : (newellaw01_OneC.dec g).wf := by
  obtain ⟨h0, h1, h2, h3, _⟩ := h
  exact ⟨rng_i64 h0, rng_sl (C := intC) (P := fun y => i64 y) (fun _ h => rng_i64 h.1) h1, rng_i64 h2, rng_i64 h3⟩

structure drive_stopped where
  f_way : Int
  f_loads : Arr Int
  f_rests : Bool
def drive_stoppedC : Cod drive_stopped := ⟨(.cons (.int .i64) (.cons (.sl intC.sg) (.cons .bool .nil))), 3, fun x => [.int .i64 x.f_way, slC intC x.f_loads, .bool x.f_rests], fun f => ⟨toI (f 0), lstC intC (f 1), toB (f 2)⟩⟩
theorem drive_stoppedC_ok : drive_stoppedC.Ok where
  slen := rfl
  ck := fun x j hj => match j, hj with
    | 0, _ => rfl
    | 1, _ => rfl
    | 2, _ => rfl
    | j + 3, h => absurd h (by simp [drive_stoppedC])
  ok := fun f hf Z w j v hj hd => match j, hj, hd with
    | 0, hj, hd => den_int (hf 0 hj) hd
    | 1, hj, hd => den_slC intC_ok (hf 1 hj) hd
    | 2, hj, hd => den_bool (hf 2 hj) hd
    | j + 3, h, _ => absurd h (by simp [drive_stoppedC])
theorem drive_stoppedC_len (x : drive_stopped) : (drive_stoppedC.enc x).length = drive_stoppedC.size := rfl
def drive_stopped.wf (x : drive_stopped) : Prop := i64 x.f_way ∧ (x.f_loads.n ≤ maxLen ∧ ∀ i, i < x.f_loads.n → i64 ((x.f_loads.f i))) ∧ True
theorem drive_stoppedC_rng {g : Nat → SV} (h : rng drive_stoppedC.sg g 0) : (drive_stoppedC.dec g).wf := by
  obtain ⟨h0, h1, h2, _⟩ := h
  exact ⟨rng_i64 h0, rng_sl (C := intC) (P := fun y => i64 y) (fun _ h => rng_i64 h.1) h1, trivial⟩

structure drive_motion where
  f_e : api_Escalator
  f_s : api_Stop
  f_speed : Int
  f_time : Int
def drive_motionC : Cod drive_motion := ⟨(.cons .bool (.cons (.int .i64) (.cons (.int .i64) (.cons (.int .i64) (.cons (.int .i64) (.cons (.sl api_BrakeC.sg) (.cons (.int .i64) (.cons (.int .i64) (.cons (.int .i64) (.cons (.int .i64) (.cons (.int .i64) (.cons (.int .i64) .nil)))))))))))), 12, fun x => [.bool x.f_e.Up, .int .i64 x.f_e.Empty, .int .i64 x.f_e.Pull, .int .i64 x.f_e.Drag, .int .i64 x.f_e.Motor, slC api_BrakeC x.f_e.Brakes, .int .i64 x.f_s.Speed, .int .i64 x.f_s.Loads.Low, .int .i64 x.f_s.Loads.High, .int .i64 x.f_s.Fail, .int .i64 x.f_speed, .int .i64 x.f_time], fun f => ⟨⟨toB (f 0), toI (f 1), toI (f 2), toI (f 3), toI (f 4), lstC api_BrakeC (f 5)⟩, ⟨toI (f 6), ⟨toI (f 7), toI (f 8)⟩, toI (f 9)⟩, toI (f 10), toI (f 11)⟩⟩
theorem drive_motionC_ok : drive_motionC.Ok where
  slen := rfl
  ck := fun x j hj => match j, hj with
    | 0, _ => rfl
    | 1, _ => rfl
    | 2, _ => rfl
    | 3, _ => rfl
    | 4, _ => rfl
    | 5, _ => rfl
    | 6, _ => rfl
    | 7, _ => rfl
    | 8, _ => rfl
    | 9, _ => rfl
    | 10, _ => rfl
    | 11, _ => rfl
    | j + 12, h => absurd h (by simp [drive_motionC])
  ok := fun f hf Z w j v hj hd => match j, hj, hd with
    | 0, hj, hd => den_bool (hf 0 hj) hd
    | 1, hj, hd => den_int (hf 1 hj) hd
    | 2, hj, hd => den_int (hf 2 hj) hd
    | 3, hj, hd => den_int (hf 3 hj) hd
    | 4, hj, hd => den_int (hf 4 hj) hd
    | 5, hj, hd => den_slC api_BrakeC_ok (hf 5 hj) hd
    | 6, hj, hd => den_int (hf 6 hj) hd
    | 7, hj, hd => den_int (hf 7 hj) hd
    | 8, hj, hd => den_int (hf 8 hj) hd
    | 9, hj, hd => den_int (hf 9 hj) hd
    | 10, hj, hd => den_int (hf 10 hj) hd
    | 11, hj, hd => den_int (hf 11 hj) hd
    | j + 12, h, _ => absurd h (by simp [drive_motionC])
theorem drive_motionC_len (x : drive_motion) : (drive_motionC.enc x).length = drive_motionC.size := rfl
def drive_motion.wf (x : drive_motion) : Prop := True ∧ i64 x.f_e.Empty ∧ i64 x.f_e.Pull ∧ i64 x.f_e.Drag ∧ i64 x.f_e.Motor ∧ (x.f_e.Brakes.n ≤ maxLen ∧ ∀ i, i < x.f_e.Brakes.n → (x.f_e.Brakes.f i).wf) ∧ i64 x.f_s.Speed ∧ i64 x.f_s.Loads.Low ∧ i64 x.f_s.Loads.High ∧ i64 x.f_s.Fail ∧ i64 x.f_speed ∧ i64 x.f_time
theorem drive_motionC_rng {g : Nat → SV} (h : rng drive_motionC.sg g 0) : (drive_motionC.dec g).wf := by
  obtain ⟨h0, h1, h2, h3, h4, h5, h6, h7, h8, h9, h10, h11, _⟩ := h
  exact ⟨trivial, rng_i64 h1, rng_i64 h2, rng_i64 h3, rng_i64 h4, rng_sl (C := api_BrakeC) (P := fun y => y.wf) (fun _ h => api_BrakeC_rng h) h5, rng_i64 h6, rng_i64 h7, rng_i64 h8, rng_i64 h9, rng_i64 h10, rng_i64 h11⟩

end Go.Proofs.Ytpcmpbellmiijaa
