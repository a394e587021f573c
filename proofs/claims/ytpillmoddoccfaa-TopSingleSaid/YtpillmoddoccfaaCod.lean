/-
  The program's plain types as structures, and how they lie in cells. Written by a program.
-/
import Derived.Test.YtpillmoddoccfaaEnv
import Derived.Test.YtpillmoddoccfaaSxEnd
set_option linter.unusedVariables false
namespace Go.Proofs.Ytpillmoddoccfaa
open Go.Sx

structure api_Brake where
  Force : Int
  Delay : Int
def api_BrakeC : Cod api_Brake := ⟨(.cons (.int .i64) (.cons (.int .i64) .nil)), 2, fun x => [.int .i64 x.Force, .int .i64 x.Delay], fun f => ⟨toI (f 0), toI (f 1)⟩⟩
theorem api_BrakeC_ok : api_BrakeC.Ok where
  slen := rfl
  ck := fun x j hj => match j, hj with
    | 0, _ => rfl
    | 1, _ => rfl
    | j + 2, h => absurd h (by simp [api_BrakeC])
  ok := fun f hf Z w j v hj hd => match j, hj, hd with
    | 0, hj, hd => den_int (hf 0 hj) hd
    | 1, hj, hd => den_int (hf 1 hj) hd
    | j + 2, h, _ => absurd h (by simp [api_BrakeC])
theorem api_BrakeC_len (x : api_Brake) : (api_BrakeC.enc x).length = api_BrakeC.size := rfl
def api_Brake.wf (x : api_Brake) : Prop := i64 x.Force ∧ i64 x.Delay
theorem api_BrakeC_rng {g : Nat → SV} (h : rng api_BrakeC.sg g 0) : (api_BrakeC.dec g).wf := by
  obtain ⟨h0, h1, _⟩ := h
  exact ⟨rng_i64 h0, rng_i64 h1⟩

structure api_Escalator where
  Up : Bool
  Empty : Int
  Pull : Int
  Drag : Int
  Motor : Int
  Brakes : Arr api_Brake
def api_EscalatorC : Cod api_Escalator := ⟨(.cons .bool (.cons (.int .i64) (.cons (.int .i64) (.cons (.int .i64) (.cons (.int .i64) (.cons (.sl api_BrakeC.sg) .nil)))))), 6, fun x => [.bool x.Up, .int .i64 x.Empty, .int .i64 x.Pull, .int .i64 x.Drag, .int .i64 x.Motor, slC api_BrakeC x.Brakes], fun f => ⟨toB (f 0), toI (f 1), toI (f 2), toI (f 3), toI (f 4), lstC api_BrakeC (f 5)⟩⟩
theorem api_EscalatorC_ok : api_EscalatorC.Ok where
  slen := rfl
  ck := fun x j hj => match j, hj with
    | 0, _ => rfl
    | 1, _ => rfl
    | 2, _ => rfl
    | 3, _ => rfl
    | 4, _ => rfl
    | 5, _ => rfl
    | j + 6, h => absurd h (by simp [api_EscalatorC])
  ok := fun f hf Z w j v hj hd => match j, hj, hd with
    | 0, hj, hd => den_bool (hf 0 hj) hd
    | 1, hj, hd => den_int (hf 1 hj) hd
    | 2, hj, hd => den_int (hf 2 hj) hd
    | 3, hj, hd => den_int (hf 3 hj) hd
    | 4, hj, hd => den_int (hf 4 hj) hd
    | 5, hj, hd => den_slC api_BrakeC_ok (hf 5 hj) hd
    | j + 6, h, _ => absurd h (by simp [api_EscalatorC])
theorem api_EscalatorC_len (x : api_Escalator) : (api_EscalatorC.enc x).length = api_EscalatorC.size := rfl
def api_Escalator.wf (x : api_Escalator) : Prop := True ∧ i64 x.Empty ∧ i64 x.Pull ∧ i64 x.Drag ∧ i64 x.Motor ∧ (x.Brakes.n ≤ maxLen ∧ ∀ i, i < x.Brakes.n → (x.Brakes.f i).wf)
theorem api_EscalatorC_rng {g : Nat → SV} (h : rng api_EscalatorC.sg g 0) : (api_EscalatorC.dec g).wf := by
  obtain ⟨h0, h1, h2, h3, h4, h5, _⟩ := h
  exact ⟨trivial, rng_i64 h1, rng_i64 h2, rng_i64 h3, rng_i64 h4, rng_sl (C := api_BrakeC) (P := fun y => y.wf) (fun _ h => api_BrakeC_rng h) h5⟩

structure api_Band where
  Up : Bool
  Pull : Int
  Drag : Int
  Body : Int
  Ride : Int
  Most : Int
  Paces : Arr Int
  Num : Int
  Den : Int
def api_BandC : Cod api_Band := ⟨(.cons .bool (.cons (.int .i64) (.cons (.int .i64) (.cons (.int .i64) (.cons (.int .i64) (.cons (.int .i64) (.cons (.sl intC.sg) (.cons (.int .i64) (.cons (.int .i64) .nil))))))))), 9, fun x => [.bool x.Up, .int .i64 x.Pull, .int .i64 x.Drag, .int .i64 x.Body, .int .i64 x.Ride, .int .i64 x.Most, slC intC x.Paces, .int .i64 x.Num, .int .i64 x.Den], fun f => ⟨toB (f 0), toI (f 1), toI (f 2), toI (f 3), toI (f 4), toI (f 5), lstC intC (f 6), toI (f 7), toI (f 8)⟩⟩
theorem api_BandC_ok : api_BandC.Ok where
  slen := rfl
  ck := fun x j hj => match j, hj with
    | 0, _ => rfl
    | 1, _ => rfl
    | 2, _ => rfl
    | 3, _ => rfl
    | 4, _ => rfl
    | 5, _ => rfl
    | 6, _ => rfl
    | 7, _ => rfl
    | 8, _ => rfl
    | j + 9, h => absurd h (by simp [api_BandC])
  ok := fun f hf Z w j v hj hd => match j, hj, hd with
    | 0, hj, hd => den_bool (hf 0 hj) hd
    | 1, hj, hd => den_int (hf 1 hj) hd
    | 2, hj, hd => den_int (hf 2 hj) hd
    | 3, hj, hd => den_int (hf 3 hj) hd
    | 4, hj, hd => den_int (hf 4 hj) hd
    | 5, hj, hd => den_int (hf 5 hj) hd
    | 6, hj, hd => den_slC intC_ok (hf 6 hj) hd
    | 7, hj, hd => den_int (hf 7 hj) hd
    | 8, hj, hd => den_int (hf 8 hj) hd
    | j + 9, h, _ => absurd h (by simp [api_BandC])
theorem api_BandC_len (x : api_Band) : (api_BandC.enc x).length = api_BandC.size := rfl
def api_Band.wf (x : api_Band) : Prop := True ∧ i64 x.Pull ∧ i64 x.Drag ∧ i64 x.Body ∧ i64 x.Ride ∧ i64 x.Most ∧ (x.Paces.n ≤ maxLen ∧ ∀ i, i < x.Paces.n → i64 ((x.Paces.f i))) ∧ i64 x.Num ∧ i64 x.Den
theorem api_BandC_rng {g : Nat → SV} (h : rng api_BandC.sg g 0) : (api_BandC.dec g).wf := by
  obtain ⟨h0, h1, h2, h3, h4, h5, h6, h7, h8, _⟩ := h
  exact ⟨trivial, rng_i64 h1, rng_i64 h2, rng_i64 h3, rng_i64 h4, rng_i64 h5, rng_sl (C := intC) (P := fun y => i64 y) (fun _ h => rng_i64 h.1) h6, rng_i64 h7, rng_i64 h8⟩

structure newellaw11_Two where
  Less : Int
  More : Int
  Slow : Int
  Fast : Int
def newellaw11_TwoC : Cod newellaw11_Two := ⟨(.cons (.int .i64) (.cons (.int .i64) (.cons (.int .i64) (.cons (.int .i64) .nil)))), 4, fun x => [.int .i64 x.Less, .int .i64 x.More, .int .i64 x.Slow, .int .i64 x.Fast], fun f => ⟨toI (f 0), toI (f 1), toI (f 2), toI (f 3)⟩⟩
theorem newellaw11_TwoC_ok : newellaw11_TwoC.Ok where
  slen := rfl
  ck := fun x j hj => match j, hj with
    | 0, _ => rfl
    | 1, _ => rfl
    | 2, _ => rfl
    | 3, _ => rfl
    | j + 4, h => absurd h (by simp [newellaw11_TwoC])
  ok := fun f hf Z w j v hj hd => match j, hj, hd with
    | 0, hj, hd => den_int (hf 0 hj) hd
    | 1, hj, hd => den_int (hf 1 hj) hd
    | 2, hj, hd => den_int (hf 2 hj) hd
    | 3, hj, hd => den_int (hf 3 hj) hd
    | j + 4, h, _ => absurd h (by simp [newellaw11_TwoC])
theorem newellaw11_TwoC_len (x : newellaw11_Two) : (newellaw11_TwoC.enc x).length = newellaw11_TwoC.size := rfl
def newellaw11_Two.wf (x : newellaw11_Two) : Prop := i64 x.Less ∧ i64 x.More ∧ i64 x.Slow ∧ i64 x.Fast
theorem newellaw11_TwoC_rng {g : Nat → SV} (h : rng newellaw11_TwoC.sg g 0) : (newellaw11_TwoC.dec g).wf := by
  obtain ⟨h0, h1, h2, h3, _⟩ := h
  exact ⟨rng_i64 h0, rng_i64 h1, rng_i64 h2, rng_i64 h3⟩

structure api_Door where
  Wide : Int
  Wait : Int
def api_DoorC : Cod api_Door := ⟨(.cons (.int .i64) (.cons (.int .i64) .nil)), 2, fun x => [.int .i64 x.Wide, .int .i64 x.Wait], fun f => ⟨toI (f 0), toI (f 1)⟩⟩
theorem api_DoorC_ok : api_DoorC.Ok where
  slen := rfl
  ck := fun x j hj => match j, hj with
    | 0, _ => rfl
    | 1, _ => rfl
    | j + 2, h => absurd h (by simp [api_DoorC])
  ok := fun f hf Z w j v hj hd => match j, hj, hd with
    | 0, hj, hd => den_int (hf 0 hj) hd
    | 1, hj, hd => den_int (hf 1 hj) hd
    | j + 2, h, _ => absurd h (by simp [api_DoorC])
theorem api_DoorC_len (x : api_Door) : (api_DoorC.enc x).length = api_DoorC.size := rfl
def api_Door.wf (x : api_Door) : Prop := i64 x.Wide ∧ i64 x.Wait
theorem api_DoorC_rng {g : Nat → SV} (h : rng api_DoorC.sg g 0) : (api_DoorC.dec g).wf := by
  obtain ⟨h0, h1, _⟩ := h
  exact ⟨rng_i64 h0, rng_i64 h1⟩

structure Arr2_int where
  a0 : Int
  a1 : Int
def Arr2_intC : Cod Arr2_int := ⟨(.cons (.int .i64) (.cons (.int .i64) .nil)), 2, fun x => [.int .i64 x.a0, .int .i64 x.a1], fun f => ⟨toI (f 0), toI (f 1)⟩⟩
theorem Arr2_intC_ok : Arr2_intC.Ok where
  slen := rfl
  ck := fun x j hj => match j, hj with
    | 0, _ => rfl
    | 1, _ => rfl
    | j + 2, h => absurd h (by simp [Arr2_intC])
  ok := fun f hf Z w j v hj hd => match j, hj, hd with
    | 0, hj, hd => den_int (hf 0 hj) hd
    | 1, hj, hd => den_int (hf 1 hj) hd
    | j + 2, h, _ => absurd h (by simp [Arr2_intC])
theorem Arr2_intC_len (x : Arr2_int) : (Arr2_intC.enc x).length = Arr2_intC.size := rfl
def Arr2_int.wf (x : Arr2_int) : Prop := i64 x.a0 ∧ i64 x.a1
theorem Arr2_intC_rng {g : Nat → SV} (h : rng Arr2_intC.sg g 0) : (Arr2_intC.dec g).wf := by
  obtain ⟨h0, h1, _⟩ := h
  exact ⟨rng_i64 h0, rng_i64 h1⟩

structure api_Place where
  State : Int
  Values : Arr2_int
def api_PlaceC : Cod api_Place := ⟨(.cons (.int .i64) (.cons (.int .i64) (.cons (.int .i64) .nil))), 3, fun x => [.int .i64 x.State, .int .i64 x.Values.a0, .int .i64 x.Values.a1], fun f => ⟨toI (f 0), ⟨toI (f 1), toI (f 2)⟩⟩⟩
theorem api_PlaceC_ok : api_PlaceC.Ok where
  slen := rfl
  ck := fun x j hj => match j, hj with
    | 0, _ => rfl
    | 1, _ => rfl
    | 2, _ => rfl
    | j + 3, h => absurd h (by simp [api_PlaceC])
  ok := fun f hf Z w j v hj hd => match j, hj, hd with
    | 0, hj, hd => den_int (hf 0 hj) hd
    | 1, hj, hd => den_int (hf 1 hj) hd
    | 2, hj, hd => den_int (hf 2 hj) hd
    | j + 3, h, _ => absurd h (by simp [api_PlaceC])
theorem api_PlaceC_len (x : api_Place) : (api_PlaceC.enc x).length = api_PlaceC.size := rfl
def api_Place.wf (x : api_Place) : Prop := i64 x.State ∧ i64 x.Values.a0 ∧ i64 x.Values.a1
theorem api_PlaceC_rng {g : Nat → SV} (h : rng api_PlaceC.sg g 0) : (api_PlaceC.dec g).wf := by
  obtain ⟨h0, h1, h2, _⟩ := h
  exact ⟨rng_i64 h0, rng_i64 h1, rng_i64 h2⟩

structure api_Wire where
  Kind : Int
  Of : Arr Int
def api_WireC : Cod api_Wire := ⟨(.cons (.int .i64) (.cons (.sl intC.sg) .nil)), 2, fun x => [.int .i64 x.Kind, slC intC x.Of], fun f => ⟨toI (f 0), lstC intC (f 1)⟩⟩
theorem api_WireC_ok : api_WireC.Ok where
  slen := rfl
  ck := fun x j hj => match j, hj with
    | 0, _ => rfl
    | 1, _ => rfl
    | j + 2, h => absurd h (by simp [api_WireC])
  ok := fun f hf Z w j v hj hd => match j, hj, hd with
    | 0, hj, hd => den_int (hf 0 hj) hd
    | 1, hj, hd => den_slC intC_ok (hf 1 hj) hd
    | j + 2, h, _ => absurd h (by simp [api_WireC])
theorem api_WireC_len (x : api_Wire) : (api_WireC.enc x).length = api_WireC.size := rfl
def api_Wire.wf (x : api_Wire) : Prop := i64 x.Kind ∧ (x.Of.n ≤ maxLen ∧ ∀ i, i < x.Of.n → i64 ((x.Of.f i)))
theorem api_WireC_rng {g : Nat → SV} (h : rng api_WireC.sg g 0) : (api_WireC.dec g).wf := by
  obtain ⟨h0, h1, _⟩ := h
  exact ⟨rng_i64 h0, rng_sl (C := intC) (P := fun y => i64 y) (fun _ h => rng_i64 h.1) h1⟩

structure api_Circuit where
  Hazards : Int
  Switches : Arr Int
  Wires : Arr api_Wire
def api_CircuitC : Cod api_Circuit := ⟨(.cons (.int .i64) (.cons (.sl intC.sg) (.cons (.sl api_WireC.sg) .nil))), 3, fun x => [.int .i64 x.Hazards, slC intC x.Switches, slC api_WireC x.Wires], fun f => ⟨toI (f 0), lstC intC (f 1), lstC api_WireC (f 2)⟩⟩
theorem api_CircuitC_ok : api_CircuitC.Ok where
  slen := rfl
  ck := fun x j hj => match j, hj with
    | 0, _ => rfl
    | 1, _ => rfl
    | 2, _ => rfl
    | j + 3, h => absurd h (by simp [api_CircuitC])
  ok := fun f hf Z w j v hj hd => match j, hj, hd with
    | 0, hj, hd => den_int (hf 0 hj) hd
    | 1, hj, hd => den_slC intC_ok (hf 1 hj) hd
    | 2, hj, hd => den_slC api_WireC_ok (hf 2 hj) hd
    | j + 3, h, _ => absurd h (by simp [api_CircuitC])
theorem api_CircuitC_len (x : api_Circuit) : (api_CircuitC.enc x).length = api_CircuitC.size := rfl
def api_Circuit.wf (x : api_Circuit) : Prop := i64 x.Hazards ∧ (x.Switches.n ≤ maxLen ∧ ∀ i, i < x.Switches.n → i64 ((x.Switches.f i))) ∧ (x.Wires.n ≤ maxLen ∧ ∀ i, i < x.Wires.n → (x.Wires.f i).wf)
theorem api_CircuitC_rng {g : Nat → SV} (h : rng api_CircuitC.sg g 0) : (api_CircuitC.dec g).wf := by
  obtain ⟨h0, h1, h2, _⟩ := h
  exact ⟨rng_i64 h0, rng_sl (C := intC) (P := fun y => i64 y) (fun _ h => rng_i64 h.1) h1, rng_sl (C := api_WireC) (P := fun y => y.wf) (fun _ h => api_WireC_rng h) h2⟩

structure api_Span where
  Low : Int
  High : Int
def api_SpanC : Cod api_Span := ⟨(.cons (.int .i64) (.cons (.int .i64) .nil)), 2, fun x => [.int .i64 x.Low, .int .i64 x.High], fun f => ⟨toI (f 0), toI (f 1)⟩⟩
theorem api_SpanC_ok : api_SpanC.Ok where
  slen := rfl
  ck := fun x j hj => match j, hj with
    | 0, _ => rfl
    | 1, _ => rfl
    | j + 2, h => absurd h (by simp [api_SpanC])
  ok := fun f hf Z w j v hj hd => match j, hj, hd with
    | 0, hj, hd => den_int (hf 0 hj) hd
    | 1, hj, hd => den_int (hf 1 hj) hd
    | j + 2, h, _ => absurd h (by simp [api_SpanC])
theorem api_SpanC_len (x : api_Span) : (api_SpanC.enc x).length = api_SpanC.size := rfl
def api_Span.wf (x : api_Span) : Prop := i64 x.Low ∧ i64 x.High
theorem api_SpanC_rng {g : Nat → SV} (h : rng api_SpanC.sg g 0) : (api_SpanC.dec g).wf := by
  obtain ⟨h0, h1, _⟩ := h
  exact ⟨rng_i64 h0, rng_i64 h1⟩

structure api_Stop where
  Speed : Int
  Loads : api_Span
  Fail : Int
def api_StopC : Cod api_Stop := ⟨(.cons (.int .i64) (.cons (.int .i64) (.cons (.int .i64) (.cons (.int .i64) .nil)))), 4, fun x => [.int .i64 x.Speed, .int .i64 x.Loads.Low, .int .i64 x.Loads.High, .int .i64 x.Fail], fun f => ⟨toI (f 0), ⟨toI (f 1), toI (f 2)⟩, toI (f 3)⟩⟩
theorem api_StopC_ok : api_StopC.Ok where
  slen := rfl
  ck := fun x j hj => match j, hj with
    | 0, _ => rfl
    | 1, _ => rfl
    | 2, _ => rfl
    | 3, _ => rfl
    | j + 4, h => absurd h (by simp [api_StopC])
  ok := fun f hf Z w j v hj hd => match j, hj, hd with
    | 0, hj, hd => den_int (hf 0 hj) hd
    | 1, hj, hd => den_int (hf 1 hj) hd
    | 2, hj, hd => den_int (hf 2 hj) hd
    | 3, hj, hd => den_int (hf 3 hj) hd
    | j + 4, h, _ => absurd h (by simp [api_StopC])
theorem api_StopC_len (x : api_Stop) : (api_StopC.enc x).length = api_StopC.size := rfl
def api_Stop.wf (x : api_Stop) : Prop := i64 x.Speed ∧ i64 x.Loads.Low ∧ i64 x.Loads.High ∧ i64 x.Fail
theorem api_StopC_rng {g : Nat → SV} (h : rng api_StopC.sg g 0) : (api_StopC.dec g).wf := by
  obtain ⟨h0, h1, h2, h3, _⟩ := h
  exact ⟨rng_i64 h0, rng_i64 h1, rng_i64 h2, rng_i64 h3⟩

structure neweltop_Fault where
  Stop : api_Stop
  Way : Int
  Back : Int
  Brake : Int
  Switch : Int
  Hazards : Int
  Loads : Arr Int
def neweltop_FaultC : Cod neweltop_Fault := ⟨(.cons (.int .i64) (.cons (.int .i64) (.cons (.int .i64) (.cons (.int .i64) (.cons (.int .i64) (.cons (.int .i64) (.cons (.int .i64) (.cons (.int .i64) (.cons (.int .i64) (.cons (.sl intC.sg) .nil)))))))))), 10, fun x => [.int .i64 x.Stop.Speed, .int .i64 x.Stop.Loads.Low, .int .i64 x.Stop.Loads.High, .int .i64 x.Stop.Fail, .int .i64 x.Way, .int .i64 x.Back, .int .i64 x.Brake, .int .i64 x.Switch, .int .i64 x.Hazards, slC intC x.Loads], fun f => ⟨⟨toI (f 0), ⟨toI (f 1), toI (f 2)⟩, toI (f 3)⟩, toI (f 4), toI (f 5), toI (f 6), toI (f 7), toI (f 8), lstC intC (f 9)⟩⟩
theorem neweltop_FaultC_ok : neweltop_FaultC.Ok where
  slen := rfl
  ck := fun x j hj => match j, hj with
    | 0, _ => rfl
    | 1, _ => rfl
    | 2, _ => rfl
    | 3, _ => rfl
    | 4, _ => rfl
    | 5, _ => rfl
    | 6, _ => rfl
    | 7, _ => rfl
    | 8, _ => rfl
    | 9, _ => rfl
    | j + 10, h => absurd h (by simp [neweltop_FaultC])
  ok := fun f hf Z w j v hj hd => match j, hj, hd with
    | 0, hj, hd => den_int (hf 0 hj) hd
    | 1, hj, hd => den_int (hf 1 hj) hd
    | 2, hj, hd => den_int (hf 2 hj) hd
    | 3, hj, hd => den_int (hf 3 hj) hd
    | 4, hj, hd => den_int (hf 4 hj) hd
    | 5, hj, hd => den_int (hf 5 hj) hd
    | 6, hj, hd => den_int (hf 6 hj) hd
    | 7, hj, hd => den_int (hf 7 hj) hd
    | 8, hj, hd => den_int (hf 8 hj) hd
    | 9, hj, hd => den_slC intC_ok (hf 9 hj) hd
    | j + 10, h, _ => absurd h (by simp [neweltop_FaultC])
theorem neweltop_FaultC_len (x : neweltop_Fault) : (neweltop_FaultC.enc x).length = neweltop_FaultC.size := rfl
def neweltop_Fault.wf (x : neweltop_Fault) : Prop := i64 x.Stop.Speed ∧ i64 x.Stop.Loads.Low ∧ i64 x.Stop.Loads.High ∧ i64 x.Stop.Fail ∧ i64 x.Way ∧ i64 x.Back ∧ i64 x.Brake ∧ i64 x.Switch ∧ i64 x.Hazards ∧ (x.Loads.n ≤ maxLen ∧ ∀ i, i < x.Loads.n → i64 ((x.Loads.f i)))
theorem neweltop_FaultC_rng {g : Nat → SV} (h : rng neweltop_FaultC.sg g 0) : (neweltop_FaultC.dec g).wf := by
  obtain ⟨h0, h1, h2, h3, h4, h5, h6, h7, h8, h9, _⟩ := h
  exact ⟨rng_i64 h0, rng_i64 h1, rng_i64 h2, rng_i64 h3, rng_i64 h4, rng_i64 h5, rng_i64 h6, rng_i64 h7, rng_i64 h8, rng_sl (C := intC) (P := fun y => i64 y) (fun _ h => rng_i64 h.1) h9⟩

structure api_Part where
  Rates : Arr api_Span
  Worn : Int
  Turns : Int
  Age : Int
def api_PartC : Cod api_Part := ⟨(.cons (.sl api_SpanC.sg) (.cons (.int .i64) (.cons (.int .i64) (.cons (.int .i64) .nil)))), 4, fun x => [slC api_SpanC x.Rates, .int .i64 x.Worn, .int .i64 x.Turns, .int .i64 x.Age], fun f => ⟨lstC api_SpanC (f 0), toI (f 1), toI (f 2), toI (f 3)⟩⟩
theorem api_PartC_ok : api_PartC.Ok where
  slen := rfl
  ck := fun x j hj => match j, hj with
    | 0, _ => rfl
    | 1, _ => rfl
    | 2, _ => rfl
    | 3, _ => rfl
    | j + 4, h => absurd h (by simp [api_PartC])
  ok := fun f hf Z w j v hj hd => match j, hj, hd with
    | 0, hj, hd => den_slC api_SpanC_ok (hf 0 hj) hd
    | 1, hj, hd => den_int (hf 1 hj) hd
    | 2, hj, hd => den_int (hf 2 hj) hd
    | 3, hj, hd => den_int (hf 3 hj) hd
    | j + 4, h, _ => absurd h (by simp [api_PartC])
theorem api_PartC_len (x : api_Part) : (api_PartC.enc x).length = api_PartC.size := rfl
def api_Part.wf (x : api_Part) : Prop := (x.Rates.n ≤ maxLen ∧ ∀ i, i < x.Rates.n → (x.Rates.f i).wf) ∧ i64 x.Worn ∧ i64 x.Turns ∧ i64 x.Age
theorem api_PartC_rng {g : Nat → SV} (h : rng api_PartC.sg g 0) : (api_PartC.dec g).wf := by
  obtain ⟨h0, h1, h2, h3, _⟩ := h
  exact ⟨rng_sl (C := api_SpanC) (P := fun y => y.wf) (fun _ h => api_SpanC_rng h) h0, rng_i64 h1, rng_i64 h2, rng_i64 h3⟩

structure api_Reading where
  Says : Int
  Error : Int
  Drift : Int
  Days : Int
def api_ReadingC : Cod api_Reading := ⟨(.cons (.int .i64) (.cons (.int .i64) (.cons (.int .i64) (.cons (.int .i64) .nil)))), 4, fun x => [.int .i64 x.Says, .int .i64 x.Error, .int .i64 x.Drift, .int .i64 x.Days], fun f => ⟨toI (f 0), toI (f 1), toI (f 2), toI (f 3)⟩⟩
theorem api_ReadingC_ok : api_ReadingC.Ok where
  slen := rfl
  ck := fun x j hj => match j, hj with
    | 0, _ => rfl
    | 1, _ => rfl
    | 2, _ => rfl
    | 3, _ => rfl
    | j + 4, h => absurd h (by simp [api_ReadingC])
  ok := fun f hf Z w j v hj hd => match j, hj, hd with
    | 0, hj, hd => den_int (hf 0 hj) hd
    | 1, hj, hd => den_int (hf 1 hj) hd
    | 2, hj, hd => den_int (hf 2 hj) hd
    | 3, hj, hd => den_int (hf 3 hj) hd
    | j + 4, h, _ => absurd h (by simp [api_ReadingC])
theorem api_ReadingC_len (x : api_Reading) : (api_ReadingC.enc x).length = api_ReadingC.size := rfl
def api_Reading.wf (x : api_Reading) : Prop := i64 x.Says ∧ i64 x.Error ∧ i64 x.Drift ∧ i64 x.Days
theorem api_ReadingC_rng {g : Nat → SV} (h : rng api_ReadingC.sg g 0) : (api_ReadingC.dec g).wf := by
  obtain ⟨h0, h1, h2, h3, _⟩ := h
  exact ⟨rng_i64 h0, rng_i64 h1, rng_i64 h2, rng_i64 h3⟩

structure neweltop_Weighed where
  Wears : Arr Int
  Use : Int
  Readings : Arr api_Reading
def neweltop_WeighedC : Cod neweltop_Weighed := ⟨(.cons (.sl intC.sg) (.cons (.int .i64) (.cons (.sl api_ReadingC.sg) .nil))), 3, fun x => [slC intC x.Wears, .int .i64 x.Use, slC api_ReadingC x.Readings], fun f => ⟨lstC intC (f 0), toI (f 1), lstC api_ReadingC (f 2)⟩⟩
theorem neweltop_WeighedC_ok : neweltop_WeighedC.Ok where
  slen := rfl
  ck := fun x j hj => match j, hj with
    | 0, _ => rfl
    | 1, _ => rfl
    | 2, _ => rfl
    | j + 3, h => absurd h (by simp [neweltop_WeighedC])
  ok := fun f hf Z w j v hj hd => match j, hj, hd with
    | 0, hj, hd => den_slC intC_ok (hf 0 hj) hd
    | 1, hj, hd => den_int (hf 1 hj) hd
    | 2, hj, hd => den_slC api_ReadingC_ok (hf 2 hj) hd
    | j + 3, h, _ => absurd h (by simp [neweltop_WeighedC])
theorem neweltop_WeighedC_len (x : neweltop_Weighed) : (neweltop_WeighedC.enc x).length = neweltop_WeighedC.size := rfl
def neweltop_Weighed.wf (x : neweltop_Weighed) : Prop := (x.Wears.n ≤ maxLen ∧ ∀ i, i < x.Wears.n → i64 ((x.Wears.f i))) ∧ i64 x.Use ∧ (x.Readings.n ≤ maxLen ∧ ∀ i, i < x.Readings.n → (x.Readings.f i).wf)
theorem neweltop_WeighedC_rng {g : Nat → SV} (h : rng neweltop_WeighedC.sg g 0) : (neweltop_WeighedC.dec g).wf := by
  obtain ⟨h0, h1, h2, _⟩ := h
  exact ⟨rng_sl (C := intC) (P := fun y => i64 y) (fun _ h => rng_i64 h.1) h0, rng_i64 h1, rng_sl (C := api_ReadingC) (P := fun y => y.wf) (fun _ h => api_ReadingC_rng h) h2⟩

structure api_Use where
  Day : Int
  Turns : Int
  Class : Int
  Measured : Bool
  Says : api_Span
def api_UseC : Cod api_Use := ⟨(.cons (.int .i64) (.cons (.int .i64) (.cons (.int .i64) (.cons .bool (.cons (.int .i64) (.cons (.int .i64) .nil)))))), 6, fun x => [.int .i64 x.Day, .int .i64 x.Turns, .int .i64 x.Class, .bool x.Measured, .int .i64 x.Says.Low, .int .i64 x.Says.High], fun f => ⟨toI (f 0), toI (f 1), toI (f 2), toB (f 3), ⟨toI (f 4), toI (f 5)⟩⟩⟩
theorem api_UseC_ok : api_UseC.Ok where
  slen := rfl
  ck := fun x j hj => match j, hj with
    | 0, _ => rfl
    | 1, _ => rfl
    | 2, _ => rfl
    | 3, _ => rfl
    | 4, _ => rfl
    | 5, _ => rfl
    | j + 6, h => absurd h (by simp [api_UseC])
  ok := fun f hf Z w j v hj hd => match j, hj, hd with
    | 0, hj, hd => den_int (hf 0 hj) hd
    | 1, hj, hd => den_int (hf 1 hj) hd
    | 2, hj, hd => den_int (hf 2 hj) hd
    | 3, hj, hd => den_bool (hf 3 hj) hd
    | 4, hj, hd => den_int (hf 4 hj) hd
    | 5, hj, hd => den_int (hf 5 hj) hd
    | j + 6, h, _ => absurd h (by simp [api_UseC])
theorem api_UseC_len (x : api_Use) : (api_UseC.enc x).length = api_UseC.size := rfl
def api_Use.wf (x : api_Use) : Prop := i64 x.Day ∧ i64 x.Turns ∧ i64 x.Class ∧ True ∧ i64 x.Says.Low ∧ i64 x.Says.High
theorem api_UseC_rng {g : Nat → SV} (h : rng api_UseC.sg g 0) : (api_UseC.dec g).wf := by
  obtain ⟨h0, h1, h2, h3, h4, h5, _⟩ := h
  exact ⟨rng_i64 h0, rng_i64 h1, rng_i64 h2, trivial, rng_i64 h4, rng_i64 h5⟩

structure api_Comb where
  Rate : Int
  Limit : Int
  Next : Int
  Walk : api_Span
def api_CombC : Cod api_Comb := ⟨(.cons (.int .i64) (.cons (.int .i64) (.cons (.int .i64) (.cons (.int .i64) (.cons (.int .i64) .nil))))), 5, fun x => [.int .i64 x.Rate, .int .i64 x.Limit, .int .i64 x.Next, .int .i64 x.Walk.Low, .int .i64 x.Walk.High], fun f => ⟨toI (f 0), toI (f 1), toI (f 2), ⟨toI (f 3), toI (f 4)⟩⟩⟩
theorem api_CombC_ok : api_CombC.Ok where
  slen := rfl
  ck := fun x j hj => match j, hj with
    | 0, _ => rfl
    | 1, _ => rfl
    | 2, _ => rfl
    | 3, _ => rfl
    | 4, _ => rfl
    | j + 5, h => absurd h (by simp [api_CombC])
  ok := fun f hf Z w j v hj hd => match j, hj, hd with
    | 0, hj, hd => den_int (hf 0 hj) hd
    | 1, hj, hd => den_int (hf 1 hj) hd
    | 2, hj, hd => den_int (hf 2 hj) hd
    | 3, hj, hd => den_int (hf 3 hj) hd
    | 4, hj, hd => den_int (hf 4 hj) hd
    | j + 5, h, _ => absurd h (by simp [api_CombC])
theorem api_CombC_len (x : api_Comb) : (api_CombC.enc x).length = api_CombC.size := rfl
def api_Comb.wf (x : api_Comb) : Prop := i64 x.Rate ∧ i64 x.Limit ∧ i64 x.Next ∧ i64 x.Walk.Low ∧ i64 x.Walk.High
theorem api_CombC_rng {g : Nat → SV} (h : rng api_CombC.sg g 0) : (api_CombC.dec g).wf := by
  obtain ⟨h0, h1, h2, h3, h4, _⟩ := h
  exact ⟨rng_i64 h0, rng_i64 h1, rng_i64 h2, rng_i64 h3, rng_i64 h4⟩

structure api_Crowd where
  Comb : Int
  People : api_Span
def api_CrowdC : Cod api_Crowd := ⟨(.cons (.int .i64) (.cons (.int .i64) (.cons (.int .i64) .nil))), 3, fun x => [.int .i64 x.Comb, .int .i64 x.People.Low, .int .i64 x.People.High], fun f => ⟨toI (f 0), ⟨toI (f 1), toI (f 2)⟩⟩⟩
theorem api_CrowdC_ok : api_CrowdC.Ok where
  slen := rfl
  ck := fun x j hj => match j, hj with
    | 0, _ => rfl
    | 1, _ => rfl
    | 2, _ => rfl
    | j + 3, h => absurd h (by simp [api_CrowdC])
  ok := fun f hf Z w j v hj hd => match j, hj, hd with
    | 0, hj, hd => den_int (hf 0 hj) hd
    | 1, hj, hd => den_int (hf 1 hj) hd
    | 2, hj, hd => den_int (hf 2 hj) hd
    | j + 3, h, _ => absurd h (by simp [api_CrowdC])
theorem api_CrowdC_len (x : api_Crowd) : (api_CrowdC.enc x).length = api_CrowdC.size := rfl
def api_Crowd.wf (x : api_Crowd) : Prop := i64 x.Comb ∧ i64 x.People.Low ∧ i64 x.People.High
theorem api_CrowdC_rng {g : Nat → SV} (h : rng api_CrowdC.sg g 0) : (api_CrowdC.dec g).wf := by
  obtain ⟨h0, h1, h2, _⟩ := h
  exact ⟨rng_i64 h0, rng_i64 h1, rng_i64 h2⟩

structure api_Train where
  At : api_Span
  Crowds : Arr api_Crowd
def api_TrainC : Cod api_Train := ⟨(.cons (.int .i64) (.cons (.int .i64) (.cons (.sl api_CrowdC.sg) .nil))), 3, fun x => [.int .i64 x.At.Low, .int .i64 x.At.High, slC api_CrowdC x.Crowds], fun f => ⟨⟨toI (f 0), toI (f 1)⟩, lstC api_CrowdC (f 2)⟩⟩
theorem api_TrainC_ok : api_TrainC.Ok where
  slen := rfl
  ck := fun x j hj => match j, hj with
    | 0, _ => rfl
    | 1, _ => rfl
    | 2, _ => rfl
    | j + 3, h => absurd h (by simp [api_TrainC])
  ok := fun f hf Z w j v hj hd => match j, hj, hd with
    | 0, hj, hd => den_int (hf 0 hj) hd
    | 1, hj, hd => den_int (hf 1 hj) hd
    | 2, hj, hd => den_slC api_CrowdC_ok (hf 2 hj) hd
    | j + 3, h, _ => absurd h (by simp [api_TrainC])
theorem api_TrainC_len (x : api_Train) : (api_TrainC.enc x).length = api_TrainC.size := rfl
def api_Train.wf (x : api_Train) : Prop := i64 x.At.Low ∧ i64 x.At.High ∧ (x.Crowds.n ≤ maxLen ∧ ∀ i, i < x.Crowds.n → (x.Crowds.f i).wf)
theorem api_TrainC_rng {g : Nat → SV} (h : rng api_TrainC.sg g 0) : (api_TrainC.dec g).wf := by
  obtain ⟨h0, h1, h2, _⟩ := h
  exact ⟨rng_i64 h0, rng_i64 h1, rng_sl (C := api_CrowdC) (P := fun y => y.wf) (fun _ h => api_CrowdC_rng h) h2⟩

structure api_Shift where
  At : Int
  Comb : Int
  Rate : Int
def api_ShiftC : Cod api_Shift := ⟨(.cons (.int .i64) (.cons (.int .i64) (.cons (.int .i64) .nil))), 3, fun x => [.int .i64 x.At, .int .i64 x.Comb, .int .i64 x.Rate], fun f => ⟨toI (f 0), toI (f 1), toI (f 2)⟩⟩
theorem api_ShiftC_ok : api_ShiftC.Ok where
  slen := rfl
  ck := fun x j hj => match j, hj with
    | 0, _ => rfl
    | 1, _ => rfl
    | 2, _ => rfl
    | j + 3, h => absurd h (by simp [api_ShiftC])
  ok := fun f hf Z w j v hj hd => match j, hj, hd with
    | 0, hj, hd => den_int (hf 0 hj) hd
    | 1, hj, hd => den_int (hf 1 hj) hd
    | 2, hj, hd => den_int (hf 2 hj) hd
    | j + 3, h, _ => absurd h (by simp [api_ShiftC])
theorem api_ShiftC_len (x : api_Shift) : (api_ShiftC.enc x).length = api_ShiftC.size := rfl
def api_Shift.wf (x : api_Shift) : Prop := i64 x.At ∧ i64 x.Comb ∧ i64 x.Rate
theorem api_ShiftC_rng {g : Nat → SV} (h : rng api_ShiftC.sg g 0) : (api_ShiftC.dec g).wf := by
  obtain ⟨h0, h1, h2, _⟩ := h
  exact ⟨rng_i64 h0, rng_i64 h1, rng_i64 h2⟩

structure api_Hall where
  Combs : Arr api_Comb
  Trains : Arr api_Train
  Shifts : Arr api_Shift
  Until : Int
def api_HallC : Cod api_Hall := ⟨(.cons (.sl api_CombC.sg) (.cons (.sl api_TrainC.sg) (.cons (.sl api_ShiftC.sg) (.cons (.int .i64) .nil)))), 4, fun x => [slC api_CombC x.Combs, slC api_TrainC x.Trains, slC api_ShiftC x.Shifts, .int .i64 x.Until], fun f => ⟨lstC api_CombC (f 0), lstC api_TrainC (f 1), lstC api_ShiftC (f 2), toI (f 3)⟩⟩
theorem api_HallC_ok : api_HallC.Ok where
  slen := rfl
  ck := fun x j hj => match j, hj with
    | 0, _ => rfl
    | 1, _ => rfl
    | 2, _ => rfl
    | 3, _ => rfl
    | j + 4, h => absurd h (by simp [api_HallC])
  ok := fun f hf Z w j v hj hd => match j, hj, hd with
    | 0, hj, hd => den_slC api_CombC_ok (hf 0 hj) hd
    | 1, hj, hd => den_slC api_TrainC_ok (hf 1 hj) hd
    | 2, hj, hd => den_slC api_ShiftC_ok (hf 2 hj) hd
    | 3, hj, hd => den_int (hf 3 hj) hd
    | j + 4, h, _ => absurd h (by simp [api_HallC])
theorem api_HallC_len (x : api_Hall) : (api_HallC.enc x).length = api_HallC.size := rfl
def api_Hall.wf (x : api_Hall) : Prop := (x.Combs.n ≤ maxLen ∧ ∀ i, i < x.Combs.n → (x.Combs.f i).wf) ∧ (x.Trains.n ≤ maxLen ∧ ∀ i, i < x.Trains.n → (x.Trains.f i).wf) ∧ (x.Shifts.n ≤ maxLen ∧ ∀ i, i < x.Shifts.n → (x.Shifts.f i).wf) ∧ i64 x.Until
theorem api_HallC_rng {g : Nat → SV} (h : rng api_HallC.sg g 0) : (api_HallC.dec g).wf := by
  obtain ⟨h0, h1, h2, h3, _⟩ := h
  exact ⟨rng_sl (C := api_CombC) (P := fun y => y.wf) (fun _ h => api_CombC_rng h) h0, rng_sl (C := api_TrainC) (P := fun y => y.wf) (fun _ h => api_TrainC_rng h) h1, rng_sl (C := api_ShiftC) (P := fun y => y.wf) (fun _ h => api_ShiftC_rng h) h2, rng_i64 h3⟩

structure api_Day where
  At : Arr Int
  People : Arr (Arr Int)
  Walks : Arr (Arr Int)
def api_DayC : Cod api_Day := ⟨(.cons (.sl intC.sg) (.cons (.sl (lsC intC).sg) (.cons (.sl (lsC intC).sg) .nil))), 3, fun x => [slC intC x.At, slC (lsC intC) x.People, slC (lsC intC) x.Walks], fun f => ⟨lstC intC (f 0), lstC (lsC intC) (f 1), lstC (lsC intC) (f 2)⟩⟩
theorem api_DayC_ok : api_DayC.Ok where
  slen := rfl
  ck := fun x j hj => match j, hj with
    | 0, _ => rfl
    | 1, _ => rfl
    | 2, _ => rfl
    | j + 3, h => absurd h (by simp [api_DayC])
  ok := fun f hf Z w j v hj hd => match j, hj, hd with
    | 0, hj, hd => den_slC intC_ok (hf 0 hj) hd
    | 1, hj, hd => den_slC (lsC_ok intC_ok) (hf 1 hj) hd
    | 2, hj, hd => den_slC (lsC_ok intC_ok) (hf 2 hj) hd
    | j + 3, h, _ => absurd h (by simp [api_DayC])
theorem api_DayC_len (x : api_Day) : (api_DayC.enc x).length = api_DayC.size := rfl
def api_Day.wf (x : api_Day) : Prop := (x.At.n ≤ maxLen ∧ ∀ i, i < x.At.n → i64 ((x.At.f i))) ∧ (x.People.n ≤ maxLen ∧ ∀ i, i < x.People.n → ((x.People.f i).n ≤ maxLen ∧ ∀ i1, i1 < (x.People.f i).n → i64 (((x.People.f i).f i1)))) ∧ (x.Walks.n ≤ maxLen ∧ ∀ i, i < x.Walks.n → ((x.Walks.f i).n ≤ maxLen ∧ ∀ i1, i1 < (x.Walks.f i).n → i64 (((x.Walks.f i).f i1))))
theorem api_DayC_rng {g : Nat → SV} (h : rng api_DayC.sg g 0) : (api_DayC.dec g).wf := by
  obtain ⟨h0, h1, h2, _⟩ := h
  exact ⟨rng_sl (C := intC) (P := fun y => i64 y) (fun _ h => rng_i64 h.1) h0, rng_sl (C := (lsC intC)) (P := fun y => (y.n ≤ maxLen ∧ ∀ i, i < y.n → i64 ((y.f i)))) (fun _ h => rng_sl (C := intC) (P := fun y => i64 y) (fun _ h => rng_i64 h.1) h.1) h1, rng_sl (C := (lsC intC)) (P := fun y => (y.n ≤ maxLen ∧ ∀ i, i < y.n → i64 ((y.f i)))) (fun _ h => rng_sl (C := intC) (P := fun y => i64 y) (fun _ h => rng_i64 h.1) h.1) h2⟩

structure neweltop_Boarded where
  Comb : Int
  Body : Int
  Ticks : Int
  Tick : Int
  Stop : api_Stop
def neweltop_BoardedC : Cod neweltop_Boarded := ⟨(.cons (.int .i64) (.cons (.int .i64) (.cons (.int .i64) (.cons (.int .i64) (.cons (.int .i64) (.cons (.int .i64) (.cons (.int .i64) (.cons (.int .i64) .nil)))))))), 8, fun x => [.int .i64 x.Comb, .int .i64 x.Body, .int .i64 x.Ticks, .int .i64 x.Tick, .int .i64 x.Stop.Speed, .int .i64 x.Stop.Loads.Low, .int .i64 x.Stop.Loads.High, .int .i64 x.Stop.Fail], fun f => ⟨toI (f 0), toI (f 1), toI (f 2), toI (f 3), ⟨toI (f 4), ⟨toI (f 5), toI (f 6)⟩, toI (f 7)⟩⟩⟩
theorem neweltop_BoardedC_ok : neweltop_BoardedC.Ok where
  slen := rfl
  ck := fun x j hj => match j, hj with
    | 0, _ => rfl
    | 1, _ => rfl
    | 2, _ => rfl
    | 3, _ => rfl
    | 4, _ => rfl
    | 5, _ => rfl
    | 6, _ => rfl
    | 7, _ => rfl
    | j + 8, h => absurd h (by simp [neweltop_BoardedC])
  ok := fun f hf Z w j v hj hd => match j, hj, hd with
    | 0, hj, hd => den_int (hf 0 hj) hd
    | 1, hj, hd => den_int (hf 1 hj) hd
    | 2, hj, hd => den_int (hf 2 hj) hd
    | 3, hj, hd => den_int (hf 3 hj) hd
    | 4, hj, hd => den_int (hf 4 hj) hd
    | 5, hj, hd => den_int (hf 5 hj) hd
    | 6, hj, hd => den_int (hf 6 hj) hd
    | 7, hj, hd => den_int (hf 7 hj) hd
    | j + 8, h, _ => absurd h (by simp [neweltop_BoardedC])
theorem neweltop_BoardedC_len (x : neweltop_Boarded) : (neweltop_BoardedC.enc x).length = neweltop_BoardedC.size := rfl
def neweltop_Boarded.wf (x : neweltop_Boarded) : Prop := i64 x.Comb ∧ i64 x.Body ∧ i64 x.Ticks ∧ i64 x.Tick ∧ i64 x.Stop.Speed ∧ i64 x.Stop.Loads.Low ∧ i64 x.Stop.Loads.High ∧ i64 x.Stop.Fail
theorem neweltop_BoardedC_rng {g : Nat → SV} (h : rng neweltop_BoardedC.sg g 0) : (neweltop_BoardedC.dec g).wf := by
  obtain ⟨h0, h1, h2, h3, h4, h5, h6, h7, _⟩ := h
  exact ⟨rng_i64 h0, rng_i64 h1, rng_i64 h2, rng_i64 h3, rng_i64 h4, rng_i64 h5, rng_i64 h6, rng_i64 h7⟩

structure neweltop_Full where
  Escalator : api_Escalator
  Boarded : neweltop_Boarded
def neweltop_FullC : Cod neweltop_Full := ⟨(.cons .bool (.cons (.int .i64) (.cons (.int .i64) (.cons (.int .i64) (.cons (.int .i64) (.cons (.sl api_BrakeC.sg) (.cons (.int .i64) (.cons (.int .i64) (.cons (.int .i64) (.cons (.int .i64) (.cons (.int .i64) (.cons (.int .i64) (.cons (.int .i64) (.cons (.int .i64) .nil)))))))))))))), 14, fun x => [.bool x.Escalator.Up, .int .i64 x.Escalator.Empty, .int .i64 x.Escalator.Pull, .int .i64 x.Escalator.Drag, .int .i64 x.Escalator.Motor, slC api_BrakeC x.Escalator.Brakes, .int .i64 x.Boarded.Comb, .int .i64 x.Boarded.Body, .int .i64 x.Boarded.Ticks, .int .i64 x.Boarded.Tick, .int .i64 x.Boarded.Stop.Speed, .int .i64 x.Boarded.Stop.Loads.Low, .int .i64 x.Boarded.Stop.Loads.High, .int .i64 x.Boarded.Stop.Fail], fun f => ⟨⟨toB (f 0), toI (f 1), toI (f 2), toI (f 3), toI (f 4), lstC api_BrakeC (f 5)⟩, ⟨toI (f 6), toI (f 7), toI (f 8), toI (f 9), ⟨toI (f 10), ⟨toI (f 11), toI (f 12)⟩, toI (f 13)⟩⟩⟩⟩
theorem neweltop_FullC_ok : neweltop_FullC.Ok where
  slen := rfl
  ck := fun x j hj => match j, hj with
    | 0, _ => rfl
    | 1, _ => rfl
    | 2, _ => rfl
    | 3, _ => rfl
    | 4, _ => rfl
    | 5, _ => rfl
    | 6, _ => rfl
    | 7, _ => rfl
    | 8, _ => rfl
    | 9, _ => rfl
    | 10, _ => rfl
    | 11, _ => rfl
    | 12, _ => rfl
    | 13, _ => rfl
    | j + 14, h => absurd h (by simp [neweltop_FullC])
  ok := fun f hf Z w j v hj hd => match j, hj, hd with
    | 0, hj, hd => den_bool (hf 0 hj) hd
    | 1, hj, hd => den_int (hf 1 hj) hd
    | 2, hj, hd => den_int (hf 2 hj) hd
    | 3, hj, hd => den_int (hf 3 hj) hd
    | 4, hj, hd => den_int (hf 4 hj) hd
    | 5, hj, hd => den_slC api_BrakeC_ok (hf 5 hj) hd
    | 6, hj, hd => den_int (hf 6 hj) hd
    | 7, hj, hd => den_int (hf 7 hj) hd
    | 8, hj, hd => den_int (hf 8 hj) hd
    | 9, hj, hd => den_int (hf 9 hj) hd
    | 10, hj, hd => den_int (hf 10 hj) hd
    | 11, hj, hd => den_int (hf 11 hj) hd
    | 12, hj, hd => den_int (hf 12 hj) hd
    | 13, hj, hd => den_int (hf 13 hj) hd
    | j + 14, h, _ => absurd h (by simp [neweltop_FullC])
theorem neweltop_FullC_len (x : neweltop_Full) : (neweltop_FullC.enc x).length = neweltop_FullC.size := rfl
def neweltop_Full.wf (x : neweltop_Full) : Prop := True ∧ i64 x.Escalator.Empty ∧ i64 x.Escalator.Pull ∧ i64 x.Escalator.Drag ∧ i64 x.Escalator.Motor ∧ (x.Escalator.Brakes.n ≤ maxLen ∧ ∀ i, i < x.Escalator.Brakes.n → (x.Escalator.Brakes.f i).wf) ∧ i64 x.Boarded.Comb ∧ i64 x.Boarded.Body ∧ i64 x.Boarded.Ticks ∧ i64 x.Boarded.Tick ∧ i64 x.Boarded.Stop.Speed ∧ i64 x.Boarded.Stop.Loads.Low ∧ i64 x.Boarded.Stop.Loads.High ∧ i64 x.Boarded.Stop.Fail
theorem neweltop_FullC_rng {g : Nat → SV} (h : rng neweltop_FullC.sg g 0) : (neweltop_FullC.dec g).wf := by
  obtain ⟨h0, h1, h2, h3, h4, h5, h6, h7, h8, h9, h10, h11, h12, h13, _⟩ := h
  exact ⟨trivial, rng_i64 h1, rng_i64 h2, rng_i64 h3, rng_i64 h4, rng_sl (C := api_BrakeC) (P := fun y => y.wf) (fun _ h => api_BrakeC_rng h) h5, rng_i64 h6, rng_i64 h7, rng_i64 h8, rng_i64 h9, rng_i64 h10, rng_i64 h11, rng_i64 h12, rng_i64 h13⟩

structure neweltop_Boarding where
  Comb : Int
  Pace : Int
  Band : api_Band
def neweltop_BoardingC : Cod neweltop_Boarding := ⟨(.cons (.int .i64) (.cons (.int .i64) (.cons .bool (.cons (.int .i64) (.cons (.int .i64) (.cons (.int .i64) (.cons (.int .i64) (.cons (.int .i64) (.cons (.sl intC.sg) (.cons (.int .i64) (.cons (.int .i64) .nil))))))))))), 11, fun x => [.int .i64 x.Comb, .int .i64 x.Pace, .bool x.Band.Up, .int .i64 x.Band.Pull, .int .i64 x.Band.Drag, .int .i64 x.Band.Body, .int .i64 x.Band.Ride, .int .i64 x.Band.Most, slC intC x.Band.Paces, .int .i64 x.Band.Num, .int .i64 x.Band.Den], fun f => ⟨toI (f 0), toI (f 1), ⟨toB (f 2), toI (f 3), toI (f 4), toI (f 5), toI (f 6), toI (f 7), lstC intC (f 8), toI (f 9), toI (f 10)⟩⟩⟩
theorem neweltop_BoardingC_ok : neweltop_BoardingC.Ok where
  slen := rfl
  ck := fun x j hj => match j, hj with
    | 0, _ => rfl
    | 1, _ => rfl
    | 2, _ => rfl
    | 3, _ => rfl
    | 4, _ => rfl
    | 5, _ => rfl
    | 6, _ => rfl
    | 7, _ => rfl
    | 8, _ => rfl
    | 9, _ => rfl
    | 10, _ => rfl
    | j + 11, h => absurd h (by simp [neweltop_BoardingC])
  ok := fun f hf Z w j v hj hd => match j, hj, hd with
    | 0, hj, hd => den_int (hf 0 hj) hd
    | 1, hj, hd => den_int (hf 1 hj) hd
    | 2, hj, hd => den_bool (hf 2 hj) hd
    | 3, hj, hd => den_int (hf 3 hj) hd
    | 4, hj, hd => den_int (hf 4 hj) hd
    | 5, hj, hd => den_int (hf 5 hj) hd
    | 6, hj, hd => den_int (hf 6 hj) hd
    | 7, hj, hd => den_int (hf 7 hj) hd
    | 8, hj, hd => den_slC intC_ok (hf 8 hj) hd
    | 9, hj, hd => den_int (hf 9 hj) hd
    | 10, hj, hd => den_int (hf 10 hj) hd
    | j + 11, h, _ => absurd h (by simp [neweltop_BoardingC])
theorem neweltop_BoardingC_len (x : neweltop_Boarding) : (neweltop_BoardingC.enc x).length = neweltop_BoardingC.size := rfl
def neweltop_Boarding.wf (x : neweltop_Boarding) : Prop := i64 x.Comb ∧ i64 x.Pace ∧ True ∧ i64 x.Band.Pull ∧ i64 x.Band.Drag ∧ i64 x.Band.Body ∧ i64 x.Band.Ride ∧ i64 x.Band.Most ∧ (x.Band.Paces.n ≤ maxLen ∧ ∀ i, i < x.Band.Paces.n → i64 ((x.Band.Paces.f i))) ∧ i64 x.Band.Num ∧ i64 x.Band.Den
theorem neweltop_BoardingC_rng {g : Nat → SV} (h : rng neweltop_BoardingC.sg g 0) : (neweltop_BoardingC.dec g).wf := by
  obtain ⟨h0, h1, h2, h3, h4, h5, h6, h7, h8, h9, h10, _⟩ := h
  exact ⟨rng_i64 h0, rng_i64 h1, trivial, rng_i64 h3, rng_i64 h4, rng_i64 h5, rng_i64 h6, rng_i64 h7, rng_sl (C := intC) (P := fun y => i64 y) (fun _ h => rng_i64 h.1) h8, rng_i64 h9, rng_i64 h10⟩

structure api_Period where
  Lasts : Int
  Price : Int
  Flow : api_Span
def api_PeriodC : Cod api_Period := ⟨(.cons (.int .i64) (.cons (.int .i64) (.cons (.int .i64) (.cons (.int .i64) .nil)))), 4, fun x => [.int .i64 x.Lasts, .int .i64 x.Price, .int .i64 x.Flow.Low, .int .i64 x.Flow.High], fun f => ⟨toI (f 0), toI (f 1), ⟨toI (f 2), toI (f 3)⟩⟩⟩
theorem api_PeriodC_ok : api_PeriodC.Ok where
  slen := rfl
  ck := fun x j hj => match j, hj with
    | 0, _ => rfl
    | 1, _ => rfl
    | 2, _ => rfl
    | 3, _ => rfl
    | j + 4, h => absurd h (by simp [api_PeriodC])
  ok := fun f hf Z w j v hj hd => match j, hj, hd with
    | 0, hj, hd => den_int (hf 0 hj) hd
    | 1, hj, hd => den_int (hf 1 hj) hd
    | 2, hj, hd => den_int (hf 2 hj) hd
    | 3, hj, hd => den_int (hf 3 hj) hd
    | j + 4, h, _ => absurd h (by simp [api_PeriodC])
theorem api_PeriodC_len (x : api_Period) : (api_PeriodC.enc x).length = api_PeriodC.size := rfl
def api_Period.wf (x : api_Period) : Prop := i64 x.Lasts ∧ i64 x.Price ∧ i64 x.Flow.Low ∧ i64 x.Flow.High
theorem api_PeriodC_rng {g : Nat → SV} (h : rng api_PeriodC.sg g 0) : (api_PeriodC.dec g).wf := by
  obtain ⟨h0, h1, h2, h3, _⟩ := h
  exact ⟨rng_i64 h0, rng_i64 h1, rng_i64 h2, rng_i64 h3⟩

structure api_Times where
  Periods : Arr api_Period
  Peak : Int
def api_TimesC : Cod api_Times := ⟨(.cons (.sl api_PeriodC.sg) (.cons (.int .i64) .nil)), 2, fun x => [slC api_PeriodC x.Periods, .int .i64 x.Peak], fun f => ⟨lstC api_PeriodC (f 0), toI (f 1)⟩⟩
theorem api_TimesC_ok : api_TimesC.Ok where
  slen := rfl
  ck := fun x j hj => match j, hj with
    | 0, _ => rfl
    | 1, _ => rfl
    | j + 2, h => absurd h (by simp [api_TimesC])
  ok := fun f hf Z w j v hj hd => match j, hj, hd with
    | 0, hj, hd => den_slC api_PeriodC_ok (hf 0 hj) hd
    | 1, hj, hd => den_int (hf 1 hj) hd
    | j + 2, h, _ => absurd h (by simp [api_TimesC])
theorem api_TimesC_len (x : api_Times) : (api_TimesC.enc x).length = api_TimesC.size := rfl
def api_Times.wf (x : api_Times) : Prop := (x.Periods.n ≤ maxLen ∧ ∀ i, i < x.Periods.n → (x.Periods.f i).wf) ∧ i64 x.Peak
theorem api_TimesC_rng {g : Nat → SV} (h : rng api_TimesC.sg g 0) : (api_TimesC.dec g).wf := by
  obtain ⟨h0, h1, _⟩ := h
  exact ⟨rng_sl (C := api_PeriodC) (P := fun y => y.wf) (fun _ h => api_PeriodC_rng h) h0, rng_i64 h1⟩

structure neweltop_Ridden where
  Times : api_Times
  Limit : Int
  Flows : Arr Int
  Period : Int
def neweltop_RiddenC : Cod neweltop_Ridden := ⟨(.cons (.sl api_PeriodC.sg) (.cons (.int .i64) (.cons (.int .i64) (.cons (.sl intC.sg) (.cons (.int .i64) .nil))))), 5, fun x => [slC api_PeriodC x.Times.Periods, .int .i64 x.Times.Peak, .int .i64 x.Limit, slC intC x.Flows, .int .i64 x.Period], fun f => ⟨⟨lstC api_PeriodC (f 0), toI (f 1)⟩, toI (f 2), lstC intC (f 3), toI (f 4)⟩⟩
theorem neweltop_RiddenC_ok : neweltop_RiddenC.Ok where
  slen := rfl
  ck := fun x j hj => match j, hj with
    | 0, _ => rfl
    | 1, _ => rfl
    | 2, _ => rfl
    | 3, _ => rfl
    | 4, _ => rfl
    | j + 5, h => absurd h (by simp [neweltop_RiddenC])
  ok := fun f hf Z w j v hj hd => match j, hj, hd with
    | 0, hj, hd => den_slC api_PeriodC_ok (hf 0 hj) hd
    | 1, hj, hd => den_int (hf 1 hj) hd
    | 2, hj, hd => den_int (hf 2 hj) hd
    | 3, hj, hd => den_slC intC_ok (hf 3 hj) hd
    | 4, hj, hd => den_int (hf 4 hj) hd
    | j + 5, h, _ => absurd h (by simp [neweltop_RiddenC])
theorem neweltop_RiddenC_len (x : neweltop_Ridden) : (neweltop_RiddenC.enc x).length = neweltop_RiddenC.size := rfl
def neweltop_Ridden.wf (x : neweltop_Ridden) : Prop := (x.Times.Periods.n ≤ maxLen ∧ ∀ i, i < x.Times.Periods.n → (x.Times.Periods.f i).wf) ∧ i64 x.Times.Peak ∧ i64 x.Limit ∧ (x.Flows.n ≤ maxLen ∧ ∀ i, i < x.Flows.n → i64 ((x.Flows.f i))) ∧ i64 x.Period
theorem neweltop_RiddenC_rng {g : Nat → SV} (h : rng neweltop_RiddenC.sg g 0) : (neweltop_RiddenC.dec g).wf := by
  obtain ⟨h0, h1, h2, h3, h4, _⟩ := h
  exact ⟨rng_sl (C := api_PeriodC) (P := fun y => y.wf) (fun _ h => api_PeriodC_rng h) h0, rng_i64 h1, rng_i64 h2, rng_sl (C := intC) (P := fun y => i64 y) (fun _ h => rng_i64 h.1) h3, rng_i64 h4⟩

structure api_Literal where
  Kind : Int
  Number : Int
  Value : Int
  Not : Bool
def api_LiteralC : Cod api_Literal := ⟨(.cons (.int .i64) (.cons (.int .i64) (.cons (.int .i64) (.cons .bool .nil)))), 4, fun x => [.int .i64 x.Kind, .int .i64 x.Number, .int .i64 x.Value, .bool x.Not], fun f => ⟨toI (f 0), toI (f 1), toI (f 2), toB (f 3)⟩⟩
theorem api_LiteralC_ok : api_LiteralC.Ok where
  slen := rfl
  ck := fun x j hj => match j, hj with
    | 0, _ => rfl
    | 1, _ => rfl
    | 2, _ => rfl
    | 3, _ => rfl
    | j + 4, h => absurd h (by simp [api_LiteralC])
  ok := fun f hf Z w j v hj hd => match j, hj, hd with
    | 0, hj, hd => den_int (hf 0 hj) hd
    | 1, hj, hd => den_int (hf 1 hj) hd
    | 2, hj, hd => den_int (hf 2 hj) hd
    | 3, hj, hd => den_bool (hf 3 hj) hd
    | j + 4, h, _ => absurd h (by simp [api_LiteralC])
theorem api_LiteralC_len (x : api_Literal) : (api_LiteralC.enc x).length = api_LiteralC.size := rfl
def api_Literal.wf (x : api_Literal) : Prop := i64 x.Kind ∧ i64 x.Number ∧ i64 x.Value ∧ True
theorem api_LiteralC_rng {g : Nat → SV} (h : rng api_LiteralC.sg g 0) : (api_LiteralC.dec g).wf := by
  obtain ⟨h0, h1, h2, h3, _⟩ := h
  exact ⟨rng_i64 h0, rng_i64 h1, rng_i64 h2, trivial⟩

structure api_Set where
  Kind : Int
  Counter : Int
def api_SetC : Cod api_Set := ⟨(.cons (.int .i64) (.cons (.int .i64) .nil)), 2, fun x => [.int .i64 x.Kind, .int .i64 x.Counter], fun f => ⟨toI (f 0), toI (f 1)⟩⟩
theorem api_SetC_ok : api_SetC.Ok where
  slen := rfl
  ck := fun x j hj => match j, hj with
    | 0, _ => rfl
    | 1, _ => rfl
    | j + 2, h => absurd h (by simp [api_SetC])
  ok := fun f hf Z w j v hj hd => match j, hj, hd with
    | 0, hj, hd => den_int (hf 0 hj) hd
    | 1, hj, hd => den_int (hf 1 hj) hd
    | j + 2, h, _ => absurd h (by simp [api_SetC])
theorem api_SetC_len (x : api_Set) : (api_SetC.enc x).length = api_SetC.size := rfl
def api_Set.wf (x : api_Set) : Prop := i64 x.Kind ∧ i64 x.Counter
theorem api_SetC_rng {g : Nat → SV} (h : rng api_SetC.sg g 0) : (api_SetC.dec g).wf := by
  obtain ⟨h0, h1, _⟩ := h
  exact ⟨rng_i64 h0, rng_i64 h1⟩

structure api_Rule where
  From : Int
  To : Int
  When : Arr (Arr api_Literal)
  Sets : Arr api_Set
def api_RuleC : Cod api_Rule := ⟨(.cons (.int .i64) (.cons (.int .i64) (.cons (.sl (lsC api_LiteralC).sg) (.cons (.sl api_SetC.sg) .nil)))), 4, fun x => [.int .i64 x.From, .int .i64 x.To, slC (lsC api_LiteralC) x.When, slC api_SetC x.Sets], fun f => ⟨toI (f 0), toI (f 1), lstC (lsC api_LiteralC) (f 2), lstC api_SetC (f 3)⟩⟩
theorem api_RuleC_ok : api_RuleC.Ok where
  slen := rfl
  ck := fun x j hj => match j, hj with
    | 0, _ => rfl
    | 1, _ => rfl
    | 2, _ => rfl
    | 3, _ => rfl
    | j + 4, h => absurd h (by simp [api_RuleC])
  ok := fun f hf Z w j v hj hd => match j, hj, hd with
    | 0, hj, hd => den_int (hf 0 hj) hd
    | 1, hj, hd => den_int (hf 1 hj) hd
    | 2, hj, hd => den_slC (lsC_ok api_LiteralC_ok) (hf 2 hj) hd
    | 3, hj, hd => den_slC api_SetC_ok (hf 3 hj) hd
    | j + 4, h, _ => absurd h (by simp [api_RuleC])
theorem api_RuleC_len (x : api_Rule) : (api_RuleC.enc x).length = api_RuleC.size := rfl
def api_Rule.wf (x : api_Rule) : Prop := i64 x.From ∧ i64 x.To ∧ (x.When.n ≤ maxLen ∧ ∀ i, i < x.When.n → ((x.When.f i).n ≤ maxLen ∧ ∀ i1, i1 < (x.When.f i).n → ((x.When.f i).f i1).wf)) ∧ (x.Sets.n ≤ maxLen ∧ ∀ i, i < x.Sets.n → (x.Sets.f i).wf)
theorem api_RuleC_rng {g : Nat → SV} (h : rng api_RuleC.sg g 0) : (api_RuleC.dec g).wf := by
  obtain ⟨h0, h1, h2, h3, _⟩ := h
  exact ⟨rng_i64 h0, rng_i64 h1, rng_sl (C := (lsC api_LiteralC)) (P := fun y => (y.n ≤ maxLen ∧ ∀ i, i < y.n → (y.f i).wf)) (fun _ h => rng_sl (C := api_LiteralC) (P := fun y => y.wf) (fun _ h => api_LiteralC_rng h) h.1) h2, rng_sl (C := api_SetC) (P := fun y => y.wf) (fun _ h => api_SetC_rng h) h3⟩

structure lift_leaf where
  Door : api_Door
  f_at : Int
  f_does : Int
  f_left : Int
def lift_leafC : Cod lift_leaf := ⟨(.cons (.int .i64) (.cons (.int .i64) (.cons (.int .i64) (.cons (.int .i64) (.cons (.int .i64) .nil))))), 5, fun x => [.int .i64 x.Door.Wide, .int .i64 x.Door.Wait, .int .i64 x.f_at, .int .i64 x.f_does, .int .i64 x.f_left], fun f => ⟨⟨toI (f 0), toI (f 1)⟩, toI (f 2), toI (f 3), toI (f 4)⟩⟩
theorem lift_leafC_ok : lift_leafC.Ok where
  slen := rfl
  ck := fun x j hj => match j, hj with
    | 0, _ => rfl
    | 1, _ => rfl
    | 2, _ => rfl
    | 3, _ => rfl
    | 4, _ => rfl
    | j + 5, h => absurd h (by simp [lift_leafC])
  ok := fun f hf Z w j v hj hd => match j, hj, hd with
    | 0, hj, hd => den_int (hf 0 hj) hd
    | 1, hj, hd => den_int (hf 1 hj) hd
    | 2, hj, hd => den_int (hf 2 hj) hd
    | 3, hj, hd => den_int (hf 3 hj) hd
    | 4, hj, hd => den_int (hf 4 hj) hd
    | j + 5, h, _ => absurd h (by simp [lift_leafC])
theorem lift_leafC_len (x : lift_leaf) : (lift_leafC.enc x).length = lift_leafC.size := rfl
def lift_leaf.wf (x : lift_leaf) : Prop := i64 x.Door.Wide ∧ i64 x.Door.Wait ∧ i64 x.f_at ∧ i64 x.f_does ∧ i64 x.f_left
theorem lift_leafC_rng {g : Nat → SV} (h : rng lift_leafC.sg g 0) : (lift_leafC.dec g).wf := by
  obtain ⟨h0, h1, h2, h3, h4, _⟩ := h
  exact ⟨rng_i64 h0, rng_i64 h1, rng_i64 h2, rng_i64 h3, rng_i64 h4⟩

structure drive_stopped where
  f_way : Int
  f_loads : Arr Int
  f_rests : Bool
def drive_stoppedC : Cod drive_stopped := ⟨(.cons (.int .i64) (.cons (.sl intC.sg) (.cons .bool .nil))), 3, fun x => [.int .i64 x.f_way, slC intC x.f_loads, .bool x.f_rests], fun f => ⟨toI (f 0), lstC intC (f 1), toB (f 2)⟩⟩
theorem drive_stoppedC_ok : drive_stoppedC.Ok where
  slen := rfl
  ck := fun x j hj => match j, hj with
    | 0, _ => rfl
    | 1, _ => rfl
    | 2, _ => rfl
    | j + 3, h => absurd h (by simp [drive_stoppedC])
  ok := fun f hf Z w j v hj hd => match j, hj, hd with
    | 0, hj, hd => den_int (hf 0 hj) hd
    | 1, hj, hd => den_slC intC_ok (hf 1 hj) hd
    | 2, hj, hd => den_bool (hf 2 hj) hd
    | j + 3, h, _ => absurd h (by simp [drive_stoppedC])
theorem drive_stoppedC_len (x : drive_stopped) : (drive_stoppedC.enc x).length = drive_stoppedC.size := rfl
def drive_stopped.wf (x : drive_stopped) : Prop := i64 x.f_way ∧ (x.f_loads.n ≤ maxLen ∧ ∀ i, i < x.f_loads.n → i64 ((x.f_loads.f i))) ∧ True
theorem drive_stoppedC_rng {g : Nat → SV} (h : rng drive_stoppedC.sg g 0) : (drive_stoppedC.dec g).wf := by
  obtain ⟨h0, h1, h2, _⟩ := h
  exact ⟨rng_i64 h0, rng_sl (C := intC) (P := fun y => i64 y) (fun _ h => rng_i64 h.1) h1, trivial⟩

structure drive_motion where
  f_e : api_Escalator
  f_s : api_Stop
  f_speed : Int
  f_time : Int
def drive_motionC : Cod drive_motion := ⟨(.cons .bool (.cons (.int .i64) (.cons (.int .i64) (.cons (.int .i64) (.cons (.int .i64) (.cons (.sl api_BrakeC.sg) (.cons (.int .i64) (.cons (.int .i64) (.cons (.int .i64) (.cons (.int .i64) (.cons (.int .i64) (.cons (.int .i64) .nil)))))))))))), 12, fun x => [.bool x.f_e.Up, .int .i64 x.f_e.Empty, .int .i64 x.f_e.Pull, .int .i64 x.f_e.Drag, .int .i64 x.f_e.Motor, slC api_BrakeC x.f_e.Brakes, .int .i64 x.f_s.Speed, .int .i64 x.f_s.Loads.Low, .int .i64 x.f_s.Loads.High, .int .i64 x.f_s.Fail, .int .i64 x.f_speed, .int .i64 x.f_time], fun f => ⟨⟨toB (f 0), toI (f 1), toI (f 2), toI (f 3), toI (f 4), lstC api_BrakeC (f 5)⟩, ⟨toI (f 6), ⟨toI (f 7), toI (f 8)⟩, toI (f 9)⟩, toI (f 10), toI (f 11)⟩⟩
theorem drive_motionC_ok : drive_motionC.Ok where
  slen := rfl
  ck := fun x j hj => match j, hj with
    | 0, _ => rfl
    | 1, _ => rfl
    | 2, _ => rfl
    | 3, _ => rfl
    | 4, _ => rfl
    | 5, _ => rfl
    | 6, _ => rfl
    | 7, _ => rfl
    | 8, _ => rfl
    | 9, _ => rfl
    | 10, _ => rfl
    | 11, _ => rfl
    | j + 12, h => absurd h (by simp [drive_motionC])
  ok := fun f hf Z w j v hj hd => match j, hj, hd with
    | 0, hj, hd => den_bool (hf 0 hj) hd
    | 1, hj, hd => den_int (hf 1 hj) hd
    | 2, hj, hd => den_int (hf 2 hj) hd
    | 3, hj, hd => den_int (hf 3 hj) hd
    | 4, hj, hd => den_int (hf 4 hj) hd
    | 5, hj, hd => den_slC api_BrakeC_ok (hf 5 hj) hd
    | 6, hj, hd => den_int (hf 6 hj) hd
    | 7, hj, hd => den_int (hf 7 hj) hd
    | 8, hj, hd => den_int (hf 8 hj) hd
    | 9, hj, hd => den_int (hf 9 hj) hd
    | 10, hj, hd => den_int (hf 10 hj) hd
    | 11, hj, hd => den_int (hf 11 hj) hd
    | j + 12, h, _ => absurd h (by simp [drive_motionC])
theorem drive_motionC_len (x : drive_motion) : (drive_motionC.enc x).length = drive_motionC.size := rfl
def drive_motion.wf (x : drive_motion) : Prop := True ∧ i64 x.f_e.Empty ∧ i64 x.f_e.Pull ∧ i64 x.f_e.Drag ∧ i64 x.f_e.Motor ∧ (x.f_e.Brakes.n ≤ maxLen ∧ ∀ i, i < x.f_e.Brakes.n → (x.f_e.Brakes.f i).wf) ∧ i64 x.f_s.Speed ∧ i64 x.f_s.Loads.Low ∧ i64 x.f_s.Loads.High ∧ i64 x.f_s.Fail ∧ i64 x.f_speed ∧ i64 x.f_time
theorem drive_motionC_rng {g : Nat → SV} (h : rng drive_motionC.sg g 0) : (drive_motionC.dec g).wf := by
  obtain ⟨h0, h1, h2, h3, h4, h5, h6, h7, h8, h9, h10, h11, _⟩ := h
  exact ⟨trivial, rng_i64 h1, rng_i64 h2, rng_i64 h3, rng_i64 h4, rng_sl (C := api_BrakeC) (P := fun y => y.wf) (fun _ h => api_BrakeC_rng h) h5, rng_i64 h6, rng_i64 h7, rng_i64 h8, rng_i64 h9, rng_i64 h10, rng_i64 h11⟩

structure circuit_state where
  f_c : api_Circuit
  f_hazards : Int
  f_closed : Int
  f_open : Int
def circuit_stateC : Cod circuit_state := ⟨(.cons (.int .i64) (.cons (.sl intC.sg) (.cons (.sl api_WireC.sg) (.cons (.int .i64) (.cons (.int .i64) (.cons (.int .i64) .nil)))))), 6, fun x => [.int .i64 x.f_c.Hazards, slC intC x.f_c.Switches, slC api_WireC x.f_c.Wires, .int .i64 x.f_hazards, .int .i64 x.f_closed, .int .i64 x.f_open], fun f => ⟨⟨toI (f 0), lstC intC (f 1), lstC api_WireC (f 2)⟩, toI (f 3), toI (f 4), toI (f 5)⟩⟩
theorem circuit_stateC_ok : circuit_stateC.Ok where
  slen := rfl
  ck := fun x j hj => match j, hj with
    | 0, _ => rfl
    | 1, _ => rfl
    | 2, _ => rfl
    | 3, _ => rfl
    | 4, _ => rfl
    | 5, _ => rfl
    | j + 6, h => absurd h (by simp [circuit_stateC])
  ok := fun f hf Z w j v hj hd => match j, hj, hd with
    | 0, hj, hd => den_int (hf 0 hj) hd
    | 1, hj, hd => den_slC intC_ok (hf 1 hj) hd
    | 2, hj, hd => den_slC api_WireC_ok (hf 2 hj) hd
    | 3, hj, hd => den_int (hf 3 hj) hd
    | 4, hj, hd => den_int (hf 4 hj) hd
    | 5, hj, hd => den_int (hf 5 hj) hd
    | j + 6, h, _ => absurd h (by simp [circuit_stateC])
theorem circuit_stateC_len (x : circuit_state) : (circuit_stateC.enc x).length = circuit_stateC.size := rfl
def circuit_state.wf (x : circuit_state) : Prop := i64 x.f_c.Hazards ∧ (x.f_c.Switches.n ≤ maxLen ∧ ∀ i, i < x.f_c.Switches.n → i64 ((x.f_c.Switches.f i))) ∧ (x.f_c.Wires.n ≤ maxLen ∧ ∀ i, i < x.f_c.Wires.n → (x.f_c.Wires.f i).wf) ∧ i64 x.f_hazards ∧ i64 x.f_closed ∧ i64 x.f_open
theorem circuit_stateC_rng {g : Nat → SV} (h : rng circuit_stateC.sg g 0) : (circuit_stateC.dec g).wf := by
  obtain ⟨h0, h1, h2, h3, h4, h5, _⟩ := h
  exact ⟨rng_i64 h0, rng_sl (C := intC) (P := fun y => i64 y) (fun _ h => rng_i64 h.1) h1, rng_sl (C := api_WireC) (P := fun y => y.wf) (fun _ h => api_WireC_rng h) h2, rng_i64 h3, rng_i64 h4, rng_i64 h5⟩

structure energy_search where
  f_b : api_Band
  f_t : api_Times
  f_plan : Arr Int
  f_high : Arr Int
  f_best : Arr Int
  f_worst : Int
def energy_searchC : Cod energy_search := ⟨(.cons .bool (.cons (.int .i64) (.cons (.int .i64) (.cons (.int .i64) (.cons (.int .i64) (.cons (.int .i64) (.cons (.sl intC.sg) (.cons (.int .i64) (.cons (.int .i64) (.cons (.sl api_PeriodC.sg) (.cons (.int .i64) (.cons (.sl intC.sg) (.cons (.sl intC.sg) (.cons (.sl intC.sg) (.cons (.int .i64) .nil))))))))))))))), 15, fun x => [.bool x.f_b.Up, .int .i64 x.f_b.Pull, .int .i64 x.f_b.Drag, .int .i64 x.f_b.Body, .int .i64 x.f_b.Ride, .int .i64 x.f_b.Most, slC intC x.f_b.Paces, .int .i64 x.f_b.Num, .int .i64 x.f_b.Den, slC api_PeriodC x.f_t.Periods, .int .i64 x.f_t.Peak, slC intC x.f_plan, slC intC x.f_high, slC intC x.f_best, .int .i64 x.f_worst], fun f => ⟨⟨toB (f 0), toI (f 1), toI (f 2), toI (f 3), toI (f 4), toI (f 5), lstC intC (f 6), toI (f 7), toI (f 8)⟩, ⟨lstC api_PeriodC (f 9), toI (f 10)⟩, lstC intC (f 11), lstC intC (f 12), lstC intC (f 13), toI (f 14)⟩⟩
theorem energy_searchC_ok : energy_searchC.Ok where
  slen := rfl
  ck := fun x j hj => match j, hj with
    | 0, _ => rfl
    | 1, _ => rfl
    | 2, _ => rfl
    | 3, _ => rfl
    | 4, _ => rfl
    | 5, _ => rfl
    | 6, _ => rfl
    | 7, _ => rfl
    | 8, _ => rfl
    | 9, _ => rfl
    | 10, _ => rfl
    | 11, _ => rfl
    | 12, _ => rfl
    | 13, _ => rfl
    | 14, _ => rfl
    | j + 15, h => absurd h (by simp [energy_searchC])
  ok := fun f hf Z w j v hj hd => match j, hj, hd with
    | 0, hj, hd => den_bool (hf 0 hj) hd
    | 1, hj, hd => den_int (hf 1 hj) hd
    | 2, hj, hd => den_int (hf 2 hj) hd
    | 3, hj, hd => den_int (hf 3 hj) hd
    | 4, hj, hd => den_int (hf 4 hj) hd
    | 5, hj, hd => den_int (hf 5 hj) hd
    | 6, hj, hd => den_slC intC_ok (hf 6 hj) hd
    | 7, hj, hd => den_int (hf 7 hj) hd
    | 8, hj, hd => den_int (hf 8 hj) hd
    | 9, hj, hd => den_slC api_PeriodC_ok (hf 9 hj) hd
    | 10, hj, hd => den_int (hf 10 hj) hd
    | 11, hj, hd => den_slC intC_ok (hf 11 hj) hd
    | 12, hj, hd => den_slC intC_ok (hf 12 hj) hd
    | 13, hj, hd => den_slC intC_ok (hf 13 hj) hd
    | 14, hj, hd => den_int (hf 14 hj) hd
    | j + 15, h, _ => absurd h (by simp [energy_searchC])
theorem energy_searchC_len (x : energy_search) : (energy_searchC.enc x).length = energy_searchC.size := rfl
def energy_search.wf (x : energy_search) : Prop := True ∧ i64 x.f_b.Pull ∧ i64 x.f_b.Drag ∧ i64 x.f_b.Body ∧ i64 x.f_b.Ride ∧ i64 x.f_b.Most ∧ (x.f_b.Paces.n ≤ maxLen ∧ ∀ i, i < x.f_b.Paces.n → i64 ((x.f_b.Paces.f i))) ∧ i64 x.f_b.Num ∧ i64 x.f_b.Den ∧ (x.f_t.Periods.n ≤ maxLen ∧ ∀ i, i < x.f_t.Periods.n → (x.f_t.Periods.f i).wf) ∧ i64 x.f_t.Peak ∧ (x.f_plan.n ≤ maxLen ∧ ∀ i, i < x.f_plan.n → i64 ((x.f_plan.f i))) ∧ (x.f_high.n ≤ maxLen ∧ ∀ i, i < x.f_high.n → i64 ((x.f_high.f i))) ∧ (x.f_best.n ≤ maxLen ∧ ∀ i, i < x.f_best.n → i64 ((x.f_best.f i))) ∧ i64 x.f_worst
theorem energy_searchC_rng {g : Nat → SV} (h : rng energy_searchC.sg g 0) : (energy_searchC.dec g).wf := by
  obtain ⟨h0, h1, h2, h3, h4, h5, h6, h7, h8, h9, h10, h11, h12, h13, h14, _⟩ := h
  exact ⟨trivial, rng_i64 h1, rng_i64 h2, rng_i64 h3, rng_i64 h4, rng_i64 h5, rng_sl (C := intC) (P := fun y => i64 y) (fun _ h => rng_i64 h.1) h6, rng_i64 h7, rng_i64 h8, rng_sl (C := api_PeriodC) (P := fun y => y.wf) (fun _ h => api_PeriodC_rng h) h9, rng_i64 h10, rng_sl (C := intC) (P := fun y => i64 y) (fun _ h => rng_i64 h.1) h11, rng_sl (C := intC) (P := fun y => i64 y) (fun _ h => rng_i64 h.1) h12, rng_sl (C := intC) (P := fun y => i64 y) (fun _ h => rng_i64 h.1) h13, rng_i64 h14⟩

structure api_Trial where
  Hazards : Int
  Wire : Int
def api_TrialC : Cod api_Trial := ⟨(.cons (.int .i64) (.cons (.int .i64) .nil)), 2, fun x => [.int .i64 x.Hazards, .int .i64 x.Wire], fun f => ⟨toI (f 0), toI (f 1)⟩⟩
theorem api_TrialC_ok : api_TrialC.Ok where
  slen := rfl
  ck := fun x j hj => match j, hj with
    | 0, _ => rfl
    | 1, _ => rfl
    | j + 2, h => absurd h (by simp [api_TrialC])
  ok := fun f hf Z w j v hj hd => match j, hj, hd with
    | 0, hj, hd => den_int (hf 0 hj) hd
    | 1, hj, hd => den_int (hf 1 hj) hd
    | j + 2, h, _ => absurd h (by simp [api_TrialC])
theorem api_TrialC_len (x : api_Trial) : (api_TrialC.enc x).length = api_TrialC.size := rfl
def api_Trial.wf (x : api_Trial) : Prop := i64 x.Hazards ∧ i64 x.Wire
theorem api_TrialC_rng {g : Nat → SV} (h : rng api_TrialC.sg g 0) : (api_TrialC.dec g).wf := by
  obtain ⟨h0, h1, _⟩ := h
  exact ⟨rng_i64 h0, rng_i64 h1⟩

end Go.Proofs.Ytpillmoddoccfaa
