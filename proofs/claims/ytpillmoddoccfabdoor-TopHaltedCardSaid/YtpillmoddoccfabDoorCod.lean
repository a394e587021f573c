import Derived.Test.YtpillmoddoccfabDoorEnv
import Derived.Test.YtpillmoddoccfabDoorSxEnd
set_option linter.unusedVariables false
namespace Go.Proofs.YtpillmoddoccfabDoor
open Go.Sx
structure api_Brake where
  Force : Int
  Delay : Int
def api_Brake.wf (x : api_Brake) : Prop := i64 x.Force ∧ i64 x.Delay
structure api_Escalator where
  Up : Bool
  Empty : Int
  Pull : Int
  Drag : Int
  Motor : Int
  Brakes : Arr api_Brake
def api_Escalator.wf (x : api_Escalator) : Prop := True ∧ i64 x.Empty ∧ i64 x.Pull ∧ i64 x.Drag ∧ i64 x.Motor ∧ (x.Brakes.n ≤ maxLen ∧ ∀ i, i < x.Brakes.n → (x.Brakes.f i).wf)
structure api_Span where
  Low : Int
  High : Int
def api_Span.wf (x : api_Span) : Prop := i64 x.Low ∧ i64 x.High
structure api_Stop where
  Speed : Int
  Loads : api_Span
  Fail : Int
def api_Stop.wf (x : api_Stop) : Prop := i64 x.Speed ∧ i64 x.Loads.Low ∧ i64 x.Loads.High ∧ i64 x.Fail
structure api_Reading where
  Says : Int
  Error : Int
  Drift : Int
  Days : Int
def api_Reading.wf (x : api_Reading) : Prop := i64 x.Says ∧ i64 x.Error ∧ i64 x.Drift ∧ i64 x.Days
structure neweltop_Marks where
  Loads : Arr Int
  Readings : Arr api_Reading
def neweltop_Marks.wf (x : neweltop_Marks) : Prop := (x.Loads.n ≤ maxLen ∧ ∀ i, i < x.Loads.n → i64 ((x.Loads.f i))) ∧ (x.Readings.n ≤ maxLen ∧ ∀ i, i < x.Readings.n → (x.Readings.f i).wf)
structure api_Wire where
  Kind : Int
  Of : Arr Int
def api_WireC : Cod api_Wire := ⟨(.cons (.int .i64) (.cons (.sl intC.sg) .nil)), 2, fun x => [.int .i64 x.Kind, slC intC x.Of], fun f => ⟨toI (f 0), lstC intC (f 1)⟩⟩
theorem api_WireC_ok : api_WireC.Ok where
  slen := rfl
  ck := fun x j hj => match j, hj with
    | 0, _ => rfl
    | 1, _ => rfl
    | j + 2, h => absurd h (by simp [api_WireC])
  ok := fun f hf Z w j v hj hd => match j, hj, hd with
    | 0, hj, hd => den_int (hf 0 hj) hd
    | 1, hj, hd => den_slC intC_ok (hf 1 hj) hd
    | j + 2, h, _ => absurd h (by simp [api_WireC])
theorem api_WireC_len (x : api_Wire) : (api_WireC.enc x).length = api_WireC.size := rfl
def api_Wire.wf (x : api_Wire) : Prop := i64 x.Kind ∧ (x.Of.n ≤ maxLen ∧ ∀ i, i < x.Of.n → i64 ((x.Of.f i)))
theorem api_WireC_rng {g : Nat → SV} (h : rng api_WireC.sg g 0) : (api_WireC.dec g).wf := by
  obtain ⟨h0, h1, _⟩ := h
  exact ⟨rng_i64 h0, rng_sl (C := intC) (P := fun y => i64 y) (fun _ h => rng_i64 h.1) h1⟩
structure api_Circuit where
  Hazards : Int
  Switches : Arr Int
  Wires : Arr api_Wire
def api_CircuitC : Cod api_Circuit := ⟨(.cons (.int .i64) (.cons (.sl intC.sg) (.cons (.sl api_WireC.sg) .nil))), 3, fun x => [.int .i64 x.Hazards, slC intC x.Switches, slC api_WireC x.Wires], fun f => ⟨toI (f 0), lstC intC (f 1), lstC api_WireC (f 2)⟩⟩
theorem api_CircuitC_ok : api_CircuitC.Ok where
  slen := rfl
  ck := fun x j hj => match j, hj with
    | 0, _ => rfl
    | 1, _ => rfl
    | 2, _ => rfl
    | j + 3, h => absurd h (by simp [api_CircuitC])
  ok := fun f hf Z w j v hj hd => match j, hj, hd with
    | 0, hj, hd => den_int (hf 0 hj) hd
    | 1, hj, hd => den_slC intC_ok (hf 1 hj) hd
    | 2, hj, hd => den_slC api_WireC_ok (hf 2 hj) hd
    | j + 3, h, _ => absurd h (by simp [api_CircuitC])
theorem api_CircuitC_len (x : api_Circuit) : (api_CircuitC.enc x).length = api_CircuitC.size := rfl
def api_Circuit.wf (x : api_Circuit) : Prop := i64 x.Hazards ∧ (x.Switches.n ≤ maxLen ∧ ∀ i, i < x.Switches.n → i64 ((x.Switches.f i))) ∧ (x.Wires.n ≤ maxLen ∧ ∀ i, i < x.Wires.n → (x.Wires.f i).wf)
theorem api_CircuitC_rng {g : Nat → SV} (h : rng api_CircuitC.sg g 0) : (api_CircuitC.dec g).wf := by
  obtain ⟨h0, h1, h2, _⟩ := h
  exact ⟨rng_i64 h0, rng_sl (C := intC) (P := fun y => i64 y) (fun _ h => rng_i64 h.1) h1, rng_sl (C := api_WireC) (P := fun y => y.wf) (fun _ h => api_WireC_rng h) h2⟩
structure api_Counter where
  Name : ByteArray
  Max : Int
def api_CounterC : Cod api_Counter := ⟨(.cons .str (.cons (.int .i64) .nil)), 2, fun x => [.str x.Name, .int .i64 x.Max], fun f => ⟨toS (f 0), toI (f 1)⟩⟩
theorem api_CounterC_ok : api_CounterC.Ok where
  slen := rfl
  ck := fun x j hj => match j, hj with
    | 0, _ => rfl
    | 1, _ => rfl
    | j + 2, h => absurd h (by simp [api_CounterC])
  ok := fun f hf Z w j v hj hd => match j, hj, hd with
    | 0, hj, hd => den_str (hf 0 hj) hd
    | 1, hj, hd => den_int (hf 1 hj) hd
    | j + 2, h, _ => absurd h (by simp [api_CounterC])
def api_Counter.wf (x : api_Counter) : Prop := True ∧ i64 x.Max
theorem api_CounterC_rng {g : Nat → SV} (h : rng api_CounterC.sg g 0) : (api_CounterC.dec g).wf := by
  obtain ⟨h0, h1, _⟩ := h
  exact ⟨trivial, rng_i64 h1⟩
structure api_State where
  Name : ByteArray
  Shows : Int
def api_StateC : Cod api_State := ⟨(.cons .str (.cons (.int .i64) .nil)), 2, fun x => [.str x.Name, .int .i64 x.Shows], fun f => ⟨toS (f 0), toI (f 1)⟩⟩
theorem api_StateC_ok : api_StateC.Ok where
  slen := rfl
  ck := fun x j hj => match j, hj with
    | 0, _ => rfl
    | 1, _ => rfl
    | j + 2, h => absurd h (by simp [api_StateC])
  ok := fun f hf Z w j v hj hd => match j, hj, hd with
    | 0, hj, hd => den_str (hf 0 hj) hd
    | 1, hj, hd => den_int (hf 1 hj) hd
    | j + 2, h, _ => absurd h (by simp [api_StateC])
def api_State.wf (x : api_State) : Prop := True ∧ i64 x.Shows
theorem api_StateC_rng {g : Nat → SV} (h : rng api_StateC.sg g 0) : (api_StateC.dec g).wf := by
  obtain ⟨h0, h1, _⟩ := h
  exact ⟨trivial, rng_i64 h1⟩
structure api_Literal where
  Kind : Int
  Number : Int
  Value : Int
  Not : Bool
def api_LiteralC : Cod api_Literal := ⟨(.cons (.int .i64) (.cons (.int .i64) (.cons (.int .i64) (.cons .bool .nil)))), 4, fun x => [.int .i64 x.Kind, .int .i64 x.Number, .int .i64 x.Value, .bool x.Not], fun f => ⟨toI (f 0), toI (f 1), toI (f 2), toB (f 3)⟩⟩
theorem api_LiteralC_ok : api_LiteralC.Ok where
  slen := rfl
  ck := fun x j hj => match j, hj with
    | 0, _ => rfl
    | 1, _ => rfl
    | 2, _ => rfl
    | 3, _ => rfl
    | j + 4, h => absurd h (by simp [api_LiteralC])
  ok := fun f hf Z w j v hj hd => match j, hj, hd with
    | 0, hj, hd => den_int (hf 0 hj) hd
    | 1, hj, hd => den_int (hf 1 hj) hd
    | 2, hj, hd => den_int (hf 2 hj) hd
    | 3, hj, hd => den_bool (hf 3 hj) hd
    | j + 4, h, _ => absurd h (by simp [api_LiteralC])
theorem api_LiteralC_len (x : api_Literal) : (api_LiteralC.enc x).length = api_LiteralC.size := rfl
def api_Literal.wf (x : api_Literal) : Prop := i64 x.Kind ∧ i64 x.Number ∧ i64 x.Value ∧ True
theorem api_LiteralC_rng {g : Nat → SV} (h : rng api_LiteralC.sg g 0) : (api_LiteralC.dec g).wf := by
  obtain ⟨h0, h1, h2, h3, _⟩ := h
  exact ⟨rng_i64 h0, rng_i64 h1, rng_i64 h2, trivial⟩
structure api_Set where
  Kind : Int
  Counter : Int
def api_SetC : Cod api_Set := ⟨(.cons (.int .i64) (.cons (.int .i64) .nil)), 2, fun x => [.int .i64 x.Kind, .int .i64 x.Counter], fun f => ⟨toI (f 0), toI (f 1)⟩⟩
theorem api_SetC_ok : api_SetC.Ok where
  slen := rfl
  ck := fun x j hj => match j, hj with
    | 0, _ => rfl
    | 1, _ => rfl
    | j + 2, h => absurd h (by simp [api_SetC])
  ok := fun f hf Z w j v hj hd => match j, hj, hd with
    | 0, hj, hd => den_int (hf 0 hj) hd
    | 1, hj, hd => den_int (hf 1 hj) hd
    | j + 2, h, _ => absurd h (by simp [api_SetC])
theorem api_SetC_len (x : api_Set) : (api_SetC.enc x).length = api_SetC.size := rfl
def api_Set.wf (x : api_Set) : Prop := i64 x.Kind ∧ i64 x.Counter
theorem api_SetC_rng {g : Nat → SV} (h : rng api_SetC.sg g 0) : (api_SetC.dec g).wf := by
  obtain ⟨h0, h1, _⟩ := h
  exact ⟨rng_i64 h0, rng_i64 h1⟩
structure api_Rule where
  From : Int
  To : Int
  When : Arr (Arr api_Literal)
  Sets : Arr api_Set
def api_RuleC : Cod api_Rule := ⟨(.cons (.int .i64) (.cons (.int .i64) (.cons (.sl (lsC api_LiteralC).sg) (.cons (.sl api_SetC.sg) .nil)))), 4, fun x => [.int .i64 x.From, .int .i64 x.To, slC (lsC api_LiteralC) x.When, slC api_SetC x.Sets], fun f => ⟨toI (f 0), toI (f 1), lstC (lsC api_LiteralC) (f 2), lstC api_SetC (f 3)⟩⟩
theorem api_RuleC_ok : api_RuleC.Ok where
  slen := rfl
  ck := fun x j hj => match j, hj with
    | 0, _ => rfl
    | 1, _ => rfl
    | 2, _ => rfl
    | 3, _ => rfl
    | j + 4, h => absurd h (by simp [api_RuleC])
  ok := fun f hf Z w j v hj hd => match j, hj, hd with
    | 0, hj, hd => den_int (hf 0 hj) hd
    | 1, hj, hd => den_int (hf 1 hj) hd
    | 2, hj, hd => den_slC (lsC_ok api_LiteralC_ok) (hf 2 hj) hd
    | 3, hj, hd => den_slC api_SetC_ok (hf 3 hj) hd
    | j + 4, h, _ => absurd h (by simp [api_RuleC])
theorem api_RuleC_len (x : api_Rule) : (api_RuleC.enc x).length = api_RuleC.size := rfl
def api_Rule.wf (x : api_Rule) : Prop := i64 x.From ∧ i64 x.To ∧ (x.When.n ≤ maxLen ∧ ∀ i, i < x.When.n → ((x.When.f i).n ≤ maxLen ∧ ∀ i1, i1 < (x.When.f i).n → ((x.When.f i).f i1).wf)) ∧ (x.Sets.n ≤ maxLen ∧ ∀ i, i < x.Sets.n → (x.Sets.f i).wf)
theorem api_RuleC_rng {g : Nat → SV} (h : rng api_RuleC.sg g 0) : (api_RuleC.dec g).wf := by
  obtain ⟨h0, h1, h2, h3, _⟩ := h
  exact ⟨rng_i64 h0, rng_i64 h1, rng_sl (C := (lsC api_LiteralC)) (P := fun y => (y.n ≤ maxLen ∧ ∀ i, i < y.n → (y.f i).wf)) (fun _ h => rng_sl (C := api_LiteralC) (P := fun y => y.wf) (fun _ h => api_LiteralC_rng h) h.1) h2, rng_sl (C := api_SetC) (P := fun y => y.wf) (fun _ h => api_SetC_rng h) h3⟩
structure api_Machine where
  Inputs : Arr ByteArray
  Outputs : Arr ByteArray
  Counters : Arr api_Counter
  States : Arr api_State
  Rules : Arr api_Rule
def api_MachineC : Cod api_Machine := ⟨(.cons (.sl strC.sg) (.cons (.sl strC.sg) (.cons (.sl api_CounterC.sg) (.cons (.sl api_StateC.sg) (.cons (.sl api_RuleC.sg) .nil))))), 5, fun x => [slC strC x.Inputs, slC strC x.Outputs, slC api_CounterC x.Counters, slC api_StateC x.States, slC api_RuleC x.Rules], fun f => ⟨lstC strC (f 0), lstC strC (f 1), lstC api_CounterC (f 2), lstC api_StateC (f 3), lstC api_RuleC (f 4)⟩⟩
theorem api_MachineC_ok : api_MachineC.Ok where
  slen := rfl
  ck := fun x j hj => match j, hj with
    | 0, _ => rfl
    | 1, _ => rfl
    | 2, _ => rfl
    | 3, _ => rfl
    | 4, _ => rfl
    | j + 5, h => absurd h (by simp [api_MachineC])
  ok := fun f hf Z w j v hj hd => match j, hj, hd with
    | 0, hj, hd => den_slC strC_ok (hf 0 hj) hd
    | 1, hj, hd => den_slC strC_ok (hf 1 hj) hd
    | 2, hj, hd => den_slC api_CounterC_ok (hf 2 hj) hd
    | 3, hj, hd => den_slC api_StateC_ok (hf 3 hj) hd
    | 4, hj, hd => den_slC api_RuleC_ok (hf 4 hj) hd
    | j + 5, h, _ => absurd h (by simp [api_MachineC])
theorem api_MachineC_len (x : api_Machine) : (api_MachineC.enc x).length = api_MachineC.size := rfl
def api_Machine.wf (x : api_Machine) : Prop := (x.Inputs.n ≤ maxLen ∧ ∀ i, i < x.Inputs.n → True) ∧ (x.Outputs.n ≤ maxLen ∧ ∀ i, i < x.Outputs.n → True) ∧ (x.Counters.n ≤ maxLen ∧ ∀ i, i < x.Counters.n → (x.Counters.f i).wf) ∧ (x.States.n ≤ maxLen ∧ ∀ i, i < x.States.n → (x.States.f i).wf) ∧ (x.Rules.n ≤ maxLen ∧ ∀ i, i < x.Rules.n → (x.Rules.f i).wf)
theorem api_MachineC_rng {g : Nat → SV} (h : rng api_MachineC.sg g 0) : (api_MachineC.dec g).wf := by
  obtain ⟨h0, h1, h2, h3, h4, _⟩ := h
  exact ⟨rng_sl (C := strC) (P := fun y => True) (fun _ _ => trivial) h0, rng_sl (C := strC) (P := fun y => True) (fun _ _ => trivial) h1, rng_sl (C := api_CounterC) (P := fun y => y.wf) (fun _ h => api_CounterC_rng h) h2, rng_sl (C := api_StateC) (P := fun y => y.wf) (fun _ h => api_StateC_rng h) h3, rng_sl (C := api_RuleC) (P := fun y => y.wf) (fun _ h => api_RuleC_rng h) h4⟩
structure neweltop_Moment where
  Hazards : Int
  Inputs : Int
def neweltop_MomentC : Cod neweltop_Moment := ⟨(.cons (.int .i64) (.cons (.int .i64) .nil)), 2, fun x => [.int .i64 x.Hazards, .int .i64 x.Inputs], fun f => ⟨toI (f 0), toI (f 1)⟩⟩
theorem neweltop_MomentC_ok : neweltop_MomentC.Ok where
  slen := rfl
  ck := fun x j hj => match j, hj with
    | 0, _ => rfl
    | 1, _ => rfl
    | j + 2, h => absurd h (by simp [neweltop_MomentC])
  ok := fun f hf Z w j v hj hd => match j, hj, hd with
    | 0, hj, hd => den_int (hf 0 hj) hd
    | 1, hj, hd => den_int (hf 1 hj) hd
    | j + 2, h, _ => absurd h (by simp [neweltop_MomentC])
def neweltop_Moment.wf (x : neweltop_Moment) : Prop := i64 x.Hazards ∧ i64 x.Inputs
theorem neweltop_MomentC_rng {g : Nat → SV} (h : rng neweltop_MomentC.sg g 0) : (neweltop_MomentC.dec g).wf := by
  obtain ⟨h0, h1, _⟩ := h
  exact ⟨rng_i64 h0, rng_i64 h1⟩
structure neweltop_Interlock where
  Input : Int
  Output : Int
  Switch : Int
  Run : Arr neweltop_Moment
def neweltop_InterlockC : Cod neweltop_Interlock := ⟨(.cons (.int .i64) (.cons (.int .i64) (.cons (.int .i64) (.cons (.sl neweltop_MomentC.sg) .nil)))), 4, fun x => [.int .i64 x.Input, .int .i64 x.Output, .int .i64 x.Switch, slC neweltop_MomentC x.Run], fun f => ⟨toI (f 0), toI (f 1), toI (f 2), lstC neweltop_MomentC (f 3)⟩⟩
theorem neweltop_InterlockC_ok : neweltop_InterlockC.Ok where
  slen := rfl
  ck := fun x j hj => match j, hj with
    | 0, _ => rfl
    | 1, _ => rfl
    | 2, _ => rfl
    | 3, _ => rfl
    | j + 4, h => absurd h (by simp [neweltop_InterlockC])
  ok := fun f hf Z w j v hj hd => match j, hj, hd with
    | 0, hj, hd => den_int (hf 0 hj) hd
    | 1, hj, hd => den_int (hf 1 hj) hd
    | 2, hj, hd => den_int (hf 2 hj) hd
    | 3, hj, hd => den_slC neweltop_MomentC_ok (hf 3 hj) hd
    | j + 4, h, _ => absurd h (by simp [neweltop_InterlockC])
theorem neweltop_InterlockC_len (x : neweltop_Interlock) : (neweltop_InterlockC.enc x).length = neweltop_InterlockC.size := rfl
def neweltop_Interlock.wf (x : neweltop_Interlock) : Prop := i64 x.Input ∧ i64 x.Output ∧ i64 x.Switch ∧ (x.Run.n ≤ maxLen ∧ ∀ i, i < x.Run.n → (x.Run.f i).wf)
theorem neweltop_InterlockC_rng {g : Nat → SV} (h : rng neweltop_InterlockC.sg g 0) : (neweltop_InterlockC.dec g).wf := by
  obtain ⟨h0, h1, h2, h3, _⟩ := h
  exact ⟨rng_i64 h0, rng_i64 h1, rng_i64 h2, rng_sl (C := neweltop_MomentC) (P := fun y => y.wf) (fun _ h => neweltop_MomentC_rng h) h3⟩
structure Arr2_int where
  a0 : Int
  a1 : Int
def Arr2_intC : Cod Arr2_int := ⟨(.cons (.int .i64) (.cons (.int .i64) .nil)), 2, fun x => [.int .i64 x.a0, .int .i64 x.a1], fun f => ⟨toI (f 0), toI (f 1)⟩⟩
theorem Arr2_intC_ok : Arr2_intC.Ok where
  slen := rfl
  ck := fun x j hj => match j, hj with
    | 0, _ => rfl
    | 1, _ => rfl
    | j + 2, h => absurd h (by simp [Arr2_intC])
  ok := fun f hf Z w j v hj hd => match j, hj, hd with
    | 0, hj, hd => den_int (hf 0 hj) hd
    | 1, hj, hd => den_int (hf 1 hj) hd
    | j + 2, h, _ => absurd h (by simp [Arr2_intC])
theorem Arr2_intC_len (x : Arr2_int) : (Arr2_intC.enc x).length = Arr2_intC.size := rfl
def Arr2_int.wf (x : Arr2_int) : Prop := i64 x.a0 ∧ i64 x.a1
structure api_Place where
  State : Int
  Values : Arr2_int
def api_PlaceC : Cod api_Place := ⟨(.cons (.int .i64) (.cons (.int .i64) (.cons (.int .i64) .nil))), 3, fun x => [.int .i64 x.State, .int .i64 x.Values.a0, .int .i64 x.Values.a1], fun f => ⟨toI (f 0), ⟨toI (f 1), toI (f 2)⟩⟩⟩
theorem api_PlaceC_ok : api_PlaceC.Ok where
  slen := rfl
  ck := fun x j hj => match j, hj with
    | 0, _ => rfl
    | 1, _ => rfl
    | 2, _ => rfl
    | j + 3, h => absurd h (by simp [api_PlaceC])
  ok := fun f hf Z w j v hj hd => match j, hj, hd with
    | 0, hj, hd => den_int (hf 0 hj) hd
    | 1, hj, hd => den_int (hf 1 hj) hd
    | 2, hj, hd => den_int (hf 2 hj) hd
    | j + 3, h, _ => absurd h (by simp [api_PlaceC])
theorem api_PlaceC_len (x : api_Place) : (api_PlaceC.enc x).length = api_PlaceC.size := rfl
def api_Place.wf (x : api_Place) : Prop := i64 x.State ∧ i64 x.Values.a0 ∧ i64 x.Values.a1
theorem api_PlaceC_flat : api_PlaceC.Flat := ⟨fun f vc h hf => by
  obtain ⟨s0, t0, rfl, e0, g0⟩ := keyCells_cons h
  obtain ⟨s1, t1, rfl, e1, g1⟩ := keyCells_cons g0
  obtain ⟨s2, t2, rfl, e2, g2⟩ := keyCells_cons g1
  have z := keyCells_nil g2
  subst z
  have a0 := hf 0 s0 rfl
  have a1 := hf 1 s1 rfl
  have a2 := hf 2 s2 rfl
  simp only [api_PlaceC, a0, a1, a2]
  rw [← keyCell_int e0, ← keyCell_int e1, ← keyCell_int e2]⟩
structure drive_stopped where
  f_way : Int
  f_loads : Arr Int
  f_rests : Bool
def drive_stopped.wf (x : drive_stopped) : Prop := i64 x.f_way ∧ (x.f_loads.n ≤ maxLen ∧ ∀ i, i < x.f_loads.n → i64 ((x.f_loads.f i))) ∧ True
structure drive_motion where
  f_e : api_Escalator
  f_s : api_Stop
  f_speed : Int
  f_time : Int
def drive_motion.wf (x : drive_motion) : Prop := True ∧ i64 x.f_e.Empty ∧ i64 x.f_e.Pull ∧ i64 x.f_e.Drag ∧ i64 x.f_e.Motor ∧ (x.f_e.Brakes.n ≤ maxLen ∧ ∀ i, i < x.f_e.Brakes.n → (x.f_e.Brakes.f i).wf) ∧ i64 x.f_s.Speed ∧ i64 x.f_s.Loads.Low ∧ i64 x.f_s.Loads.High ∧ i64 x.f_s.Fail ∧ i64 x.f_speed ∧ i64 x.f_time
structure control_walk where
  f_places : Arr api_Place
  f_from : Arr Int
  f_by : Arr Int
  f_next : Arr (Arr Int)
def control_walk.wf (x : control_walk) : Prop := (x.f_places.n ≤ maxLen ∧ ∀ i, i < x.f_places.n → (x.f_places.f i).wf) ∧ (x.f_from.n ≤ maxLen ∧ ∀ i, i < x.f_from.n → i64 ((x.f_from.f i))) ∧ (x.f_by.n ≤ maxLen ∧ ∀ i, i < x.f_by.n → i64 ((x.f_by.f i))) ∧ (x.f_next.n ≤ maxLen ∧ ∀ i, i < x.f_next.n → ((x.f_next.f i).n ≤ maxLen ∧ ∀ i1, i1 < (x.f_next.f i).n → i64 (((x.f_next.f i).f i1))))
structure circuit_state where
  f_c : api_Circuit
  f_hazards : Int
  f_closed : Int
  f_open : Int
def circuit_stateC : Cod circuit_state := ⟨(.cons (.int .i64) (.cons (.sl intC.sg) (.cons (.sl api_WireC.sg) (.cons (.int .i64) (.cons (.int .i64) (.cons (.int .i64) .nil)))))), 6, fun x => [.int .i64 x.f_c.Hazards, slC intC x.f_c.Switches, slC api_WireC x.f_c.Wires, .int .i64 x.f_hazards, .int .i64 x.f_closed, .int .i64 x.f_open], fun f => ⟨⟨toI (f 0), lstC intC (f 1), lstC api_WireC (f 2)⟩, toI (f 3), toI (f 4), toI (f 5)⟩⟩
theorem circuit_stateC_ok : circuit_stateC.Ok where
  slen := rfl
  ck := fun x j hj => match j, hj with
    | 0, _ => rfl
    | 1, _ => rfl
    | 2, _ => rfl
    | 3, _ => rfl
    | 4, _ => rfl
    | 5, _ => rfl
    | j + 6, h => absurd h (by simp [circuit_stateC])
  ok := fun f hf Z w j v hj hd => match j, hj, hd with
    | 0, hj, hd => den_int (hf 0 hj) hd
    | 1, hj, hd => den_slC intC_ok (hf 1 hj) hd
    | 2, hj, hd => den_slC api_WireC_ok (hf 2 hj) hd
    | 3, hj, hd => den_int (hf 3 hj) hd
    | 4, hj, hd => den_int (hf 4 hj) hd
    | 5, hj, hd => den_int (hf 5 hj) hd
    | j + 6, h, _ => absurd h (by simp [circuit_stateC])
theorem circuit_stateC_len (x : circuit_state) : (circuit_stateC.enc x).length = circuit_stateC.size := rfl
def circuit_state.wf (x : circuit_state) : Prop := i64 x.f_c.Hazards ∧ (x.f_c.Switches.n ≤ maxLen ∧ ∀ i, i < x.f_c.Switches.n → i64 ((x.f_c.Switches.f i))) ∧ (x.f_c.Wires.n ≤ maxLen ∧ ∀ i, i < x.f_c.Wires.n → (x.f_c.Wires.f i).wf) ∧ i64 x.f_hazards ∧ i64 x.f_closed ∧ i64 x.f_open
structure api_Trial where
  Hazards : Int
  Wire : Int
def api_Trial.wf (x : api_Trial) : Prop := i64 x.Hazards ∧ i64 x.Wire
end Go.Proofs.YtpillmoddoccfabDoor
