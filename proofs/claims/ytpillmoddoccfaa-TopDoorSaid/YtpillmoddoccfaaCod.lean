import Derived.Test.YtpillmoddoccfaaEnv
import Derived.Test.YtpillmoddoccfaaSxEnd
set_option linter.unusedVariables false
namespace Go.Proofs.Ytpillmoddoccfaa
open Go.Sx
structure api_Brake where
  Force : Int
  Delay : Int
def api_Brake.wf (x : api_Brake) : Prop := i64 x.Force ∧ i64 x.Delay
structure api_Escalator where
  Up : Bool
  Empty : Int
  Pull : Int
  Drag : Int
  Motor : Int
  Brakes : Arr api_Brake
def api_Escalator.wf (x : api_Escalator) : Prop := True ∧ i64 x.Empty ∧ i64 x.Pull ∧ i64 x.Drag ∧ i64 x.Motor ∧ (x.Brakes.n ≤ maxLen ∧ ∀ i, i < x.Brakes.n → (x.Brakes.f i).wf)
structure api_Band where
  Up : Bool
  Pull : Int
  Drag : Int
  Body : Int
  Ride : Int
  Most : Int
  Paces : Arr Int
  Num : Int
  Den : Int
def api_Band.wf (x : api_Band) : Prop := True ∧ i64 x.Pull ∧ i64 x.Drag ∧ i64 x.Body ∧ i64 x.Ride ∧ i64 x.Most ∧ (x.Paces.n ≤ maxLen ∧ ∀ i, i < x.Paces.n → i64 ((x.Paces.f i))) ∧ i64 x.Num ∧ i64 x.Den
structure newellaw11_Two where
  Less : Int
  More : Int
  Slow : Int
  Fast : Int
def newellaw11_Two.wf (x : newellaw11_Two) : Prop := i64 x.Less ∧ i64 x.More ∧ i64 x.Slow ∧ i64 x.Fast
structure pDo where
  Wide : Int
  Wait : Int
def pDoC : Cod pDo := ⟨(.cons (.int .i64) (.cons (.int .i64) .nil)), 2, fun x => [.int .i64 x.Wide, .int .i64 x.Wait], fun f => ⟨toI (f 0), toI (f 1)⟩⟩
theorem pDoC_ok : pDoC.Ok where
  slen := rfl
  ck := fun x j hj => match j, hj with
    | 0, _ => rfl
    | 1, _ => rfl
    | j + 2, h => absurd h (by simp [pDoC])
  ok := fun f hf Z w j v hj hd => match j, hj, hd with
    | 0, hj, hd => den_int (hf 0 hj) hd
    | 1, hj, hd => den_int (hf 1 hj) hd
    | j + 2, h, _ => absurd h (by simp [pDoC])
theorem pDoC_len (x : pDo) : (pDoC.enc x).length = pDoC.size := rfl
def pDo.wf (x : pDo) : Prop := i64 x.Wide ∧ i64 x.Wait
theorem pDoC_rng {g : Nat → SV} (h : rng pDoC.sg g 0) : (pDoC.dec g).wf := by
  obtain ⟨h0, h1, _⟩ := h
  exact ⟨rng_i64 h0, rng_i64 h1⟩
structure pCo where
  Name : ByteArray
  Max : Int
def pCoC : Cod pCo := ⟨(.cons .str (.cons (.int .i64) .nil)), 2, fun x => [.str x.Name, .int .i64 x.Max], fun f => ⟨toS (f 0), toI (f 1)⟩⟩
theorem pCoC_ok : pCoC.Ok where
  slen := rfl
  ck := fun x j hj => match j, hj with
    | 0, _ => rfl
    | 1, _ => rfl
    | j + 2, h => absurd h (by simp [pCoC])
  ok := fun f hf Z w j v hj hd => match j, hj, hd with
    | 0, hj, hd => den_str (hf 0 hj) hd
    | 1, hj, hd => den_int (hf 1 hj) hd
    | j + 2, h, _ => absurd h (by simp [pCoC])
def pCo.wf (x : pCo) : Prop := True ∧ i64 x.Max
structure pSt where
  Name : ByteArray
  Shows : Int
def pStC : Cod pSt := ⟨(.cons .str (.cons (.int .i64) .nil)), 2, fun x => [.str x.Name, .int .i64 x.Shows], fun f => ⟨toS (f 0), toI (f 1)⟩⟩
theorem pStC_ok : pStC.Ok where
  slen := rfl
  ck := fun x j hj => match j, hj with
    | 0, _ => rfl
    | 1, _ => rfl
    | j + 2, h => absurd h (by simp [pStC])
  ok := fun f hf Z w j v hj hd => match j, hj, hd with
    | 0, hj, hd => den_str (hf 0 hj) hd
    | 1, hj, hd => den_int (hf 1 hj) hd
    | j + 2, h, _ => absurd h (by simp [pStC])
def pSt.wf (x : pSt) : Prop := True ∧ i64 x.Shows
structure pLi where
  Kind : Int
  Number : Int
  Value : Int
  Not : Bool
def pLiC : Cod pLi := ⟨(.cons (.int .i64) (.cons (.int .i64) (.cons (.int .i64) (.cons .bool .nil)))), 4, fun x => [.int .i64 x.Kind, .int .i64 x.Number, .int .i64 x.Value, .bool x.Not], fun f => ⟨toI (f 0), toI (f 1), toI (f 2), toB (f 3)⟩⟩
theorem pLiC_ok : pLiC.Ok where
  slen := rfl
  ck := fun x j hj => match j, hj with
    | 0, _ => rfl
    | 1, _ => rfl
    | 2, _ => rfl
    | 3, _ => rfl
    | j + 4, h => absurd h (by simp [pLiC])
  ok := fun f hf Z w j v hj hd => match j, hj, hd with
    | 0, hj, hd => den_int (hf 0 hj) hd
    | 1, hj, hd => den_int (hf 1 hj) hd
    | 2, hj, hd => den_int (hf 2 hj) hd
    | 3, hj, hd => den_bool (hf 3 hj) hd
    | j + 4, h, _ => absurd h (by simp [pLiC])
theorem pLiC_len (x : pLi) : (pLiC.enc x).length = pLiC.size := rfl
def pLi.wf (x : pLi) : Prop := i64 x.Kind ∧ i64 x.Number ∧ i64 x.Value ∧ True
structure api_Set where
  Kind : Int
  Counter : Int
def api_SetC : Cod api_Set := ⟨(.cons (.int .i64) (.cons (.int .i64) .nil)), 2, fun x => [.int .i64 x.Kind, .int .i64 x.Counter], fun f => ⟨toI (f 0), toI (f 1)⟩⟩
theorem api_SetC_ok : api_SetC.Ok where
  slen := rfl
  ck := fun x j hj => match j, hj with
    | 0, _ => rfl
    | 1, _ => rfl
    | j + 2, h => absurd h (by simp [api_SetC])
  ok := fun f hf Z w j v hj hd => match j, hj, hd with
    | 0, hj, hd => den_int (hf 0 hj) hd
    | 1, hj, hd => den_int (hf 1 hj) hd
    | j + 2, h, _ => absurd h (by simp [api_SetC])
theorem api_SetC_len (x : api_Set) : (api_SetC.enc x).length = api_SetC.size := rfl
def api_Set.wf (x : api_Set) : Prop := i64 x.Kind ∧ i64 x.Counter
structure pRu where
  From : Int
  To : Int
  When : Arr (Arr pLi)
  Sets : Arr api_Set
def pRuC : Cod pRu := ⟨(.cons (.int .i64) (.cons (.int .i64) (.cons (.sl (lsC pLiC).sg) (.cons (.sl api_SetC.sg) .nil)))), 4, fun x => [.int .i64 x.From, .int .i64 x.To, slC (lsC pLiC) x.When, slC api_SetC x.Sets], fun f => ⟨toI (f 0), toI (f 1), lstC (lsC pLiC) (f 2), lstC api_SetC (f 3)⟩⟩
theorem pRuC_ok : pRuC.Ok where
  slen := rfl
  ck := fun x j hj => match j, hj with
    | 0, _ => rfl
    | 1, _ => rfl
    | 2, _ => rfl
    | 3, _ => rfl
    | j + 4, h => absurd h (by simp [pRuC])
  ok := fun f hf Z w j v hj hd => match j, hj, hd with
    | 0, hj, hd => den_int (hf 0 hj) hd
    | 1, hj, hd => den_int (hf 1 hj) hd
    | 2, hj, hd => den_slC (lsC_ok pLiC_ok) (hf 2 hj) hd
    | 3, hj, hd => den_slC api_SetC_ok (hf 3 hj) hd
    | j + 4, h, _ => absurd h (by simp [pRuC])
theorem pRuC_len (x : pRu) : (pRuC.enc x).length = pRuC.size := rfl
def pRu.wf (x : pRu) : Prop := i64 x.From ∧ i64 x.To ∧ (x.When.n ≤ maxLen ∧ ∀ i, i < x.When.n → ((x.When.f i).n ≤ maxLen ∧ ∀ i1, i1 < (x.When.f i).n → ((x.When.f i).f i1).wf)) ∧ (x.Sets.n ≤ maxLen ∧ ∀ i, i < x.Sets.n → (x.Sets.f i).wf)
structure pMa where
  Inputs : Arr ByteArray
  Outputs : Arr ByteArray
  Counters : Arr pCo
  States : Arr pSt
  Rules : Arr pRu
def pMaC : Cod pMa := ⟨(.cons (.sl strC.sg) (.cons (.sl strC.sg) (.cons (.sl pCoC.sg) (.cons (.sl pStC.sg) (.cons (.sl pRuC.sg) .nil))))), 5, fun x => [slC strC x.Inputs, slC strC x.Outputs, slC pCoC x.Counters, slC pStC x.States, slC pRuC x.Rules], fun f => ⟨lstC strC (f 0), lstC strC (f 1), lstC pCoC (f 2), lstC pStC (f 3), lstC pRuC (f 4)⟩⟩
theorem pMaC_ok : pMaC.Ok where
  slen := rfl
  ck := fun x j hj => match j, hj with
    | 0, _ => rfl
    | 1, _ => rfl
    | 2, _ => rfl
    | 3, _ => rfl
    | 4, _ => rfl
    | j + 5, h => absurd h (by simp [pMaC])
  ok := fun f hf Z w j v hj hd => match j, hj, hd with
    | 0, hj, hd => den_slC strC_ok (hf 0 hj) hd
    | 1, hj, hd => den_slC strC_ok (hf 1 hj) hd
    | 2, hj, hd => den_slC pCoC_ok (hf 2 hj) hd
    | 3, hj, hd => den_slC pStC_ok (hf 3 hj) hd
    | 4, hj, hd => den_slC pRuC_ok (hf 4 hj) hd
    | j + 5, h, _ => absurd h (by simp [pMaC])
theorem pMaC_len (x : pMa) : (pMaC.enc x).length = pMaC.size := rfl
def pMa.wf (x : pMa) : Prop := (x.Inputs.n ≤ maxLen ∧ ∀ i, i < x.Inputs.n → True) ∧ (x.Outputs.n ≤ maxLen ∧ ∀ i, i < x.Outputs.n → True) ∧ (x.Counters.n ≤ maxLen ∧ ∀ i, i < x.Counters.n → (x.Counters.f i).wf) ∧ (x.States.n ≤ maxLen ∧ ∀ i, i < x.States.n → (x.States.f i).wf) ∧ (x.Rules.n ≤ maxLen ∧ ∀ i, i < x.Rules.n → (x.Rules.f i).wf)
structure Arr2_int where
  a0 : Int
  a1 : Int
def Arr2_int.wf (x : Arr2_int) : Prop := i64 x.a0 ∧ i64 x.a1
structure pPl where
  State : Int
  Values : Arr2_int
def pPlC : Cod pPl := ⟨(.cons (.int .i64) (.cons (.int .i64) (.cons (.int .i64) .nil))), 3, fun x => [.int .i64 x.State, .int .i64 x.Values.a0, .int .i64 x.Values.a1], fun f => ⟨toI (f 0), ⟨toI (f 1), toI (f 2)⟩⟩⟩
theorem pPlC_ok : pPlC.Ok where
  slen := rfl
  ck := fun x j hj => match j, hj with
    | 0, _ => rfl
    | 1, _ => rfl
    | 2, _ => rfl
    | j + 3, h => absurd h (by simp [pPlC])
  ok := fun f hf Z w j v hj hd => match j, hj, hd with
    | 0, hj, hd => den_int (hf 0 hj) hd
    | 1, hj, hd => den_int (hf 1 hj) hd
    | 2, hj, hd => den_int (hf 2 hj) hd
    | j + 3, h, _ => absurd h (by simp [pPlC])
theorem pPlC_len (x : pPl) : (pPlC.enc x).length = pPlC.size := rfl
def pPl.wf (x : pPl) : Prop := i64 x.State ∧ i64 x.Values.a0 ∧ i64 x.Values.a1
structure api_Wire where
  Kind : Int
  Of : Arr Int
def api_Wire.wf (x : api_Wire) : Prop := i64 x.Kind ∧ (x.Of.n ≤ maxLen ∧ ∀ i, i < x.Of.n → i64 ((x.Of.f i)))
structure api_Circuit where
  Hazards : Int
  Switches : Arr Int
  Wires : Arr api_Wire
def api_Circuit.wf (x : api_Circuit) : Prop := i64 x.Hazards ∧ (x.Switches.n ≤ maxLen ∧ ∀ i, i < x.Switches.n → i64 ((x.Switches.f i))) ∧ (x.Wires.n ≤ maxLen ∧ ∀ i, i < x.Wires.n → (x.Wires.f i).wf)
structure api_Span where
  Low : Int
  High : Int
def api_Span.wf (x : api_Span) : Prop := i64 x.Low ∧ i64 x.High
structure api_Stop where
  Speed : Int
  Loads : api_Span
  Fail : Int
def api_Stop.wf (x : api_Stop) : Prop := i64 x.Speed ∧ i64 x.Loads.Low ∧ i64 x.Loads.High ∧ i64 x.Fail
structure nT_Fault where
  Stop : api_Stop
  Way : Int
  Back : Int
  Brake : Int
  Switch : Int
  Hazards : Int
  Loads : Arr Int
def nT_Fault.wf (x : nT_Fault) : Prop := i64 x.Stop.Speed ∧ i64 x.Stop.Loads.Low ∧ i64 x.Stop.Loads.High ∧ i64 x.Stop.Fail ∧ i64 x.Way ∧ i64 x.Back ∧ i64 x.Brake ∧ i64 x.Switch ∧ i64 x.Hazards ∧ (x.Loads.n ≤ maxLen ∧ ∀ i, i < x.Loads.n → i64 ((x.Loads.f i)))
structure api_Part where
  Rates : Arr api_Span
  Worn : Int
  Turns : Int
  Age : Int
def api_Part.wf (x : api_Part) : Prop := (x.Rates.n ≤ maxLen ∧ ∀ i, i < x.Rates.n → (x.Rates.f i).wf) ∧ i64 x.Worn ∧ i64 x.Turns ∧ i64 x.Age
structure api_Reading where
  Says : Int
  Error : Int
  Drift : Int
  Days : Int
def api_Reading.wf (x : api_Reading) : Prop := i64 x.Says ∧ i64 x.Error ∧ i64 x.Drift ∧ i64 x.Days
structure nT_Weighed where
  Wears : Arr Int
  Use : Int
  Readings : Arr api_Reading
def nT_Weighed.wf (x : nT_Weighed) : Prop := (x.Wears.n ≤ maxLen ∧ ∀ i, i < x.Wears.n → i64 ((x.Wears.f i))) ∧ i64 x.Use ∧ (x.Readings.n ≤ maxLen ∧ ∀ i, i < x.Readings.n → (x.Readings.f i).wf)
structure api_Use where
  Day : Int
  Turns : Int
  Class : Int
  Measured : Bool
  Says : api_Span
def api_Use.wf (x : api_Use) : Prop := i64 x.Day ∧ i64 x.Turns ∧ i64 x.Class ∧ True ∧ i64 x.Says.Low ∧ i64 x.Says.High
structure api_Comb where
  Rate : Int
  Limit : Int
  Next : Int
  Walk : api_Span
def api_Comb.wf (x : api_Comb) : Prop := i64 x.Rate ∧ i64 x.Limit ∧ i64 x.Next ∧ i64 x.Walk.Low ∧ i64 x.Walk.High
structure api_Crowd where
  Comb : Int
  People : api_Span
def api_Crowd.wf (x : api_Crowd) : Prop := i64 x.Comb ∧ i64 x.People.Low ∧ i64 x.People.High
structure api_Train where
  At : api_Span
  Crowds : Arr api_Crowd
def api_Train.wf (x : api_Train) : Prop := i64 x.At.Low ∧ i64 x.At.High ∧ (x.Crowds.n ≤ maxLen ∧ ∀ i, i < x.Crowds.n → (x.Crowds.f i).wf)
structure api_Shift where
  At : Int
  Comb : Int
  Rate : Int
def api_Shift.wf (x : api_Shift) : Prop := i64 x.At ∧ i64 x.Comb ∧ i64 x.Rate
structure api_Hall where
  Combs : Arr api_Comb
  Trains : Arr api_Train
  Shifts : Arr api_Shift
  Until : Int
def api_Hall.wf (x : api_Hall) : Prop := (x.Combs.n ≤ maxLen ∧ ∀ i, i < x.Combs.n → (x.Combs.f i).wf) ∧ (x.Trains.n ≤ maxLen ∧ ∀ i, i < x.Trains.n → (x.Trains.f i).wf) ∧ (x.Shifts.n ≤ maxLen ∧ ∀ i, i < x.Shifts.n → (x.Shifts.f i).wf) ∧ i64 x.Until
structure api_Day where
  At : Arr Int
  People : Arr (Arr Int)
  Walks : Arr (Arr Int)
def api_Day.wf (x : api_Day) : Prop := (x.At.n ≤ maxLen ∧ ∀ i, i < x.At.n → i64 ((x.At.f i))) ∧ (x.People.n ≤ maxLen ∧ ∀ i, i < x.People.n → ((x.People.f i).n ≤ maxLen ∧ ∀ i1, i1 < (x.People.f i).n → i64 (((x.People.f i).f i1)))) ∧ (x.Walks.n ≤ maxLen ∧ ∀ i, i < x.Walks.n → ((x.Walks.f i).n ≤ maxLen ∧ ∀ i1, i1 < (x.Walks.f i).n → i64 (((x.Walks.f i).f i1))))
structure nT_Boarded where
  Comb : Int
  Body : Int
  Ticks : Int
  Tick : Int
  Stop : api_Stop
def nT_Boarded.wf (x : nT_Boarded) : Prop := i64 x.Comb ∧ i64 x.Body ∧ i64 x.Ticks ∧ i64 x.Tick ∧ i64 x.Stop.Speed ∧ i64 x.Stop.Loads.Low ∧ i64 x.Stop.Loads.High ∧ i64 x.Stop.Fail
structure nT_Full where
  Escalator : api_Escalator
  Boarded : nT_Boarded
def nT_Full.wf (x : nT_Full) : Prop := True ∧ i64 x.Escalator.Empty ∧ i64 x.Escalator.Pull ∧ i64 x.Escalator.Drag ∧ i64 x.Escalator.Motor ∧ (x.Escalator.Brakes.n ≤ maxLen ∧ ∀ i, i < x.Escalator.Brakes.n → (x.Escalator.Brakes.f i).wf) ∧ i64 x.Boarded.Comb ∧ i64 x.Boarded.Body ∧ i64 x.Boarded.Ticks ∧ i64 x.Boarded.Tick ∧ i64 x.Boarded.Stop.Speed ∧ i64 x.Boarded.Stop.Loads.Low ∧ i64 x.Boarded.Stop.Loads.High ∧ i64 x.Boarded.Stop.Fail
structure nT_Boarding where
  Comb : Int
  Pace : Int
  Band : api_Band
def nT_Boarding.wf (x : nT_Boarding) : Prop := i64 x.Comb ∧ i64 x.Pace ∧ True ∧ i64 x.Band.Pull ∧ i64 x.Band.Drag ∧ i64 x.Band.Body ∧ i64 x.Band.Ride ∧ i64 x.Band.Most ∧ (x.Band.Paces.n ≤ maxLen ∧ ∀ i, i < x.Band.Paces.n → i64 ((x.Band.Paces.f i))) ∧ i64 x.Band.Num ∧ i64 x.Band.Den
structure api_Period where
  Lasts : Int
  Price : Int
  Flow : api_Span
def api_Period.wf (x : api_Period) : Prop := i64 x.Lasts ∧ i64 x.Price ∧ i64 x.Flow.Low ∧ i64 x.Flow.High
structure api_Times where
  Periods : Arr api_Period
  Peak : Int
def api_Times.wf (x : api_Times) : Prop := (x.Periods.n ≤ maxLen ∧ ∀ i, i < x.Periods.n → (x.Periods.f i).wf) ∧ i64 x.Peak
structure nT_Ridden where
  Times : api_Times
  Limit : Int
  Flows : Arr Int
  Period : Int
def nT_Ridden.wf (x : nT_Ridden) : Prop := (x.Times.Periods.n ≤ maxLen ∧ ∀ i, i < x.Times.Periods.n → (x.Times.Periods.f i).wf) ∧ i64 x.Times.Peak ∧ i64 x.Limit ∧ (x.Flows.n ≤ maxLen ∧ ∀ i, i < x.Flows.n → i64 ((x.Flows.f i))) ∧ i64 x.Period
structure lLe where
  Door : pDo
  f_at : Int
  f_does : Int
  f_left : Int
def lLeC : Cod lLe := ⟨(.cons (.int .i64) (.cons (.int .i64) (.cons (.int .i64) (.cons (.int .i64) (.cons (.int .i64) .nil))))), 5, fun x => [.int .i64 x.Door.Wide, .int .i64 x.Door.Wait, .int .i64 x.f_at, .int .i64 x.f_does, .int .i64 x.f_left], fun f => ⟨⟨toI (f 0), toI (f 1)⟩, toI (f 2), toI (f 3), toI (f 4)⟩⟩
theorem lLeC_ok : lLeC.Ok where
  slen := rfl
  ck := fun x j hj => match j, hj with
    | 0, _ => rfl
    | 1, _ => rfl
    | 2, _ => rfl
    | 3, _ => rfl
    | 4, _ => rfl
    | j + 5, h => absurd h (by simp [lLeC])
  ok := fun f hf Z w j v hj hd => match j, hj, hd with
    | 0, hj, hd => den_int (hf 0 hj) hd
    | 1, hj, hd => den_int (hf 1 hj) hd
    | 2, hj, hd => den_int (hf 2 hj) hd
    | 3, hj, hd => den_int (hf 3 hj) hd
    | 4, hj, hd => den_int (hf 4 hj) hd
    | j + 5, h, _ => absurd h (by simp [lLeC])
theorem lLeC_len (x : lLe) : (lLeC.enc x).length = lLeC.size := rfl
def lLe.wf (x : lLe) : Prop := i64 x.Door.Wide ∧ i64 x.Door.Wait ∧ i64 x.f_at ∧ i64 x.f_does ∧ i64 x.f_left
structure drive_stopped where
  f_way : Int
  f_loads : Arr Int
  f_rests : Bool
def drive_stopped.wf (x : drive_stopped) : Prop := i64 x.f_way ∧ (x.f_loads.n ≤ maxLen ∧ ∀ i, i < x.f_loads.n → i64 ((x.f_loads.f i))) ∧ True
structure drive_motion where
  f_e : api_Escalator
  f_s : api_Stop
  f_speed : Int
  f_time : Int
def drive_motion.wf (x : drive_motion) : Prop := True ∧ i64 x.f_e.Empty ∧ i64 x.f_e.Pull ∧ i64 x.f_e.Drag ∧ i64 x.f_e.Motor ∧ (x.f_e.Brakes.n ≤ maxLen ∧ ∀ i, i < x.f_e.Brakes.n → (x.f_e.Brakes.f i).wf) ∧ i64 x.f_s.Speed ∧ i64 x.f_s.Loads.Low ∧ i64 x.f_s.Loads.High ∧ i64 x.f_s.Fail ∧ i64 x.f_speed ∧ i64 x.f_time
structure circuit_state where
  f_c : api_Circuit
  f_hazards : Int
  f_closed : Int
  f_open : Int
def circuit_state.wf (x : circuit_state) : Prop := i64 x.f_c.Hazards ∧ (x.f_c.Switches.n ≤ maxLen ∧ ∀ i, i < x.f_c.Switches.n → i64 ((x.f_c.Switches.f i))) ∧ (x.f_c.Wires.n ≤ maxLen ∧ ∀ i, i < x.f_c.Wires.n → (x.f_c.Wires.f i).wf) ∧ i64 x.f_hazards ∧ i64 x.f_closed ∧ i64 x.f_open
structure energy_search where
  f_b : api_Band
  f_t : api_Times
  f_plan : Arr Int
  f_high : Arr Int
  f_best : Arr Int
  f_worst : Int
def energy_search.wf (x : energy_search) : Prop := True ∧ i64 x.f_b.Pull ∧ i64 x.f_b.Drag ∧ i64 x.f_b.Body ∧ i64 x.f_b.Ride ∧ i64 x.f_b.Most ∧ (x.f_b.Paces.n ≤ maxLen ∧ ∀ i, i < x.f_b.Paces.n → i64 ((x.f_b.Paces.f i))) ∧ i64 x.f_b.Num ∧ i64 x.f_b.Den ∧ (x.f_t.Periods.n ≤ maxLen ∧ ∀ i, i < x.f_t.Periods.n → (x.f_t.Periods.f i).wf) ∧ i64 x.f_t.Peak ∧ (x.f_plan.n ≤ maxLen ∧ ∀ i, i < x.f_plan.n → i64 ((x.f_plan.f i))) ∧ (x.f_high.n ≤ maxLen ∧ ∀ i, i < x.f_high.n → i64 ((x.f_high.f i))) ∧ (x.f_best.n ≤ maxLen ∧ ∀ i, i < x.f_best.n → i64 ((x.f_best.f i))) ∧ i64 x.f_worst
structure api_Trial where
  Hazards : Int
  Wire : Int
def api_Trial.wf (x : api_Trial) : Prop := i64 x.Hazards ∧ i64 x.Wire
end Go.Proofs.Ytpillmoddoccfaa
