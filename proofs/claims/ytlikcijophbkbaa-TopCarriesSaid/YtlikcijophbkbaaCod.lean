import Derived.Test.YtlikcijophbkbaaEnv
import Derived.Test.YtlikcijophbkbaaSxEnd
set_option linter.unusedVariables false
namespace Go.Proofs.Ytlikcijophbkbaa
open Go.Sx
structure api_Span where
  Low : Int
  High : Int
def api_SpanC : Cod api_Span := ⟨(.cons (.int .i64) (.cons (.int .i64) .nil)), 2, fun x => [.int .i64 x.Low, .int .i64 x.High], fun f => ⟨toI (f 0), toI (f 1)⟩⟩
theorem api_SpanC_ok : api_SpanC.Ok where
  slen := rfl
  ck := fun x j hj => match j, hj with
    | 0, _ => rfl
    | 1, _ => rfl
    | j + 2, h => absurd h (by simp [api_SpanC])
  ok := fun f hf Z w j v hj hd => match j, hj, hd with
    | 0, hj, hd => den_int (hf 0 hj) hd
    | 1, hj, hd => den_int (hf 1 hj) hd
    | j + 2, h, _ => absurd h (by simp [api_SpanC])
theorem api_SpanC_len (x : api_Span) : (api_SpanC.enc x).length = api_SpanC.size := rfl
def api_Span.wf (x : api_Span) : Prop := i64 x.Low ∧ i64 x.High
structure api_Comb where
  Rate : Int
  Limit : Int
  Next : Int
  Walk : api_Span
def api_CombC : Cod api_Comb := ⟨(.cons (.int .i64) (.cons (.int .i64) (.cons (.int .i64) (.cons (.int .i64) (.cons (.int .i64) .nil))))), 5, fun x => [.int .i64 x.Rate, .int .i64 x.Limit, .int .i64 x.Next, .int .i64 x.Walk.Low, .int .i64 x.Walk.High], fun f => ⟨toI (f 0), toI (f 1), toI (f 2), ⟨toI (f 3), toI (f 4)⟩⟩⟩
theorem api_CombC_ok : api_CombC.Ok where
  slen := rfl
  ck := fun x j hj => match j, hj with
    | 0, _ => rfl
    | 1, _ => rfl
    | 2, _ => rfl
    | 3, _ => rfl
    | 4, _ => rfl
    | j + 5, h => absurd h (by simp [api_CombC])
  ok := fun f hf Z w j v hj hd => match j, hj, hd with
    | 0, hj, hd => den_int (hf 0 hj) hd
    | 1, hj, hd => den_int (hf 1 hj) hd
    | 2, hj, hd => den_int (hf 2 hj) hd
    | 3, hj, hd => den_int (hf 3 hj) hd
    | 4, hj, hd => den_int (hf 4 hj) hd
    | j + 5, h, _ => absurd h (by simp [api_CombC])
theorem api_CombC_len (x : api_Comb) : (api_CombC.enc x).length = api_CombC.size := rfl
def api_Comb.wf (x : api_Comb) : Prop := i64 x.Rate ∧ i64 x.Limit ∧ i64 x.Next ∧ i64 x.Walk.Low ∧ i64 x.Walk.High
theorem api_CombC_rng {g : Nat → SV} (h : rng api_CombC.sg g 0) : (api_CombC.dec g).wf := by
  obtain ⟨h0, h1, h2, h3, h4, _⟩ := h
  exact ⟨rng_i64 h0, rng_i64 h1, rng_i64 h2, rng_i64 h3, rng_i64 h4⟩
structure api_Crowd where
  Comb : Int
  People : api_Span
def api_CrowdC : Cod api_Crowd := ⟨(.cons (.int .i64) (.cons (.int .i64) (.cons (.int .i64) .nil))), 3, fun x => [.int .i64 x.Comb, .int .i64 x.People.Low, .int .i64 x.People.High], fun f => ⟨toI (f 0), ⟨toI (f 1), toI (f 2)⟩⟩⟩
theorem api_CrowdC_ok : api_CrowdC.Ok where
  slen := rfl
  ck := fun x j hj => match j, hj with
    | 0, _ => rfl
    | 1, _ => rfl
    | 2, _ => rfl
    | j + 3, h => absurd h (by simp [api_CrowdC])
  ok := fun f hf Z w j v hj hd => match j, hj, hd with
    | 0, hj, hd => den_int (hf 0 hj) hd
    | 1, hj, hd => den_int (hf 1 hj) hd
    | 2, hj, hd => den_int (hf 2 hj) hd
    | j + 3, h, _ => absurd h (by simp [api_CrowdC])
def api_Crowd.wf (x : api_Crowd) : Prop := i64 x.Comb ∧ i64 x.People.Low ∧ i64 x.People.High
theorem api_CrowdC_rng {g : Nat → SV} (h : rng api_CrowdC.sg g 0) : (api_CrowdC.dec g).wf := by
  obtain ⟨h0, h1, h2, _⟩ := h
  exact ⟨rng_i64 h0, rng_i64 h1, rng_i64 h2⟩
structure api_Train where
  At : api_Span
  Crowds : Arr api_Crowd
def api_TrainC : Cod api_Train := ⟨(.cons (.int .i64) (.cons (.int .i64) (.cons (.sl api_CrowdC.sg) .nil))), 3, fun x => [.int .i64 x.At.Low, .int .i64 x.At.High, slC api_CrowdC x.Crowds], fun f => ⟨⟨toI (f 0), toI (f 1)⟩, lstC api_CrowdC (f 2)⟩⟩
theorem api_TrainC_ok : api_TrainC.Ok where
  slen := rfl
  ck := fun x j hj => match j, hj with
    | 0, _ => rfl
    | 1, _ => rfl
    | 2, _ => rfl
    | j + 3, h => absurd h (by simp [api_TrainC])
  ok := fun f hf Z w j v hj hd => match j, hj, hd with
    | 0, hj, hd => den_int (hf 0 hj) hd
    | 1, hj, hd => den_int (hf 1 hj) hd
    | 2, hj, hd => den_slC api_CrowdC_ok (hf 2 hj) hd
    | j + 3, h, _ => absurd h (by simp [api_TrainC])
theorem api_TrainC_len (x : api_Train) : (api_TrainC.enc x).length = api_TrainC.size := rfl
def api_Train.wf (x : api_Train) : Prop := i64 x.At.Low ∧ i64 x.At.High ∧ (x.Crowds.n ≤ maxLen ∧ ∀ i, i < x.Crowds.n → (x.Crowds.f i).wf)
theorem api_TrainC_rng {g : Nat → SV} (h : rng api_TrainC.sg g 0) : (api_TrainC.dec g).wf := by
  obtain ⟨h0, h1, h2, _⟩ := h
  exact ⟨rng_i64 h0, rng_i64 h1, rng_sl (C := api_CrowdC) (P := fun y => y.wf) (fun _ h => api_CrowdC_rng h) h2⟩
structure api_Shift where
  At : Int
  Comb : Int
  Rate : Int
def api_ShiftC : Cod api_Shift := ⟨(.cons (.int .i64) (.cons (.int .i64) (.cons (.int .i64) .nil))), 3, fun x => [.int .i64 x.At, .int .i64 x.Comb, .int .i64 x.Rate], fun f => ⟨toI (f 0), toI (f 1), toI (f 2)⟩⟩
theorem api_ShiftC_ok : api_ShiftC.Ok where
  slen := rfl
  ck := fun x j hj => match j, hj with
    | 0, _ => rfl
    | 1, _ => rfl
    | 2, _ => rfl
    | j + 3, h => absurd h (by simp [api_ShiftC])
  ok := fun f hf Z w j v hj hd => match j, hj, hd with
    | 0, hj, hd => den_int (hf 0 hj) hd
    | 1, hj, hd => den_int (hf 1 hj) hd
    | 2, hj, hd => den_int (hf 2 hj) hd
    | j + 3, h, _ => absurd h (by simp [api_ShiftC])
def api_Shift.wf (x : api_Shift) : Prop := i64 x.At ∧ i64 x.Comb ∧ i64 x.Rate
theorem api_ShiftC_rng {g : Nat → SV} (h : rng api_ShiftC.sg g 0) : (api_ShiftC.dec g).wf := by
  obtain ⟨h0, h1, h2, _⟩ := h
  exact ⟨rng_i64 h0, rng_i64 h1, rng_i64 h2⟩
structure api_Hall where
  Combs : Arr api_Comb
  Trains : Arr api_Train
  Shifts : Arr api_Shift
  Until : Int
def api_HallC : Cod api_Hall := ⟨(.cons (.sl api_CombC.sg) (.cons (.sl api_TrainC.sg) (.cons (.sl api_ShiftC.sg) (.cons (.int .i64) .nil)))), 4, fun x => [slC api_CombC x.Combs, slC api_TrainC x.Trains, slC api_ShiftC x.Shifts, .int .i64 x.Until], fun f => ⟨lstC api_CombC (f 0), lstC api_TrainC (f 1), lstC api_ShiftC (f 2), toI (f 3)⟩⟩
theorem api_HallC_ok : api_HallC.Ok where
  slen := rfl
  ck := fun x j hj => match j, hj with
    | 0, _ => rfl
    | 1, _ => rfl
    | 2, _ => rfl
    | 3, _ => rfl
    | j + 4, h => absurd h (by simp [api_HallC])
  ok := fun f hf Z w j v hj hd => match j, hj, hd with
    | 0, hj, hd => den_slC api_CombC_ok (hf 0 hj) hd
    | 1, hj, hd => den_slC api_TrainC_ok (hf 1 hj) hd
    | 2, hj, hd => den_slC api_ShiftC_ok (hf 2 hj) hd
    | 3, hj, hd => den_int (hf 3 hj) hd
    | j + 4, h, _ => absurd h (by simp [api_HallC])
theorem api_HallC_len (x : api_Hall) : (api_HallC.enc x).length = api_HallC.size := rfl
def api_Hall.wf (x : api_Hall) : Prop := (x.Combs.n ≤ maxLen ∧ ∀ i, i < x.Combs.n → (x.Combs.f i).wf) ∧ (x.Trains.n ≤ maxLen ∧ ∀ i, i < x.Trains.n → (x.Trains.f i).wf) ∧ (x.Shifts.n ≤ maxLen ∧ ∀ i, i < x.Shifts.n → (x.Shifts.f i).wf) ∧ i64 x.Until
theorem api_HallC_rng {g : Nat → SV} (h : rng api_HallC.sg g 0) : (api_HallC.dec g).wf := by
  obtain ⟨h0, h1, h2, h3, _⟩ := h
  exact ⟨rng_sl (C := api_CombC) (P := fun y => y.wf) (fun _ h => api_CombC_rng h) h0, rng_sl (C := api_TrainC) (P := fun y => y.wf) (fun _ h => api_TrainC_rng h) h1, rng_sl (C := api_ShiftC) (P := fun y => y.wf) (fun _ h => api_ShiftC_rng h) h2, rng_i64 h3⟩
structure api_Day where
  At : Arr Int
  People : Arr (Arr Int)
  Walks : Arr (Arr Int)
def api_DayC : Cod api_Day := ⟨(.cons (.sl intC.sg) (.cons (.sl (lsC intC).sg) (.cons (.sl (lsC intC).sg) .nil))), 3, fun x => [slC intC x.At, slC (lsC intC) x.People, slC (lsC intC) x.Walks], fun f => ⟨lstC intC (f 0), lstC (lsC intC) (f 1), lstC (lsC intC) (f 2)⟩⟩
theorem api_DayC_ok : api_DayC.Ok where
  slen := rfl
  ck := fun x j hj => match j, hj with
    | 0, _ => rfl
    | 1, _ => rfl
    | 2, _ => rfl
    | j + 3, h => absurd h (by simp [api_DayC])
  ok := fun f hf Z w j v hj hd => match j, hj, hd with
    | 0, hj, hd => den_slC intC_ok (hf 0 hj) hd
    | 1, hj, hd => den_slC (lsC_ok intC_ok) (hf 1 hj) hd
    | 2, hj, hd => den_slC (lsC_ok intC_ok) (hf 2 hj) hd
    | j + 3, h, _ => absurd h (by simp [api_DayC])
theorem api_DayC_len (x : api_Day) : (api_DayC.enc x).length = api_DayC.size := rfl
def api_Day.wf (x : api_Day) : Prop := (x.At.n ≤ maxLen ∧ ∀ i, i < x.At.n → i64 ((x.At.f i))) ∧ (x.People.n ≤ maxLen ∧ ∀ i, i < x.People.n → ((x.People.f i).n ≤ maxLen ∧ ∀ i1, i1 < (x.People.f i).n → i64 (((x.People.f i).f i1)))) ∧ (x.Walks.n ≤ maxLen ∧ ∀ i, i < x.Walks.n → ((x.Walks.f i).n ≤ maxLen ∧ ∀ i1, i1 < (x.Walks.f i).n → i64 (((x.Walks.f i).f i1))))
theorem api_DayC_rng {g : Nat → SV} (h : rng api_DayC.sg g 0) : (api_DayC.dec g).wf := by
  obtain ⟨h0, h1, h2, _⟩ := h
  exact ⟨rng_sl (C := intC) (P := fun y => i64 y) (fun _ h => rng_i64 h.1) h0, rng_sl (C := (lsC intC)) (P := fun y => (y.n ≤ maxLen ∧ ∀ i, i < y.n → i64 ((y.f i)))) (fun _ h => rng_sl (C := intC) (P := fun y => i64 y) (fun _ h => rng_i64 h.1) h.1) h1, rng_sl (C := (lsC intC)) (P := fun y => (y.n ≤ maxLen ∧ ∀ i, i < y.n → i64 ((y.f i)))) (fun _ h => rng_sl (C := intC) (P := fun y => i64 y) (fun _ h => rng_i64 h.1) h.1) h2⟩
structure api_Brake where
  Force : Int
  Delay : Int
def api_Brake.wf (x : api_Brake) : Prop := i64 x.Force ∧ i64 x.Delay
structure api_Escalator where
  Up : Bool
  Empty : Int
  Pull : Int
  Drag : Int
  Motor : Int
  Brakes : Arr api_Brake
def api_Escalator.wf (x : api_Escalator) : Prop := True ∧ i64 x.Empty ∧ i64 x.Pull ∧ i64 x.Drag ∧ i64 x.Motor ∧ (x.Brakes.n ≤ maxLen ∧ ∀ i, i < x.Brakes.n → (x.Brakes.f i).wf)
structure api_Stop where
  Speed : Int
  Loads : api_Span
  Fail : Int
def api_Stop.wf (x : api_Stop) : Prop := i64 x.Speed ∧ i64 x.Loads.Low ∧ i64 x.Loads.High ∧ i64 x.Fail
structure neweltop_Boarded where
  Comb : Int
  Body : Int
  Ticks : Int
  Tick : Int
  Stop : api_Stop
def neweltop_BoardedC : Cod neweltop_Boarded := ⟨(.cons (.int .i64) (.cons (.int .i64) (.cons (.int .i64) (.cons (.int .i64) (.cons (.int .i64) (.cons (.int .i64) (.cons (.int .i64) (.cons (.int .i64) .nil)))))))), 8, fun x => [.int .i64 x.Comb, .int .i64 x.Body, .int .i64 x.Ticks, .int .i64 x.Tick, .int .i64 x.Stop.Speed, .int .i64 x.Stop.Loads.Low, .int .i64 x.Stop.Loads.High, .int .i64 x.Stop.Fail], fun f => ⟨toI (f 0), toI (f 1), toI (f 2), toI (f 3), ⟨toI (f 4), ⟨toI (f 5), toI (f 6)⟩, toI (f 7)⟩⟩⟩
theorem neweltop_BoardedC_ok : neweltop_BoardedC.Ok where
  slen := rfl
  ck := fun x j hj => match j, hj with
    | 0, _ => rfl
    | 1, _ => rfl
    | 2, _ => rfl
    | 3, _ => rfl
    | 4, _ => rfl
    | 5, _ => rfl
    | 6, _ => rfl
    | 7, _ => rfl
    | j + 8, h => absurd h (by simp [neweltop_BoardedC])
  ok := fun f hf Z w j v hj hd => match j, hj, hd with
    | 0, hj, hd => den_int (hf 0 hj) hd
    | 1, hj, hd => den_int (hf 1 hj) hd
    | 2, hj, hd => den_int (hf 2 hj) hd
    | 3, hj, hd => den_int (hf 3 hj) hd
    | 4, hj, hd => den_int (hf 4 hj) hd
    | 5, hj, hd => den_int (hf 5 hj) hd
    | 6, hj, hd => den_int (hf 6 hj) hd
    | 7, hj, hd => den_int (hf 7 hj) hd
    | j + 8, h, _ => absurd h (by simp [neweltop_BoardedC])
theorem neweltop_BoardedC_len (x : neweltop_Boarded) : (neweltop_BoardedC.enc x).length = neweltop_BoardedC.size := rfl
def neweltop_Boarded.wf (x : neweltop_Boarded) : Prop := i64 x.Comb ∧ i64 x.Body ∧ i64 x.Ticks ∧ i64 x.Tick ∧ i64 x.Stop.Speed ∧ i64 x.Stop.Loads.Low ∧ i64 x.Stop.Loads.High ∧ i64 x.Stop.Fail
structure neweltop_Full where
  Escalator : api_Escalator
  Boarded : neweltop_Boarded
def neweltop_Full.wf (x : neweltop_Full) : Prop := True ∧ i64 x.Escalator.Empty ∧ i64 x.Escalator.Pull ∧ i64 x.Escalator.Drag ∧ i64 x.Escalator.Motor ∧ (x.Escalator.Brakes.n ≤ maxLen ∧ ∀ i, i < x.Escalator.Brakes.n → (x.Escalator.Brakes.f i).wf) ∧ i64 x.Boarded.Comb ∧ i64 x.Boarded.Body ∧ i64 x.Boarded.Ticks ∧ i64 x.Boarded.Tick ∧ i64 x.Boarded.Stop.Speed ∧ i64 x.Boarded.Stop.Loads.Low ∧ i64 x.Boarded.Stop.Loads.High ∧ i64 x.Boarded.Stop.Fail
structure api_Band where
  Up : Bool
  Pull : Int
  Drag : Int
  Body : Int
  Ride : Int
  Most : Int
  Paces : Arr Int
  Num : Int
  Den : Int
def api_Band.wf (x : api_Band) : Prop := True ∧ i64 x.Pull ∧ i64 x.Drag ∧ i64 x.Body ∧ i64 x.Ride ∧ i64 x.Most ∧ (x.Paces.n ≤ maxLen ∧ ∀ i, i < x.Paces.n → i64 ((x.Paces.f i))) ∧ i64 x.Num ∧ i64 x.Den
structure neweltop_Boarding where
  Comb : Int
  Pace : Int
  Band : api_Band
def neweltop_Boarding.wf (x : neweltop_Boarding) : Prop := i64 x.Comb ∧ i64 x.Pace ∧ True ∧ i64 x.Band.Pull ∧ i64 x.Band.Drag ∧ i64 x.Band.Body ∧ i64 x.Band.Ride ∧ i64 x.Band.Most ∧ (x.Band.Paces.n ≤ maxLen ∧ ∀ i, i < x.Band.Paces.n → i64 ((x.Band.Paces.f i))) ∧ i64 x.Band.Num ∧ i64 x.Band.Den
structure api_Lift where
  Car : Int
  Counter : Int
  Rated : Int
  Rope : Int
  Floors : Arr Int
  Num : Int
  Den : Int
  Speed : Int
  Accel : Int
  Over : Int
  Stiff : Int
  Level : Int
def api_LiftC : Cod api_Lift := ⟨(.cons (.int .i64) (.cons (.int .i64) (.cons (.int .i64) (.cons (.int .i64) (.cons (.sl intC.sg) (.cons (.int .i64) (.cons (.int .i64) (.cons (.int .i64) (.cons (.int .i64) (.cons (.int .i64) (.cons (.int .i64) (.cons (.int .i64) .nil)))))))))))), 12, fun x => [.int .i64 x.Car, .int .i64 x.Counter, .int .i64 x.Rated, .int .i64 x.Rope, slC intC x.Floors, .int .i64 x.Num, .int .i64 x.Den, .int .i64 x.Speed, .int .i64 x.Accel, .int .i64 x.Over, .int .i64 x.Stiff, .int .i64 x.Level], fun f => ⟨toI (f 0), toI (f 1), toI (f 2), toI (f 3), lstC intC (f 4), toI (f 5), toI (f 6), toI (f 7), toI (f 8), toI (f 9), toI (f 10), toI (f 11)⟩⟩
theorem api_LiftC_ok : api_LiftC.Ok where
  slen := rfl
  ck := fun x j hj => match j, hj with
    | 0, _ => rfl
    | 1, _ => rfl
    | 2, _ => rfl
    | 3, _ => rfl
    | 4, _ => rfl
    | 5, _ => rfl
    | 6, _ => rfl
    | 7, _ => rfl
    | 8, _ => rfl
    | 9, _ => rfl
    | 10, _ => rfl
    | 11, _ => rfl
    | j + 12, h => absurd h (by simp [api_LiftC])
  ok := fun f hf Z w j v hj hd => match j, hj, hd with
    | 0, hj, hd => den_int (hf 0 hj) hd
    | 1, hj, hd => den_int (hf 1 hj) hd
    | 2, hj, hd => den_int (hf 2 hj) hd
    | 3, hj, hd => den_int (hf 3 hj) hd
    | 4, hj, hd => den_slC intC_ok (hf 4 hj) hd
    | 5, hj, hd => den_int (hf 5 hj) hd
    | 6, hj, hd => den_int (hf 6 hj) hd
    | 7, hj, hd => den_int (hf 7 hj) hd
    | 8, hj, hd => den_int (hf 8 hj) hd
    | 9, hj, hd => den_int (hf 9 hj) hd
    | 10, hj, hd => den_int (hf 10 hj) hd
    | 11, hj, hd => den_int (hf 11 hj) hd
    | j + 12, h, _ => absurd h (by simp [api_LiftC])
theorem api_LiftC_len (x : api_Lift) : (api_LiftC.enc x).length = api_LiftC.size := rfl
def api_Lift.wf (x : api_Lift) : Prop := i64 x.Car ∧ i64 x.Counter ∧ i64 x.Rated ∧ i64 x.Rope ∧ (x.Floors.n ≤ maxLen ∧ ∀ i, i < x.Floors.n → i64 ((x.Floors.f i))) ∧ i64 x.Num ∧ i64 x.Den ∧ i64 x.Speed ∧ i64 x.Accel ∧ i64 x.Over ∧ i64 x.Stiff ∧ i64 x.Level
structure neweltop_Laden where
  Lift : api_Lift
  Boarded : neweltop_Boarded
  Accel : Int
  Height : Int
def neweltop_LadenC : Cod neweltop_Laden := ⟨(.cons (.int .i64) (.cons (.int .i64) (.cons (.int .i64) (.cons (.int .i64) (.cons (.sl intC.sg) (.cons (.int .i64) (.cons (.int .i64) (.cons (.int .i64) (.cons (.int .i64) (.cons (.int .i64) (.cons (.int .i64) (.cons (.int .i64) (.cons (.int .i64) (.cons (.int .i64) (.cons (.int .i64) (.cons (.int .i64) (.cons (.int .i64) (.cons (.int .i64) (.cons (.int .i64) (.cons (.int .i64) (.cons (.int .i64) (.cons (.int .i64) .nil)))))))))))))))))))))), 22, fun x => [.int .i64 x.Lift.Car, .int .i64 x.Lift.Counter, .int .i64 x.Lift.Rated, .int .i64 x.Lift.Rope, slC intC x.Lift.Floors, .int .i64 x.Lift.Num, .int .i64 x.Lift.Den, .int .i64 x.Lift.Speed, .int .i64 x.Lift.Accel, .int .i64 x.Lift.Over, .int .i64 x.Lift.Stiff, .int .i64 x.Lift.Level, .int .i64 x.Boarded.Comb, .int .i64 x.Boarded.Body, .int .i64 x.Boarded.Ticks, .int .i64 x.Boarded.Tick, .int .i64 x.Boarded.Stop.Speed, .int .i64 x.Boarded.Stop.Loads.Low, .int .i64 x.Boarded.Stop.Loads.High, .int .i64 x.Boarded.Stop.Fail, .int .i64 x.Accel, .int .i64 x.Height], fun f => ⟨⟨toI (f 0), toI (f 1), toI (f 2), toI (f 3), lstC intC (f 4), toI (f 5), toI (f 6), toI (f 7), toI (f 8), toI (f 9), toI (f 10), toI (f 11)⟩, ⟨toI (f 12), toI (f 13), toI (f 14), toI (f 15), ⟨toI (f 16), ⟨toI (f 17), toI (f 18)⟩, toI (f 19)⟩⟩, toI (f 20), toI (f 21)⟩⟩
theorem neweltop_LadenC_ok : neweltop_LadenC.Ok where
  slen := rfl
  ck := fun x j hj => match j, hj with
    | 0, _ => rfl
    | 1, _ => rfl
    | 2, _ => rfl
    | 3, _ => rfl
    | 4, _ => rfl
    | 5, _ => rfl
    | 6, _ => rfl
    | 7, _ => rfl
    | 8, _ => rfl
    | 9, _ => rfl
    | 10, _ => rfl
    | 11, _ => rfl
    | 12, _ => rfl
    | 13, _ => rfl
    | 14, _ => rfl
    | 15, _ => rfl
    | 16, _ => rfl
    | 17, _ => rfl
    | 18, _ => rfl
    | 19, _ => rfl
    | 20, _ => rfl
    | 21, _ => rfl
    | j + 22, h => absurd h (by simp [neweltop_LadenC])
  ok := fun f hf Z w j v hj hd => match j, hj, hd with
    | 0, hj, hd => den_int (hf 0 hj) hd
    | 1, hj, hd => den_int (hf 1 hj) hd
    | 2, hj, hd => den_int (hf 2 hj) hd
    | 3, hj, hd => den_int (hf 3 hj) hd
    | 4, hj, hd => den_slC intC_ok (hf 4 hj) hd
    | 5, hj, hd => den_int (hf 5 hj) hd
    | 6, hj, hd => den_int (hf 6 hj) hd
    | 7, hj, hd => den_int (hf 7 hj) hd
    | 8, hj, hd => den_int (hf 8 hj) hd
    | 9, hj, hd => den_int (hf 9 hj) hd
    | 10, hj, hd => den_int (hf 10 hj) hd
    | 11, hj, hd => den_int (hf 11 hj) hd
    | 12, hj, hd => den_int (hf 12 hj) hd
    | 13, hj, hd => den_int (hf 13 hj) hd
    | 14, hj, hd => den_int (hf 14 hj) hd
    | 15, hj, hd => den_int (hf 15 hj) hd
    | 16, hj, hd => den_int (hf 16 hj) hd
    | 17, hj, hd => den_int (hf 17 hj) hd
    | 18, hj, hd => den_int (hf 18 hj) hd
    | 19, hj, hd => den_int (hf 19 hj) hd
    | 20, hj, hd => den_int (hf 20 hj) hd
    | 21, hj, hd => den_int (hf 21 hj) hd
    | j + 22, h, _ => absurd h (by simp [neweltop_LadenC])
theorem neweltop_LadenC_len (x : neweltop_Laden) : (neweltop_LadenC.enc x).length = neweltop_LadenC.size := rfl
def neweltop_Laden.wf (x : neweltop_Laden) : Prop := i64 x.Lift.Car ∧ i64 x.Lift.Counter ∧ i64 x.Lift.Rated ∧ i64 x.Lift.Rope ∧ (x.Lift.Floors.n ≤ maxLen ∧ ∀ i, i < x.Lift.Floors.n → i64 ((x.Lift.Floors.f i))) ∧ i64 x.Lift.Num ∧ i64 x.Lift.Den ∧ i64 x.Lift.Speed ∧ i64 x.Lift.Accel ∧ i64 x.Lift.Over ∧ i64 x.Lift.Stiff ∧ i64 x.Lift.Level ∧ i64 x.Boarded.Comb ∧ i64 x.Boarded.Body ∧ i64 x.Boarded.Ticks ∧ i64 x.Boarded.Tick ∧ i64 x.Boarded.Stop.Speed ∧ i64 x.Boarded.Stop.Loads.Low ∧ i64 x.Boarded.Stop.Loads.High ∧ i64 x.Boarded.Stop.Fail ∧ i64 x.Accel ∧ i64 x.Height
theorem neweltop_LadenC_rng {g : Nat → SV} (h : rng neweltop_LadenC.sg g 0) : (neweltop_LadenC.dec g).wf := by
  obtain ⟨h0, h1, h2, h3, h4, h5, h6, h7, h8, h9, h10, h11, h12, h13, h14, h15, h16, h17, h18, h19, h20, h21, _⟩ := h
  exact ⟨rng_i64 h0, rng_i64 h1, rng_i64 h2, rng_i64 h3, rng_sl (C := intC) (P := fun y => i64 y) (fun _ h => rng_i64 h.1) h4, rng_i64 h5, rng_i64 h6, rng_i64 h7, rng_i64 h8, rng_i64 h9, rng_i64 h10, rng_i64 h11, rng_i64 h12, rng_i64 h13, rng_i64 h14, rng_i64 h15, rng_i64 h16, rng_i64 h17, rng_i64 h18, rng_i64 h19, rng_i64 h20, rng_i64 h21⟩
structure api_Wire where
  Kind : Int
  Of : Arr Int
def api_Wire.wf (x : api_Wire) : Prop := i64 x.Kind ∧ (x.Of.n ≤ maxLen ∧ ∀ i, i < x.Of.n → i64 ((x.Of.f i)))
structure api_Circuit where
  Hazards : Int
  Switches : Arr Int
  Wires : Arr api_Wire
def api_Circuit.wf (x : api_Circuit) : Prop := i64 x.Hazards ∧ (x.Switches.n ≤ maxLen ∧ ∀ i, i < x.Switches.n → i64 ((x.Switches.f i))) ∧ (x.Wires.n ≤ maxLen ∧ ∀ i, i < x.Wires.n → (x.Wires.f i).wf)
structure drive_stopped where
  f_way : Int
  f_loads : Arr Int
  f_rests : Bool
def drive_stopped.wf (x : drive_stopped) : Prop := i64 x.f_way ∧ (x.f_loads.n ≤ maxLen ∧ ∀ i, i < x.f_loads.n → i64 ((x.f_loads.f i))) ∧ True
structure drive_motion where
  f_e : api_Escalator
  f_s : api_Stop
  f_speed : Int
  f_time : Int
def drive_motion.wf (x : drive_motion) : Prop := True ∧ i64 x.f_e.Empty ∧ i64 x.f_e.Pull ∧ i64 x.f_e.Drag ∧ i64 x.f_e.Motor ∧ (x.f_e.Brakes.n ≤ maxLen ∧ ∀ i, i < x.f_e.Brakes.n → (x.f_e.Brakes.f i).wf) ∧ i64 x.f_s.Speed ∧ i64 x.f_s.Loads.Low ∧ i64 x.f_s.Loads.High ∧ i64 x.f_s.Fail ∧ i64 x.f_speed ∧ i64 x.f_time
structure api_Trial where
  Hazards : Int
  Wire : Int
def api_Trial.wf (x : api_Trial) : Prop := i64 x.Hazards ∧ i64 x.Wire
structure Arr2_int where
  a0 : Int
  a1 : Int
def Arr2_int.wf (x : Arr2_int) : Prop := i64 x.a0 ∧ i64 x.a1
structure circuit_state where
  f_c : api_Circuit
  f_hazards : Int
  f_closed : Int
  f_open : Int
def circuit_state.wf (x : circuit_state) : Prop := i64 x.f_c.Hazards ∧ (x.f_c.Switches.n ≤ maxLen ∧ ∀ i, i < x.f_c.Switches.n → i64 ((x.f_c.Switches.f i))) ∧ (x.f_c.Wires.n ≤ maxLen ∧ ∀ i, i < x.f_c.Wires.n → (x.f_c.Wires.f i).wf) ∧ i64 x.f_hazards ∧ i64 x.f_closed ∧ i64 x.f_open
end Go.Proofs.Ytlikcijophbkbaa
