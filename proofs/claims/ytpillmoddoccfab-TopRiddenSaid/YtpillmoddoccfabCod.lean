import Derived.Test.YtpillmoddoccfabEnv
import Derived.Test.YtpillmoddoccfabSxEnd
set_option linter.unusedVariables false
namespace Go.Proofs.Ytpillmoddoccfab
open Go.Sx
structure api_Lift where
  Car : Int
  Counter : Int
  Rated : Int
  Rope : Int
  Floors : Arr Int
  Num : Int
  Den : Int
  Speed : Int
  Accel : Int
  Over : Int
  Stiff : Int
  Level : Int
def api_LiftC : Cod api_Lift := ⟨(.cons (.int .i64) (.cons (.int .i64) (.cons (.int .i64) (.cons (.int .i64) (.cons (.sl intC.sg) (.cons (.int .i64) (.cons (.int .i64) (.cons (.int .i64) (.cons (.int .i64) (.cons (.int .i64) (.cons (.int .i64) (.cons (.int .i64) .nil)))))))))))), 12, fun x => [.int .i64 x.Car, .int .i64 x.Counter, .int .i64 x.Rated, .int .i64 x.Rope, slC intC x.Floors, .int .i64 x.Num, .int .i64 x.Den, .int .i64 x.Speed, .int .i64 x.Accel, .int .i64 x.Over, .int .i64 x.Stiff, .int .i64 x.Level], fun f => ⟨toI (f 0), toI (f 1), toI (f 2), toI (f 3), lstC intC (f 4), toI (f 5), toI (f 6), toI (f 7), toI (f 8), toI (f 9), toI (f 10), toI (f 11)⟩⟩
theorem api_LiftC_ok : api_LiftC.Ok where
  slen := rfl
  ck := fun x j hj => match j, hj with
    | 0, _ => rfl
    | 1, _ => rfl
    | 2, _ => rfl
    | 3, _ => rfl
    | 4, _ => rfl
    | 5, _ => rfl
    | 6, _ => rfl
    | 7, _ => rfl
    | 8, _ => rfl
    | 9, _ => rfl
    | 10, _ => rfl
    | 11, _ => rfl
    | j + 12, h => absurd h (by simp [api_LiftC])
  ok := fun f hf Z w j v hj hd => match j, hj, hd with
    | 0, hj, hd => den_int (hf 0 hj) hd
    | 1, hj, hd => den_int (hf 1 hj) hd
    | 2, hj, hd => den_int (hf 2 hj) hd
    | 3, hj, hd => den_int (hf 3 hj) hd
    | 4, hj, hd => den_slC intC_ok (hf 4 hj) hd
    | 5, hj, hd => den_int (hf 5 hj) hd
    | 6, hj, hd => den_int (hf 6 hj) hd
    | 7, hj, hd => den_int (hf 7 hj) hd
    | 8, hj, hd => den_int (hf 8 hj) hd
    | 9, hj, hd => den_int (hf 9 hj) hd
    | 10, hj, hd => den_int (hf 10 hj) hd
    | 11, hj, hd => den_int (hf 11 hj) hd
    | j + 12, h, _ => absurd h (by simp [api_LiftC])
theorem api_LiftC_len (x : api_Lift) : (api_LiftC.enc x).length = api_LiftC.size := rfl
def api_Lift.wf (x : api_Lift) : Prop := i64 x.Car ∧ i64 x.Counter ∧ i64 x.Rated ∧ i64 x.Rope ∧ (x.Floors.n ≤ maxLen ∧ ∀ i, i < x.Floors.n → i64 ((x.Floors.f i))) ∧ i64 x.Num ∧ i64 x.Den ∧ i64 x.Speed ∧ i64 x.Accel ∧ i64 x.Over ∧ i64 x.Stiff ∧ i64 x.Level
theorem api_LiftC_rng {g : Nat → SV} (h : rng api_LiftC.sg g 0) : (api_LiftC.dec g).wf := by
  obtain ⟨h0, h1, h2, h3, h4, h5, h6, h7, h8, h9, h10, h11, _⟩ := h
  exact ⟨rng_i64 h0, rng_i64 h1, rng_i64 h2, rng_i64 h3, rng_sl (C := intC) (P := fun y => i64 y) (fun _ h => rng_i64 h.1) h4, rng_i64 h5, rng_i64 h6, rng_i64 h7, rng_i64 h8, rng_i64 h9, rng_i64 h10, rng_i64 h11⟩
structure api_Door where
  Wide : Int
  Wait : Int
def api_DoorC : Cod api_Door := ⟨(.cons (.int .i64) (.cons (.int .i64) .nil)), 2, fun x => [.int .i64 x.Wide, .int .i64 x.Wait], fun f => ⟨toI (f 0), toI (f 1)⟩⟩
theorem api_DoorC_ok : api_DoorC.Ok where
  slen := rfl
  ck := fun x j hj => match j, hj with
    | 0, _ => rfl
    | 1, _ => rfl
    | j + 2, h => absurd h (by simp [api_DoorC])
  ok := fun f hf Z w j v hj hd => match j, hj, hd with
    | 0, hj, hd => den_int (hf 0 hj) hd
    | 1, hj, hd => den_int (hf 1 hj) hd
    | j + 2, h, _ => absurd h (by simp [api_DoorC])
theorem api_DoorC_len (x : api_Door) : (api_DoorC.enc x).length = api_DoorC.size := rfl
def api_Door.wf (x : api_Door) : Prop := i64 x.Wide ∧ i64 x.Wait
structure neweltop_Tour where
  From : Int
  Over : Int
  To : Int
  Breaks : Arr Int
  Most : Int
def neweltop_Tour.wf (x : neweltop_Tour) : Prop := i64 x.From ∧ i64 x.Over ∧ i64 x.To ∧ (x.Breaks.n ≤ maxLen ∧ ∀ i, i < x.Breaks.n → i64 ((x.Breaks.f i))) ∧ i64 x.Most
structure api_Car where
  Low : Int
  High : Int
  Start : Int
  Move : Int
  Stop : Int
def api_CarC : Cod api_Car := ⟨(.cons (.int .i64) (.cons (.int .i64) (.cons (.int .i64) (.cons (.int .i64) (.cons (.int .i64) .nil))))), 5, fun x => [.int .i64 x.Low, .int .i64 x.High, .int .i64 x.Start, .int .i64 x.Move, .int .i64 x.Stop], fun f => ⟨toI (f 0), toI (f 1), toI (f 2), toI (f 3), toI (f 4)⟩⟩
theorem api_CarC_ok : api_CarC.Ok where
  slen := rfl
  ck := fun x j hj => match j, hj with
    | 0, _ => rfl
    | 1, _ => rfl
    | 2, _ => rfl
    | 3, _ => rfl
    | 4, _ => rfl
    | j + 5, h => absurd h (by simp [api_CarC])
  ok := fun f hf Z w j v hj hd => match j, hj, hd with
    | 0, hj, hd => den_int (hf 0 hj) hd
    | 1, hj, hd => den_int (hf 1 hj) hd
    | 2, hj, hd => den_int (hf 2 hj) hd
    | 3, hj, hd => den_int (hf 3 hj) hd
    | 4, hj, hd => den_int (hf 4 hj) hd
    | j + 5, h, _ => absurd h (by simp [api_CarC])
theorem api_CarC_len (x : api_Car) : (api_CarC.enc x).length = api_CarC.size := rfl
def api_Car.wf (x : api_Car) : Prop := i64 x.Low ∧ i64 x.High ∧ i64 x.Start ∧ i64 x.Move ∧ i64 x.Stop
theorem api_CarC_rng {g : Nat → SV} (h : rng api_CarC.sg g 0) : (api_CarC.dec g).wf := by
  obtain ⟨h0, h1, h2, h3, h4, _⟩ := h
  exact ⟨rng_i64 h0, rng_i64 h1, rng_i64 h2, rng_i64 h3, rng_i64 h4⟩
structure api_Passage where
  A : Int
  B : Int
  Kind : Int
  Ticks : Int
  Wide : Int
  Machine : Int
  Still : Int
def api_PassageC : Cod api_Passage := ⟨(.cons (.int .i64) (.cons (.int .i64) (.cons (.int .i64) (.cons (.int .i64) (.cons (.int .i64) (.cons (.int .i64) (.cons (.int .i64) .nil))))))), 7, fun x => [.int .i64 x.A, .int .i64 x.B, .int .i64 x.Kind, .int .i64 x.Ticks, .int .i64 x.Wide, .int .i64 x.Machine, .int .i64 x.Still], fun f => ⟨toI (f 0), toI (f 1), toI (f 2), toI (f 3), toI (f 4), toI (f 5), toI (f 6)⟩⟩
theorem api_PassageC_ok : api_PassageC.Ok where
  slen := rfl
  ck := fun x j hj => match j, hj with
    | 0, _ => rfl
    | 1, _ => rfl
    | 2, _ => rfl
    | 3, _ => rfl
    | 4, _ => rfl
    | 5, _ => rfl
    | 6, _ => rfl
    | j + 7, h => absurd h (by simp [api_PassageC])
  ok := fun f hf Z w j v hj hd => match j, hj, hd with
    | 0, hj, hd => den_int (hf 0 hj) hd
    | 1, hj, hd => den_int (hf 1 hj) hd
    | 2, hj, hd => den_int (hf 2 hj) hd
    | 3, hj, hd => den_int (hf 3 hj) hd
    | 4, hj, hd => den_int (hf 4 hj) hd
    | 5, hj, hd => den_int (hf 5 hj) hd
    | 6, hj, hd => den_int (hf 6 hj) hd
    | j + 7, h, _ => absurd h (by simp [api_PassageC])
theorem api_PassageC_len (x : api_Passage) : (api_PassageC.enc x).length = api_PassageC.size := rfl
def api_Passage.wf (x : api_Passage) : Prop := i64 x.A ∧ i64 x.B ∧ i64 x.Kind ∧ i64 x.Ticks ∧ i64 x.Wide ∧ i64 x.Machine ∧ i64 x.Still
structure api_Station where
  Places : Int
  Passages : Arr api_Passage
  Exits : Arr Int
def api_StationC : Cod api_Station := ⟨(.cons (.int .i64) (.cons (.sl api_PassageC.sg) (.cons (.sl intC.sg) .nil))), 3, fun x => [.int .i64 x.Places, slC api_PassageC x.Passages, slC intC x.Exits], fun f => ⟨toI (f 0), lstC api_PassageC (f 1), lstC intC (f 2)⟩⟩
theorem api_StationC_ok : api_StationC.Ok where
  slen := rfl
  ck := fun x j hj => match j, hj with
    | 0, _ => rfl
    | 1, _ => rfl
    | 2, _ => rfl
    | j + 3, h => absurd h (by simp [api_StationC])
  ok := fun f hf Z w j v hj hd => match j, hj, hd with
    | 0, hj, hd => den_int (hf 0 hj) hd
    | 1, hj, hd => den_slC api_PassageC_ok (hf 1 hj) hd
    | 2, hj, hd => den_slC intC_ok (hf 2 hj) hd
    | j + 3, h, _ => absurd h (by simp [api_StationC])
theorem api_StationC_len (x : api_Station) : (api_StationC.enc x).length = api_StationC.size := rfl
def api_Station.wf (x : api_Station) : Prop := i64 x.Places ∧ (x.Passages.n ≤ maxLen ∧ ∀ i, i < x.Passages.n → (x.Passages.f i).wf) ∧ (x.Exits.n ≤ maxLen ∧ ∀ i, i < x.Exits.n → i64 ((x.Exits.f i)))
structure newellaw08_Trip where
  Out : Int
  Help : Bool
  From : Int
  To : Int
def newellaw08_Trip.wf (x : newellaw08_Trip) : Prop := i64 x.Out ∧ True ∧ i64 x.From ∧ i64 x.To
structure api_Job where
  Machine : Int
  Nights : Int
  After : Arr Int
def api_Job.wf (x : api_Job) : Prop := i64 x.Machine ∧ i64 x.Nights ∧ (x.After.n ≤ maxLen ∧ ∀ i, i < x.After.n → i64 ((x.After.f i)))
structure api_Works where
  Machines : Int
  Jobs : Arr api_Job
  Never : Arr Int
  Crews : Int
  Until : Int
def api_Works.wf (x : api_Works) : Prop := i64 x.Machines ∧ (x.Jobs.n ≤ maxLen ∧ ∀ i, i < x.Jobs.n → (x.Jobs.f i).wf) ∧ (x.Never.n ≤ maxLen ∧ ∀ i, i < x.Never.n → i64 ((x.Never.f i))) ∧ i64 x.Crews ∧ i64 x.Until
structure newellaw09_Planned where
  Works : api_Works
  Starts : Arr Int
def newellaw09_Planned.wf (x : newellaw09_Planned) : Prop := i64 x.Works.Machines ∧ (x.Works.Jobs.n ≤ maxLen ∧ ∀ i, i < x.Works.Jobs.n → (x.Works.Jobs.f i).wf) ∧ (x.Works.Never.n ≤ maxLen ∧ ∀ i, i < x.Works.Never.n → i64 ((x.Works.Never.f i))) ∧ i64 x.Works.Crews ∧ i64 x.Works.Until ∧ (x.Starts.n ≤ maxLen ∧ ∀ i, i < x.Starts.n → i64 ((x.Starts.f i)))
structure api_Span where
  Low : Int
  High : Int
def api_Span.wf (x : api_Span) : Prop := i64 x.Low ∧ i64 x.High
structure api_Comb where
  Rate : Int
  Limit : Int
  Next : Int
  Walk : api_Span
def api_Comb.wf (x : api_Comb) : Prop := i64 x.Rate ∧ i64 x.Limit ∧ i64 x.Next ∧ i64 x.Walk.Low ∧ i64 x.Walk.High
structure api_Crowd where
  Comb : Int
  People : api_Span
def api_Crowd.wf (x : api_Crowd) : Prop := i64 x.Comb ∧ i64 x.People.Low ∧ i64 x.People.High
structure api_Train where
  At : api_Span
  Crowds : Arr api_Crowd
def api_Train.wf (x : api_Train) : Prop := i64 x.At.Low ∧ i64 x.At.High ∧ (x.Crowds.n ≤ maxLen ∧ ∀ i, i < x.Crowds.n → (x.Crowds.f i).wf)
structure api_Shift where
  At : Int
  Comb : Int
  Rate : Int
def api_Shift.wf (x : api_Shift) : Prop := i64 x.At ∧ i64 x.Comb ∧ i64 x.Rate
structure api_Hall where
  Combs : Arr api_Comb
  Trains : Arr api_Train
  Shifts : Arr api_Shift
  Until : Int
def api_Hall.wf (x : api_Hall) : Prop := (x.Combs.n ≤ maxLen ∧ ∀ i, i < x.Combs.n → (x.Combs.f i).wf) ∧ (x.Trains.n ≤ maxLen ∧ ∀ i, i < x.Trains.n → (x.Trains.f i).wf) ∧ (x.Shifts.n ≤ maxLen ∧ ∀ i, i < x.Shifts.n → (x.Shifts.f i).wf) ∧ i64 x.Until
structure api_Day where
  At : Arr Int
  People : Arr (Arr Int)
  Walks : Arr (Arr Int)
def api_Day.wf (x : api_Day) : Prop := (x.At.n ≤ maxLen ∧ ∀ i, i < x.At.n → i64 ((x.At.f i))) ∧ (x.People.n ≤ maxLen ∧ ∀ i, i < x.People.n → ((x.People.f i).n ≤ maxLen ∧ ∀ i1, i1 < (x.People.f i).n → i64 (((x.People.f i).f i1)))) ∧ (x.Walks.n ≤ maxLen ∧ ∀ i, i < x.Walks.n → ((x.Walks.f i).n ≤ maxLen ∧ ∀ i1, i1 < (x.Walks.f i).n → i64 (((x.Walks.f i).f i1))))
structure api_Stop where
  Speed : Int
  Loads : api_Span
  Fail : Int
def api_Stop.wf (x : api_Stop) : Prop := i64 x.Speed ∧ i64 x.Loads.Low ∧ i64 x.Loads.High ∧ i64 x.Fail
structure neweltop_Boarded where
  Comb : Int
  Body : Int
  Ticks : Int
  Tick : Int
  Stop : api_Stop
def neweltop_Boarded.wf (x : neweltop_Boarded) : Prop := i64 x.Comb ∧ i64 x.Body ∧ i64 x.Ticks ∧ i64 x.Tick ∧ i64 x.Stop.Speed ∧ i64 x.Stop.Loads.Low ∧ i64 x.Stop.Loads.High ∧ i64 x.Stop.Fail
structure neweltop_Laden where
  Lift : api_Lift
  Boarded : neweltop_Boarded
  Accel : Int
  Height : Int
def neweltop_Laden.wf (x : neweltop_Laden) : Prop := i64 x.Lift.Car ∧ i64 x.Lift.Counter ∧ i64 x.Lift.Rated ∧ i64 x.Lift.Rope ∧ (x.Lift.Floors.n ≤ maxLen ∧ ∀ i, i < x.Lift.Floors.n → i64 ((x.Lift.Floors.f i))) ∧ i64 x.Lift.Num ∧ i64 x.Lift.Den ∧ i64 x.Lift.Speed ∧ i64 x.Lift.Accel ∧ i64 x.Lift.Over ∧ i64 x.Lift.Stiff ∧ i64 x.Lift.Level ∧ i64 x.Boarded.Comb ∧ i64 x.Boarded.Body ∧ i64 x.Boarded.Ticks ∧ i64 x.Boarded.Tick ∧ i64 x.Boarded.Stop.Speed ∧ i64 x.Boarded.Stop.Loads.Low ∧ i64 x.Boarded.Stop.Loads.High ∧ i64 x.Boarded.Stop.Fail ∧ i64 x.Accel ∧ i64 x.Height
structure api_Part where
  Rates : Arr api_Span
  Worn : Int
  Turns : Int
  Age : Int
def api_Part.wf (x : api_Part) : Prop := (x.Rates.n ≤ maxLen ∧ ∀ i, i < x.Rates.n → (x.Rates.f i).wf) ∧ i64 x.Worn ∧ i64 x.Turns ∧ i64 x.Age
structure neweltop_Worked where
  Part : api_Part
  Class : Int
  Split : Int
def neweltop_Worked.wf (x : neweltop_Worked) : Prop := (x.Part.Rates.n ≤ maxLen ∧ ∀ i, i < x.Part.Rates.n → (x.Part.Rates.f i).wf) ∧ i64 x.Part.Worn ∧ i64 x.Part.Turns ∧ i64 x.Part.Age ∧ i64 x.Class ∧ i64 x.Split
structure api_Use where
  Day : Int
  Turns : Int
  Class : Int
  Measured : Bool
  Says : api_Span
def api_Use.wf (x : api_Use) : Prop := i64 x.Day ∧ i64 x.Turns ∧ i64 x.Class ∧ True ∧ i64 x.Says.Low ∧ i64 x.Says.High
structure api_Ride where
  Floor : Int
  Up : Bool
  Stood : Bool
  Doing : Int
  Left : Int
  Wants : Int
def api_Ride.wf (x : api_Ride) : Prop := i64 x.Floor ∧ True ∧ True ∧ i64 x.Doing ∧ i64 x.Left ∧ i64 x.Wants
structure api_Press where
  At : Int
  Floor : Int
def api_PressC : Cod api_Press := ⟨(.cons (.int .i64) (.cons (.int .i64) .nil)), 2, fun x => [.int .i64 x.At, .int .i64 x.Floor], fun f => ⟨toI (f 0), toI (f 1)⟩⟩
theorem api_PressC_ok : api_PressC.Ok where
  slen := rfl
  ck := fun x j hj => match j, hj with
    | 0, _ => rfl
    | 1, _ => rfl
    | j + 2, h => absurd h (by simp [api_PressC])
  ok := fun f hf Z w j v hj hd => match j, hj, hd with
    | 0, hj, hd => den_int (hf 0 hj) hd
    | 1, hj, hd => den_int (hf 1 hj) hd
    | j + 2, h, _ => absurd h (by simp [api_PressC])
def api_Press.wf (x : api_Press) : Prop := i64 x.At ∧ i64 x.Floor
theorem api_PressC_rng {g : Nat → SV} (h : rng api_PressC.sg g 0) : (api_PressC.dec g).wf := by
  obtain ⟨h0, h1, _⟩ := h
  exact ⟨rng_i64 h0, rng_i64 h1⟩
structure neweltop_Served where
  Door : api_Door
  Presses : Arr api_Press
  From : Int
  To : Int
  Most : Int
  Breaks : Arr Int
def neweltop_ServedC : Cod neweltop_Served := ⟨(.cons (.int .i64) (.cons (.int .i64) (.cons (.sl api_PressC.sg) (.cons (.int .i64) (.cons (.int .i64) (.cons (.int .i64) (.cons (.sl intC.sg) .nil))))))), 7, fun x => [.int .i64 x.Door.Wide, .int .i64 x.Door.Wait, slC api_PressC x.Presses, .int .i64 x.From, .int .i64 x.To, .int .i64 x.Most, slC intC x.Breaks], fun f => ⟨⟨toI (f 0), toI (f 1)⟩, lstC api_PressC (f 2), toI (f 3), toI (f 4), toI (f 5), lstC intC (f 6)⟩⟩
theorem neweltop_ServedC_ok : neweltop_ServedC.Ok where
  slen := rfl
  ck := fun x j hj => match j, hj with
    | 0, _ => rfl
    | 1, _ => rfl
    | 2, _ => rfl
    | 3, _ => rfl
    | 4, _ => rfl
    | 5, _ => rfl
    | 6, _ => rfl
    | j + 7, h => absurd h (by simp [neweltop_ServedC])
  ok := fun f hf Z w j v hj hd => match j, hj, hd with
    | 0, hj, hd => den_int (hf 0 hj) hd
    | 1, hj, hd => den_int (hf 1 hj) hd
    | 2, hj, hd => den_slC api_PressC_ok (hf 2 hj) hd
    | 3, hj, hd => den_int (hf 3 hj) hd
    | 4, hj, hd => den_int (hf 4 hj) hd
    | 5, hj, hd => den_int (hf 5 hj) hd
    | 6, hj, hd => den_slC intC_ok (hf 6 hj) hd
    | j + 7, h, _ => absurd h (by simp [neweltop_ServedC])
theorem neweltop_ServedC_len (x : neweltop_Served) : (neweltop_ServedC.enc x).length = neweltop_ServedC.size := rfl
def neweltop_Served.wf (x : neweltop_Served) : Prop := i64 x.Door.Wide ∧ i64 x.Door.Wait ∧ (x.Presses.n ≤ maxLen ∧ ∀ i, i < x.Presses.n → (x.Presses.f i).wf) ∧ i64 x.From ∧ i64 x.To ∧ i64 x.Most ∧ (x.Breaks.n ≤ maxLen ∧ ∀ i, i < x.Breaks.n → i64 ((x.Breaks.f i)))
theorem neweltop_ServedC_rng {g : Nat → SV} (h : rng neweltop_ServedC.sg g 0) : (neweltop_ServedC.dec g).wf := by
  obtain ⟨h0, h1, h2, h3, h4, h5, h6, _⟩ := h
  exact ⟨rng_i64 h0, rng_i64 h1, rng_sl (C := api_PressC) (P := fun y => y.wf) (fun _ h => api_PressC_rng h) h2, rng_i64 h3, rng_i64 h4, rng_i64 h5, rng_sl (C := intC) (P := fun y => i64 y) (fun _ h => rng_i64 h.1) h6⟩
structure api_Brake where
  Force : Int
  Delay : Int
def api_Brake.wf (x : api_Brake) : Prop := i64 x.Force ∧ i64 x.Delay
structure api_Escalator where
  Up : Bool
  Empty : Int
  Pull : Int
  Drag : Int
  Motor : Int
  Brakes : Arr api_Brake
def api_Escalator.wf (x : api_Escalator) : Prop := True ∧ i64 x.Empty ∧ i64 x.Pull ∧ i64 x.Drag ∧ i64 x.Motor ∧ (x.Brakes.n ≤ maxLen ∧ ∀ i, i < x.Brakes.n → (x.Brakes.f i).wf)
structure api_Wire where
  Kind : Int
  Of : Arr Int
def api_Wire.wf (x : api_Wire) : Prop := i64 x.Kind ∧ (x.Of.n ≤ maxLen ∧ ∀ i, i < x.Of.n → i64 ((x.Of.f i)))
structure api_Circuit where
  Hazards : Int
  Switches : Arr Int
  Wires : Arr api_Wire
def api_Circuit.wf (x : api_Circuit) : Prop := i64 x.Hazards ∧ (x.Switches.n ≤ maxLen ∧ ∀ i, i < x.Switches.n → i64 ((x.Switches.f i))) ∧ (x.Wires.n ≤ maxLen ∧ ∀ i, i < x.Wires.n → (x.Wires.f i).wf)
structure lift_leaf where
  Door : api_Door
  f_at : Int
  f_does : Int
  f_left : Int
def lift_leafC : Cod lift_leaf := ⟨(.cons (.int .i64) (.cons (.int .i64) (.cons (.int .i64) (.cons (.int .i64) (.cons (.int .i64) .nil))))), 5, fun x => [.int .i64 x.Door.Wide, .int .i64 x.Door.Wait, .int .i64 x.f_at, .int .i64 x.f_does, .int .i64 x.f_left], fun f => ⟨⟨toI (f 0), toI (f 1)⟩, toI (f 2), toI (f 3), toI (f 4)⟩⟩
theorem lift_leafC_ok : lift_leafC.Ok where
  slen := rfl
  ck := fun x j hj => match j, hj with
    | 0, _ => rfl
    | 1, _ => rfl
    | 2, _ => rfl
    | 3, _ => rfl
    | 4, _ => rfl
    | j + 5, h => absurd h (by simp [lift_leafC])
  ok := fun f hf Z w j v hj hd => match j, hj, hd with
    | 0, hj, hd => den_int (hf 0 hj) hd
    | 1, hj, hd => den_int (hf 1 hj) hd
    | 2, hj, hd => den_int (hf 2 hj) hd
    | 3, hj, hd => den_int (hf 3 hj) hd
    | 4, hj, hd => den_int (hf 4 hj) hd
    | j + 5, h, _ => absurd h (by simp [lift_leafC])
theorem lift_leafC_len (x : lift_leaf) : (lift_leafC.enc x).length = lift_leafC.size := rfl
def lift_leaf.wf (x : lift_leaf) : Prop := i64 x.Door.Wide ∧ i64 x.Door.Wait ∧ i64 x.f_at ∧ i64 x.f_does ∧ i64 x.f_left
structure ways_level where
  Station : api_Station
  f_out : Int
  f_help : Bool
def ways_levelC : Cod ways_level := ⟨(.cons (.int .i64) (.cons (.sl api_PassageC.sg) (.cons (.sl intC.sg) (.cons (.int .i64) (.cons .bool .nil))))), 5, fun x => [.int .i64 x.Station.Places, slC api_PassageC x.Station.Passages, slC intC x.Station.Exits, .int .i64 x.f_out, .bool x.f_help], fun f => ⟨⟨toI (f 0), lstC api_PassageC (f 1), lstC intC (f 2)⟩, toI (f 3), toB (f 4)⟩⟩
theorem ways_levelC_ok : ways_levelC.Ok where
  slen := rfl
  ck := fun x j hj => match j, hj with
    | 0, _ => rfl
    | 1, _ => rfl
    | 2, _ => rfl
    | 3, _ => rfl
    | 4, _ => rfl
    | j + 5, h => absurd h (by simp [ways_levelC])
  ok := fun f hf Z w j v hj hd => match j, hj, hd with
    | 0, hj, hd => den_int (hf 0 hj) hd
    | 1, hj, hd => den_slC api_PassageC_ok (hf 1 hj) hd
    | 2, hj, hd => den_slC intC_ok (hf 2 hj) hd
    | 3, hj, hd => den_int (hf 3 hj) hd
    | 4, hj, hd => den_bool (hf 4 hj) hd
    | j + 5, h, _ => absurd h (by simp [ways_levelC])
theorem ways_levelC_len (x : ways_level) : (ways_levelC.enc x).length = ways_levelC.size := rfl
def ways_level.wf (x : ways_level) : Prop := i64 x.Station.Places ∧ (x.Station.Passages.n ≤ maxLen ∧ ∀ i, i < x.Station.Passages.n → (x.Station.Passages.f i).wf) ∧ (x.Station.Exits.n ≤ maxLen ∧ ∀ i, i < x.Station.Exits.n → i64 ((x.Station.Exits.f i))) ∧ i64 x.f_out ∧ True
structure calls_cage where
  Car : api_Car
  Ride : api_Ride
def calls_cageC : Cod calls_cage := ⟨(.cons (.int .i64) (.cons (.int .i64) (.cons (.int .i64) (.cons (.int .i64) (.cons (.int .i64) (.cons (.int .i64) (.cons .bool (.cons .bool (.cons (.int .i64) (.cons (.int .i64) (.cons (.int .i64) .nil))))))))))), 11, fun x => [.int .i64 x.Car.Low, .int .i64 x.Car.High, .int .i64 x.Car.Start, .int .i64 x.Car.Move, .int .i64 x.Car.Stop, .int .i64 x.Ride.Floor, .bool x.Ride.Up, .bool x.Ride.Stood, .int .i64 x.Ride.Doing, .int .i64 x.Ride.Left, .int .i64 x.Ride.Wants], fun f => ⟨⟨toI (f 0), toI (f 1), toI (f 2), toI (f 3), toI (f 4)⟩, ⟨toI (f 5), toB (f 6), toB (f 7), toI (f 8), toI (f 9), toI (f 10)⟩⟩⟩
theorem calls_cageC_ok : calls_cageC.Ok where
  slen := rfl
  ck := fun x j hj => match j, hj with
    | 0, _ => rfl
    | 1, _ => rfl
    | 2, _ => rfl
    | 3, _ => rfl
    | 4, _ => rfl
    | 5, _ => rfl
    | 6, _ => rfl
    | 7, _ => rfl
    | 8, _ => rfl
    | 9, _ => rfl
    | 10, _ => rfl
    | j + 11, h => absurd h (by simp [calls_cageC])
  ok := fun f hf Z w j v hj hd => match j, hj, hd with
    | 0, hj, hd => den_int (hf 0 hj) hd
    | 1, hj, hd => den_int (hf 1 hj) hd
    | 2, hj, hd => den_int (hf 2 hj) hd
    | 3, hj, hd => den_int (hf 3 hj) hd
    | 4, hj, hd => den_int (hf 4 hj) hd
    | 5, hj, hd => den_int (hf 5 hj) hd
    | 6, hj, hd => den_bool (hf 6 hj) hd
    | 7, hj, hd => den_bool (hf 7 hj) hd
    | 8, hj, hd => den_int (hf 8 hj) hd
    | 9, hj, hd => den_int (hf 9 hj) hd
    | 10, hj, hd => den_int (hf 10 hj) hd
    | j + 11, h, _ => absurd h (by simp [calls_cageC])
theorem calls_cageC_len (x : calls_cage) : (calls_cageC.enc x).length = calls_cageC.size := rfl
def calls_cage.wf (x : calls_cage) : Prop := i64 x.Car.Low ∧ i64 x.Car.High ∧ i64 x.Car.Start ∧ i64 x.Car.Move ∧ i64 x.Car.Stop ∧ i64 x.Ride.Floor ∧ True ∧ True ∧ i64 x.Ride.Doing ∧ i64 x.Ride.Left ∧ i64 x.Ride.Wants
structure drive_stopped where
  f_way : Int
  f_loads : Arr Int
  f_rests : Bool
def drive_stopped.wf (x : drive_stopped) : Prop := i64 x.f_way ∧ (x.f_loads.n ≤ maxLen ∧ ∀ i, i < x.f_loads.n → i64 ((x.f_loads.f i))) ∧ True
structure api_Trial where
  Hazards : Int
  Wire : Int
def api_Trial.wf (x : api_Trial) : Prop := i64 x.Hazards ∧ i64 x.Wire
structure Arr2_int where
  a0 : Int
  a1 : Int
def Arr2_int.wf (x : Arr2_int) : Prop := i64 x.a0 ∧ i64 x.a1
structure drive_motion where
  f_e : api_Escalator
  f_s : api_Stop
  f_speed : Int
  f_time : Int
def drive_motion.wf (x : drive_motion) : Prop := True ∧ i64 x.f_e.Empty ∧ i64 x.f_e.Pull ∧ i64 x.f_e.Drag ∧ i64 x.f_e.Motor ∧ (x.f_e.Brakes.n ≤ maxLen ∧ ∀ i, i < x.f_e.Brakes.n → (x.f_e.Brakes.f i).wf) ∧ i64 x.f_s.Speed ∧ i64 x.f_s.Loads.Low ∧ i64 x.f_s.Loads.High ∧ i64 x.f_s.Fail ∧ i64 x.f_speed ∧ i64 x.f_time
structure circuit_state where
  f_c : api_Circuit
  f_hazards : Int
  f_closed : Int
  f_open : Int
def circuit_state.wf (x : circuit_state) : Prop := i64 x.f_c.Hazards ∧ (x.f_c.Switches.n ≤ maxLen ∧ ∀ i, i < x.f_c.Switches.n → i64 ((x.f_c.Switches.f i))) ∧ (x.f_c.Wires.n ≤ maxLen ∧ ∀ i, i < x.f_c.Wires.n → (x.f_c.Wires.f i).wf) ∧ i64 x.f_hazards ∧ i64 x.f_closed ∧ i64 x.f_open
end Go.Proofs.Ytpillmoddoccfab
