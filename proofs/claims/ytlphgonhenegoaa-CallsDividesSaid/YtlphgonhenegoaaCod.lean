import Derived.Test.YtlphgonhenegoaaEnv
import Derived.Test.YtlphgonhenegoaaSxEnd
set_option linter.unusedVariables false
namespace Go.Proofs.Ytlphgonhenegoaa
open Go.Sx
structure api_Car where
  Low : Int
  High : Int
  Start : Int
  Move : Int
  Stop : Int
def api_CarC : Cod api_Car := ⟨(.cons (.int .i64) (.cons (.int .i64) (.cons (.int .i64) (.cons (.int .i64) (.cons (.int .i64) .nil))))), 5, fun x => [.int .i64 x.Low, .int .i64 x.High, .int .i64 x.Start, .int .i64 x.Move, .int .i64 x.Stop], fun f => ⟨toI (f 0), toI (f 1), toI (f 2), toI (f 3), toI (f 4)⟩⟩
theorem api_CarC_ok : api_CarC.Ok where
  slen := rfl
  ck := fun x j hj => match j, hj with
    | 0, _ => rfl
    | 1, _ => rfl
    | 2, _ => rfl
    | 3, _ => rfl
    | 4, _ => rfl
    | j + 5, h => absurd h (by simp [api_CarC])
  ok := fun f hf Z w j v hj hd => match j, hj, hd with
    | 0, hj, hd => den_int (hf 0 hj) hd
    | 1, hj, hd => den_int (hf 1 hj) hd
    | 2, hj, hd => den_int (hf 2 hj) hd
    | 3, hj, hd => den_int (hf 3 hj) hd
    | 4, hj, hd => den_int (hf 4 hj) hd
    | j + 5, h, _ => absurd h (by simp [api_CarC])
theorem api_CarC_len (x : api_Car) : (api_CarC.enc x).length = api_CarC.size := rfl
def api_Car.wf (x : api_Car) : Prop := i64 x.Low ∧ i64 x.High ∧ i64 x.Start ∧ i64 x.Move ∧ i64 x.Stop
theorem api_CarC_rng {g : Nat → SV} (h : rng api_CarC.sg g 0) : (api_CarC.dec g).wf := by
  obtain ⟨h0, h1, h2, h3, h4, _⟩ := h
  exact ⟨rng_i64 h0, rng_i64 h1, rng_i64 h2, rng_i64 h3, rng_i64 h4⟩
structure api_Press where
  At : Int
  Floor : Int
def api_PressC : Cod api_Press := ⟨(.cons (.int .i64) (.cons (.int .i64) .nil)), 2, fun x => [.int .i64 x.At, .int .i64 x.Floor], fun f => ⟨toI (f 0), toI (f 1)⟩⟩
theorem api_PressC_ok : api_PressC.Ok where
  slen := rfl
  ck := fun x j hj => match j, hj with
    | 0, _ => rfl
    | 1, _ => rfl
    | j + 2, h => absurd h (by simp [api_PressC])
  ok := fun f hf Z w j v hj hd => match j, hj, hd with
    | 0, hj, hd => den_int (hf 0 hj) hd
    | 1, hj, hd => den_int (hf 1 hj) hd
    | j + 2, h, _ => absurd h (by simp [api_PressC])
theorem api_PressC_len (x : api_Press) : (api_PressC.enc x).length = api_PressC.size := rfl
def api_Press.wf (x : api_Press) : Prop := i64 x.At ∧ i64 x.Floor
structure api_Ride where
  Floor : Int
  Up : Bool
  Stood : Bool
  Doing : Int
  Left : Int
  Wants : Int
def api_RideC : Cod api_Ride := ⟨(.cons (.int .i64) (.cons .bool (.cons .bool (.cons (.int .i64) (.cons (.int .i64) (.cons (.int .i64) .nil)))))), 6, fun x => [.int .i64 x.Floor, .bool x.Up, .bool x.Stood, .int .i64 x.Doing, .int .i64 x.Left, .int .i64 x.Wants], fun f => ⟨toI (f 0), toB (f 1), toB (f 2), toI (f 3), toI (f 4), toI (f 5)⟩⟩
theorem api_RideC_ok : api_RideC.Ok where
  slen := rfl
  ck := fun x j hj => match j, hj with
    | 0, _ => rfl
    | 1, _ => rfl
    | 2, _ => rfl
    | 3, _ => rfl
    | 4, _ => rfl
    | 5, _ => rfl
    | j + 6, h => absurd h (by simp [api_RideC])
  ok := fun f hf Z w j v hj hd => match j, hj, hd with
    | 0, hj, hd => den_int (hf 0 hj) hd
    | 1, hj, hd => den_bool (hf 1 hj) hd
    | 2, hj, hd => den_bool (hf 2 hj) hd
    | 3, hj, hd => den_int (hf 3 hj) hd
    | 4, hj, hd => den_int (hf 4 hj) hd
    | 5, hj, hd => den_int (hf 5 hj) hd
    | j + 6, h, _ => absurd h (by simp [api_RideC])
theorem api_RideC_len (x : api_Ride) : (api_RideC.enc x).length = api_RideC.size := rfl
def api_Ride.wf (x : api_Ride) : Prop := i64 x.Floor ∧ True ∧ True ∧ i64 x.Doing ∧ i64 x.Left ∧ i64 x.Wants
structure calls_cage where
  Car : api_Car
  Ride : api_Ride
def calls_cageC : Cod calls_cage := ⟨(.cons (.int .i64) (.cons (.int .i64) (.cons (.int .i64) (.cons (.int .i64) (.cons (.int .i64) (.cons (.int .i64) (.cons .bool (.cons .bool (.cons (.int .i64) (.cons (.int .i64) (.cons (.int .i64) .nil))))))))))), 11, fun x => [.int .i64 x.Car.Low, .int .i64 x.Car.High, .int .i64 x.Car.Start, .int .i64 x.Car.Move, .int .i64 x.Car.Stop, .int .i64 x.Ride.Floor, .bool x.Ride.Up, .bool x.Ride.Stood, .int .i64 x.Ride.Doing, .int .i64 x.Ride.Left, .int .i64 x.Ride.Wants], fun f => ⟨⟨toI (f 0), toI (f 1), toI (f 2), toI (f 3), toI (f 4)⟩, ⟨toI (f 5), toB (f 6), toB (f 7), toI (f 8), toI (f 9), toI (f 10)⟩⟩⟩
theorem calls_cageC_ok : calls_cageC.Ok where
  slen := rfl
  ck := fun x j hj => match j, hj with
    | 0, _ => rfl
    | 1, _ => rfl
    | 2, _ => rfl
    | 3, _ => rfl
    | 4, _ => rfl
    | 5, _ => rfl
    | 6, _ => rfl
    | 7, _ => rfl
    | 8, _ => rfl
    | 9, _ => rfl
    | 10, _ => rfl
    | j + 11, h => absurd h (by simp [calls_cageC])
  ok := fun f hf Z w j v hj hd => match j, hj, hd with
    | 0, hj, hd => den_int (hf 0 hj) hd
    | 1, hj, hd => den_int (hf 1 hj) hd
    | 2, hj, hd => den_int (hf 2 hj) hd
    | 3, hj, hd => den_int (hf 3 hj) hd
    | 4, hj, hd => den_int (hf 4 hj) hd
    | 5, hj, hd => den_int (hf 5 hj) hd
    | 6, hj, hd => den_bool (hf 6 hj) hd
    | 7, hj, hd => den_bool (hf 7 hj) hd
    | 8, hj, hd => den_int (hf 8 hj) hd
    | 9, hj, hd => den_int (hf 9 hj) hd
    | 10, hj, hd => den_int (hf 10 hj) hd
    | j + 11, h, _ => absurd h (by simp [calls_cageC])
theorem calls_cageC_len (x : calls_cage) : (calls_cageC.enc x).length = calls_cageC.size := rfl
def calls_cage.wf (x : calls_cage) : Prop := i64 x.Car.Low ∧ i64 x.Car.High ∧ i64 x.Car.Start ∧ i64 x.Car.Move ∧ i64 x.Car.Stop ∧ i64 x.Ride.Floor ∧ True ∧ True ∧ i64 x.Ride.Doing ∧ i64 x.Ride.Left ∧ i64 x.Ride.Wants
structure r7knot where
  f_ride : api_Ride
  f_back : Int
  f_pressed : Int
def r7knotC : Cod r7knot := ⟨(.cons (.int .i64) (.cons .bool (.cons .bool (.cons (.int .i64) (.cons (.int .i64) (.cons (.int .i64) (.cons (.int .i64) (.cons (.int .i64) .nil)))))))), 8, fun x => [.int .i64 x.f_ride.Floor, .bool x.f_ride.Up, .bool x.f_ride.Stood, .int .i64 x.f_ride.Doing, .int .i64 x.f_ride.Left, .int .i64 x.f_ride.Wants, .int .i64 x.f_back, .int .i64 x.f_pressed], fun f => ⟨⟨toI (f 0), toB (f 1), toB (f 2), toI (f 3), toI (f 4), toI (f 5)⟩, toI (f 6), toI (f 7)⟩⟩
theorem r7knotC_ok : r7knotC.Ok where
  slen := rfl
  ck := fun x j hj => match j, hj with
    | 0, _ => rfl
    | 1, _ => rfl
    | 2, _ => rfl
    | 3, _ => rfl
    | 4, _ => rfl
    | 5, _ => rfl
    | 6, _ => rfl
    | 7, _ => rfl
    | j + 8, h => absurd h (by simp [r7knotC])
  ok := fun f hf Z w j v hj hd => match j, hj, hd with
    | 0, hj, hd => den_int (hf 0 hj) hd
    | 1, hj, hd => den_bool (hf 1 hj) hd
    | 2, hj, hd => den_bool (hf 2 hj) hd
    | 3, hj, hd => den_int (hf 3 hj) hd
    | 4, hj, hd => den_int (hf 4 hj) hd
    | 5, hj, hd => den_int (hf 5 hj) hd
    | 6, hj, hd => den_int (hf 6 hj) hd
    | 7, hj, hd => den_int (hf 7 hj) hd
    | j + 8, h, _ => absurd h (by simp [r7knotC])
def r7knot.wf (x : r7knot) : Prop := i64 x.f_ride.Floor ∧ True ∧ True ∧ i64 x.f_ride.Doing ∧ i64 x.f_ride.Left ∧ i64 x.f_ride.Wants ∧ i64 x.f_back ∧ i64 x.f_pressed
end Go.Proofs.Ytlphgonhenegoaa
