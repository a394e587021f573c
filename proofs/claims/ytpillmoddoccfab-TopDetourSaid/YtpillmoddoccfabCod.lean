/-
  The program's plain types as structures, and how they lie in cells. Written by a program.
-/
import Derived.Test.YtpillmoddoccfabEnv
import Derived.Test.YtpillmoddoccfabSxEnd
set_option linter.unusedVariables false
namespace Go.Proofs.Ytpillmoddoccfab
open Go.Sx

structure api_Lift where
  Car : Int
  Counter : Int
  Rated : Int
  Rope : Int
  Floors : Arr Int
  Num : Int
  Den : Int
  Speed : Int
  Accel : Int
  Over : Int
  Stiff : Int
  Level : Int
def api_LiftC : Cod api_Lift := ⟨(.cons (.int .i64) (.cons (.int .i64) (.cons (.int .i64) (.cons (.int .i64) (.cons (.sl intC.sg) (.cons (.int .i64) (.cons (.int .i64) (.cons (.int .i64) (.cons (.int .i64) (.cons (.int .i64) (.cons (.int .i64) (.cons (.int .i64) .nil)))))))))))), 12, fun x => [.int .i64 x.Car, .int .i64 x.Counter, .int .i64 x.Rated, .int .i64 x.Rope, slC intC x.Floors, .int .i64 x.Num, .int .i64 x.Den, .int .i64 x.Speed, .int .i64 x.Accel, .int .i64 x.Over, .int .i64 x.Stiff, .int .i64 x.Level], fun f => ⟨toI (f 0), toI (f 1), toI (f 2), toI (f 3), lstC intC (f 4), toI (f 5), toI (f 6), toI (f 7), toI (f 8), toI (f 9), toI (f 10), toI (f 11)⟩⟩
theorem api_LiftC_ok : api_LiftC.Ok where
  slen := rfl
  ck := fun x j hj => match j, hj with
    | 0, _ => rfl
    | 1, _ => rfl
    | 2, _ => rfl
    | 3, _ => rfl
    | 4, _ => rfl
    | 5, _ => rfl
    | 6, _ => rfl
    | 7, _ => rfl
    | 8, _ => rfl
    | 9, _ => rfl
    | 10, _ => rfl
    | 11, _ => rfl
    | j + 12, h => absurd h (by simp [api_LiftC])
  ok := fun f hf Z w j v hj hd => match j, hj, hd with
    | 0, hj, hd => den_int (hf 0 hj) hd
    | 1, hj, hd => den_int (hf 1 hj) hd
    | 2, hj, hd => den_int (hf 2 hj) hd
    | 3, hj, hd => den_int (hf 3 hj) hd
    | 4, hj, hd => den_slC intC_ok (hf 4 hj) hd
    | 5, hj, hd => den_int (hf 5 hj) hd
    | 6, hj, hd => den_int (hf 6 hj) hd
    | 7, hj, hd => den_int (hf 7 hj) hd
    | 8, hj, hd => den_int (hf 8 hj) hd
    | 9, hj, hd => den_int (hf 9 hj) hd
    | 10, hj, hd => den_int (hf 10 hj) hd
    | 11, hj, hd => den_int (hf 11 hj) hd
    | j + 12, h, _ => absurd h (by simp [api_LiftC])
theorem api_LiftC_len (x : api_Lift) : (api_LiftC.enc x).length = api_LiftC.size := rfl
def api_Lift.wf (x : api_Lift) : Prop := i64 x.Car ∧ i64 x.Counter ∧ i64 x.Rated ∧ i64 x.Rope ∧ (x.Floors.n ≤ maxLen ∧ ∀ i, i < x.Floors.n → i64 ((x.Floors.f i))) ∧ i64 x.Num ∧ i64 x.Den ∧ i64 x.Speed ∧ i64 x.Accel ∧ i64 x.Over ∧ i64 x.Stiff ∧ i64 x.Level
theorem api_LiftC_rng {g : Nat → SV} (h : rng api_LiftC.sg g 0) : (api_LiftC.dec g).wf := by
  obtain ⟨h0, h1, h2, h3, h4, h5, h6, h7, h8, h9, h10, h11, _⟩ := h
  exact ⟨rng_i64 h0, rng_i64 h1, rng_i64 h2, rng_i64 h3, rng_sl (C := intC) (P := fun y => i64 y) (fun _ h => rng_i64 h.1) h4, rng_i64 h5, rng_i64 h6, rng_i64 h7, rng_i64 h8, rng_i64 h9, rng_i64 h10, rng_i64 h11⟩

structure api_Door where
  Wide : Int
  Wait : Int
def api_DoorC : Cod api_Door := ⟨(.cons (.int .i64) (.cons (.int .i64) .nil)), 2, fun x => [.int .i64 x.Wide, .int .i64 x.Wait], fun f => ⟨toI (f 0), toI (f 1)⟩⟩
theorem api_DoorC_ok : api_DoorC.Ok where
  slen := rfl
  ck := fun x j hj => match j, hj with
    | 0, _ => rfl
    | 1, _ => rfl
    | j + 2, h => absurd h (by simp [api_DoorC])
  ok := fun f hf Z w j v hj hd => match j, hj, hd with
    | 0, hj, hd => den_int (hf 0 hj) hd
    | 1, hj, hd => den_int (hf 1 hj) hd
    | j + 2, h, _ => absurd h (by simp [api_DoorC])
theorem api_DoorC_len (x : api_Door) : (api_DoorC.enc x).length = api_DoorC.size := rfl
def api_Door.wf (x : api_Door) : Prop := i64 x.Wide ∧ i64 x.Wait
theorem api_DoorC_rng {g : Nat → SV} (h : rng api_DoorC.sg g 0) : (api_DoorC.dec g).wf := by
  obtain ⟨h0, h1, _⟩ := h
  exact ⟨rng_i64 h0, rng_i64 h1⟩
theorem api_DoorC_flat : api_DoorC.Flat := ⟨fun f vc h hf => by
  obtain ⟨s0, t0, rfl, e0, g0⟩ := keyCells_cons h
  obtain ⟨s1, t1, rfl, e1, g1⟩ := keyCells_cons g0
  have z := keyCells_nil g1
  subst z
  have a0 := hf 0 s0 rfl
  have a1 := hf 1 s1 rfl
  simp only [api_DoorC, a0, a1]
  rw [← keyCell_int e0, ← keyCell_int e1]⟩

structure neweltop_Tour where
  From : Int
  Over : Int
  To : Int
  Breaks : Arr Int
  Most : Int
def neweltop_TourC : Cod neweltop_Tour := ⟨(.cons (.int .i64) (.cons (.int .i64) (.cons (.int .i64) (.cons (.sl intC.sg) (.cons (.int .i64) .nil))))), 5, fun x => [.int .i64 x.From, .int .i64 x.Over, .int .i64 x.To, slC intC x.Breaks, .int .i64 x.Most], fun f => ⟨toI (f 0), toI (f 1), toI (f 2), lstC intC (f 3), toI (f 4)⟩⟩
theorem neweltop_TourC_ok : neweltop_TourC.Ok where
  slen := rfl
  ck := fun x j hj => match j, hj with
    | 0, _ => rfl
    | 1, _ => rfl
    | 2, _ => rfl
    | 3, _ => rfl
    | 4, _ => rfl
    | j + 5, h => absurd h (by simp [neweltop_TourC])
  ok := fun f hf Z w j v hj hd => match j, hj, hd with
    | 0, hj, hd => den_int (hf 0 hj) hd
    | 1, hj, hd => den_int (hf 1 hj) hd
    | 2, hj, hd => den_int (hf 2 hj) hd
    | 3, hj, hd => den_slC intC_ok (hf 3 hj) hd
    | 4, hj, hd => den_int (hf 4 hj) hd
    | j + 5, h, _ => absurd h (by simp [neweltop_TourC])
theorem neweltop_TourC_len (x : neweltop_Tour) : (neweltop_TourC.enc x).length = neweltop_TourC.size := rfl
def neweltop_Tour.wf (x : neweltop_Tour) : Prop := i64 x.From ∧ i64 x.Over ∧ i64 x.To ∧ (x.Breaks.n ≤ maxLen ∧ ∀ i, i < x.Breaks.n → i64 ((x.Breaks.f i))) ∧ i64 x.Most
theorem neweltop_TourC_rng {g : Nat → SV} (h : rng neweltop_TourC.sg g 0) : (neweltop_TourC.dec g).wf := by
  obtain ⟨h0, h1, h2, h3, h4, _⟩ := h
  exact ⟨rng_i64 h0, rng_i64 h1, rng_i64 h2, rng_sl (C := intC) (P := fun y => i64 y) (fun _ h => rng_i64 h.1) h3, rng_i64 h4⟩

structure api_Car where
  Low : Int
  High : Int
  Start : Int
  Move : Int
  Stop : Int
def api_CarC : Cod api_Car := ⟨(.cons (.int .i64) (.cons (.int .i64) (.cons (.int .i64) (.cons (.int .i64) (.cons (.int .i64) .nil))))), 5, fun x => [.int .i64 x.Low, .int .i64 x.High, .int .i64 x.Start, .int .i64 x.Move, .int .i64 x.Stop], fun f => ⟨toI (f 0), toI (f 1), toI (f 2), toI (f 3), toI (f 4)⟩⟩
theorem api_CarC_ok : api_CarC.Ok where
  slen := rfl
  ck := fun x j hj => match j, hj with
    | 0, _ => rfl
    | 1, _ => rfl
    | 2, _ => rfl
    | 3, _ => rfl
    | 4, _ => rfl
    | j + 5, h => absurd h (by simp [api_CarC])
  ok := fun f hf Z w j v hj hd => match j, hj, hd with
    | 0, hj, hd => den_int (hf 0 hj) hd
    | 1, hj, hd => den_int (hf 1 hj) hd
    | 2, hj, hd => den_int (hf 2 hj) hd
    | 3, hj, hd => den_int (hf 3 hj) hd
    | 4, hj, hd => den_int (hf 4 hj) hd
    | j + 5, h, _ => absurd h (by simp [api_CarC])
theorem api_CarC_len (x : api_Car) : (api_CarC.enc x).length = api_CarC.size := rfl
def api_Car.wf (x : api_Car) : Prop := i64 x.Low ∧ i64 x.High ∧ i64 x.Start ∧ i64 x.Move ∧ i64 x.Stop
theorem api_CarC_rng {g : Nat → SV} (h : rng api_CarC.sg g 0) : (api_CarC.dec g).wf := by
  obtain ⟨h0, h1, h2, h3, h4, _⟩ := h
  exact ⟨rng_i64 h0, rng_i64 h1, rng_i64 h2, rng_i64 h3, rng_i64 h4⟩
theorem api_CarC_flat : api_CarC.Flat := ⟨fun f vc h hf => by
  obtain ⟨s0, t0, rfl, e0, g0⟩ := keyCells_cons h
  obtain ⟨s1, t1, rfl, e1, g1⟩ := keyCells_cons g0
  obtain ⟨s2, t2, rfl, e2, g2⟩ := keyCells_cons g1
  obtain ⟨s3, t3, rfl, e3, g3⟩ := keyCells_cons g2
  obtain ⟨s4, t4, rfl, e4, g4⟩ := keyCells_cons g3
  have z := keyCells_nil g4
  subst z
  have a0 := hf 0 s0 rfl
  have a1 := hf 1 s1 rfl
  have a2 := hf 2 s2 rfl
  have a3 := hf 3 s3 rfl
  have a4 := hf 4 s4 rfl
  simp only [api_CarC, a0, a1, a2, a3, a4]
  rw [← keyCell_int e0, ← keyCell_int e1, ← keyCell_int e2, ← keyCell_int e3, ← keyCell_int e4]⟩

structure api_Passage where
  A : Int
  B : Int
  Kind : Int
  Ticks : Int
  Wide : Int
  Machine : Int
  Still : Int
def api_PassageC : Cod api_Passage := ⟨(.cons (.int .i64) (.cons (.int .i64) (.cons (.int .i64) (.cons (.int .i64) (.cons (.int .i64) (.cons (.int .i64) (.cons (.int .i64) .nil))))))), 7, fun x => [.int .i64 x.A, .int .i64 x.B, .int .i64 x.Kind, .int .i64 x.Ticks, .int .i64 x.Wide, .int .i64 x.Machine, .int .i64 x.Still], fun f => ⟨toI (f 0), toI (f 1), toI (f 2), toI (f 3), toI (f 4), toI (f 5), toI (f 6)⟩⟩
theorem api_PassageC_ok : api_PassageC.Ok where
  slen := rfl
  ck := fun x j hj => match j, hj with
    | 0, _ => rfl
    | 1, _ => rfl
    | 2, _ => rfl
    | 3, _ => rfl
    | 4, _ => rfl
    | 5, _ => rfl
    | 6, _ => rfl
    | j + 7, h => absurd h (by simp [api_PassageC])
  ok := fun f hf Z w j v hj hd => match j, hj, hd with
    | 0, hj, hd => den_int (hf 0 hj) hd
    | 1, hj, hd => den_int (hf 1 hj) hd
    | 2, hj, hd => den_int (hf 2 hj) hd
    | 3, hj, hd => den_int (hf 3 hj) hd
    | 4, hj, hd => den_int (hf 4 hj) hd
    | 5, hj, hd => den_int (hf 5 hj) hd
    | 6, hj, hd => den_int (hf 6 hj) hd
    | j + 7, h, _ => absurd h (by simp [api_PassageC])
theorem api_PassageC_len (x : api_Passage) : (api_PassageC.enc x).length = api_PassageC.size := rfl
def api_Passage.wf (x : api_Passage) : Prop := i64 x.A ∧ i64 x.B ∧ i64 x.Kind ∧ i64 x.Ticks ∧ i64 x.Wide ∧ i64 x.Machine ∧ i64 x.Still
theorem api_PassageC_rng {g : Nat → SV} (h : rng api_PassageC.sg g 0) : (api_PassageC.dec g).wf := by
  obtain ⟨h0, h1, h2, h3, h4, h5, h6, _⟩ := h
  exact ⟨rng_i64 h0, rng_i64 h1, rng_i64 h2, rng_i64 h3, rng_i64 h4, rng_i64 h5, rng_i64 h6⟩
theorem api_PassageC_flat : api_PassageC.Flat := ⟨fun f vc h hf => by
  obtain ⟨s0, t0, rfl, e0, g0⟩ := keyCells_cons h
  obtain ⟨s1, t1, rfl, e1, g1⟩ := keyCells_cons g0
  obtain ⟨s2, t2, rfl, e2, g2⟩ := keyCells_cons g1
  obtain ⟨s3, t3, rfl, e3, g3⟩ := keyCells_cons g2
  obtain ⟨s4, t4, rfl, e4, g4⟩ := keyCells_cons g3
  obtain ⟨s5, t5, rfl, e5, g5⟩ := keyCells_cons g4
  obtain ⟨s6, t6, rfl, e6, g6⟩ := keyCells_cons g5
  have z := keyCells_nil g6
  subst z
  have a0 := hf 0 s0 rfl
  have a1 := hf 1 s1 rfl
  have a2 := hf 2 s2 rfl
  have a3 := hf 3 s3 rfl
  have a4 := hf 4 s4 rfl
  have a5 := hf 5 s5 rfl
  have a6 := hf 6 s6 rfl
  simp only [api_PassageC, a0, a1, a2, a3, a4, a5, a6]
  rw [← keyCell_int e0, ← keyCell_int e1, ← keyCell_int e2, ← keyCell_int e3, ← keyCell_int e4, ← keyCell_int e5, ← keyCell_int e6]⟩

structure api_Station where
  Places : Int
  Passages : Arr api_Passage
  Exits : Arr Int
def api_StationC : Cod api_Station := ⟨(.cons (.int .i64) (.cons (.sl api_PassageC.sg) (.cons (.sl intC.sg) .nil))), 3, fun x => [.int .i64 x.Places, slC api_PassageC x.Passages, slC intC x.Exits], fun f => ⟨toI (f 0), lstC api_PassageC (f 1), lstC intC (f 2)⟩⟩
theorem api_StationC_ok : api_StationC.Ok where
  slen := rfl
  ck := fun x j hj => match j, hj with
    | 0, _ => rfl
    | 1, _ => rfl
    | 2, _ => rfl
    | j + 3, h => absurd h (by simp [api_StationC])
  ok := fun f hf Z w j v hj hd => match j, hj, hd with
    | 0, hj, hd => den_int (hf 0 hj) hd
    | 1, hj, hd => den_slC api_PassageC_ok (hf 1 hj) hd
    | 2, hj, hd => den_slC intC_ok (hf 2 hj) hd
    | j + 3, h, _ => absurd h (by simp [api_StationC])
theorem api_StationC_len (x : api_Station) : (api_StationC.enc x).length = api_StationC.size := rfl
def api_Station.wf (x : api_Station) : Prop := i64 x.Places ∧ (x.Passages.n ≤ maxLen ∧ ∀ i, i < x.Passages.n → (x.Passages.f i).wf) ∧ (x.Exits.n ≤ maxLen ∧ ∀ i, i < x.Exits.n → i64 ((x.Exits.f i)))
theorem api_StationC_rng {g : Nat → SV} (h : rng api_StationC.sg g 0) : (api_StationC.dec g).wf := by
  obtain ⟨h0, h1, h2, _⟩ := h
  exact ⟨rng_i64 h0, rng_sl (C := api_PassageC) (P := fun y => y.wf) (fun _ h => api_PassageC_rng h) h1, rng_sl (C := intC) (P := fun y => i64 y) (fun _ h => rng_i64 h.1) h2⟩

structure newellaw08_Trip where
  Out : Int
  Help : Bool
  From : Int
  To : Int
def newellaw08_TripC : Cod newellaw08_Trip := ⟨(.cons (.int .i64) (.cons .bool (.cons (.int .i64) (.cons (.int .i64) .nil)))), 4, fun x => [.int .i64 x.Out, .bool x.Help, .int .i64 x.From, .int .i64 x.To], fun f => ⟨toI (f 0), toB (f 1), toI (f 2), toI (f 3)⟩⟩
theorem newellaw08_TripC_ok : newellaw08_TripC.Ok where
  slen := rfl
  ck := fun x j hj => match j, hj with
    | 0, _ => rfl
    | 1, _ => rfl
    | 2, _ => rfl
    | 3, _ => rfl
    | j + 4, h => absurd h (by simp [newellaw08_TripC])
  ok := fun f hf Z w j v hj hd => match j, hj, hd with
    | 0, hj, hd => den_int (hf 0 hj) hd
    | 1, hj, hd => den_bool (hf 1 hj) hd
    | 2, hj, hd => den_int (hf 2 hj) hd
    | 3, hj, hd => den_int (hf 3 hj) hd
    | j + 4, h, _ => absurd h (by simp [newellaw08_TripC])
theorem newellaw08_TripC_len (x : newellaw08_Trip) : (newellaw08_TripC.enc x).length = newellaw08_TripC.size := rfl
def newellaw08_Trip.wf (x : newellaw08_Trip) : Prop := i64 x.Out ∧ True ∧ i64 x.From ∧ i64 x.To
theorem newellaw08_TripC_rng {g : Nat → SV} (h : rng newellaw08_TripC.sg g 0) : (newellaw08_TripC.dec g).wf := by
  obtain ⟨h0, h1, h2, h3, _⟩ := h
  exact ⟨rng_i64 h0, trivial, rng_i64 h2, rng_i64 h3⟩
theorem newellaw08_TripC_flat : newellaw08_TripC.Flat := ⟨fun f vc h hf => by
  obtain ⟨s0, t0, rfl, e0, g0⟩ := keyCells_cons h
  obtain ⟨s1, t1, rfl, e1, g1⟩ := keyCells_cons g0
  obtain ⟨s2, t2, rfl, e2, g2⟩ := keyCells_cons g1
  obtain ⟨s3, t3, rfl, e3, g3⟩ := keyCells_cons g2
  have z := keyCells_nil g3
  subst z
  have a0 := hf 0 s0 rfl
  have a1 := hf 1 s1 rfl
  have a2 := hf 2 s2 rfl
  have a3 := hf 3 s3 rfl
  simp only [newellaw08_TripC, a0, a1, a2, a3]
  rw [← keyCell_int e0, ← keyCell_bool e1, ← keyCell_int e2, ← keyCell_int e3]⟩

structure api_Job where
  Machine : Int
  Nights : Int
  After : Arr Int
def api_JobC : Cod api_Job := ⟨(.cons (.int .i64) (.cons (.int .i64) (.cons (.sl intC.sg) .nil))), 3, fun x => [.int .i64 x.Machine, .int .i64 x.Nights, slC intC x.After], fun f => ⟨toI (f 0), toI (f 1), lstC intC (f 2)⟩⟩
theorem api_JobC_ok : api_JobC.Ok where
  slen := rfl
  ck := fun x j hj => match j, hj with
    | 0, _ => rfl
    | 1, _ => rfl
    | 2, _ => rfl
    | j + 3, h => absurd h (by simp [api_JobC])
  ok := fun f hf Z w j v hj hd => match j, hj, hd with
    | 0, hj, hd => den_int (hf 0 hj) hd
    | 1, hj, hd => den_int (hf 1 hj) hd
    | 2, hj, hd => den_slC intC_ok (hf 2 hj) hd
    | j + 3, h, _ => absurd h (by simp [api_JobC])
theorem api_JobC_len (x : api_Job) : (api_JobC.enc x).length = api_JobC.size := rfl
def api_Job.wf (x : api_Job) : Prop := i64 x.Machine ∧ i64 x.Nights ∧ (x.After.n ≤ maxLen ∧ ∀ i, i < x.After.n → i64 ((x.After.f i)))
theorem api_JobC_rng {g : Nat → SV} (h : rng api_JobC.sg g 0) : (api_JobC.dec g).wf := by
  obtain ⟨h0, h1, h2, _⟩ := h
  exact ⟨rng_i64 h0, rng_i64 h1, rng_sl (C := intC) (P := fun y => i64 y) (fun _ h => rng_i64 h.1) h2⟩

structure api_Works where
  Machines : Int
  Jobs : Arr api_Job
  Never : Arr Int
  Crews : Int
  Until : Int
def api_WorksC : Cod api_Works := ⟨(.cons (.int .i64) (.cons (.sl api_JobC.sg) (.cons (.sl intC.sg) (.cons (.int .i64) (.cons (.int .i64) .nil))))), 5, fun x => [.int .i64 x.Machines, slC api_JobC x.Jobs, slC intC x.Never, .int .i64 x.Crews, .int .i64 x.Until], fun f => ⟨toI (f 0), lstC api_JobC (f 1), lstC intC (f 2), toI (f 3), toI (f 4)⟩⟩
theorem api_WorksC_ok : api_WorksC.Ok where
  slen := rfl
  ck := fun x j hj => match j, hj with
    | 0, _ => rfl
    | 1, _ => rfl
    | 2, _ => rfl
    | 3, _ => rfl
    | 4, _ => rfl
    | j + 5, h => absurd h (by simp [api_WorksC])
  ok := fun f hf Z w j v hj hd => match j, hj, hd with
    | 0, hj, hd => den_int (hf 0 hj) hd
    | 1, hj, hd => den_slC api_JobC_ok (hf 1 hj) hd
    | 2, hj, hd => den_slC intC_ok (hf 2 hj) hd
    | 3, hj, hd => den_int (hf 3 hj) hd
    | 4, hj, hd => den_int (hf 4 hj) hd
    | j + 5, h, _ => absurd h (by simp [api_WorksC])
theorem api_WorksC_len (x : api_Works) : (api_WorksC.enc x).length = api_WorksC.size := rfl
def api_Works.wf (x : api_Works) : Prop := i64 x.Machines ∧ (x.Jobs.n ≤ maxLen ∧ ∀ i, i < x.Jobs.n → (x.Jobs.f i).wf) ∧ (x.Never.n ≤ maxLen ∧ ∀ i, i < x.Never.n → i64 ((x.Never.f i))) ∧ i64 x.Crews ∧ i64 x.Until
theorem api_WorksC_rng {g : Nat → SV} (h : rng api_WorksC.sg g 0) : (api_WorksC.dec g).wf := by
  obtain ⟨h0, h1, h2, h3, h4, _⟩ := h
  exact ⟨rng_i64 h0, rng_sl (C := api_JobC) (P := fun y => y.wf) (fun _ h => api_JobC_rng h) h1, rng_sl (C := intC) (P := fun y => i64 y) (fun _ h => rng_i64 h.1) h2, rng_i64 h3, rng_i64 h4⟩

structure newellaw09_Planned where
  Works : api_Works
  Starts : Arr Int
def newellaw09_PlannedC : Cod newellaw09_Planned := ⟨(.cons (.int .i64) (.cons (.sl api_JobC.sg) (.cons (.sl intC.sg) (.cons (.int .i64) (.cons (.int .i64) (.cons (.sl intC.sg) .nil)))))), 6, fun x => [.int .i64 x.Works.Machines, slC api_JobC x.Works.Jobs, slC intC x.Works.Never, .int .i64 x.Works.Crews, .int .i64 x.Works.Until, slC intC x.Starts], fun f => ⟨⟨toI (f 0), lstC api_JobC (f 1), lstC intC (f 2), toI (f 3), toI (f 4)⟩, lstC intC (f 5)⟩⟩
theorem newellaw09_PlannedC_ok : newellaw09_PlannedC.Ok where
  slen := rfl
  ck := fun x j hj => match j, hj with
    | 0, _ => rfl
    | 1, _ => rfl
    | 2, _ => rfl
    | 3, _ => rfl
    | 4, _ => rfl
    | 5, _ => rfl
    | j + 6, h => absurd h (by simp [newellaw09_PlannedC])
  ok := fun f hf Z w j v hj hd => match j, hj, hd with
    | 0, hj, hd => den_int (hf 0 hj) hd
    | 1, hj, hd => den_slC api_JobC_ok (hf 1 hj) hd
    | 2, hj, hd => den_slC intC_ok (hf 2 hj) hd
    | 3, hj, hd => den_int (hf 3 hj) hd
    | 4, hj, hd => den_int (hf 4 hj) hd
    | 5, hj, hd => den_slC intC_ok (hf 5 hj) hd
    | j + 6, h, _ => absurd h (by simp [newellaw09_PlannedC])
theorem newellaw09_PlannedC_len (x : newellaw09_Planned) : (newellaw09_PlannedC.enc x).length = newellaw09_PlannedC.size := rfl
def newellaw09_Planned.wf (x : newellaw09_Planned) : Prop := i64 x.Works.Machines ∧ (x.Works.Jobs.n ≤ maxLen ∧ ∀ i, i < x.Works.Jobs.n → (x.Works.Jobs.f i).wf) ∧ (x.Works.Never.n ≤ maxLen ∧ ∀ i, i < x.Works.Never.n → i64 ((x.Works.Never.f i))) ∧ i64 x.Works.Crews ∧ i64 x.Works.Until ∧ (x.Starts.n ≤ maxLen ∧ ∀ i, i < x.Starts.n → i64 ((x.Starts.f i)))
theorem newellaw09_PlannedC_rng {g : Nat → SV} (h : rng newellaw09_PlannedC.sg g 0) : (newellaw09_PlannedC.dec g).wf := by
  obtain ⟨h0, h1, h2, h3, h4, h5, _⟩ := h
  exact ⟨rng_i64 h0, rng_sl (C := api_JobC) (P := fun y => y.wf) (fun _ h => api_JobC_rng h) h1, rng_sl (C := intC) (P := fun y => i64 y) (fun _ h => rng_i64 h.1) h2, rng_i64 h3, rng_i64 h4, rng_sl (C := intC) (P := fun y => i64 y) (fun _ h => rng_i64 h.1) h5⟩

structure api_Span where
  Low : Int
  High : Int
def api_SpanC : Cod api_Span := ⟨(.cons (.int .i64) (.cons (.int .i64) .nil)), 2, fun x => [.int .i64 x.Low, .int .i64 x.High], fun f => ⟨toI (f 0), toI (f 1)⟩⟩
theorem api_SpanC_ok : api_SpanC.Ok where
  slen := rfl
  ck := fun x j hj => match j, hj with
    | 0, _ => rfl
    | 1, _ => rfl
    | j + 2, h => absurd h (by simp [api_SpanC])
  ok := fun f hf Z w j v hj hd => match j, hj, hd with
    | 0, hj, hd => den_int (hf 0 hj) hd
    | 1, hj, hd => den_int (hf 1 hj) hd
    | j + 2, h, _ => absurd h (by simp [api_SpanC])
theorem api_SpanC_len (x : api_Span) : (api_SpanC.enc x).length = api_SpanC.size := rfl
def api_Span.wf (x : api_Span) : Prop := i64 x.Low ∧ i64 x.High
theorem api_SpanC_rng {g : Nat → SV} (h : rng api_SpanC.sg g 0) : (api_SpanC.dec g).wf := by
  obtain ⟨h0, h1, _⟩ := h
  exact ⟨rng_i64 h0, rng_i64 h1⟩
theorem api_SpanC_flat : api_SpanC.Flat := ⟨fun f vc h hf => by
  obtain ⟨s0, t0, rfl, e0, g0⟩ := keyCells_cons h
  obtain ⟨s1, t1, rfl, e1, g1⟩ := keyCells_cons g0
  have z := keyCells_nil g1
  subst z
  have a0 := hf 0 s0 rfl
  have a1 := hf 1 s1 rfl
  simp only [api_SpanC, a0, a1]
  rw [← keyCell_int e0, ← keyCell_int e1]⟩

structure api_Comb where
  Rate : Int
  Limit : Int
  Next : Int
  Walk : api_Span
def api_CombC : Cod api_Comb := ⟨(.cons (.int .i64) (.cons (.int .i64) (.cons (.int .i64) (.cons (.int .i64) (.cons (.int .i64) .nil))))), 5, fun x => [.int .i64 x.Rate, .int .i64 x.Limit, .int .i64 x.Next, .int .i64 x.Walk.Low, .int .i64 x.Walk.High], fun f => ⟨toI (f 0), toI (f 1), toI (f 2), ⟨toI (f 3), toI (f 4)⟩⟩⟩
theorem api_CombC_ok : api_CombC.Ok where
  slen := rfl
  ck := fun x j hj => match j, hj with
    | 0, _ => rfl
    | 1, _ => rfl
    | 2, _ => rfl
    | 3, _ => rfl
    | 4, _ => rfl
    | j + 5, h => absurd h (by simp [api_CombC])
  ok := fun f hf Z w j v hj hd => match j, hj, hd with
    | 0, hj, hd => den_int (hf 0 hj) hd
    | 1, hj, hd => den_int (hf 1 hj) hd
    | 2, hj, hd => den_int (hf 2 hj) hd
    | 3, hj, hd => den_int (hf 3 hj) hd
    | 4, hj, hd => den_int (hf 4 hj) hd
    | j + 5, h, _ => absurd h (by simp [api_CombC])
theorem api_CombC_len (x : api_Comb) : (api_CombC.enc x).length = api_CombC.size := rfl
def api_Comb.wf (x : api_Comb) : Prop := i64 x.Rate ∧ i64 x.Limit ∧ i64 x.Next ∧ i64 x.Walk.Low ∧ i64 x.Walk.High
theorem api_CombC_rng {g : Nat → SV} (h : rng api_CombC.sg g 0) : (api_CombC.dec g).wf := by
  obtain ⟨h0, h1, h2, h3, h4, _⟩ := h
  exact ⟨rng_i64 h0, rng_i64 h1, rng_i64 h2, rng_i64 h3, rng_i64 h4⟩
theorem api_CombC_flat : api_CombC.Flat := ⟨fun f vc h hf => by
  obtain ⟨s0, t0, rfl, e0, g0⟩ := keyCells_cons h
  obtain ⟨s1, t1, rfl, e1, g1⟩ := keyCells_cons g0
  obtain ⟨s2, t2, rfl, e2, g2⟩ := keyCells_cons g1
  obtain ⟨s3, t3, rfl, e3, g3⟩ := keyCells_cons g2
  obtain ⟨s4, t4, rfl, e4, g4⟩ := keyCells_cons g3
  have z := keyCells_nil g4
  subst z
  have a0 := hf 0 s0 rfl
  have a1 := hf 1 s1 rfl
  have a2 := hf 2 s2 rfl
  have a3 := hf 3 s3 rfl
  have a4 := hf 4 s4 rfl
  simp only [api_CombC, a0, a1, a2, a3, a4]
  rw [← keyCell_int e0, ← keyCell_int e1, ← keyCell_int e2, ← keyCell_int e3, ← keyCell_int e4]⟩

structure api_Crowd where
  Comb : Int
  People : api_Span
def api_CrowdC : Cod api_Crowd := ⟨(.cons (.int .i64) (.cons (.int .i64) (.cons (.int .i64) .nil))), 3, fun x => [.int .i64 x.Comb, .int .i64 x.People.Low, .int .i64 x.People.High], fun f => ⟨toI (f 0), ⟨toI (f 1), toI (f 2)⟩⟩⟩
theorem api_CrowdC_ok : api_CrowdC.Ok where
  slen := rfl
  ck := fun x j hj => match j, hj with
    | 0, _ => rfl
    | 1, _ => rfl
    | 2, _ => rfl
    | j + 3, h => absurd h (by simp [api_CrowdC])
  ok := fun f hf Z w j v hj hd => match j, hj, hd with
    | 0, hj, hd => den_int (hf 0 hj) hd
    | 1, hj, hd => den_int (hf 1 hj) hd
    | 2, hj, hd => den_int (hf 2 hj) hd
    | j + 3, h, _ => absurd h (by simp [api_CrowdC])
theorem api_CrowdC_len (x : api_Crowd) : (api_CrowdC.enc x).length = api_CrowdC.size := rfl
def api_Crowd.wf (x : api_Crowd) : Prop := i64 x.Comb ∧ i64 x.People.Low ∧ i64 x.People.High
theorem api_CrowdC_rng {g : Nat → SV} (h : rng api_CrowdC.sg g 0) : (api_CrowdC.dec g).wf := by
  obtain ⟨h0, h1, h2, _⟩ := h
  exact ⟨rng_i64 h0, rng_i64 h1, rng_i64 h2⟩
theorem api_CrowdC_flat : api_CrowdC.Flat := ⟨fun f vc h hf => by
  obtain ⟨s0, t0, rfl, e0, g0⟩ := keyCells_cons h
  obtain ⟨s1, t1, rfl, e1, g1⟩ := keyCells_cons g0
  obtain ⟨s2, t2, rfl, e2, g2⟩ := keyCells_cons g1
  have z := keyCells_nil g2
  subst z
  have a0 := hf 0 s0 rfl
  have a1 := hf 1 s1 rfl
  have a2 := hf 2 s2 rfl
  simp only [api_CrowdC, a0, a1, a2]
  rw [← keyCell_int e0, ← keyCell_int e1, ← keyCell_int e2]⟩

structure api_Train where
  At : api_Span
  Crowds : Arr api_Crowd
def api_TrainC : Cod api_Train := ⟨(.cons (.int .i64) (.cons (.int .i64) (.cons (.sl api_CrowdC.sg) .nil))), 3, fun x => [.int .i64 x.At.Low, .int .i64 x.At.High, slC api_CrowdC x.Crowds], fun f => ⟨⟨toI (f 0), toI (f 1)⟩, lstC api_CrowdC (f 2)⟩⟩
theorem api_TrainC_ok : api_TrainC.Ok where
  slen := rfl
  ck := fun x j hj => match j, hj with
    | 0, _ => rfl
    | 1, _ => rfl
    | 2, _ => rfl
    | j + 3, h => absurd h (by simp [api_TrainC])
  ok := fun f hf Z w j v hj hd => match j, hj, hd with
    | 0, hj, hd => den_int (hf 0 hj) hd
    | 1, hj, hd => den_int (hf 1 hj) hd
    | 2, hj, hd => den_slC api_CrowdC_ok (hf 2 hj) hd
    | j + 3, h, _ => absurd h (by simp [api_TrainC])
theorem api_TrainC_len (x : api_Train) : (api_TrainC.enc x).length = api_TrainC.size := rfl
def api_Train.wf (x : api_Train) : Prop := i64 x.At.Low ∧ i64 x.At.High ∧ (x.Crowds.n ≤ maxLen ∧ ∀ i, i < x.Crowds.n → (x.Crowds.f i).wf)
theorem api_TrainC_rng {g : Nat → SV} (h : rng api_TrainC.sg g 0) : (api_TrainC.dec g).wf := by
  obtain ⟨h0, h1, h2, _⟩ := h
  exact ⟨rng_i64 h0, rng_i64 h1, rng_sl (C := api_CrowdC) (P := fun y => y.wf) (fun _ h => api_CrowdC_rng h) h2⟩

structure api_Shift where
  At : Int
  Comb : Int
  Rate : Int
def api_ShiftC : Cod api_Shift := ⟨(.cons (.int .i64) (.cons (.int .i64) (.cons (.int .i64) .nil))), 3, fun x => [.int .i64 x.At, .int .i64 x.Comb, .int .i64 x.Rate], fun f => ⟨toI (f 0), toI (f 1), toI (f 2)⟩⟩
theorem api_ShiftC_ok : api_ShiftC.Ok where
  slen := rfl
  ck := fun x j hj => match j, hj with
    | 0, _ => rfl
    | 1, _ => rfl
    | 2, _ => rfl
    | j + 3, h => absurd h (by simp [api_ShiftC])
  ok := fun f hf Z w j v hj hd => match j, hj, hd with
    | 0, hj, hd => den_int (hf 0 hj) hd
    | 1, hj, hd => den_int (hf 1 hj) hd
    | 2, hj, hd => den_int (hf 2 hj) hd
    | j + 3, h, _ => absurd h (by simp [api_ShiftC])
theorem api_ShiftC_len (x : api_Shift) : (api_ShiftC.enc x).length = api_ShiftC.size := rfl
def api_Shift.wf (x : api_Shift) : Prop := i64 x.At ∧ i64 x.Comb ∧ i64 x.Rate
theorem api_ShiftC_rng {g : Nat → SV} (h : rng api_ShiftC.sg g 0) : (api_ShiftC.dec g).wf := by
  obtain ⟨h0, h1, h2, _⟩ := h
  exact ⟨rng_i64 h0, rng_i64 h1, rng_i64 h2⟩
theorem api_ShiftC_flat : api_ShiftC.Flat := ⟨fun f vc h hf => by
  obtain ⟨s0, t0, rfl, e0, g0⟩ := keyCells_cons h
  obtain ⟨s1, t1, rfl, e1, g1⟩ := keyCells_cons g0
  obtain ⟨s2, t2, rfl, e2, g2⟩ := keyCells_cons g1
  have z := keyCells_nil g2
  subst z
  have a0 := hf 0 s0 rfl
  have a1 := hf 1 s1 rfl
  have a2 := hf 2 s2 rfl
  simp only [api_ShiftC, a0, a1, a2]
  rw [← keyCell_int e0, ← keyCell_int e1, ← keyCell_int e2]⟩

structure api_Hall where
  Combs : Arr api_Comb
  Trains : Arr api_Train
  Shifts : Arr api_Shift
  Until : Int
def api_HallC : Cod api_Hall := ⟨(.cons (.sl api_CombC.sg) (.cons (.sl api_TrainC.sg) (.cons (.sl api_ShiftC.sg) (.cons (.int .i64) .nil)))), 4, fun x => [slC api_CombC x.Combs, slC api_TrainC x.Trains, slC api_ShiftC x.Shifts, .int .i64 x.Until], fun f => ⟨lstC api_CombC (f 0), lstC api_TrainC (f 1), lstC api_ShiftC (f 2), toI (f 3)⟩⟩
theorem api_HallC_ok : api_HallC.Ok where
  slen := rfl
  ck := fun x j hj => match j, hj with
    | 0, _ => rfl
    | 1, _ => rfl
    | 2, _ => rfl
    | 3, _ => rfl
    | j + 4, h => absurd h (by simp [api_HallC])
  ok := fun f hf Z w j v hj hd => match j, hj, hd with
    | 0, hj, hd => den_slC api_CombC_ok (hf 0 hj) hd
    | 1, hj, hd => den_slC api_TrainC_ok (hf 1 hj) hd
    | 2, hj, hd => den_slC api_ShiftC_ok (hf 2 hj) hd
    | 3, hj, hd => den_int (hf 3 hj) hd
    | j + 4, h, _ => absurd h (by simp [api_HallC])
theorem api_HallC_len (x : api_Hall) : (api_HallC.enc x).length = api_HallC.size := rfl
def api_Hall.wf (x : api_Hall) : Prop := (x.Combs.n ≤ maxLen ∧ ∀ i, i < x.Combs.n → (x.Combs.f i).wf) ∧ (x.Trains.n ≤ maxLen ∧ ∀ i, i < x.Trains.n → (x.Trains.f i).wf) ∧ (x.Shifts.n ≤ maxLen ∧ ∀ i, i < x.Shifts.n → (x.Shifts.f i).wf) ∧ i64 x.Until
theorem api_HallC_rng {g : Nat → SV} (h : rng api_HallC.sg g 0) : (api_HallC.dec g).wf := by
  obtain ⟨h0, h1, h2, h3, _⟩ := h
  exact ⟨rng_sl (C := api_CombC) (P := fun y => y.wf) (fun _ h => api_CombC_rng h) h0, rng_sl (C := api_TrainC) (P := fun y => y.wf) (fun _ h => api_TrainC_rng h) h1, rng_sl (C := api_ShiftC) (P := fun y => y.wf) (fun _ h => api_ShiftC_rng h) h2, rng_i64 h3⟩

structure api_Day where
  At : Arr Int
  People : Arr (Arr Int)
  Walks : Arr (Arr Int)
def api_DayC : Cod api_Day := ⟨(.cons (.sl intC.sg) (.cons (.sl (lsC intC).sg) (.cons (.sl (lsC intC).sg) .nil))), 3, fun x => [slC intC x.At, slC (lsC intC) x.People, slC (lsC intC) x.Walks], fun f => ⟨lstC intC (f 0), lstC (lsC intC) (f 1), lstC (lsC intC) (f 2)⟩⟩
theorem api_DayC_ok : api_DayC.Ok where
  slen := rfl
  ck := fun x j hj => match j, hj with
    | 0, _ => rfl
    | 1, _ => rfl
    | 2, _ => rfl
    | j + 3, h => absurd h (by simp [api_DayC])
  ok := fun f hf Z w j v hj hd => match j, hj, hd with
    | 0, hj, hd => den_slC intC_ok (hf 0 hj) hd
    | 1, hj, hd => den_slC (lsC_ok intC_ok) (hf 1 hj) hd
    | 2, hj, hd => den_slC (lsC_ok intC_ok) (hf 2 hj) hd
    | j + 3, h, _ => absurd h (by simp [api_DayC])
theorem api_DayC_len (x : api_Day) : (api_DayC.enc x).length = api_DayC.size := rfl
def api_Day.wf (x : api_Day) : Prop := (x.At.n ≤ maxLen ∧ ∀ i, i < x.At.n → i64 ((x.At.f i))) ∧ (x.People.n ≤ maxLen ∧ ∀ i, i < x.People.n → ((x.People.f i).n ≤ maxLen ∧ ∀ i1, i1 < (x.People.f i).n → i64 (((x.People.f i).f i1)))) ∧ (x.Walks.n ≤ maxLen ∧ ∀ i, i < x.Walks.n → ((x.Walks.f i).n ≤ maxLen ∧ ∀ i1, i1 < (x.Walks.f i).n → i64 (((x.Walks.f i).f i1))))
theorem api_DayC_rng {g : Nat → SV} (h : rng api_DayC.sg g 0) : (api_DayC.dec g).wf := by
  obtain ⟨h0, h1, h2, _⟩ := h
  exact ⟨rng_sl (C := intC) (P := fun y => i64 y) (fun _ h => rng_i64 h.1) h0, rng_sl (C := (lsC intC)) (P := fun y => (y.n ≤ maxLen ∧ ∀ i, i < y.n → i64 ((y.f i)))) (fun _ h => rng_sl (C := intC) (P := fun y => i64 y) (fun _ h => rng_i64 h.1) h.1) h1, rng_sl (C := (lsC intC)) (P := fun y => (y.n ≤ maxLen ∧ ∀ i, i < y.n → i64 ((y.f i)))) (fun _ h => rng_sl (C := intC) (P := fun y => i64 y) (fun _ h => rng_i64 h.1) h.1) h2⟩

structure api_Stop where
  Speed : Int
  Loads : api_Span
  Fail : Int
def api_StopC : Cod api_Stop := ⟨(.cons (.int .i64) (.cons (.int .i64) (.cons (.int .i64) (.cons (.int .i64) .nil)))), 4, fun x => [.int .i64 x.Speed, .int .i64 x.Loads.Low, .int .i64 x.Loads.High, .int .i64 x.Fail], fun f => ⟨toI (f 0), ⟨toI (f 1), toI (f 2)⟩, toI (f 3)⟩⟩
theorem api_StopC_ok : api_StopC.Ok where
  slen := rfl
  ck := fun x j hj => match j, hj with
    | 0, _ => rfl
    | 1, _ => rfl
    | 2, _ => rfl
    | 3, _ => rfl
    | j + 4, h => absurd h (by simp [api_StopC])
  ok := fun f hf Z w j v hj hd => match j, hj, hd with
    | 0, hj, hd => den_int (hf 0 hj) hd
    | 1, hj, hd => den_int (hf 1 hj) hd
    | 2, hj, hd => den_int (hf 2 hj) hd
    | 3, hj, hd => den_int (hf 3 hj) hd
    | j + 4, h, _ => absurd h (by simp [api_StopC])
theorem api_StopC_len (x : api_Stop) : (api_StopC.enc x).length = api_StopC.size := rfl
def api_Stop.wf (x : api_Stop) : Prop := i64 x.Speed ∧ i64 x.Loads.Low ∧ i64 x.Loads.High ∧ i64 x.Fail
theorem api_StopC_rng {g : Nat → SV} (h : rng api_StopC.sg g 0) : (api_StopC.dec g).wf := by
  obtain ⟨h0, h1, h2, h3, _⟩ := h
  exact ⟨rng_i64 h0, rng_i64 h1, rng_i64 h2, rng_i64 h3⟩
theorem api_StopC_flat : api_StopC.Flat := ⟨fun f vc h hf => by
  obtain ⟨s0, t0, rfl, e0, g0⟩ := keyCells_cons h
  obtain ⟨s1, t1, rfl, e1, g1⟩ := keyCells_cons g0
  obtain ⟨s2, t2, rfl, e2, g2⟩ := keyCells_cons g1
  obtain ⟨s3, t3, rfl, e3, g3⟩ := keyCells_cons g2
  have z := keyCells_nil g3
  subst z
  have a0 := hf 0 s0 rfl
  have a1 := hf 1 s1 rfl
  have a2 := hf 2 s2 rfl
  have a3 := hf 3 s3 rfl
  simp only [api_StopC, a0, a1, a2, a3]
  rw [← keyCell_int e0, ← keyCell_int e1, ← keyCell_int e2, ← keyCell_int e3]⟩

structure neweltop_Boarded where
  Comb : Int
  Body : Int
  Ticks : Int
  Tick : Int
  Stop : api_Stop
def neweltop_BoardedC : Cod neweltop_Boarded := ⟨(.cons (.int .i64) (.cons (.int .i64) (.cons (.int .i64) (.cons (.int .i64) (.cons (.int .i64) (.cons (.int .i64) (.cons (.int .i64) (.cons (.int .i64) .nil)))))))), 8, fun x => [.int .i64 x.Comb, .int .i64 x.Body, .int .i64 x.Ticks, .int .i64 x.Tick, .int .i64 x.Stop.Speed, .int .i64 x.Stop.Loads.Low, .int .i64 x.Stop.Loads.High, .int .i64 x.Stop.Fail], fun f => ⟨toI (f 0), toI (f 1), toI (f 2), toI (f 3), ⟨toI (f 4), ⟨toI (f 5), toI (f 6)⟩, toI (f 7)⟩⟩⟩
theorem neweltop_BoardedC_ok : neweltop_BoardedC.Ok where
  slen := rfl
  ck := fun x j hj => match j, hj with
    | 0, _ => rfl
    | 1, _ => rfl
    | 2, _ => rfl
    | 3, _ => rfl
    | 4, _ => rfl
    | 5, _ => rfl
    | 6, _ => rfl
    | 7, _ => rfl
    | j + 8, h => absurd h (by simp [neweltop_BoardedC])
  ok := fun f hf Z w j v hj hd => match j, hj, hd with
    | 0, hj, hd => den_int (hf 0 hj) hd
    | 1, hj, hd => den_int (hf 1 hj) hd
    | 2, hj, hd => den_int (hf 2 hj) hd
    | 3, hj, hd => den_int (hf 3 hj) hd
    | 4, hj, hd => den_int (hf 4 hj) hd
    | 5, hj, hd => den_int (hf 5 hj) hd
    | 6, hj, hd => den_int (hf 6 hj) hd
    | 7, hj, hd => den_int (hf 7 hj) hd
    | j + 8, h, _ => absurd h (by simp [neweltop_BoardedC])
theorem neweltop_BoardedC_len (x : neweltop_Boarded) : (neweltop_BoardedC.enc x).length = neweltop_BoardedC.size := rfl
def neweltop_Boarded.wf (x : neweltop_Boarded) : Prop := i64 x.Comb ∧ i64 x.Body ∧ i64 x.Ticks ∧ i64 x.Tick ∧ i64 x.Stop.Speed ∧ i64 x.Stop.Loads.Low ∧ i64 x.Stop.Loads.High ∧ i64 x.Stop.Fail
theorem neweltop_BoardedC_rng {g : Nat → SV} (h : rng neweltop_BoardedC.sg g 0) : (neweltop_BoardedC.dec g).wf := by
  obtain ⟨h0, h1, h2, h3, h4, h5, h6, h7, _⟩ := h
  exact ⟨rng_i64 h0, rng_i64 h1, rng_i64 h2, rng_i64 h3, rng_i64 h4, rng_i64 h5, rng_i64 h6, rng_i64 h7⟩
theorem neweltop_BoardedC_flat : neweltop_BoardedC.Flat := ⟨fun f vc h hf => by
  obtain ⟨s0, t0, rfl, e0, g0⟩ := keyCells_cons h
  obtain ⟨s1, t1, rfl, e1, g1⟩ := keyCells_cons g0
  obtain ⟨s2, t2, rfl, e2, g2⟩ := keyCells_cons g1
  obtain ⟨s3, t3, rfl, e3, g3⟩ := keyCells_cons g2
  obtain ⟨s4, t4, rfl, e4, g4⟩ := keyCells_cons g3
  obtain ⟨s5, t5, rfl, e5, g5⟩ := keyCells_cons g4
  obtain ⟨s6, t6, rfl, e6, g6⟩ := keyCells_cons g5
  obtain ⟨s7, t7, rfl, e7, g7⟩ := keyCells_cons g6
  have z := keyCells_nil g7
  subst z
  have a0 := hf 0 s0 rfl
  have a1 := hf 1 s1 rfl
  have a2 := hf 2 s2 rfl
  have a3 := hf 3 s3 rfl
  have a4 := hf 4 s4 rfl
  have a5 := hf 5 s5 rfl
  have a6 := hf 6 s6 rfl
  have a7 := hf 7 s7 rfl
  simp only [neweltop_BoardedC, a0, a1, a2, a3, a4, a5, a6, a7]
  rw [← keyCell_int e0, ← keyCell_int e1, ← keyCell_int e2, ← keyCell_int e3, ← keyCell_int e4, ← keyCell_int e5, ← keyCell_int e6, ← keyCell_int e7]⟩

structure neweltop_Laden where
  Lift : api_Lift
  Boarded : neweltop_Boarded
  Accel : Int
  Height : Int
def neweltop_LadenC : Cod neweltop_Laden := ⟨(.cons (.int .i64) (.cons (.int .i64) (.cons (.int .i64) (.cons (.int .i64) (.cons (.sl intC.sg) (.cons (.int .i64) (.cons (.int .i64) (.cons (.int .i64) (.cons (.int .i64) (.cons (.int .i64) (.cons (.int .i64) (.cons (.int .i64) (.cons (.int .i64) (.cons (.int .i64) (.cons (.int .i64) (.cons (.int .i64) (.cons (.int .i64) (.cons (.int .i64) (.cons (.int .i64) (.cons (.int .i64) (.cons (.int .i64) (.cons (.int .i64) .nil)))))))))))))))))))))), 22, fun x => [.int .i64 x.Lift.Car, .int .i64 x.Lift.Counter, .int .i64 x.Lift.Rated, .int .i64 x.Lift.Rope, slC intC x.Lift.Floors, .int .i64 x.Lift.Num, .int .i64 x.Lift.Den, .int .i64 x.Lift.Speed, .int .i64 x.Lift.Accel, .int .i64 x.Lift.Over, .int .i64 x.Lift.Stiff, .int .i64 x.Lift.Level, .int .i64 x.Boarded.Comb, .int .i64 x.Boarded.Body, .int .i64 x.Boarded.Ticks, .int .i64 x.Boarded.Tick, .int .i64 x.Boarded.Stop.Speed, .int .i64 x.Boarded.Stop.Loads.Low, .int .i64 x.Boarded.Stop.Loads.High, .int .i64 x.Boarded.Stop.Fail, .int .i64 x.Accel, .int .i64 x.Height], fun f => ⟨⟨toI (f 0), toI (f 1), toI (f 2), toI (f 3), lstC intC (f 4), toI (f 5), toI (f 6), toI (f 7), toI (f 8), toI (f 9), toI (f 10), toI (f 11)⟩, ⟨toI (f 12), toI (f 13), toI (f 14), toI (f 15), ⟨toI (f 16), ⟨toI (f 17), toI (f 18)⟩, toI (f 19)⟩⟩, toI (f 20), toI (f 21)⟩⟩
theorem neweltop_LadenC_ok : neweltop_LadenC.Ok where
  slen := rfl
  ck := fun x j hj => match j, hj with
    | 0, _ => rfl
    | 1, _ => rfl
    | 2, _ => rfl
    | 3, _ => rfl
    | 4, _ => rfl
    | 5, _ => rfl
    | 6, _ => rfl
    | 7, _ => rfl
    | 8, _ => rfl
    | 9, _ => rfl
    | 10, _ => rfl
    | 11, _ => rfl
    | 12, _ => rfl
    | 13, _ => rfl
    | 14, _ => rfl
    | 15, _ => rfl
    | 16, _ => rfl
    | 17, _ => rfl
    | 18, _ => rfl
    | 19, _ => rfl
    | 20, _ => rfl
    | 21, _ => rfl
    | j + 22, h => absurd h (by simp [neweltop_LadenC])
  ok := fun f hf Z w j v hj hd => match j, hj, hd with
    | 0, hj, hd => den_int (hf 0 hj) hd
    | 1, hj, hd => den_int (hf 1 hj) hd
    | 2, hj, hd => den_int (hf 2 hj) hd
    | 3, hj, hd => den_int (hf 3 hj) hd
    | 4, hj, hd => den_slC intC_ok (hf 4 hj) hd
    | 5, hj, hd => den_int (hf 5 hj) hd
    | 6, hj, hd => den_int (hf 6 hj) hd
    | 7, hj, hd => den_int (hf 7 hj) hd
    | 8, hj, hd => den_int (hf 8 hj) hd
    | 9, hj, hd => den_int (hf 9 hj) hd
    | 10, hj, hd => den_int (hf 10 hj) hd
    | 11, hj, hd => den_int (hf 11 hj) hd
    | 12, hj, hd => den_int (hf 12 hj) hd
    | 13, hj, hd => den_int (hf 13 hj) hd
    | 14, hj, hd => den_int (hf 14 hj) hd
    | 15, hj, hd => den_int (hf 15 hj) hd
    | 16, hj, hd => den_int (hf 16 hj) hd
    | 17, hj, hd => den_int (hf 17 hj) hd
    | 18, hj, hd => den_int (hf 18 hj) hd
    | 19, hj, hd => den_int (hf 19 hj) hd
    | 20, hj, hd => den_int (hf 20 hj) hd
    | 21, hj, hd => den_int (hf 21 hj) hd
    | j + 22, h, _ => absurd h (by simp [neweltop_LadenC])
theorem neweltop_LadenC_len (x : neweltop_Laden) : (neweltop_LadenC.enc x).length = neweltop_LadenC.size := rfl
def neweltop_Laden.wf (x : neweltop_Laden) : Prop := i64 x.Lift.Car ∧ i64 x.Lift.Counter ∧ i64 x.Lift.Rated ∧ i64 x.Lift.Rope ∧ (x.Lift.Floors.n ≤ maxLen ∧ ∀ i, i < x.Lift.Floors.n → i64 ((x.Lift.Floors.f i))) ∧ i64 x.Lift.Num ∧ i64 x.Lift.Den ∧ i64 x.Lift.Speed ∧ i64 x.Lift.Accel ∧ i64 x.Lift.Over ∧ i64 x.Lift.Stiff ∧ i64 x.Lift.Level ∧ i64 x.Boarded.Comb ∧ i64 x.Boarded.Body ∧ i64 x.Boarded.Ticks ∧ i64 x.Boarded.Tick ∧ i64 x.Boarded.Stop.Speed ∧ i64 x.Boarded.Stop.Loads.Low ∧ i64 x.Boarded.Stop.Loads.High ∧ i64 x.Boarded.Stop.Fail ∧ i64 x.Accel ∧ i64 x.Height
theorem neweltop_LadenC_rng {g : Nat → SV} (h : rng neweltop_LadenC.sg g 0) : (neweltop_LadenC.dec g).wf := by
  obtain ⟨h0, h1, h2, h3, h4, h5, h6, h7, h8, h9, h10, h11, h12, h13, h14, h15, h16, h17, h18, h19, h20, h21, _⟩ := h
  exact ⟨rng_i64 h0, rng_i64 h1, rng_i64 h2, rng_i64 h3, rng_sl (C := intC) (P := fun y => i64 y) (fun _ h => rng_i64 h.1) h4, rng_i64 h5, rng_i64 h6, rng_i64 h7, rng_i64 h8, rng_i64 h9, rng_i64 h10, rng_i64 h11, rng_i64 h12, rng_i64 h13, rng_i64 h14, rng_i64 h15, rng_i64 h16, rng_i64 h17, rng_i64 h18, rng_i64 h19, rng_i64 h20, rng_i64 h21⟩

structure api_Part where
  Rates : Arr api_Span
  Worn : Int
  Turns : Int
  Age : Int
def api_PartC : Cod api_Part := ⟨(.cons (.sl api_SpanC.sg) (.cons (.int .i64) (.cons (.int .i64) (.cons (.int .i64) .nil)))), 4, fun x => [slC api_SpanC x.Rates, .int .i64 x.Worn, .int .i64 x.Turns, .int .i64 x.Age], fun f => ⟨lstC api_SpanC (f 0), toI (f 1), toI (f 2), toI (f 3)⟩⟩
theorem api_PartC_ok : api_PartC.Ok where
  slen := rfl
  ck := fun x j hj => match j, hj with
    | 0, _ => rfl
    | 1, _ => rfl
    | 2, _ => rfl
    | 3, _ => rfl
    | j + 4, h => absurd h (by simp [api_PartC])
  ok := fun f hf Z w j v hj hd => match j, hj, hd with
    | 0, hj, hd => den_slC api_SpanC_ok (hf 0 hj) hd
    | 1, hj, hd => den_int (hf 1 hj) hd
    | 2, hj, hd => den_int (hf 2 hj) hd
    | 3, hj, hd => den_int (hf 3 hj) hd
    | j + 4, h, _ => absurd h (by simp [api_PartC])
theorem api_PartC_len (x : api_Part) : (api_PartC.enc x).length = api_PartC.size := rfl
def api_Part.wf (x : api_Part) : Prop := (x.Rates.n ≤ maxLen ∧ ∀ i, i < x.Rates.n → (x.Rates.f i).wf) ∧ i64 x.Worn ∧ i64 x.Turns ∧ i64 x.Age
theorem api_PartC_rng {g : Nat → SV} (h : rng api_PartC.sg g 0) : (api_PartC.dec g).wf := by
  obtain ⟨h0, h1, h2, h3, _⟩ := h
  exact ⟨rng_sl (C := api_SpanC) (P := fun y => y.wf) (fun _ h => api_SpanC_rng h) h0, rng_i64 h1, rng_i64 h2, rng_i64 h3⟩

structure neweltop_Worked where
  Part : api_Part
  Class : Int
  Split : Int
def neweltop_WorkedC : Cod neweltop_Worked := ⟨(.cons (.sl api_SpanC.sg) (.cons (.int .i64) (.cons (.int .i64) (.cons (.int .i64) (.cons (.int .i64) (.cons (.int .i64) .nil)))))), 6, fun x => [slC api_SpanC x.Part.Rates, .int .i64 x.Part.Worn, .int .i64 x.Part.Turns, .int .i64 x.Part.Age, .int .i64 x.Class, .int .i64 x.Split], fun f => ⟨⟨lstC api_SpanC (f 0), toI (f 1), toI (f 2), toI (f 3)⟩, toI (f 4), toI (f 5)⟩⟩
theorem neweltop_WorkedC_ok : neweltop_WorkedC.Ok where
  slen := rfl
  ck := fun x j hj => match j, hj with
    | 0, _ => rfl
    | 1, _ => rfl
    | 2, _ => rfl
    | 3, _ => rfl
    | 4, _ => rfl
    | 5, _ => rfl
    | j + 6, h => absurd h (by simp [neweltop_WorkedC])
  ok := fun f hf Z w j v hj hd => match j, hj, hd with
    | 0, hj, hd => den_slC api_SpanC_ok (hf 0 hj) hd
    | 1, hj, hd => den_int (hf 1 hj) hd
    | 2, hj, hd => den_int (hf 2 hj) hd
    | 3, hj, hd => den_int (hf 3 hj) hd
    | 4, hj, hd => den_int (hf 4 hj) hd
    | 5, hj, hd => den_int (hf 5 hj) hd
    | j + 6, h, _ => absurd h (by simp [neweltop_WorkedC])
theorem neweltop_WorkedC_len (x : neweltop_Worked) : (neweltop_WorkedC.enc x).length = neweltop_WorkedC.size := rfl
def neweltop_Worked.wf (x : neweltop_Worked) : Prop := (x.Part.Rates.n ≤ maxLen ∧ ∀ i, i < x.Part.Rates.n → (x.Part.Rates.f i).wf) ∧ i64 x.Part.Worn ∧ i64 x.Part.Turns ∧ i64 x.Part.Age ∧ i64 x.Class ∧ i64 x.Split
theorem neweltop_WorkedC_rng {g : Nat → SV} (h : rng neweltop_WorkedC.sg g 0) : (neweltop_WorkedC.dec g).wf := by
  obtain ⟨h0, h1, h2, h3, h4, h5, _⟩ := h
  exact ⟨rng_sl (C := api_SpanC) (P := fun y => y.wf) (fun _ h => api_SpanC_rng h) h0, rng_i64 h1, rng_i64 h2, rng_i64 h3, rng_i64 h4, rng_i64 h5⟩

structure api_Use where
  Day : Int
  Turns : Int
  Class : Int
  Measured : Bool
  Says : api_Span
def api_UseC : Cod api_Use := ⟨(.cons (.int .i64) (.cons (.int .i64) (.cons (.int .i64) (.cons .bool (.cons (.int .i64) (.cons (.int .i64) .nil)))))), 6, fun x => [.int .i64 x.Day, .int .i64 x.Turns, .int .i64 x.Class, .bool x.Measured, .int .i64 x.Says.Low, .int .i64 x.Says.High], fun f => ⟨toI (f 0), toI (f 1), toI (f 2), toB (f 3), ⟨toI (f 4), toI (f 5)⟩⟩⟩
theorem api_UseC_ok : api_UseC.Ok where
  slen := rfl
  ck := fun x j hj => match j, hj with
    | 0, _ => rfl
    | 1, _ => rfl
    | 2, _ => rfl
    | 3, _ => rfl
    | 4, _ => rfl
    | 5, _ => rfl
    | j + 6, h => absurd h (by simp [api_UseC])
  ok := fun f hf Z w j v hj hd => match j, hj, hd with
    | 0, hj, hd => den_int (hf 0 hj) hd
    | 1, hj, hd => den_int (hf 1 hj) hd
    | 2, hj, hd => den_int (hf 2 hj) hd
    | 3, hj, hd => den_bool (hf 3 hj) hd
    | 4, hj, hd => den_int (hf 4 hj) hd
    | 5, hj, hd => den_int (hf 5 hj) hd
    | j + 6, h, _ => absurd h (by simp [api_UseC])
theorem api_UseC_len (x : api_Use) : (api_UseC.enc x).length = api_UseC.size := rfl
def api_Use.wf (x : api_Use) : Prop := i64 x.Day ∧ i64 x.Turns ∧ i64 x.Class ∧ True ∧ i64 x.Says.Low ∧ i64 x.Says.High
theorem api_UseC_rng {g : Nat → SV} (h : rng api_UseC.sg g 0) : (api_UseC.dec g).wf := by
  obtain ⟨h0, h1, h2, h3, h4, h5, _⟩ := h
  exact ⟨rng_i64 h0, rng_i64 h1, rng_i64 h2, trivial, rng_i64 h4, rng_i64 h5⟩
theorem api_UseC_flat : api_UseC.Flat := ⟨fun f vc h hf => by
  obtain ⟨s0, t0, rfl, e0, g0⟩ := keyCells_cons h
  obtain ⟨s1, t1, rfl, e1, g1⟩ := keyCells_cons g0
  obtain ⟨s2, t2, rfl, e2, g2⟩ := keyCells_cons g1
  obtain ⟨s3, t3, rfl, e3, g3⟩ := keyCells_cons g2
  obtain ⟨s4, t4, rfl, e4, g4⟩ := keyCells_cons g3
  obtain ⟨s5, t5, rfl, e5, g5⟩ := keyCells_cons g4
  have z := keyCells_nil g5
  subst z
  have a0 := hf 0 s0 rfl
  have a1 := hf 1 s1 rfl
  have a2 := hf 2 s2 rfl
  have a3 := hf 3 s3 rfl
  have a4 := hf 4 s4 rfl
  have a5 := hf 5 s5 rfl
  simp only [api_UseC, a0, a1, a2, a3, a4, a5]
  rw [← keyCell_int e0, ← keyCell_int e1, ← keyCell_int e2, ← keyCell_bool e3, ← keyCell_int e4, ← keyCell_int e5]⟩

structure api_Ride where
  Floor : Int
  Up : Bool
  Stood : Bool
  Doing : Int
  Left : Int
  Wants : Int
def api_RideC : Cod api_Ride := ⟨(.cons (.int .i64) (.cons .bool (.cons .bool (.cons (.int .i64) (.cons (.int .i64) (.cons (.int .i64) .nil)))))), 6, fun x => [.int .i64 x.Floor, .bool x.Up, .bool x.Stood, .int .i64 x.Doing, .int .i64 x.Left, .int .i64 x.Wants], fun f => ⟨toI (f 0), toB (f 1), toB (f 2), toI (f 3), toI (f 4), toI (f 5)⟩⟩
theorem api_RideC_ok : api_RideC.Ok where
  slen := rfl
  ck := fun x j hj => match j, hj with
    | 0, _ => rfl
    | 1, _ => rfl
    | 2, _ => rfl
    | 3, _ => rfl
    | 4, _ => rfl
    | 5, _ => rfl
    | j + 6, h => absurd h (by simp [api_RideC])
  ok := fun f hf Z w j v hj hd => match j, hj, hd with
    | 0, hj, hd => den_int (hf 0 hj) hd
    | 1, hj, hd => den_bool (hf 1 hj) hd
    | 2, hj, hd => den_bool (hf 2 hj) hd
    | 3, hj, hd => den_int (hf 3 hj) hd
    | 4, hj, hd => den_int (hf 4 hj) hd
    | 5, hj, hd => den_int (hf 5 hj) hd
    | j + 6, h, _ => absurd h (by simp [api_RideC])
theorem api_RideC_len (x : api_Ride) : (api_RideC.enc x).length = api_RideC.size := rfl
def api_Ride.wf (x : api_Ride) : Prop := i64 x.Floor ∧ True ∧ True ∧ i64 x.Doing ∧ i64 x.Left ∧ i64 x.Wants
theorem api_RideC_rng {g : Nat → SV} (h : rng api_RideC.sg g 0) : (api_RideC.dec g).wf := by
  obtain ⟨h0, h1, h2, h3, h4, h5, _⟩ := h
  exact ⟨rng_i64 h0, trivial, trivial, rng_i64 h3, rng_i64 h4, rng_i64 h5⟩
theorem api_RideC_flat : api_RideC.Flat := ⟨fun f vc h hf => by
  obtain ⟨s0, t0, rfl, e0, g0⟩ := keyCells_cons h
  obtain ⟨s1, t1, rfl, e1, g1⟩ := keyCells_cons g0
  obtain ⟨s2, t2, rfl, e2, g2⟩ := keyCells_cons g1
  obtain ⟨s3, t3, rfl, e3, g3⟩ := keyCells_cons g2
  obtain ⟨s4, t4, rfl, e4, g4⟩ := keyCells_cons g3
  obtain ⟨s5, t5, rfl, e5, g5⟩ := keyCells_cons g4
  have z := keyCells_nil g5
  subst z
  have a0 := hf 0 s0 rfl
  have a1 := hf 1 s1 rfl
  have a2 := hf 2 s2 rfl
  have a3 := hf 3 s3 rfl
  have a4 := hf 4 s4 rfl
  have a5 := hf 5 s5 rfl
  simp only [api_RideC, a0, a1, a2, a3, a4, a5]
  rw [← keyCell_int e0, ← keyCell_bool e1, ← keyCell_bool e2, ← keyCell_int e3, ← keyCell_int e4, ← keyCell_int e5]⟩

structure api_Press where
  At : Int
  Floor : Int
def api_PressC : Cod api_Press := ⟨(.cons (.int .i64) (.cons (.int .i64) .nil)), 2, fun x => [.int .i64 x.At, .int .i64 x.Floor], fun f => ⟨toI (f 0), toI (f 1)⟩⟩
theorem api_PressC_ok : api_PressC.Ok where
  slen := rfl
  ck := fun x j hj => match j, hj with
    | 0, _ => rfl
    | 1, _ => rfl
    | j + 2, h => absurd h (by simp [api_PressC])
  ok := fun f hf Z w j v hj hd => match j, hj, hd with
    | 0, hj, hd => den_int (hf 0 hj) hd
    | 1, hj, hd => den_int (hf 1 hj) hd
    | j + 2, h, _ => absurd h (by simp [api_PressC])
theorem api_PressC_len (x : api_Press) : (api_PressC.enc x).length = api_PressC.size := rfl
def api_Press.wf (x : api_Press) : Prop := i64 x.At ∧ i64 x.Floor
theorem api_PressC_rng {g : Nat → SV} (h : rng api_PressC.sg g 0) : (api_PressC.dec g).wf := by
  obtain ⟨h0, h1, _⟩ := h
  exact ⟨rng_i64 h0, rng_i64 h1⟩
theorem api_PressC_flat : api_PressC.Flat := ⟨fun f vc h hf => by
  obtain ⟨s0, t0, rfl, e0, g0⟩ := keyCells_cons h
  obtain ⟨s1, t1, rfl, e1, g1⟩ := keyCells_cons g0
  have z := keyCells_nil g1
  subst z
  have a0 := hf 0 s0 rfl
  have a1 := hf 1 s1 rfl
  simp only [api_PressC, a0, a1]
  rw [← keyCell_int e0, ← keyCell_int e1]⟩

structure neweltop_Served where
  Door : api_Door
  Presses : Arr api_Press
  From : Int
  To : Int
  Most : Int
  Breaks : Arr Int
def neweltop_ServedC : Cod neweltop_Served := ⟨(.cons (.int .i64) (.cons (.int .i64) (.cons (.sl api_PressC.sg) (.cons (.int .i64) (.cons (.int .i64) (.cons (.int .i64) (.cons (.sl intC.sg) .nil))))))), 7, fun x => [.int .i64 x.Door.Wide, .int .i64 x.Door.Wait, slC api_PressC x.Presses, .int .i64 x.From, .int .i64 x.To, .int .i64 x.Most, slC intC x.Breaks], fun f => ⟨⟨toI (f 0), toI (f 1)⟩, lstC api_PressC (f 2), toI (f 3), toI (f 4), toI (f 5), lstC intC (f 6)⟩⟩
theorem neweltop_ServedC_ok : neweltop_ServedC.Ok where
  slen := rfl
  ck := fun x j hj => match j, hj with
    | 0, _ => rfl
    | 1, _ => rfl
    | 2, _ => rfl
    | 3, _ => rfl
    | 4, _ => rfl
    | 5, _ => rfl
    | 6, _ => rfl
    | j + 7, h => absurd h (by simp [neweltop_ServedC])
  ok := fun f hf Z w j v hj hd => match j, hj, hd with
    | 0, hj, hd => den_int (hf 0 hj) hd
    | 1, hj, hd => den_int (hf 1 hj) hd
    | 2, hj, hd => den_slC api_PressC_ok (hf 2 hj) hd
    | 3, hj, hd => den_int (hf 3 hj) hd
    | 4, hj, hd => den_int (hf 4 hj) hd
    | 5, hj, hd => den_int (hf 5 hj) hd
    | 6, hj, hd => den_slC intC_ok (hf 6 hj) hd
    | j + 7, h, _ => absurd h (by simp [neweltop_ServedC])
theorem neweltop_ServedC_len (x : neweltop_Served) : (neweltop_ServedC.enc x).length = neweltop_ServedC.size := rfl
def neweltop_Served.wf (x : neweltop_Served) : Prop := i64 x.Door.Wide ∧ i64 x.Door.Wait ∧ (x.Presses.n ≤ maxLen ∧ ∀ i, i < x.Presses.n → (x.Presses.f i).wf) ∧ i64 x.From ∧ i64 x.To ∧ i64 x.Most ∧ (x.Breaks.n ≤ maxLen ∧ ∀ i, i < x.Breaks.n → i64 ((x.Breaks.f i)))
theorem neweltop_ServedC_rng {g : Nat → SV} (h : rng neweltop_ServedC.sg g 0) : (neweltop_ServedC.dec g).wf := by
  obtain ⟨h0, h1, h2, h3, h4, h5, h6, _⟩ := h
  exact ⟨rng_i64 h0, rng_i64 h1, rng_sl (C := api_PressC) (P := fun y => y.wf) (fun _ h => api_PressC_rng h) h2, rng_i64 h3, rng_i64 h4, rng_i64 h5, rng_sl (C := intC) (P := fun y => i64 y) (fun _ h => rng_i64 h.1) h6⟩

structure api_Brake where
  Force : Int
  Delay : Int
def api_BrakeC : Cod api_Brake := ⟨(.cons (.int .i64) (.cons (.int .i64) .nil)), 2, fun x => [.int .i64 x.Force, .int .i64 x.Delay], fun f => ⟨toI (f 0), toI (f 1)⟩⟩
theorem api_BrakeC_ok : api_BrakeC.Ok where
  slen := rfl
  ck := fun x j hj => match j, hj with
    | 0, _ => rfl
    | 1, _ => rfl
    | j + 2, h => absurd h (by simp [api_BrakeC])
  ok := fun f hf Z w j v hj hd => match j, hj, hd with
    | 0, hj, hd => den_int (hf 0 hj) hd
    | 1, hj, hd => den_int (hf 1 hj) hd
    | j + 2, h, _ => absurd h (by simp [api_BrakeC])
theorem api_BrakeC_len (x : api_Brake) : (api_BrakeC.enc x).length = api_BrakeC.size := rfl
def api_Brake.wf (x : api_Brake) : Prop := i64 x.Force ∧ i64 x.Delay
theorem api_BrakeC_rng {g : Nat → SV} (h : rng api_BrakeC.sg g 0) : (api_BrakeC.dec g).wf := by
  obtain ⟨h0, h1, _⟩ := h
  exact ⟨rng_i64 h0, rng_i64 h1⟩
theorem api_BrakeC_flat : api_BrakeC.Flat := ⟨fun f vc h hf => by
  obtain ⟨s0, t0, rfl, e0, g0⟩ := keyCells_cons h
  obtain ⟨s1, t1, rfl, e1, g1⟩ := keyCells_cons g0
  have z := keyCells_nil g1
  subst z
  have a0 := hf 0 s0 rfl
  have a1 := hf 1 s1 rfl
  simp only [api_BrakeC, a0, a1]
  rw [← keyCell_int e0, ← keyCell_int e1]⟩

structure api_Escalator where
  Up : Bool
  Empty : Int
  Pull : Int
  Drag : Int
  Motor : Int
  Brakes : Arr api_Brake
def api_EscalatorC : Cod api_Escalator := ⟨(.cons .bool (.cons (.int .i64) (.cons (.int .i64) (.cons (.int .i64) (.cons (.int .i64) (.cons (.sl api_BrakeC.sg) .nil)))))), 6, fun x => [.bool x.Up, .int .i64 x.Empty, .int .i64 x.Pull, .int .i64 x.Drag, .int .i64 x.Motor, slC api_BrakeC x.Brakes], fun f => ⟨toB (f 0), toI (f 1), toI (f 2), toI (f 3), toI (f 4), lstC api_BrakeC (f 5)⟩⟩
theorem api_EscalatorC_ok : api_EscalatorC.Ok where
  slen := rfl
  ck := fun x j hj => match j, hj with
    | 0, _ => rfl
    | 1, _ => rfl
    | 2, _ => rfl
    | 3, _ => rfl
    | 4, _ => rfl
    | 5, _ => rfl
    | j + 6, h => absurd h (by simp [api_EscalatorC])
  ok := fun f hf Z w j v hj hd => match j, hj, hd with
    | 0, hj, hd => den_bool (hf 0 hj) hd
    | 1, hj, hd => den_int (hf 1 hj) hd
    | 2, hj, hd => den_int (hf 2 hj) hd
    | 3, hj, hd => den_int (hf 3 hj) hd
    | 4, hj, hd => den_int (hf 4 hj) hd
    | 5, hj, hd => den_slC api_BrakeC_ok (hf 5 hj) hd
    | j + 6, h, _ => absurd h (by simp [api_EscalatorC])
theorem api_EscalatorC_len (x : api_Escalator) : (api_EscalatorC.enc x).length = api_EscalatorC.size := rfl
def api_Escalator.wf (x : api_Escalator) : Prop := True ∧ i64 x.Empty ∧ i64 x.Pull ∧ i64 x.Drag ∧ i64 x.Motor ∧ (x.Brakes.n ≤ maxLen ∧ ∀ i, i < x.Brakes.n → (x.Brakes.f i).wf)
theorem api_EscalatorC_rng {g : Nat → SV} (h : rng api_EscalatorC.sg g 0) : (api_EscalatorC.dec g).wf := by
  obtain ⟨h0, h1, h2, h3, h4, h5, _⟩ := h
  exact ⟨trivial, rng_i64 h1, rng_i64 h2, rng_i64 h3, rng_i64 h4, rng_sl (C := api_BrakeC) (P := fun y => y.wf) (fun _ h => api_BrakeC_rng h) h5⟩

structure api_Wire where
  Kind : Int
  Of : Arr Int
def api_WireC : Cod api_Wire := ⟨(.cons (.int .i64) (.cons (.sl intC.sg) .nil)), 2, fun x => [.int .i64 x.Kind, slC intC x.Of], fun f => ⟨toI (f 0), lstC intC (f 1)⟩⟩
theorem api_WireC_ok : api_WireC.Ok where
  slen := rfl
  ck := fun x j hj => match j, hj with
    | 0, _ => rfl
    | 1, _ => rfl
    | j + 2, h => absurd h (by simp [api_WireC])
  ok := fun f hf Z w j v hj hd => match j, hj, hd with
    | 0, hj, hd => den_int (hf 0 hj) hd
    | 1, hj, hd => den_slC intC_ok (hf 1 hj) hd
    | j + 2, h, _ => absurd h (by simp [api_WireC])
theorem api_WireC_len (x : api_Wire) : (api_WireC.enc x).length = api_WireC.size := rfl
def api_Wire.wf (x : api_Wire) : Prop := i64 x.Kind ∧ (x.Of.n ≤ maxLen ∧ ∀ i, i < x.Of.n → i64 ((x.Of.f i)))
theorem api_WireC_rng {g : Nat → SV} (h : rng api_WireC.sg g 0) : (api_WireC.dec g).wf := by
  obtain ⟨h0, h1, _⟩ := h
  exact ⟨rng_i64 h0, rng_sl (C := intC) (P := fun y => i64 y) (fun _ h => rng_i64 h.1) h1⟩

structure api_Circuit where
  Hazards : Int
  Switches : Arr Int
  Wires : Arr api_Wire
def api_CircuitC : Cod api_Circuit := ⟨(.cons (.int .i64) (.cons (.sl intC.sg) (.cons (.sl api_WireC.sg) .nil))), 3, fun x => [.int .i64 x.Hazards, slC intC x.Switches, slC api_WireC x.Wires], fun f => ⟨toI (f 0), lstC intC (f 1), lstC api_WireC (f 2)⟩⟩
theorem api_CircuitC_ok : api_CircuitC.Ok where
  slen := rfl
  ck := fun x j hj => match j, hj with
    | 0, _ => rfl
    | 1, _ => rfl
    | 2, _ => rfl
    | j + 3, h => absurd h (by simp [api_CircuitC])
  ok := fun f hf Z w j v hj hd => match j, hj, hd with
    | 0, hj, hd => den_int (hf 0 hj) hd
    | 1, hj, hd => den_slC intC_ok (hf 1 hj) hd
    | 2, hj, hd => den_slC api_WireC_ok (hf 2 hj) hd
    | j + 3, h, _ => absurd h (by simp [api_CircuitC])
theorem api_CircuitC_len (x : api_Circuit) : (api_CircuitC.enc x).length = api_CircuitC.size := rfl
def api_Circuit.wf (x : api_Circuit) : Prop := i64 x.Hazards ∧ (x.Switches.n ≤ maxLen ∧ ∀ i, i < x.Switches.n → i64 ((x.Switches.f i))) ∧ (x.Wires.n ≤ maxLen ∧ ∀ i, i < x.Wires.n → (x.Wires.f i).wf)
theorem api_CircuitC_rng {g : Nat → SV} (h : rng api_CircuitC.sg g 0) : (api_CircuitC.dec g).wf := by
  obtain ⟨h0, h1, h2, _⟩ := h
  exact ⟨rng_i64 h0, rng_sl (C := intC) (P := fun y => i64 y) (fun _ h => rng_i64 h.1) h1, rng_sl (C := api_WireC) (P := fun y => y.wf) (fun _ h => api_WireC_rng h) h2⟩

structure lift_leaf where
  Door : api_Door
  f_at : Int
  f_does : Int
  f_left : Int
def lift_leafC : Cod lift_leaf := ⟨(.cons (.int .i64) (.cons (.int .i64) (.cons (.int .i64) (.cons (.int .i64) (.cons (.int .i64) .nil))))), 5, fun x => [.int .i64 x.Door.Wide, .int .i64 x.Door.Wait, .int .i64 x.f_at, .int .i64 x.f_does, .int .i64 x.f_left], fun f => ⟨⟨toI (f 0), toI (f 1)⟩, toI (f 2), toI (f 3), toI (f 4)⟩⟩
theorem lift_leafC_ok : lift_leafC.Ok where
  slen := rfl
  ck := fun x j hj => match j, hj with
    | 0, _ => rfl
    | 1, _ => rfl
    | 2, _ => rfl
    | 3, _ => rfl
    | 4, _ => rfl
    | j + 5, h => absurd h (by simp [lift_leafC])
  ok := fun f hf Z w j v hj hd => match j, hj, hd with
    | 0, hj, hd => den_int (hf 0 hj) hd
    | 1, hj, hd => den_int (hf 1 hj) hd
    | 2, hj, hd => den_int (hf 2 hj) hd
    | 3, hj, hd => den_int (hf 3 hj) hd
    | 4, hj, hd => den_int (hf 4 hj) hd
    | j + 5, h, _ => absurd h (by simp [lift_leafC])
theorem lift_leafC_len (x : lift_leaf) : (lift_leafC.enc x).length = lift_leafC.size := rfl
def lift_leaf.wf (x : lift_leaf) : Prop := i64 x.Door.Wide ∧ i64 x.Door.Wait ∧ i64 x.f_at ∧ i64 x.f_does ∧ i64 x.f_left
theorem lift_leafC_rng {g : Nat → SV} (h : rng lift_leafC.sg g 0) : (lift_leafC.dec g).wf := by
  obtain ⟨h0, h1, h2, h3, h4, _⟩ := h
  exact ⟨rng_i64 h0, rng_i64 h1, rng_i64 h2, rng_i64 h3, rng_i64 h4⟩
theorem lift_leafC_flat : lift_leafC.Flat := ⟨fun f vc h hf => by
  obtain ⟨s0, t0, rfl, e0, g0⟩ := keyCells_cons h
  obtain ⟨s1, t1, rfl, e1, g1⟩ := keyCells_cons g0
  obtain ⟨s2, t2, rfl, e2, g2⟩ := keyCells_cons g1
  obtain ⟨s3, t3, rfl, e3, g3⟩ := keyCells_cons g2
  obtain ⟨s4, t4, rfl, e4, g4⟩ := keyCells_cons g3
  have z := keyCells_nil g4
  subst z
  have a0 := hf 0 s0 rfl
  have a1 := hf 1 s1 rfl
  have a2 := hf 2 s2 rfl
  have a3 := hf 3 s3 rfl
  have a4 := hf 4 s4 rfl
  simp only [lift_leafC, a0, a1, a2, a3, a4]
  rw [← keyCell_int e0, ← keyCell_int e1, ← keyCell_int e2, ← keyCell_int e3, ← keyCell_int e4]⟩

structure ways_level where
  Station : api_Station
  f_out : Int
  f_help : Bool
def ways_levelC : Cod ways_level := ⟨(.cons (.int .i64) (.cons (.sl api_PassageC.sg) (.cons (.sl intC.sg) (.cons (.int .i64) (.cons .bool .nil))))), 5, fun x => [.int .i64 x.Station.Places, slC api_PassageC x.Station.Passages, slC intC x.Station.Exits, .int .i64 x.f_out, .bool x.f_help], fun f => ⟨⟨toI (f 0), lstC api_PassageC (f 1), lstC intC (f 2)⟩, toI (f 3), toB (f 4)⟩⟩
theorem ways_levelC_ok : ways_levelC.Ok where
  slen := rfl
  ck := fun x j hj => match j, hj with
    | 0, _ => rfl
    | 1, _ => rfl
    | 2, _ => rfl
    | 3, _ => rfl
    | 4, _ => rfl
    | j + 5, h => absurd h (by simp [ways_levelC])
  ok := fun f hf Z w j v hj hd => match j, hj, hd with
    | 0, hj, hd => den_int (hf 0 hj) hd
    | 1, hj, hd => den_slC api_PassageC_ok (hf 1 hj) hd
    | 2, hj, hd => den_slC intC_ok (hf 2 hj) hd
    | 3, hj, hd => den_int (hf 3 hj) hd
    | 4, hj, hd => den_bool (hf 4 hj) hd
    | j + 5, h, _ => absurd h (by simp [ways_levelC])
theorem ways_levelC_len (x : ways_level) : (ways_levelC.enc x).length = ways_levelC.size := rfl
def ways_level.wf (x : ways_level) : Prop := i64 x.Station.Places ∧ (x.Station.Passages.n ≤ maxLen ∧ ∀ i, i < x.Station.Passages.n → (x.Station.Passages.f i).wf) ∧ (x.Station.Exits.n ≤ maxLen ∧ ∀ i, i < x.Station.Exits.n → i64 ((x.Station.Exits.f i))) ∧ i64 x.f_out ∧ True
theorem ways_levelC_rng {g : Nat → SV} (h : rng ways_levelC.sg g 0) : (ways_levelC.dec g).wf := by
  obtain ⟨h0, h1, h2, h3, h4, _⟩ := h
  exact ⟨rng_i64 h0, rng_sl (C := api_PassageC) (P := fun y => y.wf) (fun _ h => api_PassageC_rng h) h1, rng_sl (C := intC) (P := fun y => i64 y) (fun _ h => rng_i64 h.1) h2, rng_i64 h3, trivial⟩

structure calls_cage where
  Car : api_Car
  Ride : api_Ride
def calls_cageC : Cod calls_cage := ⟨(.cons (.int .i64) (.cons (.int .i64) (.cons (.int .i64) (.cons (.int .i64) (.cons (.int .i64) (.cons (.int .i64) (.cons .bool (.cons .bool (.cons (.int .i64) (.cons (.int .i64) (.cons (.int .i64) .nil))))))))))), 11, fun x => [.int .i64 x.Car.Low, .int .i64 x.Car.High, .int .i64 x.Car.Start, .int .i64 x.Car.Move, .int .i64 x.Car.Stop, .int .i64 x.Ride.Floor, .bool x.Ride.Up, .bool x.Ride.Stood, .int .i64 x.Ride.Doing, .int .i64 x.Ride.Left, .int .i64 x.Ride.Wants], fun f => ⟨⟨toI (f 0), toI (f 1), toI (f 2), toI (f 3), toI (f 4)⟩, ⟨toI (f 5), toB (f 6), toB (f 7), toI (f 8), toI (f 9), toI (f 10)⟩⟩⟩
theorem calls_cageC_ok : calls_cageC.Ok where
  slen := rfl
  ck := fun x j hj => match j, hj with
    | 0, _ => rfl
    | 1, _ => rfl
    | 2, _ => rfl
    | 3, _ => rfl
    | 4, _ => rfl
    | 5, _ => rfl
    | 6, _ => rfl
    | 7, _ => rfl
    | 8, _ => rfl
    | 9, _ => rfl
    | 10, _ => rfl
    | j + 11, h => absurd h (by simp [calls_cageC])
  ok := fun f hf Z w j v hj hd => match j, hj, hd with
    | 0, hj, hd => den_int (hf 0 hj) hd
    | 1, hj, hd => den_int (hf 1 hj) hd
    | 2, hj, hd => den_int (hf 2 hj) hd
    | 3, hj, hd => den_int (hf 3 hj) hd
    | 4, hj, hd => den_int (hf 4 hj) hd
    | 5, hj, hd => den_int (hf 5 hj) hd
    | 6, hj, hd => den_bool (hf 6 hj) hd
    | 7, hj, hd => den_bool (hf 7 hj) hd
    | 8, hj, hd => den_int (hf 8 hj) hd
    | 9, hj, hd => den_int (hf 9 hj) hd
    | 10, hj, hd => den_int (hf 10 hj) hd
    | j + 11, h, _ => absurd h (by simp [calls_cageC])
theorem calls_cageC_len (x : calls_cage) : (calls_cageC.enc x).length = calls_cageC.size := rfl
def calls_cage.wf (x : calls_cage) : Prop := i64 x.Car.Low ∧ i64 x.Car.High ∧ i64 x.Car.Start ∧ i64 x.Car.Move ∧ i64 x.Car.Stop ∧ i64 x.Ride.Floor ∧ True ∧ True ∧ i64 x.Ride.Doing ∧ i64 x.Ride.Left ∧ i64 x.Ride.Wants
theorem calls_cageC_rng {g : Nat → SV} (h : rng calls_cageC.sg g 0) : (calls_cageC.dec g).wf := by
  obtain ⟨h0, h1, h2, h3, h4, h5, h6, h7, h8, h9, h10, _⟩ := h
  exact ⟨rng_i64 h0, rng_i64 h1, rng_i64 h2, rng_i64 h3, rng_i64 h4, rng_i64 h5, trivial, trivial, rng_i64 h8, rng_i64 h9, rng_i64 h10⟩
theorem calls_cageC_flat : calls_cageC.Flat := ⟨fun f vc h hf => by
  obtain ⟨s0, t0, rfl, e0, g0⟩ := keyCells_cons h
  obtain ⟨s1, t1, rfl, e1, g1⟩ := keyCells_cons g0
  obtain ⟨s2, t2, rfl, e2, g2⟩ := keyCells_cons g1
  obtain ⟨s3, t3, rfl, e3, g3⟩ := keyCells_cons g2
  obtain ⟨s4, t4, rfl, e4, g4⟩ := keyCells_cons g3
  obtain ⟨s5, t5, rfl, e5, g5⟩ := keyCells_cons g4
  obtain ⟨s6, t6, rfl, e6, g6⟩ := keyCells_cons g5
  obtain ⟨s7, t7, rfl, e7, g7⟩ := keyCells_cons g6
  obtain ⟨s8, t8, rfl, e8, g8⟩ := keyCells_cons g7
  obtain ⟨s9, t9, rfl, e9, g9⟩ := keyCells_cons g8
  obtain ⟨s10, t10, rfl, e10, g10⟩ := keyCells_cons g9
  have z := keyCells_nil g10
  subst z
  have a0 := hf 0 s0 rfl
  have a1 := hf 1 s1 rfl
  have a2 := hf 2 s2 rfl
  have a3 := hf 3 s3 rfl
  have a4 := hf 4 s4 rfl
  have a5 := hf 5 s5 rfl
  have a6 := hf 6 s6 rfl
  have a7 := hf 7 s7 rfl
  have a8 := hf 8 s8 rfl
  have a9 := hf 9 s9 rfl
  have a10 := hf 10 s10 rfl
  simp only [calls_cageC, a0, a1, a2, a3, a4, a5, a6, a7, a8, a9, a10]
  rw [← keyCell_int e0, ← keyCell_int e1, ← keyCell_int e2, ← keyCell_int e3, ← keyCell_int e4, ← keyCell_int e5, ← keyCell_bool e6, ← keyCell_bool e7, ← keyCell_int e8, ← keyCell_int e9, ← keyCell_int e10]⟩

structure drive_stopped where
  f_way : Int
  f_loads : Arr Int
  f_rests : Bool
def drive_stoppedC : Cod drive_stopped := ⟨(.cons (.int .i64) (.cons (.sl intC.sg) (.cons .bool .nil))), 3, fun x => [.int .i64 x.f_way, slC intC x.f_loads, .bool x.f_rests], fun f => ⟨toI (f 0), lstC intC (f 1), toB (f 2)⟩⟩
theorem drive_stoppedC_ok : drive_stoppedC.Ok where
  slen := rfl
  ck := fun x j hj => match j, hj with
    | 0, _ => rfl
    | 1, _ => rfl
    | 2, _ => rfl
    | j + 3, h => absurd h (by simp [drive_stoppedC])
  ok := fun f hf Z w j v hj hd => match j, hj, hd with
    | 0, hj, hd => den_int (hf 0 hj) hd
    | 1, hj, hd => den_slC intC_ok (hf 1 hj) hd
    | 2, hj, hd => den_bool (hf 2 hj) hd
    | j + 3, h, _ => absurd h (by simp [drive_stoppedC])
theorem drive_stoppedC_len (x : drive_stopped) : (drive_stoppedC.enc x).length = drive_stoppedC.size := rfl
def drive_stopped.wf (x : drive_stopped) : Prop := i64 x.f_way ∧ (x.f_loads.n ≤ maxLen ∧ ∀ i, i < x.f_loads.n → i64 ((x.f_loads.f i))) ∧ True
theorem drive_stoppedC_rng {g : Nat → SV} (h : rng drive_stoppedC.sg g 0) : (drive_stoppedC.dec g).wf := by
  obtain ⟨h0, h1, h2, _⟩ := h
  exact ⟨rng_i64 h0, rng_sl (C := intC) (P := fun y => i64 y) (fun _ h => rng_i64 h.1) h1, trivial⟩

structure api_Trial where
  Hazards : Int
  Wire : Int
def api_TrialC : Cod api_Trial := ⟨(.cons (.int .i64) (.cons (.int .i64) .nil)), 2, fun x => [.int .i64 x.Hazards, .int .i64 x.Wire], fun f => ⟨toI (f 0), toI (f 1)⟩⟩
theorem api_TrialC_ok : api_TrialC.Ok where
  slen := rfl
  ck := fun x j hj => match j, hj with
    | 0, _ => rfl
    | 1, _ => rfl
    | j + 2, h => absurd h (by simp [api_TrialC])
  ok := fun f hf Z w j v hj hd => match j, hj, hd with
    | 0, hj, hd => den_int (hf 0 hj) hd
    | 1, hj, hd => den_int (hf 1 hj) hd
    | j + 2, h, _ => absurd h (by simp [api_TrialC])
theorem api_TrialC_len (x : api_Trial) : (api_TrialC.enc x).length = api_TrialC.size := rfl
def api_Trial.wf (x : api_Trial) : Prop := i64 x.Hazards ∧ i64 x.Wire
theorem api_TrialC_rng {g : Nat → SV} (h : rng api_TrialC.sg g 0) : (api_TrialC.dec g).wf := by
  obtain ⟨h0, h1, _⟩ := h
  exact ⟨rng_i64 h0, rng_i64 h1⟩
theorem api_TrialC_flat : api_TrialC.Flat := ⟨fun f vc h hf => by
  obtain ⟨s0, t0, rfl, e0, g0⟩ := keyCells_cons h
  obtain ⟨s1, t1, rfl, e1, g1⟩ := keyCells_cons g0
  have z := keyCells_nil g1
  subst z
  have a0 := hf 0 s0 rfl
  have a1 := hf 1 s1 rfl
  simp only [api_TrialC, a0, a1]
  rw [← keyCell_int e0, ← keyCell_int e1]⟩

structure Arr2_int where
  a0 : Int
  a1 : Int
def Arr2_intC : Cod Arr2_int := ⟨(.cons (.int .i64) (.cons (.int .i64) .nil)), 2, fun x => [.int .i64 x.a0, .int .i64 x.a1], fun f => ⟨toI (f 0), toI (f 1)⟩⟩
theorem Arr2_intC_ok : Arr2_intC.Ok where
  slen := rfl
  ck := fun x j hj => match j, hj with
    | 0, _ => rfl
    | 1, _ => rfl
    | j + 2, h => absurd h (by simp [Arr2_intC])
  ok := fun f hf Z w j v hj hd => match j, hj, hd with
    | 0, hj, hd => den_int (hf 0 hj) hd
    | 1, hj, hd => den_int (hf 1 hj) hd
    | j + 2, h, _ => absurd h (by simp [Arr2_intC])
theorem Arr2_intC_len (x : Arr2_int) : (Arr2_intC.enc x).length = Arr2_intC.size := rfl
def Arr2_int.wf (x : Arr2_int) : Prop := i64 x.a0 ∧ i64 x.a1
theorem Arr2_intC_rng {g : Nat → SV} (h : rng Arr2_intC.sg g 0) : (Arr2_intC.dec g).wf := by
  obtain ⟨h0, h1, _⟩ := h
  exact ⟨rng_i64 h0, rng_i64 h1⟩
theorem Arr2_intC_flat : Arr2_intC.Flat := ⟨fun f vc h hf => by
  obtain ⟨s0, t0, rfl, e0, g0⟩ := keyCells_cons h
  obtain ⟨s1, t1, rfl, e1, g1⟩ := keyCells_cons g0
  have z := keyCells_nil g1
  subst z
  have a0 := hf 0 s0 rfl
  have a1 := hf 1 s1 rfl
  simp only [Arr2_intC, a0, a1]
  rw [← keyCell_int e0, ← keyCell_int e1]⟩

structure drive_motion where
  f_e : api_Escalator
  f_s : api_Stop
  f_speed : Int
  f_time : Int
def drive_motionC : Cod drive_motion := ⟨(.cons .bool (.cons (.int .i64) (.cons (.int .i64) (.cons (.int .i64) (.cons (.int .i64) (.cons (.sl api_BrakeC.sg) (.cons (.int .i64) (.cons (.int .i64) (.cons (.int .i64) (.cons (.int .i64) (.cons (.int .i64) (.cons (.int .i64) .nil)))))))))))), 12, fun x => [.bool x.f_e.Up, .int .i64 x.f_e.Empty, .int .i64 x.f_e.Pull, .int .i64 x.f_e.Drag, .int .i64 x.f_e.Motor, slC api_BrakeC x.f_e.Brakes, .int .i64 x.f_s.Speed, .int .i64 x.f_s.Loads.Low, .int .i64 x.f_s.Loads.High, .int .i64 x.f_s.Fail, .int .i64 x.f_speed, .int .i64 x.f_time], fun f => ⟨⟨toB (f 0), toI (f 1), toI (f 2), toI (f 3), toI (f 4), lstC api_BrakeC (f 5)⟩, ⟨toI (f 6), ⟨toI (f 7), toI (f 8)⟩, toI (f 9)⟩, toI (f 10), toI (f 11)⟩⟩
theorem drive_motionC_ok : drive_motionC.Ok where
  slen := rfl
  ck := fun x j hj => match j, hj with
    | 0, _ => rfl
    | 1, _ => rfl
    | 2, _ => rfl
    | 3, _ => rfl
    | 4, _ => rfl
    | 5, _ => rfl
    | 6, _ => rfl
    | 7, _ => rfl
    | 8, _ => rfl
    | 9, _ => rfl
    | 10, _ => rfl
    | 11, _ => rfl
    | j + 12, h => absurd h (by simp [drive_motionC])
  ok := fun f hf Z w j v hj hd => match j, hj, hd with
    | 0, hj, hd => den_bool (hf 0 hj) hd
    | 1, hj, hd => den_int (hf 1 hj) hd
    | 2, hj, hd => den_int (hf 2 hj) hd
    | 3, hj, hd => den_int (hf 3 hj) hd
    | 4, hj, hd => den_int (hf 4 hj) hd
    | 5, hj, hd => den_slC api_BrakeC_ok (hf 5 hj) hd
    | 6, hj, hd => den_int (hf 6 hj) hd
    | 7, hj, hd => den_int (hf 7 hj) hd
    | 8, hj, hd => den_int (hf 8 hj) hd
    | 9, hj, hd => den_int (hf 9 hj) hd
    | 10, hj, hd => den_int (hf 10 hj) hd
    | 11, hj, hd => den_int (hf 11 hj) hd
    | j + 12, h, _ => absurd h (by simp [drive_motionC])
theorem drive_motionC_len (x : drive_motion) : (drive_motionC.enc x).length = drive_motionC.size := rfl
def drive_motion.wf (x : drive_motion) : Prop := True ∧ i64 x.f_e.Empty ∧ i64 x.f_e.Pull ∧ i64 x.f_e.Drag ∧ i64 x.f_e.Motor ∧ (x.f_e.Brakes.n ≤ maxLen ∧ ∀ i, i < x.f_e.Brakes.n → (x.f_e.Brakes.f i).wf) ∧ i64 x.f_s.Speed ∧ i64 x.f_s.Loads.Low ∧ i64 x.f_s.Loads.High ∧ i64 x.f_s.Fail ∧ i64 x.f_speed ∧ i64 x.f_time
theorem drive_motionC_rng {g : Nat → SV} (h : rng drive_motionC.sg g 0) : (drive_motionC.dec g).wf := by
  obtain ⟨h0, h1, h2, h3, h4, h5, h6, h7, h8, h9, h10, h11, _⟩ := h
  exact ⟨trivial, rng_i64 h1, rng_i64 h2, rng_i64 h3, rng_i64 h4, rng_sl (C := api_BrakeC) (P := fun y => y.wf) (fun _ h => api_BrakeC_rng h) h5, rng_i64 h6, rng_i64 h7, rng_i64 h8, rng_i64 h9, rng_i64 h10, rng_i64 h11⟩

structure circuit_state where
  f_c : api_Circuit
  f_hazards : Int
  f_closed : Int
  f_open : Int
def circuit_stateC : Cod circuit_state := ⟨(.cons (.int .i64) (.cons (.sl intC.sg) (.cons (.sl api_WireC.sg) (.cons (.int .i64) (.cons (.int .i64) (.cons (.int .i64) .nil)))))), 6, fun x => [.int .i64 x.f_c.Hazards, slC intC x.f_c.Switches, slC api_WireC x.f_c.Wires, .int .i64 x.f_hazards, .int .i64 x.f_closed, .int .i64 x.f_open], fun f => ⟨⟨toI (f 0), lstC intC (f 1), lstC api_WireC (f 2)⟩, toI (f 3), toI (f 4), toI (f 5)⟩⟩
theorem circuit_stateC_ok : circuit_stateC.Ok where
  slen := rfl
  ck := fun x j hj => match j, hj with
    | 0, _ => rfl
    | 1, _ => rfl
    | 2, _ => rfl
    | 3, _ => rfl
    | 4, _ => rfl
    | 5, _ => rfl
    | j + 6, h => absurd h (by simp [circuit_stateC])
  ok := fun f hf Z w j v hj hd => match j, hj, hd with
    | 0, hj, hd => den_int (hf 0 hj) hd
    | 1, hj, hd => den_slC intC_ok (hf 1 hj) hd
    | 2, hj, hd => den_slC api_WireC_ok (hf 2 hj) hd
    | 3, hj, hd => den_int (hf 3 hj) hd
    | 4, hj, hd => den_int (hf 4 hj) hd
    | 5, hj, hd => den_int (hf 5 hj) hd
    | j + 6, h, _ => absurd h (by simp [circuit_stateC])
theorem circuit_stateC_len (x : circuit_state) : (circuit_stateC.enc x).length = circuit_stateC.size := rfl
def circuit_state.wf (x : circuit_state) : Prop := i64 x.f_c.Hazards ∧ (x.f_c.Switches.n ≤ maxLen ∧ ∀ i, i < x.f_c.Switches.n → i64 ((x.f_c.Switches.f i))) ∧ (x.f_c.Wires.n ≤ maxLen ∧ ∀ i, i < x.f_c.Wires.n → (x.f_c.Wires.f i).wf) ∧ i64 x.f_hazards ∧ i64 x.f_closed ∧ i64 x.f_open
theorem circuit_stateC_rng {g : Nat → SV} (h : rng circuit_stateC.sg g 0) : (circuit_stateC.dec g).wf := by
  obtain ⟨h0, h1, h2, h3, h4, h5, _⟩ := h
  exact ⟨rng_i64 h0, rng_sl (C := intC) (P := fun y => i64 y) (fun _ h => rng_i64 h.1) h1, rng_sl (C := api_WireC) (P := fun y => y.wf) (fun _ h => api_WireC_rng h) h2, rng_i64 h3, rng_i64 h4, rng_i64 h5⟩

end Go.Proofs.Ytpillmoddoccfab
