/-
  The program's plain types as structures, and how they lie in cells. Written by a program.
-/
import Derived.Test.YtceeaimmelaenaaEnv
import Derived.Test.YtceeaimmelaenaaSxEnd
set_option linter.unusedVariables false
namespace Go.Proofs.Ytceeaimmelaenaa
open Go.Sx

structure api_Lift where
  Car : Int
  Counter : Int
  Rated : Int
  Rope : Int
  Floors : Arr Int
  Num : Int
  Den : Int
  Speed : Int
  Accel : Int
  Over : Int
  Stiff : Int
  Level : Int
def api_LiftC : Cod api_Lift := ⟨(.cons (.int .i64) (.cons (.int .i64) (.cons (.int .i64) (.cons (.int .i64) (.cons (.sl intC.sg) (.cons (.int .i64) (.cons (.int .i64) (.cons (.int .i64) (.cons (.int .i64) (.cons (.int .i64) (.cons (.int .i64) (.cons (.int .i64) .nil)))))))))))), 12, fun x => [.int .i64 x.Car, .int .i64 x.Counter, .int .i64 x.Rated, .int .i64 x.Rope, slC intC x.Floors, .int .i64 x.Num, .int .i64 x.Den, .int .i64 x.Speed, .int .i64 x.Accel, .int .i64 x.Over, .int .i64 x.Stiff, .int .i64 x.Level], fun f => ⟨toI (f 0), toI (f 1), toI (f 2), toI (f 3), lstC intC (f 4), toI (f 5), toI (f 6), toI (f 7), toI (f 8), toI (f 9), toI (f 10), toI (f 11)⟩⟩
theorem api_LiftC_ok : api_LiftC.Ok where
  slen := rfl
  ck := fun x j hj => match j, hj with
    | 0, _ => rfl
    | 1, _ => rfl
    | 2, _ => rfl
    | 3, _ => rfl
    | 4, _ => rfl
    | 5, _ => rfl
    | 6, _ => rfl
    | 7, _ => rfl
    | 8, _ => rfl
    | 9, _ => rfl
    | 10, _ => rfl
    | 11, _ => rfl
    | j + 12, h => absurd h (by simp [api_LiftC])
  ok := fun f hf Z w j v hj hd => match j, hj, hd with
    | 0, hj, hd => den_int (hf 0 hj) hd
    | 1, hj, hd => den_int (hf 1 hj) hd
    | 2, hj, hd => den_int (hf 2 hj) hd
    | 3, hj, hd => den_int (hf 3 hj) hd
    | 4, hj, hd => den_slC intC_ok (hf 4 hj) hd
    | 5, hj, hd => den_int (hf 5 hj) hd
    | 6, hj, hd => den_int (hf 6 hj) hd
    | 7, hj, hd => den_int (hf 7 hj) hd
    | 8, hj, hd => den_int (hf 8 hj) hd
    | 9, hj, hd => den_int (hf 9 hj) hd
    | 10, hj, hd => den_int (hf 10 hj) hd
    | 11, hj, hd => den_int (hf 11 hj) hd
    | j + 12, h, _ => absurd h (by simp [api_LiftC])
theorem api_LiftC_len (x : api_Lift) : (api_LiftC.enc x).length = api_LiftC.size := rfl
def api_Lift.wf (x : api_Lift) : Prop := i64 x.Car ∧ i64 x.Counter ∧ i64 x.Rated ∧ i64 x.Rope ∧ (x.Floors.n ≤ maxLen ∧ ∀ i, i < x.Floors.n → i64 ((x.Floors.f i))) ∧ i64 x.Num ∧ i64 x.Den ∧ i64 x.Speed ∧ i64 x.Accel ∧ i64 x.Over ∧ i64 x.Stiff ∧ i64 x.Level
theorem api_LiftC_rng {g : Nat → SV} (h : rng api_LiftC.sg g 0) : (api_LiftC.dec g).wf := by
  obtain ⟨h0, h1, h2, h3, h4, h5, h6, h7, h8, h9, h10, h11, _⟩ := h
  exact ⟨rng_i64 h0, rng_i64 h1, rng_i64 h2, rng_i64 h3, rng_sl (C := intC) (P := fun y => i64 y) (fun _ h => rng_i64 h.1) h4, rng_i64 h5, rng_i64 h6, rng_i64 h7, rng_i64 h8, rng_i64 h9, rng_i64 h10, rng_i64 h11⟩

structure api_Door where
  Wide : Int
  Wait : Int
def api_DoorC : Cod api_Door := ⟨(.cons (.int .i64) (.cons (.int .i64) .nil)), 2, fun x => [.int .i64 x.Wide, .int .i64 x.Wait], fun f => ⟨toI (f 0), toI (f 1)⟩⟩
theorem api_DoorC_ok : api_DoorC.Ok where
  slen := rfl
  ck := fun x j hj => match j, hj with
    | 0, _ => rfl
    | 1, _ => rfl
    | j + 2, h => absurd h (by simp [api_DoorC])
  ok := fun f hf Z w j v hj hd => match j, hj, hd with
    | 0, hj, hd => den_int (hf 0 hj) hd
    | 1, hj, hd => den_int (hf 1 hj) hd
    | j + 2, h, _ => absurd h (by simp [api_DoorC])
theorem api_DoorC_len (x : api_Door) : (api_DoorC.enc x).length = api_DoorC.size := rfl
def api_Door.wf (x : api_Door) : Prop := i64 x.Wide ∧ i64 x.Wait
theorem api_DoorC_rng {g : Nat → SV} (h : rng api_DoorC.sg g 0) : (api_DoorC.dec g).wf := by
  obtain ⟨h0, h1, _⟩ := h
  exact ⟨rng_i64 h0, rng_i64 h1⟩

structure newellaw05_Way where
  From : Int
  To : Int
  Ticks : Int
def newellaw05_WayC : Cod newellaw05_Way := ⟨(.cons (.int .i64) (.cons (.int .i64) (.cons (.int .i64) .nil))), 3, fun x => [.int .i64 x.From, .int .i64 x.To, .int .i64 x.Ticks], fun f => ⟨toI (f 0), toI (f 1), toI (f 2)⟩⟩
theorem newellaw05_WayC_ok : newellaw05_WayC.Ok where
  slen := rfl
  ck := fun x j hj => match j, hj with
    | 0, _ => rfl
    | 1, _ => rfl
    | 2, _ => rfl
    | j + 3, h => absurd h (by simp [newellaw05_WayC])
  ok := fun f hf Z w j v hj hd => match j, hj, hd with
    | 0, hj, hd => den_int (hf 0 hj) hd
    | 1, hj, hd => den_int (hf 1 hj) hd
    | 2, hj, hd => den_int (hf 2 hj) hd
    | j + 3, h, _ => absurd h (by simp [newellaw05_WayC])
theorem newellaw05_WayC_len (x : newellaw05_Way) : (newellaw05_WayC.enc x).length = newellaw05_WayC.size := rfl
def newellaw05_Way.wf (x : newellaw05_Way) : Prop := i64 x.From ∧ i64 x.To ∧ i64 x.Ticks
theorem newellaw05_WayC_rng {g : Nat → SV} (h : rng newellaw05_WayC.sg g 0) : (newellaw05_WayC.dec g).wf := by
  obtain ⟨h0, h1, h2, _⟩ := h
  exact ⟨rng_i64 h0, rng_i64 h1, rng_i64 h2⟩

structure api_Span where
  Low : Int
  High : Int
def api_SpanC : Cod api_Span := ⟨(.cons (.int .i64) (.cons (.int .i64) .nil)), 2, fun x => [.int .i64 x.Low, .int .i64 x.High], fun f => ⟨toI (f 0), toI (f 1)⟩⟩
theorem api_SpanC_ok : api_SpanC.Ok where
  slen := rfl
  ck := fun x j hj => match j, hj with
    | 0, _ => rfl
    | 1, _ => rfl
    | j + 2, h => absurd h (by simp [api_SpanC])
  ok := fun f hf Z w j v hj hd => match j, hj, hd with
    | 0, hj, hd => den_int (hf 0 hj) hd
    | 1, hj, hd => den_int (hf 1 hj) hd
    | j + 2, h, _ => absurd h (by simp [api_SpanC])
theorem api_SpanC_len (x : api_Span) : (api_SpanC.enc x).length = api_SpanC.size := rfl
def api_Span.wf (x : api_Span) : Prop := i64 x.Low ∧ i64 x.High
theorem api_SpanC_rng {g : Nat → SV} (h : rng api_SpanC.sg g 0) : (api_SpanC.dec g).wf := by
  obtain ⟨h0, h1, _⟩ := h
  exact ⟨rng_i64 h0, rng_i64 h1⟩

structure newellaw05_Spans where
  Heights : api_Span
  Loads : api_Span
def newellaw05_SpansC : Cod newellaw05_Spans := ⟨(.cons (.int .i64) (.cons (.int .i64) (.cons (.int .i64) (.cons (.int .i64) .nil)))), 4, fun x => [.int .i64 x.Heights.Low, .int .i64 x.Heights.High, .int .i64 x.Loads.Low, .int .i64 x.Loads.High], fun f => ⟨⟨toI (f 0), toI (f 1)⟩, ⟨toI (f 2), toI (f 3)⟩⟩⟩
theorem newellaw05_SpansC_ok : newellaw05_SpansC.Ok where
  slen := rfl
  ck := fun x j hj => match j, hj with
    | 0, _ => rfl
    | 1, _ => rfl
    | 2, _ => rfl
    | 3, _ => rfl
    | j + 4, h => absurd h (by simp [newellaw05_SpansC])
  ok := fun f hf Z w j v hj hd => match j, hj, hd with
    | 0, hj, hd => den_int (hf 0 hj) hd
    | 1, hj, hd => den_int (hf 1 hj) hd
    | 2, hj, hd => den_int (hf 2 hj) hd
    | 3, hj, hd => den_int (hf 3 hj) hd
    | j + 4, h, _ => absurd h (by simp [newellaw05_SpansC])
theorem newellaw05_SpansC_len (x : newellaw05_Spans) : (newellaw05_SpansC.enc x).length = newellaw05_SpansC.size := rfl
def newellaw05_Spans.wf (x : newellaw05_Spans) : Prop := i64 x.Heights.Low ∧ i64 x.Heights.High ∧ i64 x.Loads.Low ∧ i64 x.Loads.High
theorem newellaw05_SpansC_rng {g : Nat → SV} (h : rng newellaw05_SpansC.sg g 0) : (newellaw05_SpansC.dec g).wf := by
  obtain ⟨h0, h1, h2, h3, _⟩ := h
  exact ⟨rng_i64 h0, rng_i64 h1, rng_i64 h2, rng_i64 h3⟩

structure newellaw05_Place where
  Height : Int
  Load : Int
  Accel : Int
def newellaw05_PlaceC : Cod newellaw05_Place := ⟨(.cons (.int .i64) (.cons (.int .i64) (.cons (.int .i64) .nil))), 3, fun x => [.int .i64 x.Height, .int .i64 x.Load, .int .i64 x.Accel], fun f => ⟨toI (f 0), toI (f 1), toI (f 2)⟩⟩
theorem newellaw05_PlaceC_ok : newellaw05_PlaceC.Ok where
  slen := rfl
  ck := fun x j hj => match j, hj with
    | 0, _ => rfl
    | 1, _ => rfl
    | 2, _ => rfl
    | j + 3, h => absurd h (by simp [newellaw05_PlaceC])
  ok := fun f hf Z w j v hj hd => match j, hj, hd with
    | 0, hj, hd => den_int (hf 0 hj) hd
    | 1, hj, hd => den_int (hf 1 hj) hd
    | 2, hj, hd => den_int (hf 2 hj) hd
    | j + 3, h, _ => absurd h (by simp [newellaw05_PlaceC])
theorem newellaw05_PlaceC_len (x : newellaw05_Place) : (newellaw05_PlaceC.enc x).length = newellaw05_PlaceC.size := rfl
def newellaw05_Place.wf (x : newellaw05_Place) : Prop := i64 x.Height ∧ i64 x.Load ∧ i64 x.Accel
theorem newellaw05_PlaceC_rng {g : Nat → SV} (h : rng newellaw05_PlaceC.sg g 0) : (newellaw05_PlaceC.dec g).wf := by
  obtain ⟨h0, h1, h2, _⟩ := h
  exact ⟨rng_i64 h0, rng_i64 h1, rng_i64 h2⟩

structure newellaw05_Change where
  Floor : Int
  From : Int
  To : Int
def newellaw05_ChangeC : Cod newellaw05_Change := ⟨(.cons (.int .i64) (.cons (.int .i64) (.cons (.int .i64) .nil))), 3, fun x => [.int .i64 x.Floor, .int .i64 x.From, .int .i64 x.To], fun f => ⟨toI (f 0), toI (f 1), toI (f 2)⟩⟩
theorem newellaw05_ChangeC_ok : newellaw05_ChangeC.Ok where
  slen := rfl
  ck := fun x j hj => match j, hj with
    | 0, _ => rfl
    | 1, _ => rfl
    | 2, _ => rfl
    | j + 3, h => absurd h (by simp [newellaw05_ChangeC])
  ok := fun f hf Z w j v hj hd => match j, hj, hd with
    | 0, hj, hd => den_int (hf 0 hj) hd
    | 1, hj, hd => den_int (hf 1 hj) hd
    | 2, hj, hd => den_int (hf 2 hj) hd
    | j + 3, h, _ => absurd h (by simp [newellaw05_ChangeC])
theorem newellaw05_ChangeC_len (x : newellaw05_Change) : (newellaw05_ChangeC.enc x).length = newellaw05_ChangeC.size := rfl
def newellaw05_Change.wf (x : newellaw05_Change) : Prop := i64 x.Floor ∧ i64 x.From ∧ i64 x.To
theorem newellaw05_ChangeC_rng {g : Nat → SV} (h : rng newellaw05_ChangeC.sg g 0) : (newellaw05_ChangeC.dec g).wf := by
  obtain ⟨h0, h1, h2, _⟩ := h
  exact ⟨rng_i64 h0, rng_i64 h1, rng_i64 h2⟩

structure lift_leaf where
  Door : api_Door
  f_at : Int
  f_does : Int
  f_left : Int
def lift_leafC : Cod lift_leaf := ⟨(.cons (.int .i64) (.cons (.int .i64) (.cons (.int .i64) (.cons (.int .i64) (.cons (.int .i64) .nil))))), 5, fun x => [.int .i64 x.Door.Wide, .int .i64 x.Door.Wait, .int .i64 x.f_at, .int .i64 x.f_does, .int .i64 x.f_left], fun f => ⟨⟨toI (f 0), toI (f 1)⟩, toI (f 2), toI (f 3), toI (f 4)⟩⟩
theorem lift_leafC_ok : lift_leafC.Ok where
  slen := rfl
  ck := fun x j hj => match j, hj with
    | 0, _ => rfl
    | 1, _ => rfl
    | 2, _ => rfl
    | 3, _ => rfl
    | 4, _ => rfl
    | j + 5, h => absurd h (by simp [lift_leafC])
  ok := fun f hf Z w j v hj hd => match j, hj, hd with
    | 0, hj, hd => den_int (hf 0 hj) hd
    | 1, hj, hd => den_int (hf 1 hj) hd
    | 2, hj, hd => den_int (hf 2 hj) hd
    | 3, hj, hd => den_int (hf 3 hj) hd
    | 4, hj, hd => den_int (hf 4 hj) hd
    | j + 5, h, _ => absurd h (by simp [lift_leafC])
theorem lift_leafC_len (x : lift_leaf) : (lift_leafC.enc x).length = lift_leafC.size := rfl
def lift_leaf.wf (x : lift_leaf) : Prop := i64 x.Door.Wide ∧ i64 x.Door.Wait ∧ i64 x.f_at ∧ i64 x.f_does ∧ i64 x.f_left
theorem lift_leafC_rng {g : Nat → SV} (h : rng lift_leafC.sg g 0) : (lift_leafC.dec g).wf := by
  obtain ⟨h0, h1, h2, h3, h4, _⟩ := h
  exact ⟨rng_i64 h0, rng_i64 h1, rng_i64 h2, rng_i64 h3, rng_i64 h4⟩

end Go.Proofs.Ytceeaimmelaenaa
