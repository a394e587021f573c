/-
  The program's plain types as structures, and how they lie in cells. Written by a program.
-/
import Derived.Test.YtfaefhegfcidpaaEnv
import Derived.Test.YtfaefhegfcidpaaSxEnd
set_option linter.unusedVariables false
namespace Go.Proofs.Ytfaefhegfcidpaa
open Go.Sx

structure api_Band where
  Up : Bool
  Pull : Int
  Drag : Int
  Body : Int
  Ride : Int
  Most : Int
  Paces : Arr Int
  Num : Int
  Den : Int
def api_BandC : Cod api_Band := ⟨(.cons .bool (.cons (.int .i64) (.cons (.int .i64) (.cons (.int .i64) (.cons (.int .i64) (.cons (.int .i64) (.cons (.sl intC.sg) (.cons (.int .i64) (.cons (.int .i64) .nil))))))))), 9, fun x => [.bool x.Up, .int .i64 x.Pull, .int .i64 x.Drag, .int .i64 x.Body, .int .i64 x.Ride, .int .i64 x.Most, slC intC x.Paces, .int .i64 x.Num, .int .i64 x.Den], fun f => ⟨toB (f 0), toI (f 1), toI (f 2), toI (f 3), toI (f 4), toI (f 5), lstC intC (f 6), toI (f 7), toI (f 8)⟩⟩
theorem api_BandC_ok : api_BandC.Ok where
  slen := rfl
  ck := fun x j hj => match j, hj with
    | 0, _ => rfl
    | 1, _ => rfl
    | 2, _ => rfl
    | 3, _ => rfl
    | 4, _ => rfl
    | 5, _ => rfl
    | 6, _ => rfl
    | 7, _ => rfl
    | 8, _ => rfl
    | j + 9, h => absurd h (by simp [api_BandC])
  ok := fun f hf Z w j v hj hd => match j, hj, hd with
    | 0, hj, hd => den_bool (hf 0 hj) hd
    | 1, hj, hd => den_int (hf 1 hj) hd
    | 2, hj, hd => den_int (hf 2 hj) hd
    | 3, hj, hd => den_int (hf 3 hj) hd
    | 4, hj, hd => den_int (hf 4 hj) hd
    | 5, hj, hd => den_int (hf 5 hj) hd
    | 6, hj, hd => den_slC intC_ok (hf 6 hj) hd
    | 7, hj, hd => den_int (hf 7 hj) hd
    | 8, hj, hd => den_int (hf 8 hj) hd
    | j + 9, h, _ => absurd h (by simp [api_BandC])
theorem api_BandC_len (x : api_Band) : (api_BandC.enc x).length = api_BandC.size := rfl
def api_Band.wf (x : api_Band) : Prop := True ∧ i64 x.Pull ∧ i64 x.Drag ∧ i64 x.Body ∧ i64 x.Ride ∧ i64 x.Most ∧ (x.Paces.n ≤ maxLen ∧ ∀ i, i < x.Paces.n → i64 ((x.Paces.f i))) ∧ i64 x.Num ∧ i64 x.Den
theorem api_BandC_rng {g : Nat → SV} (h : rng api_BandC.sg g 0) : (api_BandC.dec g).wf := by
  obtain ⟨h0, h1, h2, h3, h4, h5, h6, h7, h8, _⟩ := h
  exact ⟨trivial, rng_i64 h1, rng_i64 h2, rng_i64 h3, rng_i64 h4, rng_i64 h5, rng_sl (C := intC) (P := fun y => i64 y) (fun _ h => rng_i64 h.1) h6, rng_i64 h7, rng_i64 h8⟩

structure api_Span where
  Low : Int
  High : Int
def api_SpanC : Cod api_Span := ⟨(.cons (.int .i64) (.cons (.int .i64) .nil)), 2, fun x => [.int .i64 x.Low, .int .i64 x.High], fun f => ⟨toI (f 0), toI (f 1)⟩⟩
theorem api_SpanC_ok : api_SpanC.Ok where
  slen := rfl
  ck := fun x j hj => match j, hj with
    | 0, _ => rfl
    | 1, _ => rfl
    | j + 2, h => absurd h (by simp [api_SpanC])
  ok := fun f hf Z w j v hj hd => match j, hj, hd with
    | 0, hj, hd => den_int (hf 0 hj) hd
    | 1, hj, hd => den_int (hf 1 hj) hd
    | j + 2, h, _ => absurd h (by simp [api_SpanC])
theorem api_SpanC_len (x : api_Span) : (api_SpanC.enc x).length = api_SpanC.size := rfl
def api_Span.wf (x : api_Span) : Prop := i64 x.Low ∧ i64 x.High
theorem api_SpanC_rng {g : Nat → SV} (h : rng api_SpanC.sg g 0) : (api_SpanC.dec g).wf := by
  obtain ⟨h0, h1, _⟩ := h
  exact ⟨rng_i64 h0, rng_i64 h1⟩

structure api_Period where
  Lasts : Int
  Price : Int
  Flow : api_Span
def api_PeriodC : Cod api_Period := ⟨(.cons (.int .i64) (.cons (.int .i64) (.cons (.int .i64) (.cons (.int .i64) .nil)))), 4, fun x => [.int .i64 x.Lasts, .int .i64 x.Price, .int .i64 x.Flow.Low, .int .i64 x.Flow.High], fun f => ⟨toI (f 0), toI (f 1), ⟨toI (f 2), toI (f 3)⟩⟩⟩
theorem api_PeriodC_ok : api_PeriodC.Ok where
  slen := rfl
  ck := fun x j hj => match j, hj with
    | 0, _ => rfl
    | 1, _ => rfl
    | 2, _ => rfl
    | 3, _ => rfl
    | j + 4, h => absurd h (by simp [api_PeriodC])
  ok := fun f hf Z w j v hj hd => match j, hj, hd with
    | 0, hj, hd => den_int (hf 0 hj) hd
    | 1, hj, hd => den_int (hf 1 hj) hd
    | 2, hj, hd => den_int (hf 2 hj) hd
    | 3, hj, hd => den_int (hf 3 hj) hd
    | j + 4, h, _ => absurd h (by simp [api_PeriodC])
theorem api_PeriodC_len (x : api_Period) : (api_PeriodC.enc x).length = api_PeriodC.size := rfl
def api_Period.wf (x : api_Period) : Prop := i64 x.Lasts ∧ i64 x.Price ∧ i64 x.Flow.Low ∧ i64 x.Flow.High
theorem api_PeriodC_rng {g : Nat → SV} (h : rng api_PeriodC.sg g 0) : (api_PeriodC.dec g).wf := by
  obtain ⟨h0, h1, h2, h3, _⟩ := h
  exact ⟨rng_i64 h0, rng_i64 h1, rng_i64 h2, rng_i64 h3⟩

structure api_Times where
  Periods : Arr api_Period
  Peak : Int
def api_TimesC : Cod api_Times := ⟨(.cons (.sl api_PeriodC.sg) (.cons (.int .i64) .nil)), 2, fun x => [slC api_PeriodC x.Periods, .int .i64 x.Peak], fun f => ⟨lstC api_PeriodC (f 0), toI (f 1)⟩⟩
theorem api_TimesC_ok : api_TimesC.Ok where
  slen := rfl
  ck := fun x j hj => match j, hj with
    | 0, _ => rfl
    | 1, _ => rfl
    | j + 2, h => absurd h (by simp [api_TimesC])
  ok := fun f hf Z w j v hj hd => match j, hj, hd with
    | 0, hj, hd => den_slC api_PeriodC_ok (hf 0 hj) hd
    | 1, hj, hd => den_int (hf 1 hj) hd
    | j + 2, h, _ => absurd h (by simp [api_TimesC])
theorem api_TimesC_len (x : api_Times) : (api_TimesC.enc x).length = api_TimesC.size := rfl
def api_Times.wf (x : api_Times) : Prop := (x.Periods.n ≤ maxLen ∧ ∀ i, i < x.Periods.n → (x.Periods.f i).wf) ∧ i64 x.Peak
theorem api_TimesC_rng {g : Nat → SV} (h : rng api_TimesC.sg g 0) : (api_TimesC.dec g).wf := by
  obtain ⟨h0, h1, _⟩ := h
  exact ⟨rng_sl (C := api_PeriodC) (P := fun y => y.wf) (fun _ h => api_PeriodC_rng h) h0, rng_i64 h1⟩

structure newellaw11_Two where
  Less : Int
  More : Int
  Slow : Int
  Fast : Int
def newellaw11_TwoC : Cod newellaw11_Two := ⟨(.cons (.int .i64) (.cons (.int .i64) (.cons (.int .i64) (.cons (.int .i64) .nil)))), 4, fun x => [.int .i64 x.Less, .int .i64 x.More, .int .i64 x.Slow, .int .i64 x.Fast], fun f => ⟨toI (f 0), toI (f 1), toI (f 2), toI (f 3)⟩⟩
theorem newellaw11_TwoC_ok : newellaw11_TwoC.Ok where
  slen := rfl
  ck := fun x j hj => match j, hj with
    | 0, _ => rfl
    | 1, _ => rfl
    | 2, _ => rfl
    | 3, _ => rfl
    | j + 4, h => absurd h (by simp [newellaw11_TwoC])
  ok := fun f hf Z w j v hj hd => match j, hj, hd with
    | 0, hj, hd => den_int (hf 0 hj) hd
    | 1, hj, hd => den_int (hf 1 hj) hd
    | 2, hj, hd => den_int (hf 2 hj) hd
    | 3, hj, hd => den_int (hf 3 hj) hd
    | j + 4, h, _ => absurd h (by simp [newellaw11_TwoC])
theorem newellaw11_TwoC_len (x : newellaw11_Two) : (newellaw11_TwoC.enc x).length = newellaw11_TwoC.size := rfl
def newellaw11_Two.wf (x : newellaw11_Two) : Prop := i64 x.Less ∧ i64 x.More ∧ i64 x.Slow ∧ i64 x.Fast
theorem newellaw11_TwoC_rng {g : Nat → SV} (h : rng newellaw11_TwoC.sg g 0) : (newellaw11_TwoC.dec g).wf := by
  obtain ⟨h0, h1, h2, h3, _⟩ := h
  exact ⟨rng_i64 h0, rng_i64 h1, rng_i64 h2, rng_i64 h3⟩

structure newellaw11_Paid where
  Plan : Arr Int
  Flows : Arr Int
def newellaw11_PaidC : Cod newellaw11_Paid := ⟨(.cons (.sl intC.sg) (.cons (.sl intC.sg) .nil)), 2, fun x => [slC intC x.Plan, slC intC x.Flows], fun f => ⟨lstC intC (f 0), lstC intC (f 1)⟩⟩
theorem newellaw11_PaidC_ok : newellaw11_PaidC.Ok where
  slen := rfl
  ck := fun x j hj => match j, hj with
    | 0, _ => rfl
    | 1, _ => rfl
    | j + 2, h => absurd h (by simp [newellaw11_PaidC])
  ok := fun f hf Z w j v hj hd => match j, hj, hd with
    | 0, hj, hd => den_slC intC_ok (hf 0 hj) hd
    | 1, hj, hd => den_slC intC_ok (hf 1 hj) hd
    | j + 2, h, _ => absurd h (by simp [newellaw11_PaidC])
theorem newellaw11_PaidC_len (x : newellaw11_Paid) : (newellaw11_PaidC.enc x).length = newellaw11_PaidC.size := rfl
def newellaw11_Paid.wf (x : newellaw11_Paid) : Prop := (x.Plan.n ≤ maxLen ∧ ∀ i, i < x.Plan.n → i64 ((x.Plan.f i))) ∧ (x.Flows.n ≤ maxLen ∧ ∀ i, i < x.Flows.n → i64 ((x.Flows.f i)))
theorem newellaw11_PaidC_rng {g : Nat → SV} (h : rng newellaw11_PaidC.sg g 0) : (newellaw11_PaidC.dec g).wf := by
  obtain ⟨h0, h1, _⟩ := h
  exact ⟨rng_sl (C := intC) (P := fun y => i64 y) (fun _ h => rng_i64 h.1) h0, rng_sl (C := intC) (P := fun y => i64 y) (fun _ h => rng_i64 h.1) h1⟩

structure newellaw11_Meter where
  Plan : Arr Int
  Period : Int
  Read : Arr api_Span
def newellaw11_MeterC : Cod newellaw11_Meter := ⟨(.cons (.sl intC.sg) (.cons (.int .i64) (.cons (.sl api_SpanC.sg) .nil))), 3, fun x => [slC intC x.Plan, .int .i64 x.Period, slC api_SpanC x.Read], fun f => ⟨lstC intC (f 0), toI (f 1), lstC api_SpanC (f 2)⟩⟩
theorem newellaw11_MeterC_ok : newellaw11_MeterC.Ok where
  slen := rfl
  ck := fun x j hj => match j, hj with
    | 0, _ => rfl
    | 1, _ => rfl
    | 2, _ => rfl
    | j + 3, h => absurd h (by simp [newellaw11_MeterC])
  ok := fun f hf Z w j v hj hd => match j, hj, hd with
    | 0, hj, hd => den_slC intC_ok (hf 0 hj) hd
    | 1, hj, hd => den_int (hf 1 hj) hd
    | 2, hj, hd => den_slC api_SpanC_ok (hf 2 hj) hd
    | j + 3, h, _ => absurd h (by simp [newellaw11_MeterC])
theorem newellaw11_MeterC_len (x : newellaw11_Meter) : (newellaw11_MeterC.enc x).length = newellaw11_MeterC.size := rfl
def newellaw11_Meter.wf (x : newellaw11_Meter) : Prop := (x.Plan.n ≤ maxLen ∧ ∀ i, i < x.Plan.n → i64 ((x.Plan.f i))) ∧ i64 x.Period ∧ (x.Read.n ≤ maxLen ∧ ∀ i, i < x.Read.n → (x.Read.f i).wf)
theorem newellaw11_MeterC_rng {g : Nat → SV} (h : rng newellaw11_MeterC.sg g 0) : (newellaw11_MeterC.dec g).wf := by
  obtain ⟨h0, h1, h2, _⟩ := h
  exact ⟨rng_sl (C := intC) (P := fun y => i64 y) (fun _ h => rng_i64 h.1) h0, rng_i64 h1, rng_sl (C := api_SpanC) (P := fun y => y.wf) (fun _ h => api_SpanC_rng h) h2⟩

structure energy_search where
  f_b : api_Band
  f_t : api_Times
  f_plan : Arr Int
  f_high : Arr Int
  f_best : Arr Int
  f_worst : Int
def energy_searchC : Cod energy_search := ⟨(.cons .bool (.cons (.int .i64) (.cons (.int .i64) (.cons (.int .i64) (.cons (.int .i64) (.cons (.int .i64) (.cons (.sl intC.sg) (.cons (.int .i64) (.cons (.int .i64) (.cons (.sl api_PeriodC.sg) (.cons (.int .i64) (.cons (.sl intC.sg) (.cons (.sl intC.sg) (.cons (.sl intC.sg) (.cons (.int .i64) .nil))))))))))))))), 15, fun x => [.bool x.f_b.Up, .int .i64 x.f_b.Pull, .int .i64 x.f_b.Drag, .int .i64 x.f_b.Body, .int .i64 x.f_b.Ride, .int .i64 x.f_b.Most, slC intC x.f_b.Paces, .int .i64 x.f_b.Num, .int .i64 x.f_b.Den, slC api_PeriodC x.f_t.Periods, .int .i64 x.f_t.Peak, slC intC x.f_plan, slC intC x.f_high, slC intC x.f_best, .int .i64 x.f_worst], fun f => ⟨⟨toB (f 0), toI (f 1), toI (f 2), toI (f 3), toI (f 4), toI (f 5), lstC intC (f 6), toI (f 7), toI (f 8)⟩, ⟨lstC api_PeriodC (f 9), toI (f 10)⟩, lstC intC (f 11), lstC intC (f 12), lstC intC (f 13), toI (f 14)⟩⟩
theorem energy_searchC_ok : energy_searchC.Ok where
  slen := rfl
  ck := fun x j hj => match j, hj with
    | 0, _ => rfl
    | 1, _ => rfl
    | 2, _ => rfl
    | 3, _ => rfl
    | 4, _ => rfl
    | 5, _ => rfl
    | 6, _ => rfl
    | 7, _ => rfl
    | 8, _ => rfl
    | 9, _ => rfl
    | 10, _ => rfl
    | 11, _ => rfl
    | 12, _ => rfl
    | 13, _ => rfl
    | 14, _ => rfl
    | j + 15, h => absurd h (by simp [energy_searchC])
  ok := fun f hf Z w j v hj hd => match j, hj, hd with
    | 0, hj, hd => den_bool (hf 0 hj) hd
    | 1, hj, hd => den_int (hf 1 hj) hd
    | 2, hj, hd => den_int (hf 2 hj) hd
    | 3, hj, hd => den_int (hf 3 hj) hd
    | 4, hj, hd => den_int (hf 4 hj) hd
    | 5, hj, hd => den_int (hf 5 hj) hd
    | 6, hj, hd => den_slC intC_ok (hf 6 hj) hd
    | 7, hj, hd => den_int (hf 7 hj) hd
    | 8, hj, hd => den_int (hf 8 hj) hd
    | 9, hj, hd => den_slC api_PeriodC_ok (hf 9 hj) hd
    | 10, hj, hd => den_int (hf 10 hj) hd
    | 11, hj, hd => den_slC intC_ok (hf 11 hj) hd
    | 12, hj, hd => den_slC intC_ok (hf 12 hj) hd
    | 13, hj, hd => den_slC intC_ok (hf 13 hj) hd
    | 14, hj, hd => den_int (hf 14 hj) hd
    | j + 15, h, _ => absurd h (by simp [energy_searchC])
theorem energy_searchC_len (x : energy_search) : (energy_searchC.enc x).length = energy_searchC.size := rfl
def energy_search.wf (x : energy_search) : Prop := True ∧ i64 x.f_b.Pull ∧ i64 x.f_b.Drag ∧ i64 x.f_b.Body ∧ i64 x.f_b.Ride ∧ i64 x.f_b.Most ∧ (x.f_b.Paces.n ≤ maxLen ∧ ∀ i, i < x.f_b.Paces.n → i64 ((x.f_b.Paces.f i))) ∧ i64 x.f_b.Num ∧ i64 x.f_b.Den ∧ (x.f_t.Periods.n ≤ maxLen ∧ ∀ i, i < x.f_t.Periods.n → (x.f_t.Periods.f i).wf) ∧ i64 x.f_t.Peak ∧ (x.f_plan.n ≤ maxLen ∧ ∀ i, i < x.f_plan.n → i64 ((x.f_plan.f i))) ∧ (x.f_high.n ≤ maxLen ∧ ∀ i, i < x.f_high.n → i64 ((x.f_high.f i))) ∧ (x.f_best.n ≤ maxLen ∧ ∀ i, i < x.f_best.n → i64 ((x.f_best.f i))) ∧ i64 x.f_worst
theorem energy_searchC_rng {g : Nat → SV} (h : rng energy_searchC.sg g 0) : (energy_searchC.dec g).wf := by
  obtain ⟨h0, h1, h2, h3, h4, h5, h6, h7, h8, h9, h10, h11, h12, h13, h14, _⟩ := h
  exact ⟨trivial, rng_i64 h1, rng_i64 h2, rng_i64 h3, rng_i64 h4, rng_i64 h5, rng_sl (C := intC) (P := fun y => i64 y) (fun _ h => rng_i64 h.1) h6, rng_i64 h7, rng_i64 h8, rng_sl (C := api_PeriodC) (P := fun y => y.wf) (fun _ h => api_PeriodC_rng h) h9, rng_i64 h10, rng_sl (C := intC) (P := fun y => i64 y) (fun _ h => rng_i64 h.1) h11, rng_sl (C := intC) (P := fun y => i64 y) (fun _ h => rng_i64 h.1) h12, rng_sl (C := intC) (P := fun y => i64 y) (fun _ h => rng_i64 h.1) h13, rng_i64 h14⟩

end Go.Proofs.Ytfaefhegfcidpaa
