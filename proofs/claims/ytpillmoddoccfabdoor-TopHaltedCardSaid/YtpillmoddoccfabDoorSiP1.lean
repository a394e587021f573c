import Derived.Test.YtpillmoddoccfabDoorH3
import Derived.Test.YtpillmoddoccfabDoorSxMath
set_option linter.unusedVariables false
set_option linter.unusedSimpArgs false
set_option linter.unusedSectionVars false
set_option maxHeartbeats 0
set_option maxRecDepth 100000
namespace Go.Proofs.YtpillmoddoccfabDoor
namespace Si
open Go.Sx
open Classical
noncomputable section
variable {R : Type}
theorem ltF {a b : Nat} (h : b ≤ a) : decide ((a : Int) < (b : Int)) = false := by simp; omega
theorem ltT {a b : Nat} (h : a < b) : decide ((a : Int) < (b : Int)) = true := by simp; omega
theorem in_eq (N : Nat) (n lo hi : Int) (k : Bool → Option R) : sT_within N n lo hi k = k (decide (lo ≤ n ∧ n ≤ hi)) := by
  rw [sT_within_def]
  unfold sT_within_m
  by_cases h : n ≥ lo
  · have : lo ≤ n := h
    simp only [h, decide_true, cond_true, this, true_and]
  · have : ¬ (lo ≤ n ∧ n ≤ hi) := fun g => h g.1
    rw [decide_eq_false this]
    simp only [h, decide_false, cond_false]
def words : List ByteArray := [⟨#[97, 110, 121]⟩, ⟨#[116, 111]⟩, ⟨#[122, 101, 114, 111]⟩, ⟨#[109, 111, 114, 101]⟩, ⟨#[108, 101, 115, 115]⟩, ⟨#[105, 102]⟩, ⟨#[121, 101, 115]⟩, ⟨#[110, 111]⟩]
structure WordP (w : ByteArray) : Prop where
  n : 1 ≤ w.size
  b : ∀ i, i < w.size → 97 ≤ byteI w i ∧ byteI w i ≤ 122
  r : ∀ x ∈ words, w ≠ x
theorem beqF {a b : ByteArray} (h : a ≠ b) : (a.toList == b.toList) = false := by
  cases e : (a.toList == b.toList)
  · rfl
  · exact absurd ((bytes_beq a b).1 e) h
theorem res_ok {w : ByteArray} (h : WordP w) (N : Nat) (k : Bool → Option R) : sT_Reserved N w k = k false := by
  rw [sT_Reserved_def]
  unfold sT_Reserved_m
  have hr := h.r
  simp only [words, List.mem_cons, List.not_mem_nil, or_false, forall_eq_or_imp, forall_eq] at hr
  obtain ⟨h1, h2, h3, h4, h5, h6, h7, h8⟩ := hr
  simp only [beqF h1, beqF h2, beqF h3, beqF h4, beqF h5, beqF h6, beqF h7, beqF h8, cond_false]
theorem plain_l2 (N : Nat) {w : ByteArray} (h : WordP w) (hn : w.size ≤ 1000) (kr : Bool → Option R) (k0 : Unit → Option R) : ∀ (q i n : Nat), i + q = w.size → q < n →
    sT_Plain_l2 N n w (lst (kC IntKind.u8) w.size (byteC w)) (w.size : Int) (i : Int) kr k0 = k0 () := by
  intro q
  induction q with
  | zero =>
    intro i n h1 h2
    obtain ⟨n, rfl⟩ : ∃ m, n = m + 1 := ⟨n - 1, by omega⟩
    unfold sT_Plain_l2 sT_Plain_b2
    simp only [ltF (show w.size ≤ i by omega), cond_false]
  | succ q ih =>
    intro i n h1 h2
    obtain ⟨n, rfl⟩ : ∃ m, n = m + 1 := ⟨n - 1, by omega⟩
    obtain ⟨b1, b2⟩ := h.b i (by omega)
    unfold sT_Plain_l2 sT_Plain_b2
    have e1 : (lst (kC IntKind.u8) w.size (byteC w)).f i = byteI w i := rfl
    have e2 : (lst (kC IntKind.u8) w.size (byteC w)).n = w.size := rfl
    have c1 : ¬ (byteI w i < 97) := by omega
    have c2 : ¬ (byteI w i > 122) := by omega
    simp only [e2, ltT (show i < w.size by omega), nat_nonneg, Bool.and_self, cond_true, Int.toNat_natCast, e1, c1, c2, decide_false, cond_false, w64_succ (show i < 1000000000000 by omega)]
    exact ih (i + 1) n (by omega) (by omega)
theorem plain_ok {N : Nat} {w : ByteArray} (h : WordP w) (hn : w.size ≤ 1000) (hN : 2000 ≤ N) (k : Bool → Option R) : sT_Plain N w k = k true := by
  rw [sT_Plain_def]
  unfold sT_Plain_m
  refine (plain_l2 N h hn (fun r => k r) _ w.size 0 N (by omega) (by omega)).trans ?_
  have : w ≠ ByteArray.mk #[] := by
    intro e
    have := h.n
    rw [e] at this
    exact absurd this (by decide)
  simp only [beqF this]
  rfl
def nN (m : api_Machine) : Nat := m.Inputs.n + m.Outputs.n + m.Counters.n + m.States.n
def nmF (m : api_Machine) (i : Nat) : ByteArray :=
  if i < m.Inputs.n then m.Inputs.f i else if i < m.Inputs.n + m.Outputs.n then m.Outputs.f (i - m.Inputs.n)
  else if i < m.Inputs.n + m.Outputs.n + m.Counters.n then (m.Counters.f (i - (m.Inputs.n + m.Outputs.n))).Name else (m.States.f (i - (m.Inputs.n + m.Outputs.n + m.Counters.n))).Name
structure NamesP (m : api_Machine) : Prop where
  w : ∀ i, i < nN m → WordP (nmF m i) ∧ (nmF m i).size ≤ 8
  d : ∀ i j, i < j → j < nN m → nmF m i ≠ nmF m j
theorem keyEq_str (a b : ByteArray) : keyEq [SV.str a] [SV.str b] = decide (a = b) := by
  simp only [keyEq, eqCells, Bool.and_true]
  by_cases h : a = b
  · rw [decide_eq_true h]; exact (bytes_beq a b).2 h
  · rw [decide_eq_false h]; exact beqF h
theorem putG_str (a b : ByteArray) (v : Int) (g : List SV → Nat → SV) : toI (putG [SV.str a] [SV.int IntKind.i64 v] g [SV.str b] 0) = if b = a then v else toI (g [SV.str b] 0) := by
  unfold putG
  rw [keyEq_str]
  by_cases h : b = a
  · subst h; simp [lget, toI]
  · simp [h]
theorem get_put (m : Mp ByteArray Int) (a b : ByteArray) (v : Int) : Mp.get (mpD strC intC (putH [SV.str a] (mpH strC m)) (putG [SV.str a] [SV.int IntKind.i64 v] (mpG strC intC m))) b = if b = a then v else Mp.get m b := by
  show toI (putG [SV.str a] [SV.int IntKind.i64 v] (mpG strC intC m) [SV.str b] 0) = _
  rw [putG_str]
  rfl
theorem named_l3 (N : Nat) (hN : 2000 ≤ N) {nm : Nat → ByteArray} {n : Nat} (hn : n ≤ 1000) (hw : ∀ i, i < n → WordP (nm i) ∧ (nm i).size ≤ 8) (hd : ∀ i j, i < j → j < n → nm i ≠ nm j) {a : Arr ByteArray} (ha : a.Is n nm) (b : Bool) (kr : Bool → Option R) (k0 : Unit → Option R) :
    ∀ (q i f : Nat) (mp : Mp ByteArray Int), i + q = n → q < f → (∀ x, (∀ j, j < i → nm j ≠ x) → Mp.get mp x = 0) →
    sT_named_l3 N f (n : Int) (i : Int) mp b a kr k0 = k0 () := by
  intro q
  induction q with
  | zero =>
    intro i f mp h1 h2 h3
    obtain ⟨f, rfl⟩ : ∃ m, f = m + 1 := ⟨f - 1, by omega⟩
    unfold sT_named_l3 sT_named_b3
    simp only [ltF (show n ≤ i by omega), cond_false]
  | succ q ih =>
    intro i f mp h1 h2 h3
    obtain ⟨f, rfl⟩ : ∃ m, f = m + 1 := ⟨f - 1, by omega⟩
    obtain ⟨w1, w2⟩ := hw i (by omega)
    have hg := h3 (nm i) (fun j hj => hd j i hj (by omega))
    unfold sT_named_l3 sT_named_b3
    have c1 : ¬ (((nm i).size : Int) > 8) := by omega
    have e1 : w64 ((0 : Int) + 1) = 1 := by decide
    have c2 : ¬ ((1 : Int) > 1) := by omega
    simp only [ha.len, ltT (show i < n by omega), nat_nonneg, Bool.and_self, cond_true, Int.toNat_natCast, ha.get i (by omega), plain_ok w1 (by omega) hN, Bool.not_true, cond_false, c1, decide_false, res_ok w1, putG_str, if_true, hg, e1, c2, w64_succ (show i < 1000000000000 by omega)]
    exact ih (i + 1) f _ (by omega) (by omega) (fun x hx => by
      rw [get_put, if_neg (fun e => hx i (by omega) e.symm)]
      exact h3 x fun j hj => hx j (by omega))
theorem grow_eq (N : Nat) {x : Int} (h0 : 0 ≤ x) (h1 : x ≤ 1000) : ∃ (b : Bool) (a : Arr ByteArray), a.n = 0 ∧ ∀ (k : Bool → Arr ByteArray → Option R), slices_Grow___string_string_ N x k = k b a := by
  have e : w64 (x - w64 (((0 : Nat) : Int) - ((0 : Nat) : Int))) = x := by
    have : w64 (((0 : Nat) : Int) - ((0 : Nat) : Int)) = 0 := by decide
    rw [this, w64_eq (by omega) (by omega)]; omega
  have c0 : ¬ (x < 0) := by omega
  by_cases hx : x > 0
  · refine ⟨false, lst strC (0 : Nat) (zeroC [SV.str (ByteArray.mk (Array.mk []))]), rfl, fun k => ?_⟩
    · rw [slices_Grow___string_string__def]
      unfold slices_Grow___string_string__m
      have c1 : x ≤ (1073741824 : Int) := by omega
      have c2 : (0 : Int) < x := hx
      simp only [c0, decide_false, cond_false, e, hx, c2, c1, decide_true, cond_true, Bool.and_self]
  · refine ⟨true, lst strC (0 : Nat) (fun (x x_1 : Nat) => SV.undef), rfl, fun k => ?_⟩
    · rw [slices_Grow___string_string__def]
      unfold slices_Grow___string_string__m
      simp only [c0, decide_false, cond_false, e, hx]
theorem app_is {a b : Arr ByteArray} {n m : Nat} {g h : Nat → ByteArray} (ha : a.Is n g) (hb : b.Is m h) :
    (lst strC (a.n + b.n) (catC a.n (Cod.cell strC a.f) (Cod.cell strC b.f))).Is (n + m) (fun i => if i < n then g i else h (i - n)) := by
  refine ⟨by show a.n + b.n = n + m; rw [ha.len, hb.len], fun i hi => ?_⟩
  have e : Nat.blt i a.n = decide (i < n) := by
    rw [ha.len]
    cases hh : Nat.blt i n
    · have : ¬ i < n := fun h => by rw [← Nat.blt_eq, hh] at h; cases h
      simp [this]
    · rw [Nat.blt_eq] at hh; simp [hh]
  show strC.dec (fun j => bif Nat.blt i a.n then Cod.cell strC a.f i j else Cod.cell strC b.f (i - a.n) j) = _
  rw [e]
  by_cases hlt : i < n
  · rw [decide_eq_true hlt, if_pos hlt, ← ha.get i hlt]; rfl
  · rw [decide_eq_false hlt, if_neg hlt, ← hb.get (i - n) (by omega), ha.len]; rfl
theorem push_is {a : Arr ByteArray} {n : Nat} {g : Nat → ByteArray} (ha : a.Is n g) {x : ByteArray} {z : List SV} (hx : x = g n) :
    (lst strC (a.n + 1) (catC a.n (Cod.cell strC a.f) (litC z [[SV.str x]]))).Is (n + 1) g := ha.push (fun _ => rfl) hx
theorem concat_eq {N : Nat} (hN : 2000 ≤ N) {a b : Arr ByteArray} (hna : a.n ≤ 100) (hnb : b.n ≤ 100) : ∃ (l : Bool) (c : Arr ByteArray), c.Is (a.n + b.n) (fun i => if i < a.n then a.f i else b.f (i - a.n)) ∧
    ∀ (k : Bool → Arr ByteArray → Option R), slices_Concat___string_string_ N (lst (lsC strC) (2 : Nat) (litC [SV.sl SK.nil (CK.cons CK.str CK.nil) (1 : Nat) (0 : Nat) (zeroC [SV.str (ByteArray.mk (Array.mk []))])] [[slC strC a], [slC strC b]])) k = k l c := by
  obtain ⟨M, rfl⟩ : ∃ m, N = m + 3 := ⟨N - 3, by omega⟩
  have l0 : Arr.f (lst (lsC strC) (2 : Nat) (litC [SV.sl SK.nil (CK.cons CK.str CK.nil) (1 : Nat) (0 : Nat) (zeroC [SV.str (ByteArray.mk (Array.mk []))])] [[slC strC a], [slC strC b]])) 0 = a := rfl
  have l1 : Arr.f (lst (lsC strC) (2 : Nat) (litC [SV.sl SK.nil (CK.cons CK.str CK.nil) (1 : Nat) (0 : Nat) (zeroC [SV.str (ByteArray.mk (Array.mk []))])] [[slC strC a], [slC strC b]])) 1 = b := rfl
  have ln : Arr.n (lst (lsC strC) (2 : Nat) (litC [SV.sl SK.nil (CK.cons CK.str CK.nil) (1 : Nat) (0 : Nat) (zeroC [SV.str (ByteArray.mk (Array.mk []))])] [[slC strC a], [slC strC b]])) = 2 := rfl
  generalize (lst (lsC strC) (2 : Nat) (litC [SV.sl SK.nil (CK.cons CK.str CK.nil) (1 : Nat) (0 : Nat) (zeroC [SV.str (ByteArray.mk (Array.mk []))])] [[slC strC a], [slC strC b]])) = L at *
  obtain ⟨bb, e, e0, e1⟩ := grow_eq (R := R) (M + 3) (x := (a.n : Int) + (b.n : Int)) (by omega) (by omega)
  have he : e.Is 0 (fun i => if i < a.n then a.f i else b.f (i - a.n)) := ⟨e0, fun i hi => by omega⟩
  have w1 : w64 ((0 : Int) + 1) = ((1 : Nat) : Int) := by decide
  have w2 : w64 (((1 : Nat) : Int) + 1) = ((2 : Nat) : Int) := by decide
  have t0 : decide ((0 : Int) < ((2 : Nat) : Int)) = true := by decide
  have t1 : decide (((1 : Nat) : Int) < ((2 : Nat) : Int)) = true := by decide
  have t2 : decide (((2 : Nat) : Int) < ((2 : Nat) : Int)) = false := by decide
  have t3 : decide ((0 : Int) ≤ 0) = true := by decide
  have s1 : w64 ((0 : Int) + (a.n : Int)) = (a.n : Int) := by rw [w64_eq (by omega) (by omega)]; omega
  have s2 : w64 ((a.n : Int) + (b.n : Int)) = (a.n : Int) + (b.n : Int) := w64_eq (by omega) (by omega)
  have n1 : ¬ ((a.n : Int) < 0) := by omega
  have n2 : ¬ ((a.n : Int) + (b.n : Int) < 0) := by omega
  have h1 := app_is (a := e) (b := a) (n := 0) (m := a.n) (g := fun i => a.f i) (h := fun i => a.f i) ⟨e0, fun i hi => by omega⟩ ⟨rfl, fun i _ => rfl⟩
  generalize hc1 : (lst strC (e.n + a.n) (catC e.n (Cod.cell strC e.f) (Cod.cell strC a.f))) = c1 at *
  have h2 := app_is (a := c1) (b := b) h1 (m := b.n) (h := fun i => b.f i) ⟨rfl, fun i _ => rfl⟩
  have r1 : room (e.n + a.n) = true := room_of (by omega)
  have r2 : room (c1.n + b.n) = true := room_of (by rw [h1.len]; omega)
  refine ⟨(bif b.n == (0 : Nat) then (bif a.n == (0 : Nat) then bb else false) else false), lst strC (c1.n + b.n) (catC c1.n (Cod.cell strC c1.f) (Cod.cell strC b.f)), ⟨by rw [h2.len]; omega, fun i hi => ?_⟩, fun k => ?_⟩
  · rw [h2.get i (by omega)]
    by_cases e : i < a.n
    · have : i < 0 + a.n := by omega
      simp [e, this]
    · have : ¬ i < 0 + a.n := by omega
      simp [e]
  · rw [slices_Concat___string_string__def]
    unfold slices_Concat___string_string__m
    simp only [ln, slices_Concat___string_string__l3, slices_Concat___string_string__b3, t0, t1, t2, t3, nat_nonneg, Bool.and_self, cond_true, Int.toNat_zero, Int.toNat_natCast, l0, l1, s1, n1, s2, n2, decide_false, cond_false, w1, w2, e1]
    simp only [slices_Concat___string_string__l11, slices_Concat___string_string__b11, ln, t0, t1, t2, t3, nat_nonneg, Bool.and_self, cond_true, Int.toNat_zero, Int.toNat_natCast, l0, l1, cond_false, w1, w2, r1, hc1, r2]
end
end Si
end Go.Proofs.YtpillmoddoccfabDoor
