import Derived.Test.YtlphgonhenegoaaSxTy
import Derived.Laws.CopyRow
import Derived.Laws.AppendOwn
import Derived.Laws.MakeOwn
namespace Go.Sx
theorem one_eq (v : Value) : Value.oneCell' v = Sx.one v := by cases v <;> rfl
theorem cell_of {w : World} {b i : Nat} {arr : Array Value} {e : TypeId} {fr : Nat × Nat} (h : w.heap[b]? = some (.cells arr e fr)) : w.cell? ⟨b, i, Option.none⟩ = arr[i]? := by
  simp [World.cell?, h]
theorem heap_setRow {w : World} {b : Nat} {arr arr' : Array Value} {e : TypeId} (h : w.heap[b]? = some (.cells arr e (0, 0))) :
    (w.setRow b arr').heap[b]? = some (.cells arr' e (0, 0)) := setRow_heap w b arr arr' e (0, 0) h
theorem heap_setRow_ne (w : World) (b k : Nat) (arr' : Array Value) (h : k ≠ b) : (w.setRow b arr').heap[k]? = w.heap[k]? := by
  simp only [World.setRow, Array.getElem?_modify]
  rw [if_neg (fun e => h e.symm)]
theorem size_setRow (w : World) (b : Nat) (arr' : Array Value) : (w.setRow b arr').heap.size = w.heap.size := by simp [World.setRow]
def putAt (arr : Array Value) (o : Nat) (vs : List Value) : Array Value := (arr.toList.take o ++ vs ++ arr.toList.drop (o + vs.length)).toArray
theorem size_putAt {arr : Array Value} {o : Nat} {vs : List Value} (h : o + vs.length ≤ arr.size) : (putAt arr o vs).size = arr.size := by
  simp [putAt]; omega
theorem get_putAt {arr : Array Value} {o : Nat} {vs : List Value} (h : o + vs.length ≤ arr.size) (j : Nat) :
    (putAt arr o vs)[j]? = if o ≤ j ∧ j < o + vs.length then vs[j - o]? else arr[j]? := by
  obtain ⟨l⟩ := arr
  simp only [putAt, List.getElem?_toArray, List.getElem?_append, List.length_append, List.length_take]
  simp at h
  have hm : min o l.length = o := by omega
  rw [hm]
  by_cases h1 : j < o
  · rw [if_pos (by omega), if_pos h1, if_neg (by omega)]
    simp [h1]
  · by_cases h2 : j < o + vs.length
    · rw [if_pos h2, if_neg h1, if_pos ⟨by omega, h2⟩]
    · rw [if_neg h2, if_neg (by omega)]
      simp only [List.getElem?_drop]
      congr 1
      omega
theorem run_storeCells {P : Program} {w : World} {b o : Nat} {arr : Array Value} {e : TypeId} {vs : List Value} (h : w.heap[b]? = some (.cells arr e (0, 0)))
    (hl : o + vs.length ≤ arr.size) (h1 : ∀ v ∈ vs, Sx.one v = true) : (storeCells ⟨b, o, Option.none⟩ vs).run P w = .ok () (w.setRow b (putAt arr o vs)) := by
  have := run_storeCells_at P b o e vs 0 arr w h (by simpa using hl) (fun v hv => by rw [one_eq]; exact h1 v hv)
  simpa [putAt] using this
theorem nextslicecap_le2 (n c : Nat) (h : c < n) : Builtin.nextslicecap n c ≤ 2 * n := by
  unfold Builtin.nextslicecap
  split
  · omega
  · split
    · omega
    · have key : ∀ (r c : Nat), 256 ≤ c → c ≤ 2 * n → Builtin.growBy n r c ≤ 2 * n := by
        intro r
        induction r with
        | zero => intro c _ hc; simpa [Builtin.growBy] using hc
        | succ r ih =>
          intro c h0 hc
          simp only [Builtin.growBy]
          split
          · exact hc
          · exact ih _ (by omega) (by omega)
      exact key 4 c (by omega) (by omega)
theorem run_firstCells {P : Program} {w : World} (size n : Nat) (a : Option Addr) (len cap : Nat) (U : Nat → Value) (ha : 0 < n * size → ∃ ad, a = some ad)
    (h : ∀ ad, a = some ad → ∀ j, j < n * size → w.cell? (ad.add j) = some (U j)) :
    (Builtin.firstCells size n (.slice a len cap)).run P w = .ok ((List.range (n * size)).map U).toArray w := by
  cases a with
  | none =>
    have h0 : n * size = 0 := by
      rcases Nat.eq_zero_or_pos (n * size) with h | h
      · exact h
      · obtain ⟨ad, h⟩ := ha h; cases h
    simp [Builtin.firstCells, h0]
  | some ad => simp only [Builtin.firstCells]; exact run_loadCells w ad (n * size) U (h ad rfl)
theorem lenOf_slice (P : Program) (w : World) (a : Option Addr) (n c : Nat) : (Builtin.lenOf (.slice a n c)).run P w = .ok n w := rfl
theorem size_zeroCells' (z : Array Value) (n : Nat) : (Builtin.zeroCells z n).size = n * z.size := by simp [Builtin.zeroCells]
def appRes (P : Program) (w : World) (base : Option Addr) (k : Nat) (vs : List Value) (v : Value) : Result Value :=
  match base with
  | some a => ((storeCells (a.add k) vs).run P w).andThen fun _ w' => .ok v w'
  | Option.none => .ok v w
theorem run_append {P : Program} {w : World} {t t' e e' ty : TypeId} {i : TypeInfo} {z : Value} (ht : P.underlying t = some (.slice e)) (ht' : P.underlying t' = some (.slice e')) (hi : P.info? e = some i) (hz : i.zero = some z)
    (hzs : z.cells.size = i.size) (hby : i.bytes ≤ 65536)
    (base xa : Option Addr) (n cap m xc : Nat) (hroom : n + m ≤ 1073741824 ∨ (n + m ≤ 17592186044416 ∧ i.bytes ≤ 8)) (U X : Nat → Value)
    (hb : 0 < n * i.size → ∃ ad, base = some ad) (hU : ∀ ad, base = some ad → ∀ j, j < n * i.size → w.cell? (ad.add j) = some (U j))
    (hx : 0 < m * i.size → ∃ ad, xa = some ad) (hX : ∀ ad, xa = some ad → ∀ j, j < m * i.size → w.cell? (ad.add j) = some (X j)) :
    ((n + m ≤ cap ∧ (Builtin.append_ #[t, t'] ty #[.slice base n cap, .slice xa m xc]).run P w = appRes P w base (n * i.size) ((List.range (m * i.size)).map X) (.slice base (n + m) cap)) ∨
     (cap < n + m ∧ ∃ nc rest, n + m ≤ nc ∧ rest.size = (nc - (n + m)) * i.size ∧
      (Builtin.append_ #[t, t'] ty #[.slice base n cap, .slice xa m xc]).run P w =
        .ok (.slice (some ⟨w.heap.size, 0, Option.none⟩) (n + m) nc) (w.drew.alloc (.cells (((List.range (n * i.size)).map U).toArray ++ ((List.range (m * i.size)).map X).toArray ++ rest) e)))) := by
  have hf : (Builtin.firstCells i.size m (.slice xa m xc)).run P w = .ok ((List.range (m * i.size)).map X).toArray w := run_firstCells i.size m xa m xc X hx hX
  rcases Nat.lt_or_ge cap (n + m) with hlt | hge
  · refine .inr ⟨hlt, ?_⟩
    have hn : ¬ (n + m ≤ cap) := by omega
    have hni : ¬ (9223372036854775807 < (n : Int) + (m : Int) ∧ i.bytes = 0) := by omega
    have hcapb : ¬ (Builtin.nextslicecap (n + m) cap * i.bytes > 281474976710656) := by
      have h1 := nextslicecap_le2 (n + m) cap hlt
      rcases hroom with hroom | ⟨hroom, hb8⟩
      · have h2 : Builtin.nextslicecap (n + m) cap * i.bytes ≤ 2147483648 * 65536 := Nat.mul_le_mul (by omega) hby
        omega
      · have h2 : Builtin.nextslicecap (n + m) cap * i.bytes ≤ 35184372088832 * 8 := Nat.mul_le_mul (by omega) hb8
        omega
    have hf1 : (Builtin.firstCells i.size m (.slice xa m xc)).run P w.drew = .ok ((List.range (m * i.size)).map X).toArray w.drew := run_firstCells i.size m xa m xc X hx hX
    have hf0 : (Builtin.firstCells i.size n (.slice base n cap)).run P w.drew = .ok ((List.range (n * i.size)).map U).toArray w.drew := run_firstCells i.size n base n cap U hb hU
    refine ⟨(Question.appendCap (n + m) cap e).cut (w.tape w.drawn (.appendCap (n + m) cap e)), Builtin.zeroCells z.cells ((Question.appendCap (n + m) cap e).cut (w.tape w.drawn (.appendCap (n + m) cap e)) - (n + m)), ?_, ?_, ?_⟩
    · simp only [Question.cut]; omega
    · rw [size_zeroCells', hzs]
    · simp [Builtin.append_, run_underlying ht, run_underlying ht', Go.sizeOf, typeInfo, hi, lenOf_slice, hn, hni, hcapb, Question.forced, hf1, hf0, zeroValue, hz, newRow]
      rw [← Array.append_assoc]
      simp
  · refine .inl ⟨hge, ?_⟩
    cases base with
    | none => simp [appRes, Builtin.append_, run_underlying ht, run_underlying ht', Go.sizeOf, typeInfo, hi, lenOf_slice, hge, hf]
    | some a =>
      simp [appRes, Builtin.append_, run_underlying ht, run_underlying ht', Go.sizeOf, typeInfo, hi, lenOf_slice, hge, hf]
end Go.Sx
