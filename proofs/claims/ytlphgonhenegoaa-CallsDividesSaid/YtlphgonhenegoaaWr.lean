import Derived.Test.YtlphgonhenegoaaCod
import Derived.Test.YtlphgonhenegoaaSxHR
import Derived.Maps.RangeRun
set_option maxRecDepth 100000
set_option maxHeartbeats 0
set_option linter.unusedVariables false
namespace Go.Proofs.Ytlphgonhenegoaa
open Go.Sx
open Go.ChangeMaps (setBlock)
noncomputable section
def wrC : Code := joinAt E 51 (15, 37)
def sq1 : Code → Code | .seq a _ => a | _ => .skip
def sq2 : Code → Code | .seq _ b => b | _ => .skip
def blkOf : Code → Code | .block _ c => c | _ => .skip
def lpOf : Code → Code | .loop c => c | _ => .skip
def opsOf : Code → Array Oper | .region _ ops _ => ops | _ => #[]
def wr15 : Code := sq1 wrC
def wrL : Code := lpOf (blkOf (sq2 wrC))
def wr16 : Code := sq1 wrL
def wrB : Code := blkOf (sq2 (sq2 wrL))
def wr17 : Code := sq1 wrB
def wr18 : Code := sq1 (sq2 wrB)
def wr19 : Code := sq1 (sq1 (sq2 (sq2 wrB)))
def wrI : Code := lpOf (blkOf (sq2 (sq1 (sq2 (sq2 wrB)))))
def wr24 : Code := sq2 (sq2 (sq2 wrB))
theorem wrC_eq : wrC = .seq (.region 15 (opsOf wr15) false) (.block 4 (.loop wrL)) := by kernel_rfl
theorem wrL_eq : wrL = .seq (.region 16 (opsOf wr16) false) (.seq (.cond (.tmp 86) .skip (.exit 4)) (.block 5 wrB)) := by kernel_rfl
theorem wrB_eq : wrB = .seq (.region 17 (opsOf wr17) false) (.seq wr18 (.seq (.seq wr19 (.block 6 (.loop wrI))) (.region 24 (opsOf wr24) false))) := by kernel_rfl
def opAt (c : Code) (i : Nat) : Oper := ((opsOf c).toList[i]?).getD ⟨Option.none, .move (.tmp 0), 0, "", #[], Option.none⟩
theorem ops15 : (opsOf wr15).toList = [opAt wr15 0, opAt wr15 1] := by kernel_rfl
theorem ops16 : (opsOf wr16).toList = [opAt wr16 0, opAt wr16 1] := by kernel_rfl
theorem ops17 : (opsOf wr17).toList = [opAt wr17 0, opAt wr17 1, opAt wr17 2, opAt wr17 3, opAt wr17 4] := by kernel_rfl
theorem ops24 : (opsOf wr24).toList = [opAt wr24 0, opAt wr24 1, opAt wr24 2] := by kernel_rfl
theorem ty96 : E.P.underlying 96 = some (.map 3 37) := by
  have h : E.Θ.get 96 = some ⟨.map 3 37, 1, 8, [.nilm]⟩ := by kernel_rfl
  exact (rowTy hE.ty h).map_
def wBit (s z : Int) : Bool := !(IntKind.i64.wrap ↑(BitVec.ofInt IntKind.i64.bits (s.fdiv (2 ^ min z.toNat IntKind.i64.bits)) &&& BitVec.ofInt IntKind.i64.bits 1).toNat == 0)
def wHit (m : Fm Int) (s : Int) (i : Nat) : Prop := ∃ z j, m.has z = true ∧ wBit s z = true ∧ j < (m.at_ z).n ∧ (m.at_ z).f j = (i : Int)
def wVal (l : Arr api_Press) (t : Int) (i : Nat) : Int := w64 (t - (l.f i).At)
open Classical in
def wNew (l : Arr api_Press) (t s : Int) (w : Arr Int) (m : Fm Int) : Arr Int := ⟨w.n, fun i => if wHit m s i then wVal l t i else w.f i⟩
def mNew (s : Int) (m : Fm Int) : Fm Int := ⟨fun z => m.has z && !(wBit s z), fun z => bif wBit s z then ⟨0, (m.at_ z).f⟩ else m.at_ z⟩
def wCond (l : Arr api_Press) (s : Int) (w : Arr Int) (m : Fm Int) : Prop :=
  ∀ z, m.has z = true → 0 ≤ z ∧ (m.at_ z).n ≤ 1073741824 ∧ (wBit s z = true → ∀ j, j < (m.at_ z).n → 0 ≤ (m.at_ z).f j ∧ (m.at_ z).f j < w.n ∧ (m.at_ z).f j < l.n)
open Classical in
def waitsRound {R : Type} (l : Arr api_Press) (t s : Int) (nl : Bool) (w : Arr Int) (m : Fm Int) (k : Arr Int → Fm Int → Option R) : Option R :=
  if wCond l s w m then k (wNew l t s w m) (mNew s m) else Option.none
def keyZ (e : MapEntry) : Int := match e.key with | .int _ z => z | _ => 0
structure Wr0 (m : Fm Int) (bm clock : Nat) (X : Int → Nat) (O : Nat → Obj) (es0 : List MapEntry) : Prop where
  born : ∀ e ∈ es0, e.born < clock
  stamps : (es0.map (·.born)).Nodup
  apart : es0.Pairwise (fun a b => a.key ≠ b.key)
  own : ∀ e ∈ es0, e.key = .int .i64 (keyZ e) ∧ m.has (keyZ e) = true
  all : ∀ z, m.has z = true → ∃ e ∈ es0, keyZ e = z
  ne : ∀ e ∈ es0, X (keyZ e) ≠ bm
  inj : ∀ e ∈ es0, ∀ e' ∈ es0, X (keyZ e) = X (keyZ e') → keyZ e = keyZ e'
  none : ∀ z, m.has z = false → (m.at_ z).n = 0
  val : ∀ e ∈ es0, ∃ cap arr ety, e.val = .slice (some ⟨X (keyZ e), 0, Option.none⟩) (m.at_ (keyZ e)).n cap ∧ O (X (keyZ e)) = .cells arr ety (0, 0) ∧ (m.at_ (keyZ e)).n ≤ cap ∧ cap ≤ arr.size ∧
    ∀ i, i < (m.at_ (keyZ e)).n → arr[i]? = some (.int .i64 ((m.at_ (keyZ e)).f i))
theorem pairwise_key {l : List MapEntry} (h : l.Pairwise (fun a b => a.key ≠ b.key)) {e e' : MapEntry} (he : e ∈ l) (he' : e' ∈ l) (hk : e.key = e'.key) : e = e' := by
  induction l with
  | nil => cases he
  | cons a l ih =>
    obtain ⟨h1, h2⟩ := List.pairwise_cons.1 h
    rcases List.mem_cons.1 he with rfl | he1 <;> rcases List.mem_cons.1 he' with rfl | he1'
    · rfl
    · exact absurd hk (h1 _ he1')
    · exact absurd hk.symm (h1 _ he1)
    · exact ih h2 he1 he1'
theorem Wr0.eq {m : Fm Int} {bm clock : Nat} {X : Int → Nat} {O : Nat → Obj} {es0 : List MapEntry} (h : Wr0 m bm clock X O es0) {e e' : MapEntry} (he : e ∈ es0) (he' : e' ∈ es0) (hk : keyZ e = keyZ e') : e = e' :=
  pairwise_key h.apart he he' (by rw [(h.own e he).1, (h.own e' he').1, hk])
theorem Wr0.of {Z : Nat → Prop} {w : World} {b : Nat} {x : Nat → Prop} {m : Fm Int} {es : List MapEntry} {clock : Nat} {X : Int → Nat}
    (h : FamOk Z w b x .i64 intC.sg intC.size m.has (fmL m) (fmG intC m) Option.none es clock X) : Wr0 m b clock X (fun k => (w.heap[k]?).getD (.cells #[] 0 (0, 0))) es ∧ ∀ e ∈ es, x (X (keyZ e)) ∧ (w.heap[X (keyZ e)]?).isSome = true := by
  have own : ∀ e ∈ es, e.key = .int .i64 (keyZ e) ∧ m.has (keyZ e) = true := fun e he => by
    obtain ⟨z, h1, h2⟩ := h.own e he
    have : keyZ e = z := by simp [keyZ, h1]
    rw [this]
    exact ⟨h1, h2⟩
  refine ⟨⟨h.born, h.stamps, h.apart, own, fun z hz => ?_, fun e he => ?_, fun e he e' he' hX => ?_, h.none, fun e he => ?_⟩, fun e he => ?_⟩
  · obtain ⟨e, he, hk⟩ := h.all z hz
    exact ⟨e, he, by simp [keyZ, hk]⟩
  · obtain ⟨_, _, _, _, _, h3, _⟩ := h.val e he _ (own e he).1 (by simp)
    exact h3
  · exact h.inj _ _ (own e he).2 (own e' he').2 (by simp) (by simp) hX
  · obtain ⟨cap, arr, ety, h1, h2, h3, h4, h5, h6, h7⟩ := h.val e he _ (own e he).1 (by simp)
    refine ⟨cap, arr, ety, h1, by simp [h4], h5, by simpa [intC] using h6, fun i hi => ?_⟩
    obtain ⟨v, hv, hd⟩ := h7 i 0 hi (by simp [intC])
    have h8 : fmG intC m (keyZ e) i 0 = .int .i64 ((m.at_ (keyZ e)).f i) := rfl
    rw [h8] at hd
    cases hd
    simpa [intC] using hv
  · obtain ⟨cap, arr, ety, h1, h2, h3, h4, _⟩ := h.val e he _ (own e he).1 (by simp)
    exact ⟨h2, by rw [h4]; rfl⟩
def wrBs (bm clock : Nat) (X : Int → Nat) (O : Nat → Obj) (me es : List MapEntry) : List (Nat × Obj) := (bm, .map me.toArray clock) :: es.map (fun e => (X (keyZ e), O (X (keyZ e))))
structure WrJ (m : Fm Int) (s : Int) (es0 es : List MapEntry) (seen : Array Nat) : Prop where
  sub : es.Sublist es0
  gone : ∀ e ∈ es0, e ∉ es → wBit s (keyZ e) = true
  kept : ∀ e ∈ es, seen.contains e.born = true → wBit s (keyZ e) = false
open Classical in
def wAcc (l : Arr api_Press) (t : Int) (w : Arr Int) (m : Fm Int) (es0 es : List MapEntry) : Arr Int :=
  ⟨w.n, fun i => if ∃ e ∈ es0, e ∉ es ∧ ∃ j, j < (m.at_ (keyZ e)).n ∧ (m.at_ (keyZ e)).f j = (i : Int) then wVal l t i else w.f i⟩
open Classical in
def wIn (l : Arr api_Press) (t : Int) (w : Arr Int) (who : Arr Int) (n : Nat) : Arr Int := ⟨w.n, fun i => if ∃ j, j < n ∧ who.f j = (i : Int) then wVal l t i else w.f i⟩
theorem wIn_zero (l : Arr api_Press) (t : Int) (w who : Arr Int) : wIn l t w who 0 = w := by simp [wIn]
theorem wIn_succ {l : Arr api_Press} {t : Int} {w who : Arr Int} {n : Nat} {i : Nat} (h : who.f n = (i : Int)) :
    lst intC w.n (setCs i 0 (Cod.cell intC (wIn l t w who n).f) [.int .i64 (wVal l t i)]) = wIn l t w who (n + 1) := by
  simp only [lst, wIn, Arr.mk.injEq, true_and]
  funext k
  simp only [intC, setCs, setC, Cod.cell]
  by_cases hk : k = i
  · subst hk
    rw [if_pos (show ∃ j, j < n + 1 ∧ who.f j = (k : Int) from ⟨n, Nat.lt_succ_self n, h⟩)]
    simp [toI]
  · have h1 : (k == i) = false := by simp [hk]
    simp only [h1, Bool.false_and, cond_false]
    have : (∃ j, j < n + 1 ∧ who.f j = (k : Int)) ↔ ∃ j, j < n ∧ who.f j = (k : Int) := by
      constructor
      · rintro ⟨j, hj, he⟩
        rcases Nat.lt_succ_iff_lt_or_eq.1 hj with hj | rfl
        · exact ⟨j, hj, he⟩
        · rw [h] at he
          omega
      · rintro ⟨j, hj, he⟩
        exact ⟨j, Nat.lt_succ_of_lt hj, he⟩
    simp only [this]
    rfl
def wrDel (es : List MapEntry) (e : MapEntry) : List MapEntry := es.filter (fun x => x.born != e.born)
theorem mem_del {es : List MapEntry} {e x : MapEntry} : x ∈ wrDel es e ↔ x ∈ es ∧ x.born ≠ e.born := by simp [wrDel]
theorem born_inj' {l : List MapEntry} (hn : (l.map (·.born)).Nodup) {x y : MapEntry} (hx : x ∈ l) (hy : y ∈ l) (hb : x.born = y.born) : x = y := by
  induction l with
  | nil => cases hx
  | cons a l ih =>
    obtain ⟨h1, h2⟩ := List.nodup_cons.1 hn
    rcases List.mem_cons.1 hx with rfl | hx1 <;> rcases List.mem_cons.1 hy with rfl | hy1
    · rfl
    · exact absurd (List.mem_map.2 ⟨_, hy1, hb.symm⟩) h1
    · exact absurd (List.mem_map.2 ⟨_, hx1, hb⟩) h1
    · exact ih h2 hx1 hy1
theorem WrJ.zero {m : Fm Int} {s : Int} {es0 : List MapEntry} : WrJ m s es0 es0 #[] := ⟨List.Sublist.refl _, fun e h1 h2 => absurd h1 h2, fun e _ h => by simp at h⟩
theorem wAcc_zero (l : Arr api_Press) (t : Int) (w : Arr Int) (m : Fm Int) (es0 : List MapEntry) : wAcc l t w m es0 es0 = w := by
  have : ∀ i : Nat, ¬ ∃ e ∈ es0, e ∉ es0 ∧ ∃ j, j < (m.at_ (keyZ e)).n ∧ (m.at_ (keyZ e)).f j = (i : Int) := fun i ⟨e, h1, h2, _⟩ => h2 h1
  simp [wAcc, this]
theorem wAcc_step {l : Arr api_Press} {t : Int} {w : Arr Int} {m : Fm Int} {es0 es : List MapEntry} {e : MapEntry} (hn : (es0.map (·.born)).Nodup) (he0 : e ∈ es0) :
    wIn l t (wAcc l t w m es0 es) (m.at_ (keyZ e)) (m.at_ (keyZ e)).n = wAcc l t w m es0 (wrDel es e) := by
  simp only [wIn, wAcc, Arr.mk.injEq, true_and]
  funext i
  by_cases h1 : ∃ j, j < (m.at_ (keyZ e)).n ∧ (m.at_ (keyZ e)).f j = (i : Int)
  · rw [if_pos h1, if_pos ⟨e, he0, fun h => (mem_del.1 h).2 rfl, h1⟩]
  · rw [if_neg h1]
    have : (∃ e' ∈ es0, e' ∉ wrDel es e ∧ ∃ j, j < (m.at_ (keyZ e')).n ∧ (m.at_ (keyZ e')).f j = (i : Int)) ↔ ∃ e' ∈ es0, e' ∉ es ∧ ∃ j, j < (m.at_ (keyZ e')).n ∧ (m.at_ (keyZ e')).f j = (i : Int) := by
      constructor
      · rintro ⟨e', a1, a2, a3⟩
        refine ⟨e', a1, fun hin => a2 (mem_del.2 ⟨hin, fun h => ?_⟩), a3⟩
        rw [born_inj' hn a1 he0 h] at a3
        exact h1 a3
      · rintro ⟨e', a1, a2, a3⟩
        exact ⟨e', a1, fun hin => a2 (mem_del.1 hin).1, a3⟩
    classical exact ite_congr (propext this.symm) (fun _ => rfl) (fun _ => rfl)
theorem wAcc_end {l : Arr api_Press} {t s : Int} {w : Arr Int} {m : Fm Int} {bm clock : Nat} {X : Int → Nat} {O : Nat → Obj} {es0 es : List MapEntry} {seen : Array Nat} (h : Wr0 m bm clock X O es0) (hJ : WrJ m s es0 es seen) (hend : ∀ e ∈ es, seen.contains e.born = true) :
    wAcc l t w m es0 es = wNew l t s w m := by
  simp only [wAcc, wNew, Arr.mk.injEq, true_and]
  funext i
  have : (∃ e ∈ es0, e ∉ es ∧ ∃ j, j < (m.at_ (keyZ e)).n ∧ (m.at_ (keyZ e)).f j = (i : Int)) ↔ wHit m s i := by
    constructor
    · rintro ⟨e, a1, a2, j, a3, a4⟩
      exact ⟨keyZ e, j, (h.own e a1).2, hJ.gone e a1 a2, a3, a4⟩
    · rintro ⟨z, j, a1, a2, a3, a4⟩
      obtain ⟨e, he, rfl⟩ := h.all z a1
      refine ⟨e, he, fun hin => ?_, j, a3, a4⟩
      have := hJ.kept e hin (hend e hin)
      rw [a2] at this
      cases this
  classical exact ite_congr (propext this) (fun _ => rfl) (fun _ => rfl)
theorem WrJ.drop {m : Fm Int} {s : Int} {es0 es : List MapEntry} {seen : Array Nat} (h : WrJ m s es0 es seen) {e : MapEntry} (hb : wBit s (keyZ e) = true) (hst : (es0.map (·.born)).Nodup) (he : e ∈ es) : WrJ m s es0 (wrDel es e) (seen.push e.born) where
  sub := List.filter_sublist.trans h.sub
  gone := fun e' h1 h2 => by
    by_cases hin : e' ∈ es
    · have : e'.born = e.born := Classical.byContradiction fun hbb => h2 (mem_del.2 ⟨hin, hbb⟩)
      rw [born_inj' hst h1 (h.sub.subset he) this]
      exact hb
    · exact h.gone e' h1 hin
  kept := fun e' h1 h2 => by
    obtain ⟨a1, a2⟩ := mem_del.1 h1
    exact h.kept e' a1 (by simpa [a2] using h2)
theorem WrJ.see {m : Fm Int} {s : Int} {es0 es : List MapEntry} {seen : Array Nat} (h : WrJ m s es0 es seen) {e : MapEntry} (hb : wBit s (keyZ e) = false) (hst : (es0.map (·.born)).Nodup) (he : e ∈ es) : WrJ m s es0 es (seen.push e.born) where
  sub := h.sub
  gone := h.gone
  kept := fun e' h1 h2 => by
    by_cases hbb : e'.born = e.born
    · rw [born_inj' hst (h.sub.subset h1) (h.sub.subset he) hbb]; exact hb
    · exact h.kept e' h1 (by simpa [hbb] using h2)
def wrLeft (es : List MapEntry) (seen : Array Nat) : Nat := (es.filter (fun e => !seen.contains e.born)).length
theorem wrLeft_see {es : List MapEntry} {seen : Array Nat} {e : MapEntry} (he : e ∈ es) (hn : seen.contains e.born = false) : wrLeft es (seen.push e.born) < wrLeft es seen := by
  refine filter_lt (fun e => !seen.contains e.born) (fun x => !(seen.push e.born).contains x.born) (fun x hx => ?_) e (by rw [hn]; rfl) (by simp) es he
  have : x.born ∉ seen ∧ ¬ x.born = e.born := by simpa [not_or] using hx
  simpa using this.1
theorem wrLeft_drop {es : List MapEntry} {seen : Array Nat} {e : MapEntry} (he : e ∈ es) (hn : seen.contains e.born = false) : wrLeft (wrDel es e) (seen.push e.born) < wrLeft es seen := by
  refine Nat.lt_of_le_of_lt ?_ (wrLeft_see he hn)
  unfold wrLeft wrDel
  exact (List.filter_sublist.filter _).length_le
theorem erase_eq {es : List MapEntry} {e : MapEntry} {i : Nat} (hn : (es.map (·.born)).Nodup) (hi : es[i]? = some e) : (es.toArray.eraseIdxIfInBounds i) = (wrDel es e).toArray := by
  have hlt : i < es.length := (List.getElem?_eq_some_iff.1 hi).1
  have : (es.toArray.eraseIdxIfInBounds i).toList = es.eraseIdx i := by simp [Array.eraseIdxIfInBounds, hlt]
  apply Array.toList_inj.1
  rw [this]
  show _ = wrDel es e
  clear this hlt
  unfold wrDel
  induction es generalizing i with
  | nil => simp at hi
  | cons a l ih =>
    obtain ⟨h1, h2⟩ := List.nodup_cons.1 hn
    cases i with
    | zero =>
      simp at hi
      subst hi
      simp only [List.eraseIdx_cons_zero, List.filter_cons, bne_self_eq_false, Bool.false_eq_true, if_false]
      refine (List.filter_eq_self.2 fun x hx => ?_).symm
      have : x.born ≠ a.born := fun h => h1 (List.mem_map.2 ⟨x, hx, h⟩)
      simpa using this
    | succ i =>
      simp only [List.eraseIdx_cons_succ, List.filter_cons]
      have hi' : l[i]? = some e := by simpa using hi
      have : a.born ≠ e.born := fun h => h1 (List.mem_map.2 ⟨e, List.mem_of_getElem? hi', h.symm⟩)
      rw [if_pos (by simpa using this), ih h2 hi']
end
end Go.Proofs.Ytlphgonhenegoaa
