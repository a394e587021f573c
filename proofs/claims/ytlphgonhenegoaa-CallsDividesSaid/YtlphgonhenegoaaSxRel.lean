import Derived.Test.YtlphgonhenegoaaSxDefs
namespace Go.Sx
theorem ckEq_eq {a b : CK} (h : ckEq a b = true) : a = b := by
  induction a generalizing b with
  | any => cases b <;> simp [ckEq] at h; rfl
  | int k => cases b <;> simp [ckEq] at h; rw [h]
  | bool => cases b <;> simp [ckEq] at h; rfl
  | str => cases b <;> simp [ckEq] at h; rfl
  | sl c ih => cases b <;> simp [ckEq] at h; rw [ih h]
  | nil => cases b <;> simp [ckEq] at h; rfl
  | cons a l ih1 ih2 => cases b <;> simp [ckEq] at h; rw [ih1 h.1, ih2 h.2]
theorem ckEq_refl (a : CK) : ckEq a a = true := by induction a <;> simp_all [ckEq]
theorem reC_eq {k : CK} {s : SV} (h : ckOk k s = true) : reC k s = s := by
  cases k <;> cases s <;> simp [ckOk] at h <;> simp [reC, toI, toB, toS, *]
theorem ckOk_any (s : SV) : ckOk .any s = true := by cases s <;> rfl
theorem ckOk_of (s : SV) : ckOk (ckOf s) s = true := by
  cases s with
  | sl k c size n cell =>
    cases k with
    | any => simp only [ckOf]; cases h : size == ckLen c <;> simp [ckOk, ckEq_refl, h]
    | nil => simp only [ckOf]; cases h : size == ckLen c <;> simp [ckOk, ckEq_refl, h]
    | cap0 => rfl
  | int k n => simp [ckOf, ckOk]
  | bool b => rfl
  | str b => rfl
  | _ => rfl
theorem ckAt_nil (j : Nat) : ckAt .nil j = .any := by cases j <;> rfl
theorem ckOk_or {a b : CK} {s : SV} (h : ckOk a s = true ∨ ckOk b s = true) : ckOk (bif ckEq a b then a else .any) s = true := by
  cases he : ckEq a b with
  | false => exact ckOk_any s
  | true =>
    have := ckEq_eq he
    subst this
    simpa using h
theorem ckOk_meet {a b : CK} {j : Nat} {s : SV} (h : ckOk (ckAt a j) s = true ∨ ckOk (ckAt b j) s = true) : ckOk (ckAt (ckMeet a b) j) s = true := by
  induction a generalizing b j with
  | cons x l _ ih =>
    cases b with
    | cons y m =>
      cases j with
      | zero => exact ckOk_or h
      | succ j => exact ih h
    | _ => simp only [ckMeet, ckAt_nil, ckOk_any]
  | _ => simp only [ckMeet, ckAt_nil, ckOk_any]
theorem ckOk_L {l : List SV} {j : Nat} {s : SV} (h : l[j]? = some s) : ckOk (ckAt (ckL l) j) s = true := by
  induction l generalizing j with
  | nil => simp at h
  | cons x l ih =>
    cases j with
    | zero => simp at h; subst h; exact ckOk_of x
    | succ j => exact ih (by simpa using h)
theorem ckOk_Els {z : CK} {els : List (List SV)} {i j : Nat} {e : List SV} {s : SV} (hi : els[i]? = some e) (hj : e[j]? = some s) : ckOk (ckAt (ckEls z els) j) s = true := by
  induction els generalizing i with
  | nil => simp at hi
  | cons x l ih =>
    cases l with
    | nil =>
      cases i with
      | zero => simp at hi; subst hi; exact ckOk_L hj
      | succ i => simp at hi
    | cons y l =>
      simp only [ckEls]
      cases i with
      | zero => simp at hi; subst hi; exact ckOk_meet (.inl (ckOk_L hj))
      | succ i => exact ckOk_meet (.inr (ih (by simpa using hi)))
theorem ckOk_put1 {c b : CK} {i j : Nat} {s : SV} (h : (j ≠ i ∧ ckOk (ckAt c j) s = true) ∨ (j = i ∧ (ckOk b s = true ∨ ckOk (ckAt c j) s = true))) : ckOk (ckAt (ckPut1 c i b) j) s = true := by
  induction c generalizing i j with
  | cons x l _ ih =>
    cases i with
    | zero =>
      cases j with
      | zero => simp [ckPut1, ckAt] at h ⊢; exact ckOk_or h.symm
      | succ j => simp [ckPut1, ckAt] at h ⊢; exact h
    | succ i =>
      cases j with
      | zero => simp [ckPut1, ckAt] at h ⊢; exact h
      | succ j => simp only [ckPut1, ckAt] at h ⊢; exact ih (by simpa using h)
  | _ => simp only [ckPut1, ckAt_nil, ckOk_any]
theorem ckOk_put_old {c : CK} {i j : Nat} {vs : List SV} {s : SV} (h : ckOk (ckAt c j) s = true) : ckOk (ckAt (ckPut c i vs) j) s = true := by
  induction vs generalizing c i with
  | nil => exact h
  | cons v vs ih =>
    refine ih (ckOk_put1 ?_)
    by_cases e : j = i
    · exact .inr ⟨e, .inr h⟩
    · exact .inl ⟨e, h⟩
theorem ckOk_put_new {c : CK} {i j : Nat} {vs : List SV} {s : SV} (h : vs[j]? = some s) : ckOk (ckAt (ckPut c i vs) (i + j)) s = true := by
  induction vs generalizing c i j with
  | nil => simp at h
  | cons v vs ih =>
    cases j with
    | zero =>
      simp at h
      subst h
      exact ckOk_put_old (c := ckPut1 c i (ckOf v)) (i := i + 1) (vs := vs) (ckOk_put1 (.inr ⟨rfl, .inl (ckOk_of v)⟩))
    | succ j =>
      have := ih (c := ckPut1 c i (ckOf v)) (i := i + 1) (j := j) (by simpa using h)
      have e : i + (j + 1) = i + 1 + j := by omega
      rw [e]
      exact this
def one : Value → Bool
  | .agg _ => false
  | .tuple _ => false
  | _ => true
theorem add_block (a : Addr) (n : Nat) : (a.add n).block = a.block := by unfold Addr.add; split <;> rfl
theorem add_add (a : Addr) (i j : Nat) : (a.add i).add j = a.add (i + j) := by
  unfold Addr.add
  by_cases hi : i = 0 <;> by_cases hj : j = 0 <;> simp [hi, hj, Nat.add_assoc]
theorem add_zero (a : Addr) : a.add 0 = a := by simp [Addr.add]
theorem add_mk (b o n : Nat) : (⟨b, o, Option.none⟩ : Addr).add n = ⟨b, o + n, Option.none⟩ := by
  unfold Addr.add
  by_cases h : n = 0 <;> simp [h]
inductive DenG (Z : Nat → Prop) (w : World) : SV → Value → Prop where
  | int (k : IntKind) (n : Int) : DenG Z w (.int k n) (.int k n)
  | bool (b : Bool) : DenG Z w (.bool b) (.bool b)
  | str (s : ByteArray) : DenG Z w (.str s) (.string s)
  | nilp : DenG Z w .nilp (.pointer Option.none)
  | nilm : DenG Z w .nilm (.map Option.none)
  | nilf : DenG Z w .nilf .nilFunc
  | eptr (m : Nat) (c : Nat → SV) (ad : Addr) (U : Nat → Value) (hz : 0 < m → Z ad.block) (hc : ∀ j, j < m → w.cell? (ad.add j) = some (U j)) (hd : ∀ j, j < m → DenG Z w (c j) (U j)) :
      DenG Z w (.eptr m c) (.pointer (some ad))
  | slnil (fl : CK) (size : Nat) (c : Nat → Nat → SV) : DenG Z w (.sl .nil fl size 0 c) (.slice Option.none 0 0)
  | slcap (fl : CK) (size : Nat) (c : Nat → Nat → SV) (a : Option Addr) : DenG Z w (.sl .cap0 fl size 0 c) (.slice a 0 0)
  | sl (fl : CK) (size n : Nat) (c : Nat → Nat → SV) (a : Option Addr) (cap : Nat) (U : Nat → Nat → Value) (hcap : n ≤ cap)
      (hfl : ∀ i j, i < n → j < size → ckOk (ckAt fl j) (c i j) = true)
      (hz : 0 < n → ∃ ad, a = some ad ∧ Z ad.block)
      (hc : ∀ ad, a = some ad → ∀ i j, i < n → j < size → w.cell? (ad.add (i * size + j)) = some (U i j))
      (hd : ∀ i j, i < n → j < size → DenG Z w (c i j) (U i j)) :
      DenG Z w (.sl .any fl size n c) (.slice a n cap)
structure Own where
  x : Nat → Prop := fun _ => False
  y : Nat → Nat := fun _ => 0
structure Cx where
  b : Nat → Nat
  o : Nat → Own := fun _ => {}
  u : Nat → Value
  en : Nat → Option Ent
  K : Nat → Prop
  Z : Nat → Prop
  w : World
def refV (c : Cx) (k r i j : Nat) : Value := match k with
  | 0 => .slice (some ⟨(c.o r).y (3 * i), 0, Option.none⟩) ((c.o r).y (3 * i + 1)) ((c.o r).y (3 * i + 2))
  | 1 => .pointer (some ⟨c.b r, i, Option.none⟩)
  | _ => .pointer (some ⟨(c.o r).y (3 * i), j, Option.none⟩)
def fnVal (f k : Nat) (vs : List Value) : Value := bif k == yK then (match vs with | .func (.yield l) _ _ :: _ => .func (.yield l) #[] #[] | _ => .nilFunc) else .func (.func f) (vs.take k).toArray (vs.drop k).toArray
def linkOk (k : Nat) (vs : List Value) : Prop := k = yK → ∃ l, vs.head? = some (.func (.yield l) (vs.drop 1).toArray #[])
theorem fnVal_lt {f k : Nat} {vs : List Value} (h : k ≠ yK) : fnVal f k vs = .func (.func f) (vs.take k).toArray (vs.drop k).toArray := by
  unfold fnVal
  have : (k == yK) = false := by simpa using h
  rw [this]
  rfl
theorem linkOk_lt {k : Nat} {vs : List Value} (h : k ≠ yK) : linkOk k vs := fun e => absurd e h
theorem fnVal_yield {f : Nat} {vs : List Value} (h : linkOk yK vs) : ∃ l, vs.head? = some (.func (.yield l) (vs.drop 1).toArray #[]) ∧ fnVal f yK vs = .func (.yield l) #[] #[] := by
  obtain ⟨l, hl⟩ := h rfl
  cases vs with
  | nil => cases hl
  | cons v vs =>
    simp only [List.head?_cons, Option.some.injEq, List.drop_succ_cons, List.drop_zero] at hl
    subst hl
    exact ⟨l, rfl, rfl⟩
theorem fnVal_func {f k : Nat} {vs : List Value} (h : linkOk k vs) : ∃ g x y, fnVal f k vs = .func g x y ∧ (g = .func f ∨ ∃ l, g = .yield l) := by
  by_cases hk : k = yK
  · subst hk
    obtain ⟨l, _, hl⟩ := fnVal_yield (f := f) h
    exact ⟨_, _, _, hl, .inr ⟨l, rfl⟩⟩
  · exact ⟨_, _, _, fnVal_lt hk, .inl rfl⟩
theorem one_fnVal (f k : Nat) (vs : List Value) : one (fnVal f k vs) = true := by
  unfold fnVal
  cases k == yK
  · rfl
  · simp only [cond_true]
    split <;> rfl
inductive Den (c : Cx) : SV → Value → Prop where
  | und (v : Value) : Den c .undef v
  | non : Den c .none Go.undef
  | g (s : SV) (v : Value) (h : DenG c.Z c.w s v) : Den c s v
  | ptr (g off : Nat) (v : Value) (hk : c.K g) (h1 : one v = true) (h : (c.en g).isSome = true → v = .pointer (some ⟨c.b g, off, Option.none⟩)) : Den c (.ptr g off) v
  | xptr (g b st n : Nat) (z : Int) (v : Value) (hk : c.K g) (h1 : one v = true) (h : (c.en g).isSome = true → 0 ≤ z ∧ z < (n : Int) ∧ v = .pointer (some ⟨c.b g, b + z.toNat * st, Option.none⟩)) : Den c (.xptr g b st n z) v
  | row (r : Nat) (v : Value) (hk : c.K r) (h1 : one v = true) (h : (c.en r).isSome = true → v = c.u r) : Den c (.row r) v
  | wptr (r size i off : Nat) (v : Value) (hk : c.K r) (h1 : one v = true)
      (h : ∀ e, c.en r = some e → (∃ fl n cl, e = .row false fl size n cl ∧ i < n ∧ v = .pointer (some ⟨c.b r, i * size + off, Option.none⟩)) ∨
        ((∃ ik n ln gt, e = .mx ik n ln gt ∧ i < n) ∧ (size = 2 → off < (c.o r).y (3 * i + 1)) ∧ v = refV c size r i off)) : Den c (.wptr r size i off) v
  | func (f : FuncId) (k : Nat) (cs : List SV) (vs : List Value) (hl : cs.length = vs.length) (hy : linkOk k vs) (h : ∀ (i : Nat) (s : SV) (v : Value), cs[i]? = some s → vs[i]? = some v → Den c s v) : Den c (.func f k cs) (fnVal f k vs)
  | agg (cs : List SV) (vs : List Value) (hl : cs.length = vs.length) (h : ∀ (i : Nat) (s : SV) (v : Value), cs[i]? = some s → vs[i]? = some v → Den c s v) : Den c (.agg cs) (.agg vs.toArray)
  | tup (cs : List SV) (vs : List Value) (hl : cs.length = vs.length) (h : ∀ (i : Nat) (s : SV) (v : Value), cs[i]? = some s → vs[i]? = some v → Den c s v) : Den c (.tup cs) (.tuple vs.toArray)
def has : Ent → Bool
  | .blk _ => true
  | .row nl _ _ _ _ => !nl
  | .mp _ _ _ => true
  | .fm _ _ _ _ _ _ _ => true
  | .fx _ _ => false
  | .lp _ => false
  | .mx _ n _ _ => !(n == 0)
def shape : Ent → Option Nat × Bool × Nat × Nat
  | .blk cs => (some cs.length, true, 0, 0)
  | .row nl _ size n _ => (Option.none, nl, size, n)
  | .mp _ _ _ => (some 0, false, 0, 0)
  | .fm _ _ _ _ _ _ _ => (some 0, false, 1, 0)
  | .fx _ _ => (some 0, false, 2, 0)
  | .lp _ => (some 0, false, 4, 0)
  | .mx _ n _ _ => (some 0, false, 3, n)
structure MapOk (k : MK) (hs : List SV → Bool) (gt : List SV → Nat → SV) (es : List MapEntry) : Prop where
  own : ∀ e ∈ es, ∃ kc, keyCells k.fk kc = true ∧ e.key = mkV k.ka (kc.map kval) ∧ hs kc = true
  apart : es.Pairwise (fun a b => a.key ≠ b.key)
  get : ∀ kc, keyCells k.fk kc = true → ∃ vc, keyCells k.fv vc = true ∧ (∀ j s, vc[j]? = some s → gt kc j = s) ∧
    ((hs kc = false ∧ vc = zerosOf k.fv) ∨ (hs kc = true ∧ ∃ e ∈ es, e.key = mkV k.ka (kc.map kval) ∧ e.val = mkV k.va (vc.map kval)))
structure FamOk (Z : Nat → Prop) (w : World) (b : Nat) (x : Nat → Prop) (ik : IntKind) (fl : CK) (size : Nat) (hs : Int → Bool) (ln : Int → Nat) (gt : Int → Nat → Nat → SV) (hole : Option Int) (es : List MapEntry) (clock : Nat) (X : Int → Nat) : Prop where
  born : ∀ e ∈ es, e.born < clock
  stamps : (es.map (·.born)).Nodup
  apart : es.Pairwise (fun a b => a.key ≠ b.key)
  own : ∀ e ∈ es, ∃ z, e.key = .int ik z ∧ hs z = true
  all : ∀ z, hs z = true → ∃ e ∈ es, e.key = .int ik z
  none : ∀ z, hs z = false → ln z = 0
  val : ∀ e ∈ es, ∀ z, e.key = .int ik z → hole ≠ some z → ∃ cap arr ety, e.val = .slice (some ⟨X z, 0, Option.none⟩) (ln z) cap ∧ x (X z) ∧ X z ≠ b ∧ w.heap[X z]? = some (.cells arr ety (0, 0)) ∧ ln z ≤ cap ∧ cap * size ≤ arr.size ∧
    ∀ i j, i < ln z → j < size → ∃ v, arr[i * size + j]? = some v ∧ DenG Z w (gt z i j) v
  ck : ∀ z, hs z = true → hole ≠ some z → ∀ i j, i < ln z → j < size → ckOk (ckAt fl j) (gt z i j) = true
  inj : ∀ z z', hs z = true → hs z' = true → hole ≠ some z → hole ≠ some z' → X z = X z' → z = z'
structure MxOk (w : World) (b : Nat) (o : Own) (ik : IntKind) (n : Nat) (ln : Nat → Nat) (gt : Nat → Nat → Int) (arr : Array Value) : Prop where
  hdr : ∀ i, i < n → arr[i]? = some (.slice (some ⟨o.y (3 * i), 0, Option.none⟩) (ln i) (o.y (3 * i + 2)))
  len : ∀ i, i < n → o.y (3 * i + 1) = ln i
  own : ∀ i, i < n → o.x (o.y (3 * i)) ∧ o.y (3 * i) ≠ b
  row : ∀ i, i < n → ∃ arr' ety, w.heap[o.y (3 * i)]? = some (.cells arr' ety (0, 0)) ∧ ln i ≤ o.y (3 * i + 2) ∧ o.y (3 * i + 2) ≤ arr'.size ∧ ∀ j, j < ln i → arr'[j]? = some (.int ik (gt i j))
  inj : ∀ i i', i < n → i' < n → o.y (3 * i) = o.y (3 * i') → i = i'
theorem MxOk.mono {w w' : World} {b b' : Nat} {o o' : Own} {ik : IntKind} {n : Nat} {ln : Nat → Nat} {gt : Nat → Nat → Int} {arr : Array Value} (h : MxOk w b o ik n ln gt arr) (hb : b' = b) (hy : o'.y = o.y) (hx : ∀ k, o.x k → o'.x k) (hw : ∀ k, o.x k → w'.heap[k]? = w.heap[k]?) : MxOk w' b' o' ik n ln gt arr :=
  ⟨fun i hi => by rw [hy]; exact h.hdr i hi, fun i hi => by rw [hy]; exact h.len i hi, fun i hi => by rw [hy, hb]; exact ⟨hx _ (h.own i hi).1, (h.own i hi).2⟩, fun i hi => by
    obtain ⟨arr', ety, h1, h2⟩ := h.row i hi
    rw [hy]
    exact ⟨arr', ety, by rw [hw _ (h.own i hi).1]; exact h1, h2⟩, fun i i' hi hi' he => h.inj i i' hi hi' (by rw [hy] at he; exact he)⟩
def LpAt (w : World) (o : Own) (u : Value) (r0 : Loop) (sl : List Nat) : Prop :=
  o.x (o.y 0) ∧ o.x (o.y 1) ∧ w.heap[o.y 0]? = some (.deferred (some [])) ∧ ∃ tm : Array Value, tm.size = r0.tmps.size ∧ w.heap[o.y 1]? = some (.loop { r0 with tmps := tm, defers := o.y 0, fn := o.y 2 }) ∧
    u = .func (.yield (o.y 1)) ((sl.map fun s => tm.getD s Go.undef).toArray) #[]
theorem LpAt.mono {w w' : World} {o : Own} {u : Value} {r0 : Loop} {sl : List Nat} (h : LpAt w o u r0 sl) (hw : ∀ k, o.x k → w'.heap[k]? = w.heap[k]?) : LpAt w' o u r0 sl := by
  obtain ⟨h0, h1, h2, tm, h3, h4, h5⟩ := h
  exact ⟨h0, h1, by rw [hw _ h0]; exact h2, tm, h3, by rw [hw _ h1]; exact h4, h5⟩
def EntOk (c : Cx) (id : Nat) : Ent → Prop
  | .blk cs => ∃ arr e, c.w.heap[c.b id]? = some (.cells arr e (0, 0)) ∧ arr.size = cs.length ∧ ∀ (i : Nat) (s : SV) (v : Value), cs[i]? = some s → arr[i]? = some v → Den c s v ∧ one v = true
  | .row nl fl size n cl => (∀ i j, i < n → j < size → ckOk (ckAt fl j) (cl i j) = true) ∧
      ((nl = true ∧ n = 0 ∧ c.u id = .slice Option.none 0 0) ∨
       (nl = false ∧ ∃ cap arr e, c.u id = .slice (some ⟨c.b id, 0, Option.none⟩) n cap ∧ c.w.heap[c.b id]? = some (.cells arr e (0, 0)) ∧ n ≤ cap ∧ cap * size ≤ arr.size ∧
         ∀ i j, i < n → j < size → ∃ v, arr[i * size + j]? = some v ∧ DenG c.Z c.w (cl i j) v))
  | .mp k hs gt => ∃ es clock, c.u id = .map (some (c.b id)) ∧ c.w.heap[c.b id]? = some (.map es clock) ∧ MapOk k hs gt es.toList ∧ (k.ka = false → ckLen k.fk = 1) ∧ (k.va = false → ckLen k.fv = 1)
  | .fm ik fl size hs ln gt hole => (∀ k, (c.o id).x k → k < c.w.heap.size) ∧ ∃ es clock X, c.u id = .map (some (c.b id)) ∧ c.w.heap[c.b id]? = some (.map es clock) ∧ FamOk c.Z c.w (c.b id) (c.o id).x ik fl size hs ln gt hole es.toList clock X
  | .fx v bs => (∀ k, (c.o id).x k → k < c.w.heap.size) ∧ c.u id = v ∧ ∀ p ∈ bs, (c.o id).x p.1 ∧ c.w.heap[p.1]? = some p.2
  | .lp n => (∀ k, (c.o id).x k → k < c.w.heap.size) ∧ LpAt c.w (c.o id) (c.u id) { loopRec (n / 4) with state := if n % 4 = 0 then .ready else if n % 4 = 1 then .busy else .exhausted } (loopSl (n / 4))
  | .mx ik n ln gt => (∀ k, (c.o id).x k → k < c.w.heap.size) ∧ ((n = 0 ∧ c.u id = .slice Option.none 0 0) ∨ (n ≠ 0 ∧ ∃ cap arr e, c.u id = .slice (some ⟨c.b id, 0, Option.none⟩) n cap ∧ c.w.heap[c.b id]? = some (.cells arr e (0, 0)) ∧ n ≤ cap ∧ cap ≤ arr.size ∧ MxOk c.w (c.b id) (c.o id) ik n ln gt arr))
def Gls (Z : Nat → Prop) (w : World) : Prop := ∀ g cs, glob g = some cs → DenG Z w (.eptr cs.length (lget cs)) (.pointer (some ⟨g, 0, Option.none⟩))
def fam : Ent → Bool
  | .fm _ _ _ _ _ _ _ => true
  | .fx _ _ => true
  | .lp _ => true
  | .mx _ _ _ _ => true
  | _ => false
def Cx.ow (c : Cx) (id : Nat) (e : Ent) (k : Nat) : Prop := (has e = true ∧ c.b id = k) ∨ (fam e = true ∧ (c.o id).x k)
theorem ow_b {c : Cx} {id : Nat} {e : Ent} (h : has e = true) : c.ow id e (c.b id) := .inl ⟨h, rfl⟩
structure HeapOk (c : Cx) : Prop where
  lt : ∀ id e, c.en id = some e → c.K id
  ents : ∀ id e, c.en id = some e → EntOk c id e
  inj : ∀ id id' e e' k, c.en id = some e → c.en id' = some e' → c.ow id e k → c.ow id' e' k → id = id'
  zlt : ∀ k, c.Z k → k < c.w.heap.size
  zno : ∀ k, c.Z k → ∀ id e, c.en id = some e → ¬ c.ow id e k
  gls : Gls c.Z c.w
structure Trans (c c' : Cx) : Prop where
  os : c'.w.os = c.w.os
  tape : c'.w.tape = c.w.tape
  output : c'.w.output = c.w.output
  size : c.w.heap.size ≤ c'.w.heap.size
  kn : ∀ id, c.K id → c'.K id
  zs : ∀ k, c.Z k → c'.Z k
  znew : ∀ k, c'.Z k → c.Z k ∨ c.w.heap.size ≤ k ∨ ∃ id e, c.en id = some e ∧ c.ow id e k
  keep : ∀ k, k < c.w.heap.size → (∀ id e, c.en id = some e → ¬ c.ow id e k) → c'.w.heap[k]? = c.w.heap[k]?
  old : ∀ id e', c'.en id = some e' → (∃ e, c.en id = some e ∧ c'.b id = c.b id ∧ c'.u id = c.u id ∧ shape e' = shape e ∧ (c'.o id).y = (c.o id).y) ∨ ¬ c.K id
  loc : ∀ id e' k, c'.en id = some e' → c'.ow id e' k → c.w.heap.size ≤ k ∨ ∃ id0 e, c.en id0 = some e ∧ c.ow id0 e k
theorem Trans.refl {c : Cx} : Trans c c :=
  ⟨rfl, rfl, rfl, Nat.le_refl _, fun _ h => h, fun _ h => h, fun _ h => .inl h, fun _ _ _ => rfl, fun _ e' h => .inl ⟨e', h, rfl, rfl, rfl, rfl⟩, fun id e' k h h' => .inr ⟨id, e', h, h'⟩⟩
theorem Trans.trans {a b c : Cx} (h : Trans a b) (k : Trans b c) : Trans a c where
  os := k.os.trans h.os
  tape := k.tape.trans h.tape
  output := k.output.trans h.output
  size := Nat.le_trans h.size k.size
  kn := fun id hi => k.kn id (h.kn id hi)
  zs := fun x hx => k.zs x (h.zs x hx)
  znew := fun x hx => by
    rcases k.znew x hx with h1 | h1 | ⟨id, e, he, hh⟩
    · exact h.znew x h1
    · exact .inr (.inl (Nat.le_trans h.size h1))
    · rcases h.loc id e x he hh with h2 | ⟨id0, e0, he0, hh0⟩
      · exact .inr (.inl h2)
      · exact .inr (.inr ⟨id0, e0, he0, hh0⟩)
  keep := fun x hx hn => by
    have h1 := h.keep x hx hn
    rw [← h1]
    refine k.keep x (Nat.lt_of_lt_of_le hx h.size) fun id e he hh => ?_
    rcases h.loc id e x he hh with h2 | ⟨id0, e0, he0, hh0⟩
    · omega
    · exact hn id0 e0 he0 hh0
  old := fun id e' he' => by
    rcases k.old id e' he' with ⟨e, he, hb, hu, hs, hy⟩ | h1
    · rcases h.old id e he with ⟨e0, he0, hb0, hu0, hs0, hy0⟩ | h2
      · exact .inl ⟨e0, he0, hb.trans hb0, hu.trans hu0, hs.trans hs0, hy.trans hy0⟩
      · exact .inr h2
    · exact .inr fun hk => h1 (h.kn id hk)
  loc := fun id e' x he' hh' => by
    rcases k.loc id e' x he' hh' with h1 | ⟨id0, e0, he0, hh0⟩
    · exact .inl (Nat.le_trans h.size h1)
    · exact h.loc id0 e0 x he0 hh0
theorem cell_of_block {w w' : World} {a : Addr} (h : w'.heap[a.block]? = w.heap[a.block]?) : w'.cell? a = w.cell? a := by simp [World.cell?, h]
theorem DenG.mono {Z Z' : Nat → Prop} {w w' : World} {s : SV} {v : Value} (h : DenG Z w s v) (hz : ∀ k, Z k → Z' k) (hw : ∀ k, Z k → w'.heap[k]? = w.heap[k]?) : DenG Z' w' s v := by
  induction h with
  | int k n => exact .int k n
  | bool b => exact .bool b
  | str s => exact .str s
  | nilp => exact .nilp
  | nilm => exact .nilm
  | nilf => exact .nilf
  | eptr m c ad U h1 h2 h3 ih =>
    exact .eptr m c ad U (fun hm => hz _ (h1 hm)) (fun j hj => by
      rw [cell_of_block (w := w)]
      · exact h2 j hj
      · rw [add_block]; exact hw _ (h1 (by omega))) ih
  | slnil fl size c => exact .slnil fl size c
  | slcap fl size c a => exact .slcap fl size c a
  | sl fl size n c a cap U hcap hfl h1 h2 h3 ih =>
    refine .sl fl size n c a cap U hcap hfl (fun hn => ?_) (fun ad ha i j hi hj => ?_) ih
    · obtain ⟨ad, ha, hzz⟩ := h1 hn
      exact ⟨ad, ha, hz _ hzz⟩
    · rw [cell_of_block (w := w)]
      · exact h2 ad ha i j hi hj
      · obtain ⟨ad', ha', hzz⟩ := h1 (by omega)
        rw [ha] at ha'
        injection ha' with ha'
        subst ha'
        rw [add_block]; exact hw _ hzz
theorem Trans.zkeep {c c' : Cx} (h : Trans c c') (ho : HeapOk c) (k : Nat) (hk : c.Z k) : c'.w.heap[k]? = c.w.heap[k]? :=
  h.keep k (ho.zlt k hk) (ho.zno k hk)
theorem DenG.trans {c c' : Cx} (h : Trans c c') (ho : HeapOk c) {s : SV} {v : Value} (hd : DenG c.Z c.w s v) : DenG c'.Z c'.w s v :=
  hd.mono h.zs (h.zkeep ho)
theorem FamOk.mono' {Z Z' : Nat → Prop} {w w' : World} {b : Nat} {x : Nat → Prop} {ik : IntKind} {fl : CK} {size : Nat} {hs : Int → Bool} {ln : Int → Nat} {gt : Int → Nat → Nat → SV} {hole : Option Int} {es : List MapEntry} {clock : Nat} {X : Int → Nat}
    (h : FamOk Z w b x ik fl size hs ln gt hole es clock X) (hd : ∀ z i j v, ckOk (ckAt fl j) (gt z i j) = true → j < size → DenG Z w (gt z i j) v → DenG Z' w' (gt z i j) v) (hw : ∀ k, x k → w'.heap[k]? = w.heap[k]?) : FamOk Z' w' b x ik fl size hs ln gt hole es clock X :=
  { h with
    val := fun e he z hk hh => by
      obtain ⟨cap, arr, ety, h1, h2, h3, h4, h5, h6, h7⟩ := h.val e he z hk hh
      have hz : hs z = true := by
        obtain ⟨z', hk', hz'⟩ := h.own e he
        rw [hk] at hk'
        injection hk' with _ hk'
        exact hk' ▸ hz'
      exact ⟨cap, arr, ety, h1, h2, h3, by rw [hw _ h2]; exact h4, h5, h6, fun i j hi hj => by
        obtain ⟨v, hv, hdv⟩ := h7 i j hi hj
        exact ⟨v, hv, hd z i j v (h.ck z hz hh i j hi hj) hj hdv⟩⟩ }
theorem FamOk.mono {Z Z' : Nat → Prop} {w w' : World} {b : Nat} {x : Nat → Prop} {ik : IntKind} {fl : CK} {size : Nat} {hs : Int → Bool} {ln : Int → Nat} {gt : Int → Nat → Nat → SV} {hole : Option Int} {es : List MapEntry} {clock : Nat} {X : Int → Nat}
    (h : FamOk Z w b x ik fl size hs ln gt hole es clock X) (hd : ∀ s v, DenG Z w s v → DenG Z' w' s v) (hw : ∀ k, x k → w'.heap[k]? = w.heap[k]?) : FamOk Z' w' b x ik fl size hs ln gt hole es clock X :=
  h.mono' (fun _ _ _ _ _ _ => hd _ _) hw
theorem Trans.gls {c c' : Cx} (h : Trans c c') (ho : HeapOk c) : Gls c'.Z c'.w := fun g cs hg => (ho.gls g cs hg).trans h ho
theorem shape_row {e : Ent} {nl : Bool} {fl : CK} {size n : Nat} {cl : Nat → Nat → SV} (h : shape e = shape (.row nl fl size n cl)) : ∃ fl' cl', e = .row nl fl' size n cl' := by
  cases e with
  | blk cs => simp [shape] at h
  | row nl' fl' size' n' cl' =>
    simp [shape] at h
    obtain ⟨rfl, rfl, rfl⟩ := h
    exact ⟨fl', cl', rfl⟩
  | _ => simp [shape] at h
theorem shape_mx {e : Ent} {ik : IntKind} {n : Nat} {ln : Nat → Nat} {gt : Nat → Nat → Int} (h : shape e = shape (.mx ik n ln gt)) : ∃ ik' ln' gt', e = .mx ik' n ln' gt' := by
  cases e with
  | mx ik' n' ln' gt' =>
    simp [shape] at h
    subst h
    exact ⟨ik', ln', gt', rfl⟩
  | _ => simp [shape] at h
theorem Den.trans {c c' : Cx} (h : Trans c c') (ho : HeapOk c) {s : SV} {v : Value} (hd : Den c s v) : Den c' s v := by
  induction hd with
  | und v => exact .und v
  | non => exact .non
  | g s v hg => exact .g s v (hg.trans h ho)
  | ptr g off v hk h1 h2 =>
    refine .ptr g off v (h.kn g hk) h1 fun hs => ?_
    obtain ⟨e', he'⟩ := Option.isSome_iff_exists.1 hs
    rcases h.old g e' he' with ⟨e, he, hb, _, _⟩ | hn
    · rw [hb]; exact h2 (by rw [he]; rfl)
    · exact absurd hk hn
  | xptr g b st n z v hk h1 h2 =>
    refine .xptr g b st n z v (h.kn g hk) h1 fun hs => ?_
    obtain ⟨e', he'⟩ := Option.isSome_iff_exists.1 hs
    rcases h.old g e' he' with ⟨e, he, hb, _, _⟩ | hn
    · rw [hb]; exact h2 (by rw [he]; rfl)
    · exact absurd hk hn
  | row r v hk h1 h2 =>
    refine .row r v (h.kn r hk) h1 fun hs => ?_
    obtain ⟨e', he'⟩ := Option.isSome_iff_exists.1 hs
    rcases h.old r e' he' with ⟨e, he, _, hu, _⟩ | hn
    · rw [hu]; exact h2 (by rw [he]; rfl)
    · exact absurd hk hn
  | wptr r size i off v hk h1 h2 =>
    refine .wptr r size i off v (h.kn r hk) h1 fun e' he' => ?_
    rcases h.old r e' he' with ⟨e, he, hb, _, hs, hy⟩ | hn
    · rcases h2 e he with ⟨fl, n, cl, rfl, hi, hv⟩ | ⟨⟨ik, n, ln, gt, rfl, hi⟩, h3, h4⟩
      · obtain ⟨fl', cl', rfl⟩ := shape_row hs
        exact .inl ⟨fl', n, cl', rfl, hi, by rw [hb]; exact hv⟩
      · obtain ⟨ik', ln', gt', rfl⟩ := shape_mx hs
        refine .inr ⟨⟨ik', n, ln', gt', rfl, hi⟩, by rw [hy]; exact h3, ?_⟩
        rw [h4]
        unfold refV
        rw [hy, hb]
    · exact absurd hk hn
  | func f k cs vs hl hy _ ih => exact .func f k cs vs hl hy ih
  | agg cs vs hl _ ih => exact .agg cs vs hl ih
  | tup cs vs hl _ ih => exact .tup cs vs hl ih
theorem DenG.one {Z : Nat → Prop} {w : World} {s : SV} {v : Value} (h : DenG Z w s v) : Sx.one v = true := by cases h <;> rfl
theorem Den.one {c : Cx} {s : SV} {v : Value} (h : Den c s v) (hs : cellOk s = true) : Sx.one v = true := by
  cases h with
  | und v => cases hs
  | non => cases hs
  | g s v h => exact h.one
  | ptr g off v hk h1 h2 => exact h1
  | xptr g b st n z v hk h1 h2 => exact h1
  | row r v hk h1 h2 => exact h1
  | wptr r size i off v hk h1 h2 => exact h1
  | func f k cs vs hl hy h => exact one_fnVal f k vs
  | agg cs vs hl h => cases hs
  | tup cs vs hl h => cases hs
theorem Den.ground {c : Cx} {s : SV} {v : Value} (h : Den c s v) (hs : groundOk s = true) : DenG c.Z c.w s v := by
  cases h with
  | g s v h => exact h
  | und v => cases hs
  | non => cases hs
  | ptr g off v hk h1 h2 => cases hs
  | xptr g b st n z v hk h1 h2 => cases hs
  | row r v hk h1 h2 => cases hs
  | wptr r size i off v hk h1 h2 => cases hs
  | func f k cs vs hl hy h => cases hs
  | agg cs vs hl h => cases hs
  | tup cs vs hl h => cases hs
theorem Den.int_inv {c : Cx} {k : IntKind} {n : Int} {v : Value} (h : Den c (.int k n) v) : v = .int k n := by
  cases h with | g _ _ h => cases h; rfl
theorem Den.bool_inv {c : Cx} {b : Bool} {v : Value} (h : Den c (.bool b) v) : v = .bool b := by
  cases h with | g _ _ h => cases h; rfl
theorem Den.str_inv {c : Cx} {s : ByteArray} {v : Value} (h : Den c (.str s) v) : v = .string s := by
  cases h with | g _ _ h => cases h; rfl
theorem Den.none_inv {c : Cx} {v : Value} (h : Den c .none v) : v = Go.undef := by
  cases h with
  | non => rfl
  | g _ _ h => cases h
theorem Den.ptr_inv {c : Cx} {g off : Nat} {v : Value} (h : Den c (.ptr g off) v) {e : Ent} (he : c.en g = some e) : v = .pointer (some ⟨c.b g, off, Option.none⟩) := by
  cases h with
  | g _ _ h => cases h
  | ptr _ _ _ _ _ h => exact h (by rw [he]; rfl)
theorem Den.ptr_k {c : Cx} {g off : Nat} {v : Value} (h : Den c (.ptr g off) v) : c.K g := by
  cases h with
  | g _ _ h => cases h
  | ptr _ _ _ h => exact h
theorem Den.xptr_inv {c : Cx} {g b st n : Nat} {z : Int} {v : Value} (h : Den c (.xptr g b st n z) v) {e : Ent} (he : c.en g = some e) : 0 ≤ z ∧ z < (n : Int) ∧ v = .pointer (some ⟨c.b g, b + z.toNat * st, Option.none⟩) := by
  cases h with
  | g _ _ h => cases h
  | xptr _ _ _ _ _ _ _ _ h => exact h (by rw [he]; rfl)
theorem Den.xptr_k {c : Cx} {g b st n : Nat} {z : Int} {v : Value} (h : Den c (.xptr g b st n z) v) : c.K g := by
  cases h with
  | g _ _ h => cases h
  | xptr _ _ _ _ _ _ h => exact h
theorem Den.row_k {c : Cx} {r : Nat} {v : Value} (h : Den c (.row r) v) : c.K r := by
  cases h with
  | g _ _ h => cases h
  | row _ _ h => exact h
theorem Den.row_inv {c : Cx} {r : Nat} {v : Value} (h : Den c (.row r) v) {e : Ent} (he : c.en r = some e) : v = c.u r := by
  cases h with
  | g _ _ h => cases h
  | row _ _ _ _ h => exact h (by rw [he]; rfl)
theorem Den.wptr_k {c : Cx} {r size i off : Nat} {v : Value} (h : Den c (.wptr r size i off) v) : c.K r := by
  cases h with
  | g _ _ h => cases h
  | wptr _ _ _ _ _ h => exact h
theorem Den.wptr_any {c : Cx} {r size i off : Nat} {v : Value} (h : Den c (.wptr r size i off) v) {e : Ent} (he : c.en r = some e) :
    (∃ fl n cl, e = .row false fl size n cl ∧ i < n ∧ v = .pointer (some ⟨c.b r, i * size + off, Option.none⟩)) ∨
      ((∃ ik n ln gt, e = .mx ik n ln gt ∧ i < n) ∧ (size = 2 → off < (c.o r).y (3 * i + 1)) ∧ v = refV c size r i off) := by
  cases h with
  | g _ _ h => cases h
  | wptr _ _ _ _ _ _ _ h => exact h e he
theorem Den.wptr_inv {c : Cx} {r size i off : Nat} {v : Value} (h : Den c (.wptr r size i off) v) {nl : Bool} {f0 : CK} {s0 n0 : Nat} {c0 : Nat → Nat → SV} (he : c.en r = some (.row nl f0 s0 n0 c0)) :
    ∃ fl n cl, .row nl f0 s0 n0 c0 = Ent.row false fl size n cl ∧ i < n ∧ v = .pointer (some ⟨c.b r, i * size + off, Option.none⟩) := by
  rcases h.wptr_any he with h | ⟨⟨_, _, _, _, h, _⟩, _⟩
  · exact h
  · cases h
theorem Den.agg_inv {c : Cx} {cs : List SV} {v : Value} (h : Den c (.agg cs) v) : ∃ vs : List Value, v = .agg vs.toArray ∧ cs.length = vs.length ∧ ∀ (i : Nat) (s : SV) (v : Value), cs[i]? = some s → vs[i]? = some v → Den c s v := by
  cases h with
  | g _ _ h => cases h
  | agg _ vs hl h => exact ⟨vs, rfl, hl, h⟩
theorem Den.tup_inv {c : Cx} {cs : List SV} {v : Value} (h : Den c (.tup cs) v) : ∃ vs : List Value, v = .tuple vs.toArray ∧ cs.length = vs.length ∧ ∀ (i : Nat) (s : SV) (v : Value), cs[i]? = some s → vs[i]? = some v → Den c s v := by
  cases h with
  | g _ _ h => cases h
  | tup _ vs hl h => exact ⟨vs, rfl, hl, h⟩
theorem Den.func_inv {c : Cx} {f : FuncId} {k : Nat} {cs : List SV} {v : Value} (h : Den c (.func f k cs) v) : ∃ vs : List Value, v = fnVal f k vs ∧ linkOk k vs ∧ cs.length = vs.length ∧ ∀ (i : Nat) (s : SV) (v : Value), cs[i]? = some s → vs[i]? = some v → Den c s v := by
  cases h with
  | g _ _ h => cases h
  | func _ _ _ vs hl hy h => exact ⟨vs, rfl, hy, hl, h⟩
theorem Den.eptr_inv {c : Cx} {m : Nat} {cl : Nat → SV} {v : Value} (h : Den c (.eptr m cl) v) : ∃ (ad : Addr) (U : Nat → Value), v = .pointer (some ad) ∧ (0 < m → c.Z ad.block) ∧
    (∀ j, j < m → c.w.cell? (ad.add j) = some (U j)) ∧ ∀ j, j < m → DenG c.Z c.w (cl j) (U j) := by
  cases h with
  | g _ _ h => cases h with | eptr _ _ ad U h1 h2 h3 => exact ⟨ad, U, rfl, h1, h2, h3⟩
theorem Den.slnil_inv {c : Cx} {fl : CK} {size n : Nat} {cl : Nat → Nat → SV} {v : Value} (h : Den c (.sl .nil fl size n cl) v) : n = 0 ∧ v = .slice Option.none 0 0 := by
  cases h with | g _ _ h => cases h; exact ⟨rfl, rfl⟩
theorem Den.slcap_inv {c : Cx} {fl : CK} {size n : Nat} {cl : Nat → Nat → SV} {v : Value} (h : Den c (.sl .cap0 fl size n cl) v) : n = 0 ∧ ∃ a, v = .slice a 0 0 := by
  cases h with | g _ _ h => cases h; exact ⟨rfl, _, rfl⟩
theorem Den.sl_inv {c : Cx} {fl : CK} {size n : Nat} {cl : Nat → Nat → SV} {v : Value} (h : Den c (.sl .any fl size n cl) v) : ∃ (a : Option Addr) (cap : Nat) (U : Nat → Nat → Value), v = .slice a n cap ∧ n ≤ cap ∧
    (∀ i j, i < n → j < size → ckOk (ckAt fl j) (cl i j) = true) ∧ (0 < n → ∃ ad, a = some ad ∧ c.Z ad.block) ∧
    (∀ ad, a = some ad → ∀ i j, i < n → j < size → c.w.cell? (ad.add (i * size + j)) = some (U i j)) ∧ ∀ i j, i < n → j < size → DenG c.Z c.w (cl i j) (U i j) := by
  cases h with | g _ _ h => cases h with | sl _ _ _ _ a cap U h1 h2 h3 h4 h5 => exact ⟨a, cap, U, rfl, h1, h2, h3, h4, h5⟩
def upd (en : Nat → Option Ent) : List (Nat × Option Ent) → Nat → Option Ent
  | [] => en
  | (i, e) :: us => upd (fun j => if j = i then e else en j) us
theorem tget_tdel (t : Tab) (i j : Nat) : tget (tdel t i) j = if j = i then Option.none else tget t j := by
  induction t with
  | nil => simp [tdel, tget]
  | cons p t ih =>
    obtain ⟨a, e⟩ := p
    by_cases h : a = i
    · subst h
      simp only [tdel, BEq.rfl, cond_true, ih, tget]
      by_cases hj : j = a
      · simp [hj]
      · have : (a == j) = false := by simp; exact fun e => hj e.symm
        simp [hj, this]
    · have h1 : (a == i) = false := by simp [h]
      simp only [tdel, h1, cond_false, tget, ih]
      by_cases hj : a = j
      · subst hj; simp [h]
      · have : (a == j) = false := by simp [hj]
        simp [this]
theorem tget_tput (t : Tab) (i : Nat) (x : Ent) (j : Nat) : tget (tput t i x) j = if j = i then some x else tget t j := by
  induction t with
  | nil =>
    simp only [tput, tget]
    by_cases h : j = i
    · subst h; simp
    · have : (i == j) = false := by simp; exact fun e => h e.symm
      simp [h, this]
  | cons p t ih =>
    obtain ⟨a, e⟩ := p
    by_cases h : a = i
    · subst h
      simp only [tput, BEq.rfl, cond_true, tget, tget_tdel]
      by_cases hj : j = a
      · subst hj; simp
      · have : (a == j) = false := by simp; exact fun e => hj e.symm
        simp [hj, this]
    · have h1 : (a == i) = false := by simp [h]
      simp only [tput, h1, cond_false, tget, ih]
      by_cases hj : a = j
      · subst hj; simp [h]
      · have : (a == j) = false := by simp [hj]
        simp [this]
theorem upd_congr {en en' : Nat → Option Ent} (us : List (Nat × Option Ent)) (j : Nat) (h : en j = en' j) : upd en us j = upd en' us j := by
  induction us generalizing en en' with
  | nil => exact h
  | cons p us ih =>
    obtain ⟨i, e⟩ := p
    simp only [upd]
    exact ih (by by_cases hj : j = i <;> simp [hj, h])
theorem tget_tupd (t : Tab) (us : List (Nat × Option Ent)) (j : Nat) : tget (tupd t us) j = upd (tget t) us j := by
  induction us generalizing t with
  | nil => rfl
  | cons p us ih =>
    obtain ⟨i, e⟩ := p
    cases e with
    | none =>
      simp only [tupd, upd, ih]
      exact upd_congr us j (by rw [tget_tdel])
    | some e =>
      simp only [tupd, upd, ih]
      exact upd_congr us j (by rw [tget_tput])
theorem upd_miss (en : Nat → Option Ent) (us : List (Nat × Option Ent)) (j : Nat) (h : j ∉ us.map (·.1)) : upd en us j = en j := by
  induction us generalizing en with
  | nil => rfl
  | cons p us ih =>
    obtain ⟨i, e⟩ := p
    simp at h
    simp only [upd]
    rw [ih _ (by simpa using h.2)]
    simp [h.1]
theorem lget_lset (l : List SV) (i : Nat) (v : SV) (j : Nat) : lget (lset l i v) j = if j = i ∧ i < l.length then v else lget l j := by
  induction l generalizing i j with
  | nil => simp [lset, lget]
  | cons a l ih =>
    cases i with
    | zero =>
      cases j with
      | zero => simp [lset, lget]
      | succ j => simp [lset, lget]
    | succ i =>
      cases j with
      | zero => simp [lset, lget]
      | succ j =>
        have := ih i j
        simp only [lget, List.getD_eq_getElem?_getD] at this
        simp [lset, lget, this]
theorem length_lset (l : List SV) (i : Nat) (v : SV) : (lset l i v).length = l.length := by
  induction l generalizing i with
  | nil => rfl
  | cons a l ih => cases i <;> simp [lset, ih]
theorem getElem?_lset (l : List SV) (i : Nat) (v : SV) (j : Nat) : (lset l i v)[j]? = if j = i ∧ i < l.length then some v else l[j]? := by
  induction l generalizing i j with
  | nil => simp [lset]
  | cons a l ih =>
    cases i with
    | zero => cases j <;> simp [lset]
    | succ i =>
      cases j with
      | zero => simp [lset]
      | succ j => simp [lset, ih]
theorem length_lsetN (l : List SV) (i : Nat) (vs : List SV) : (lsetN l i vs).length = l.length := by
  induction vs generalizing l i with
  | nil => rfl
  | cons v vs ih => simp [lsetN, ih, length_lset]
theorem getElem?_lsetN (l : List SV) (i : Nat) (vs : List SV) (j : Nat) (hl : i + vs.length ≤ l.length) :
    (lsetN l i vs)[j]? = if i ≤ j ∧ j < i + vs.length then vs[j - i]? else l[j]? := by
  induction vs generalizing l i with
  | nil => simp [lsetN]; intro h1 h2; omega
  | cons v vs ih =>
    simp only [lsetN]
    rw [ih _ _ (by rw [length_lset]; simp at hl; omega), getElem?_lset]
    simp at hl
    by_cases h1 : i + 1 ≤ j ∧ j < i + 1 + vs.length
    · rw [if_pos h1, if_pos (by simp; omega)]
      have : j - i = (j - (i + 1)) + 1 := by omega
      rw [this]; simp
    · rw [if_neg h1]
      by_cases h2 : j = i
      · subst h2
        rw [if_pos ⟨rfl, by omega⟩, if_pos (by simp)]
        simp
      · rw [if_neg (by omega), if_neg (by simp; omega)]
theorem takeN_spec (l : List SV) (i n : Nat) : (takeN l i n).length = n ∧ ∀ j, j < n → (takeN l i n)[j]? = some (lget l (i + j)) := by
  induction n generalizing i with
  | zero => exact ⟨rfl, fun j hj => by omega⟩
  | succ n ih =>
    refine ⟨by simp [takeN, (ih (i + 1)).1], fun j hj => ?_⟩
    cases j with
    | zero => simp [takeN]
    | succ j =>
      simp only [takeN, List.getElem?_cons_succ]
      rw [(ih (i + 1)).2 j (by omega)]
      have : i + 1 + j = i + (j + 1) := by omega
      rw [this]
theorem tabN_spec (f : Nat → SV) (i n : Nat) : (tabN f i n).length = n ∧ ∀ j, j < n → (tabN f i n)[j]? = some (f (i + j)) := by
  induction n generalizing i with
  | zero => exact ⟨rfl, fun j hj => by omega⟩
  | succ n ih =>
    refine ⟨by simp [tabN, (ih (i + 1)).1], fun j hj => ?_⟩
    cases j with
    | zero => simp [tabN]
    | succ j =>
      simp only [tabN, List.getElem?_cons_succ]
      rw [(ih (i + 1)).2 j (by omega)]
      have : i + 1 + j = i + (j + 1) := by omega
      rw [this]
theorem lget_some {l : List SV} {i : Nat} {s : SV} (h : l[i]? = some s) : lget l i = s := by simp [lget, h]
theorem lget_lt {l : List SV} {i : Nat} (h : i < l.length) : l[i]? = some (lget l i) := by simp [lget, h]
end Go.Sx
