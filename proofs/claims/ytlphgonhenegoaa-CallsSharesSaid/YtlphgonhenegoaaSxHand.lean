import Derived.Test.YtlphgonhenegoaaSxM
namespace Go.Sx
theorem rearr_ok {c c' : Cx} {T : Nat → Prop} (M : Nat → Prop) (ho : HeapOk c) (m : Mem c T c'.w) (hT : ∀ k, T k → ∃ d e, M d ∧ c.en d = some e ∧ c.ow d e k) (hK : ∀ id, c.K id → c'.K id)
    (hZ : ∀ k, c.Z k → c'.Z k) (hZ' : ∀ k, c'.Z k → c.Z k ∨ ((∃ d e, M d ∧ c.en d = some e ∧ c.ow d e k) ∧ ∀ j e, M j → c'.en j = some e → ¬ c'.ow j e k))
    (hout : ∀ j, ¬ M j → c'.en j = c.en j ∧ ∀ e, c.en j = some e → c'.b j = c.b j ∧ c'.u j = c.u j ∧ c'.o j = c.o j)
    (hin : ∀ j e', M j → c'.en j = some e' → c'.K j ∧ (Trans c c' → EntOk c' j e') ∧ ((∃ e, c.en j = some e ∧ c'.b j = c.b j ∧ c'.u j = c.u j ∧ shape e' = shape e ∧ (c'.o j).y = (c.o j).y) ∨ ¬ c.K j) ∧
      ∀ k, c'.ow j e' k → c.w.heap.size ≤ k ∨ ∃ d e, M d ∧ c.en d = some e ∧ c.ow d e k)
    (hinM : ∀ j j' e e' k, M j → M j' → c'.en j = some e → c'.en j' = some e' → c'.ow j e k → c'.ow j' e' k → j = j') : HeapOk c' ∧ Trans c c' := by
  have outw : ∀ j e k, ¬ M j → c'.en j = some e → c'.ow j e k → c.en j = some e ∧ c.ow j e k := fun j e k hj he hk => by
    obtain ⟨h1, h2⟩ := hout j hj
    rw [h1] at he
    obtain ⟨hb, _, ho'⟩ := h2 e he
    refine ⟨he, ?_⟩
    rcases hk with ⟨a, b⟩ | ⟨a, b⟩
    · exact .inl ⟨a, by rw [← hb]; exact b⟩
    · exact .inr ⟨a, by rw [← ho']; exact b⟩
  have ht : Trans c c' :=
    { os := m.os, tape := m.tape, output := m.output, size := m.size, kn := hK, zs := hZ
      znew := fun k hk => by
        rcases hZ' k hk with h | ⟨⟨d, e, _, h1, h2⟩, _⟩
        · exact .inl h
        · exact .inr (.inr ⟨d, e, h1, h2⟩)
      keep := fun k hk hn => m.same k hk fun ht => by
        obtain ⟨d, e, _, h1, h2⟩ := hT k ht
        exact hn d e h1 h2
      old := fun id e' he' => by
        by_cases hM : M id
        · exact (hin id e' hM he').2.2.1
        · obtain ⟨h1, h2⟩ := hout id hM
          rw [h1] at he'
          obtain ⟨hb, hu, ho'⟩ := h2 e' he'
          exact .inl ⟨e', he', hb, hu, rfl, by rw [ho']⟩
      loc := fun id e' k he' hk => by
        by_cases hM : M id
        · rcases (hin id e' hM he').2.2.2 k hk with h | ⟨d, e, _, h1, h2⟩
          · exact .inl h
          · exact .inr ⟨d, e, h1, h2⟩
        · obtain ⟨h1, h2⟩ := outw id e' k hM he' hk
          exact .inr ⟨id, e', h1, h2⟩ }
  refine ⟨⟨fun id e he => ?_, fun id e he => ?_, fun id id' e e' k h1 h2 hh1 hh2 => ?_, fun k hk => ?_, fun k hk id e he hh => ?_, ht.gls ho⟩, ht⟩
  · by_cases hM : M id
    · exact (hin id e hM he).1
    · rw [(hout id hM).1] at he
      exact hK id (ho.lt id e he)
  · by_cases hM : M id
    · exact (hin id e hM he).2.1 ht
    · obtain ⟨h1, h2⟩ := hout id hM
      rw [h1] at he
      obtain ⟨hb, hu, ho'⟩ := h2 e he
      refine (ho.ents id e he).trans ht ho hb hu ho' fun k hk => m.same k ((ho.ents id e he).olt hk) fun hTk => ?_
      obtain ⟨d, e1, hd, h3, h4⟩ := hT k hTk
      exact hM (ho.inj id d e e1 k he h3 hk h4 ▸ hd)
  · have mix : ∀ j j' e e', M j → ¬ M j' → c'.en j = some e → c'.en j' = some e' → c'.ow j e k → c'.ow j' e' k → False := fun j j' e e' a1 a2 a3 a4 a5 a6 => by
      obtain ⟨b1, b2⟩ := outw j' e' k a2 a4 a6
      rcases (hin j e a1 a3).2.2.2 k a5 with h | ⟨d, e1, hd, h3, h4⟩
      · have := (ho.ents j' e' b1).olt b2
        omega
      · exact a2 (ho.inj j' d e' e1 k b1 h3 b2 h4 ▸ hd)
    by_cases hM : M id <;> by_cases hM' : M id'
    · exact hinM id id' e e' k hM hM' h1 h2 hh1 hh2
    · exact (mix id id' e e' hM hM' h1 h2 hh1 hh2).elim
    · exact (mix id' id e' e hM' hM h2 h1 hh2 hh1).elim
    · obtain ⟨a1, a2⟩ := outw id e k hM h1 hh1
      obtain ⟨b1, b2⟩ := outw id' e' k hM' h2 hh2
      exact ho.inj id id' e e' k a1 b1 a2 b2
  · rcases hZ' k hk with h | ⟨⟨d, e, _, h1, h2⟩, _⟩
    · exact Nat.lt_of_lt_of_le (ho.zlt k h) m.size
    · exact Nat.lt_of_lt_of_le ((ho.ents d e h1).olt h2) m.size
  · by_cases hM : M id
    · rcases hZ' k hk with h | ⟨_, h⟩
      · rcases (hin id e hM he).2.2.2 k hh with h1 | ⟨d, e1, _, h3, h4⟩
        · have := ho.zlt k h; omega
        · exact ho.zno k h d e1 h3 h4
      · exact h id e hM he hh
    · obtain ⟨a1, a2⟩ := outw id e k hM he hh
      rcases hZ' k hk with h | ⟨⟨d, e1, hd, h3, h4⟩, _⟩
      · exact ho.zno k h id e a1 a2
      · exact hM (ho.inj id d e e1 k a1 h3 a2 h4 ▸ hd)
theorem Rel.put {c : Cx} {S : St} {a : Act} (h : Rel c S a) {d : Nat} {s : SV} {v : Value} (hd : Den c s v) : Rel c ⟨lset S.tmps d s, S.tab, S.nx⟩ (a.put (some d) v) where
  ho := h.ho
  en := h.en
  K := h.K
  defers := h.defers
  len := by simp [Act.put, length_lset, h.len]
  sl := fun s' => by
    show Den c (lget (lset S.tmps d s) s') _
    rw [lget_lset]
    by_cases hs : s' = d ∧ d < S.tmps.length
    · rw [if_pos hs]
      obtain ⟨rfl, hl⟩ := hs
      have : s' < a.tmps.size := by rw [← h.len]; exact hl
      simpa [Act.put, this] using hd
    · rw [if_neg hs]
      have hsl := h.sl s'
      by_cases he : s' = d
      · subst he
        have : ¬ s' < a.tmps.size := by rw [← h.len]; simpa using hs
        simpa [Act.put, this] using hsl
      · have he' : ¬ d = s' := fun h => he h.symm
        simpa [Act.put, he', Array.getElem?_setIfInBounds] using hsl
theorem Rel.clr {c : Cx} {S : St} {a : Act} (h : Rel c S a) (d : Nat) : Rel c ⟨lset S.tmps d .undef, S.tab, S.nx⟩ a where
  ho := h.ho
  en := h.en
  K := h.K
  defers := h.defers
  len := by simp [length_lset, h.len]
  sl := fun s' => by
    show Den c (lget (lset S.tmps d .undef) s') _
    rw [lget_lset]
    by_cases hs : s' = d ∧ d < S.tmps.length
    · rw [if_pos hs]; exact .und _
    · rw [if_neg hs]; exact h.sl s'
def clrs : List Nat → List SV → List SV
  | [], l => l
  | d :: ds, l => clrs ds (lset l d .undef)
theorem Rel.clrs {c : Cx} {S : St} {a : Act} (h : Rel c S a) (ds : List Nat) : Rel c ⟨clrs ds S.tmps, S.tab, S.nx⟩ a := by
  induction ds generalizing S with
  | nil => exact h
  | cons d ds ih => exact ih (h.clr d)
theorem Rel.ctx {c c' : Cx} {S : St} {a : Act} (h : Rel c S a) (ht : Trans c c') (ho : HeapOk c') {tab : Tab} {nx : Nat} (hen : ∀ id, c'.en id = tget tab id) (hK : ∀ id, c'.K id → id < nx) : Rel c' ⟨S.tmps, tab, nx⟩ a :=
  ⟨ho, hen, hK, h.defers, h.len, fun s => (h.sl s).trans ht h.ho⟩
theorem wpList_hand {P : Program} {ops : Array Oper} {Q : Exit → Act → World → Prop} {o : Oper} {rest : List Oper} {a : Act} {w w' : World} {v : Value} (hg : o.guard = Option.none)
    (hrun : (execOp a.eval o).run P w = .ok (.value v) w') (h : wpList P ops Q rest (a.put o.dst v) w') : wpList P ops Q (o :: rest) a w := by
  unfold wpList
  have : Region.wanted o (yielded ops a.tmps) = true := by unfold Region.wanted; rw [hg]
  rw [this]
  simp only [if_true]
  refine .inl ?_
  unfold Oper.wp
  rw [hrun]
  exact h
theorem Rel.know {c : Cx} {S : St} {a : Act} (h : Rel c S a) {d : Nat} {s : SV} (hd : Den c s (a.tmps.getD d Go.undef)) : Rel c ⟨lset S.tmps d s, S.tab, S.nx⟩ a where
  ho := h.ho
  en := h.en
  K := h.K
  defers := h.defers
  len := by simp [length_lset, h.len]
  sl := fun s' => by
    show Den c (lget (lset S.tmps d s) s') _
    rw [lget_lset]
    by_cases hs : s' = d ∧ d < S.tmps.length
    · rw [if_pos hs]
      obtain ⟨rfl, _⟩ := hs
      exact hd
    · rw [if_neg hs]
      exact h.sl s'
def eId : ERe := ⟨fun _ => true, fun e => e⟩
theorem eId_ok : eId.Ok := ⟨fun _ _ => rfl, fun _ _ _ _ h => h⟩
theorem Rel.cast {c : Cx} {S S' : St} {a : Act} (h : Rel c S a) (e : S = S') : Rel c S' a := e ▸ h
theorem Rel.retab {c : Cx} {S : St} {a : Act} (h : Rel c S a) {sp : Sp} (hsp : sp.Ok) (hok : sp.ok [] S.tab = true) : ∃ c', c'.w = c.w ∧ Trans c c' ∧ Rel c' ⟨S.tmps, sp.tab S.tab, S.nx⟩ a := by
  obtain ⟨c', h1, h2, h3, h4, h5, _⟩ := hsp.weak hok h.en h.ho
  exact ⟨c', h1, h5, h.ctx h5 h3 h4 fun id hid => h.K id (by rw [← h2]; exact hid)⟩
theorem run_move {P : Program} {a : Act} {o : Oper} {x : Operand} {w : World} (h : o.op = .move x ∨ o.op = .assign x) : (execOp a.eval o).run P w = .ok (.value (a.eval x)) w := by
  rcases h with h | h <;> simp [execOp, h]
theorem run_extract {P : Program} {a : Act} {o : Oper} {x : Operand} {i : Nat} {w : World} {vs : Array Value} {v : Value} (h : o.op = .extract x i) (hx : a.eval x = .tuple vs) (hi : vs[i]? = some v) : (execOp a.eval o).run P w = .ok (.value v) w := by
  simp [execOp, h, hx, Instr.extract, hi]
theorem eval_tmp (a : Act) (s : Nat) : a.eval (.tmp s) = a.tmps.getD s Go.undef := rfl
theorem fx_own {c : Cx} {q : Nat} {v : Value} {bs : List (Nat × Obj)} {k : Nat} (h : c.ow q (.fx v bs) k) : (c.o q).x k := by
  rcases h with ⟨h, _⟩ | ⟨_, h⟩
  · cases h
  · exact h
theorem fx_start {c : Cx} (ho : HeapOk c) {im q1 q2 : Nat} (hq : q1 ≠ q2) (h1 : ¬ c.K q1) (h2 : ¬ c.K q2) {e0 : Ent} (he0 : c.en im = some e0) (hh : has e0 = true) (hf : fam e0 = true) (hxl : ∀ k, (c.o im).x k → k < c.w.heap.size)
    (v : Value) (bs : List (Nat × Obj)) (hbs : ∀ p ∈ bs, (p.1 = c.b im ∨ (c.o im).x p.1) ∧ c.w.heap[p.1]? = some p.2) (it : Obj) :
    ∃ c1 : Cx, c1.w = c.w.alloc it ∧ HeapOk c1 ∧ Trans c c1 ∧ (∀ j, c1.en j = if j = q1 then some (.fx v bs) else if j = q2 then some (.fx (.pointer (some ⟨c.w.heap.size, 0, Option.none⟩)) [(c.w.heap.size, it)]) else if j = im then Option.none else c.en j) ∧
      (∀ j, c1.K j ↔ c.K j ∨ j = q1 ∨ j = q2) ∧ c1.u q1 = v ∧ c1.u q2 = .pointer (some ⟨c.w.heap.size, 0, Option.none⟩) := by
  have hk := ho.lt im e0 he0
  have n1 : q1 ≠ im := fun h => h1 (h ▸ hk)
  have n2 : q2 ≠ im := fun h => h2 (h ▸ hk)
  have hbl : c.b im < c.w.heap.size := (ho.ents im e0 he0).lt hh
  let c1 : Cx := { b := c.b, o := fun j => if j = q1 then ⟨fun k => k = c.b im ∨ (c.o im).x k, fun _ => 0⟩ else if j = q2 then ⟨fun k => k = c.w.heap.size, fun _ => 0⟩ else c.o j
                   u := fun j => if j = q1 then v else if j = q2 then .pointer (some ⟨c.w.heap.size, 0, Option.none⟩) else c.u j
                   en := fun j => if j = q1 then some (.fx v bs) else if j = q2 then some (.fx (.pointer (some ⟨c.w.heap.size, 0, Option.none⟩)) [(c.w.heap.size, it)]) else if j = im then Option.none else c.en j
                   K := fun j => c.K j ∨ j = q1 ∨ j = q2, Z := c.Z, w := c.w.alloc it }
  have hq' : q2 ≠ q1 := fun h => hq h.symm
  have old : ∀ k, (k = c.b im ∨ (c.o im).x k) → c.ow im e0 k := fun k h => by
    rcases h with rfl | h
    · exact .inl ⟨hh, rfl⟩
    · exact .inr ⟨hf, h⟩
  have x1 : ∀ e k, c1.en q1 = some e → c1.ow q1 e k → e = .fx v bs ∧ (k = c.b im ∨ (c.o im).x k) := fun e k he hk => by
    have : .fx v bs = e := by simpa [c1] using he
    subst this
    have := fx_own hk
    exact ⟨rfl, by simpa [c1] using this⟩
  have x2 : ∀ e k, c1.en q2 = some e → c1.ow q2 e k → k = c.w.heap.size := fun e k he hk => by
    have : .fx (.pointer (some ⟨c.w.heap.size, 0, Option.none⟩)) [(c.w.heap.size, it)] = e := by simpa [c1, hq'] using he
    subst this
    have := fx_own hk
    simpa [c1, hq'] using this
  have x3 : ∀ e, c1.en im ≠ some e := fun e => by simp [c1, n1.symm, n2.symm]
  have key : HeapOk c1 ∧ Trans c c1 := by
    refine rearr_ok (c' := c1) (T := fun _ => False) (fun j => j = q1 ∨ j = q2 ∨ j = im) ho (Mem.alloc (Mem.refl c) it) (fun k h => h.elim) (fun id h => .inl h) (fun k h => h) (fun k h => .inl h)
      (fun j hj => ?_) (fun j e' hj he' => ?_) (fun j j' e e' k hj hj' he he' hk hk' => ?_)
    · have a1 : j ≠ q1 := fun h => hj (.inl h)
      have a2 : j ≠ q2 := fun h => hj (.inr (.inl h))
      have a3 : j ≠ im := fun h => hj (.inr (.inr h))
      exact ⟨by simp [c1, a1, a2, a3], fun e _ => ⟨rfl, by simp [c1, a1, a2], by simp [c1, a1, a2]⟩⟩
    · rcases hj with rfl | rfl | rfl
      · have : .fx v bs = e' := by simpa [c1] using he'
        subst this
        refine ⟨.inr (.inl rfl), fun ht => ⟨fun k hk => ?_, by simp [c1], fun p hp => ?_⟩, .inr h1, fun k hk => .inr ⟨im, e0, .inr (.inr rfl), he0, old k (x1 _ k he' hk).2⟩⟩
        · have : k = c.b im ∨ (c.o im).x k := by simpa [c1] using hk
          have : k < c.w.heap.size := by
            rcases this with rfl | h
            · exact hbl
            · exact hxl k h
          exact Nat.lt_of_lt_of_le this (by simp [c1])
        · obtain ⟨p1, p2⟩ := hbs p hp
          refine ⟨by simpa [c1] using p1, ?_⟩
          rw [← p2]
          exact heap_alloc_old c.w it _ (Array.getElem?_eq_some_iff.1 p2).1
      · have : .fx (.pointer (some ⟨c.w.heap.size, 0, Option.none⟩)) [(c.w.heap.size, it)] = e' := by simpa [c1, hq'] using he'
        subst this
        refine ⟨.inr (.inr rfl), fun ht => ⟨fun k hk => ?_, by simp [c1, hq'], fun p hp => ?_⟩, .inr h2, fun k hk => .inl (Nat.le_of_eq (x2 _ k he' hk).symm)⟩
        · have : k = c.w.heap.size := by simpa [c1, hq'] using hk
          subst this
          simp [c1]
        · simp only [List.mem_singleton] at hp
          subst hp
          exact ⟨by simp [c1, hq'], heap_alloc_new c.w it⟩
      · exact absurd he' (x3 e')
    · have lt1 : ∀ k, (k = c.b im ∨ (c.o im).x k) → k < c.w.heap.size := fun k h => by
        rcases h with rfl | h
        · exact hbl
        · exact hxl k h
      rcases hj with rfl | rfl | rfl <;> rcases hj' with rfl | rfl | rfl
      · rfl
      · have a := lt1 k (x1 _ k he hk).2
        have b := x2 _ k he' hk'
        omega
      · exact absurd he' (x3 e')
      · have a := lt1 k (x1 _ k he' hk').2
        have b := x2 _ k he hk
        omega
      · rfl
      · exact absurd he' (x3 e')
      · exact absurd he (x3 e)
      · exact absurd he (x3 e)
      · rfl
  obtain ⟨k1, k2⟩ := key
  exact ⟨c1, rfl, k1, k2, fun j => rfl, fun j => Iff.rfl, by simp [c1], by simp [c1, hq']⟩
theorem fx_set {c : Cx} (ho : HeapOk c) {q : Nat} {v : Value} {bs : List (Nat × Obj)} (he : c.en q = some (.fx v bs)) (bs' : List (Nat × Obj)) (Fz T : Nat → Prop) {w' : World} (hos : w'.os = c.w.os) (htp : w'.tape = c.w.tape) (hout : w'.output = c.w.output) (hsz : w'.heap.size = c.w.heap.size)
    (hT : ∀ k, T k → ∃ o, (k, o) ∈ bs) (hsame : ∀ k, ¬ T k → w'.heap[k]? = c.w.heap[k]?) (hFz : ∀ k, Fz k → ∃ o, (k, o) ∈ bs)
    (hbs : ∀ p ∈ bs', ¬ Fz p.1 ∧ (∃ o, (p.1, o) ∈ bs) ∧ w'.heap[p.1]? = some p.2) :
    ∃ c1 : Cx, c1.w = w' ∧ HeapOk c1 ∧ Trans c c1 ∧ (∀ j, c1.en j = if j = q then some (.fx v bs') else c.en j) ∧ (∀ j, c1.K j ↔ c.K j) ∧ ∀ k, Fz k → c1.Z k := by
  obtain ⟨g1, g2, g3⟩ := ho.ents q _ he
  have inx : ∀ k, (∃ o, (k, o) ∈ bs) → (c.o q).x k := fun k ⟨o, h⟩ => (g3 _ h).1
  let c1 : Cx := { c with o := fun j => if j = q then ⟨fun k => (c.o q).x k ∧ ¬ Fz k, (c.o q).y⟩ else c.o j, en := fun j => if j = q then some (.fx v bs') else c.en j, Z := fun k => c.Z k ∨ Fz k, w := w' }
  have x1 : ∀ e k, c1.en q = some e → c1.ow q e k → e = .fx v bs' ∧ (c.o q).x k ∧ ¬ Fz k := fun e k he hk => by
    have : .fx v bs' = e := by simpa [c1] using he
    subst this
    have := fx_own hk
    exact ⟨rfl, by simpa [c1] using this⟩
  have key : HeapOk c1 ∧ Trans c c1 := by
    refine rearr_ok (c' := c1) (T := T) (fun j => j = q) ho ⟨hos, htp, hout, Nat.le_of_eq hsz.symm, fun k _ => hsame k, fun k hk => ⟨q, _, he, .inr ⟨rfl, inx k (hT k hk)⟩⟩⟩ (fun k hk => ⟨q, _, rfl, he, .inr ⟨rfl, inx k (hT k hk)⟩⟩) (fun id h => h)
      (fun k h => .inl h) (fun k h => ?_) (fun j hj => ?_) (fun j e' hj he' => ?_) (fun j j' e e' k hj hj' _ _ _ _ => by rw [hj, hj'])
    · rcases h with h | h
      · exact .inl h
      · exact .inr ⟨⟨q, _, rfl, he, .inr ⟨rfl, inx k (hFz k h)⟩⟩, fun j e hj he1 hk => by subst hj; exact (x1 e k he1 hk).2.2 h⟩
    · have hj : j ≠ q := hj
      exact ⟨by simp [c1, hj], fun e _ => ⟨rfl, rfl, by simp [c1, hj]⟩⟩
    · have hj : j = q := hj
      subst hj
      have : .fx v bs' = e' := by simpa [c1] using he'
      subst this
      refine ⟨ho.lt j _ he, fun ht => ⟨fun k hk => ?_, g2, fun p hp => ?_⟩, .inl ⟨_, he, rfl, rfl, rfl, by simp [c1]⟩, fun k hk => .inr ⟨j, _, rfl, he, .inr ⟨rfl, (x1 _ k he' hk).2.1⟩⟩⟩
      · have : (c.o j).x k ∧ ¬ Fz k := by simpa [c1] using hk
        show k < w'.heap.size
        rw [hsz]
        exact g1 k this.1
      · obtain ⟨p1, p2, p3⟩ := hbs p hp
        exact ⟨by simp only [c1, if_true]; exact ⟨inx _ p2, p1⟩, p3⟩
  obtain ⟨k1, k2⟩ := key
  exact ⟨c1, rfl, k1, k2, fun j => rfl, fun j => Iff.rfl, fun k hk => .inr hk⟩
theorem fx_end {c : Cx} (ho : HeapOk c) {q1 q2 q3 : Nat} {v1 v2 : Value} {bs1 bs2 : List (Nat × Obj)} (he1 : c.en q1 = some (.fx v1 bs1)) (he2 : c.en q2 = some (.fx v2 bs2)) (h3 : ¬ c.K q3) {e : Ent} {b : Nat} {u : Value}
    (hb : ∃ o, (b, o) ∈ bs1)
    (hent : ∀ c1 : Cx, c1.b q3 = b → c1.u q3 = u → (∀ p ∈ bs1, (c1.o q3).x p.1) → (∀ k, (c1.o q3).x k → k < c1.w.heap.size) → c1.w = c.w → EntOk c1 q3 e) :
    ∃ c1 : Cx, c1.w = c.w ∧ HeapOk c1 ∧ Trans c c1 ∧ (∀ j, c1.en j = if j = q3 then some e else if j = q1 then Option.none else if j = q2 then Option.none else c.en j) ∧ (∀ j, c1.K j ↔ c.K j ∨ j = q3) ∧ c1.u q3 = u := by
  obtain ⟨g1, g2, g3⟩ := ho.ents q1 _ he1
  have n1 : q3 ≠ q1 := fun h => h3 (h ▸ ho.lt q1 _ he1)
  have n2 : q3 ≠ q2 := fun h => h3 (h ▸ ho.lt q2 _ he2)
  have hbx : (c.o q1).x b := by obtain ⟨o, h⟩ := hb; exact (g3 _ h).1
  let c1 : Cx := { b := fun j => if j = q3 then b else c.b j, o := fun j => if j = q3 then c.o q1 else c.o j, u := fun j => if j = q3 then u else c.u j
                   en := fun j => if j = q3 then some e else if j = q1 then Option.none else if j = q2 then Option.none else c.en j, K := fun j => c.K j ∨ j = q3, Z := c.Z, w := c.w }
  have x3 : ∀ e' k, c1.en q3 = some e' → c1.ow q3 e' k → e' = e ∧ (c.o q1).x k := fun e' k he hk => by
    have : e = e' := by simpa [c1] using he
    subst this
    rcases hk with ⟨_, hk⟩ | ⟨_, hk⟩
    · have : b = k := by simpa [c1] using hk
      exact ⟨rfl, this ▸ hbx⟩
    · exact ⟨rfl, by simpa [c1] using hk⟩
  have no1 : ∀ e', c1.en q1 ≠ some e' := fun e' => by simp [c1, n1.symm]
  have no2 : ∀ e', c1.en q2 ≠ some e' := fun e' => by simp [c1, n2.symm]
  have key : HeapOk c1 ∧ Trans c c1 := by
    refine rearr_ok (c' := c1) (T := fun _ => False) (fun j => j = q3 ∨ j = q1 ∨ j = q2) ho (Mem.refl c) (fun k h => h.elim) (fun id h => .inl h) (fun k h => h) (fun k h => .inl h)
      (fun j hj => ?_) (fun j e' hj he' => ?_) (fun j j' e e' k hj hj' he he' hk hk' => ?_)
    · have a1 : j ≠ q3 := fun h => hj (.inl h)
      have a2 : j ≠ q1 := fun h => hj (.inr (.inl h))
      have a3 : j ≠ q2 := fun h => hj (.inr (.inr h))
      exact ⟨by simp [c1, a1, a2, a3], fun e _ => ⟨by simp [c1, a1], by simp [c1, a1], by simp [c1, a1]⟩⟩
    · rcases hj with rfl | rfl | rfl
      · have : e = e' := by simpa [c1] using he'
        subst this
        refine ⟨.inr rfl, fun _ => hent c1 (by simp [c1]) (by simp [c1]) (fun p hp => by simpa [c1] using (g3 p hp).1) (fun k hk => g1 k (by simpa [c1] using hk)) rfl, .inr h3, fun k hk => .inr ⟨q1, _, .inr (.inl rfl), he1, .inr ⟨rfl, (x3 _ k he' hk).2⟩⟩⟩
      · exact absurd he' (no1 e')
      · exact absurd he' (no2 e')
    · rcases hj with rfl | rfl | rfl
      · rcases hj' with rfl | rfl | rfl
        · rfl
        · exact absurd he' (no1 e')
        · exact absurd he' (no2 e')
      · exact absurd he (no1 e)
      · exact absurd he (no2 e)
  obtain ⟨k1, k2⟩ := key
  exact ⟨c1, rfl, k1, k2, fun j => rfl, fun j => Iff.rfl, by simp [c1]⟩
theorem piece_clr {E : Env} (hE : EnvOk E) {base : Nat} {code : Code} {S : St} {e : Exit} (ds : List Nat) {T : List SV} {tab : Tab} {nx : Nat} (hok : codeOk code = true)
    (h : codeK (R := Exit × List SV × Tab × Nat) E.Θ (noCal E) (fun _ _ _ => Option.none) code S (fun e S' => some (e, Go.Sx.clrs ds S'.tmps, S'.tab, S'.nx)) = some (e, T, tab, nx)) : CodeSem E.P base code S e ⟨T, tab, nx⟩ := by
  have hno : LpOk E.P base (fun _ _ _ => Option.none : Lp (Exit × List SV × Tab × Nat)) := fun _ _ _ _ _ h => by cases h
  obtain ⟨e1, S1, h1, h2⟩ := code_ok hE.ty hE.mixed (noCal_ok E) hno code S _ hok h
  simp only [Option.some.injEq, Prod.mk.injEq] at h1
  obtain ⟨rfl, rfl, rfl, rfl⟩ := h1
  exact fun c0 c a Q hK hr ht hq => h2 c0 c a Q hK hr ht fun c' a' hr' ht' => hq c' a' (hr'.clrs ds) ht'
theorem run_delete_int {P : Program} {t kt et : TypeId} {w : World} {b clock : Nat} {es : Array MapEntry} {k : Value} {i : Nat} {x : Value} (ht : P.underlying t = some (.map kt et)) (hb : w.heap[b]? = some (.map es clock))
    (hck : (Instr.checkKey es.isEmpty 10000 kt k).run P w = .ok () w) (hf : (Instr.findKey kt k es.toList).run P w = .ok (some (i, x)) w) (t' ty : TypeId) :
    (Builtin.delete_ #[t, t'] ty #[.map (some b), k]).run P w = .ok (.tuple #[]) { w with heap := w.heap.setIfInBounds b (.map (es.eraseIdxIfInBounds i) clock) } := by
  have := MapKept.run_setObj_map (P := P) (.map (es.eraseIdxIfInBounds i) clock) hb
  simp [Builtin.delete_, run_underlying ht, MapKept.run_getObj_map hb, hck, hf, this, Result.andThen]
theorem getD_put {a : Act} {d s : Nat} {v : Value} (hd : d < a.tmps.size) : (a.put (some d) v).tmps.getD s Go.undef = if s = d then v else a.tmps.getD s Go.undef := by
  rw [put_getD]
  by_cases h : s = d
  · subst h; simp [hd]
  · have : ¬ d = s := fun e => h e.symm
    simp [h, this]
end Go.Sx
