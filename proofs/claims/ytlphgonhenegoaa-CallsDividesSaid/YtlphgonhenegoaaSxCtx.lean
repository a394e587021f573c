import Derived.Test.YtlphgonhenegoaaSxMem
namespace Go.Sx
theorem EntOk.lt {c : Cx} {id : Nat} {e : Ent} (h : EntOk c id e) (hh : has e = true) : c.b id < c.w.heap.size := by
  cases e with
  | blk cs => obtain ⟨arr, e, hb, _⟩ := h; exact (Array.getElem?_eq_some_iff.1 hb).1
  | row nl fl size n cl =>
    obtain ⟨_, h | ⟨_, cap, arr, e, _, hb, _⟩⟩ := h
    · simp [has, h.1] at hh
    · exact (Array.getElem?_eq_some_iff.1 hb).1
  | mp k hs gt => obtain ⟨es, clock, _, hb, _⟩ := h; exact (Array.getElem?_eq_some_iff.1 hb).1
  | fm => obtain ⟨_, es, clock, X, _, hb, _⟩ := h; exact (Array.getElem?_eq_some_iff.1 hb).1
  | fx => cases hh
  | lp => cases hh
  | mx =>
    obtain ⟨_, ⟨rfl, _⟩ | ⟨_, cap, arr, e, _, hb, _⟩⟩ := h
    · simp [has] at hh
    · exact (Array.getElem?_eq_some_iff.1 hb).1
theorem EntOk.olt {c : Cx} {id : Nat} {e : Ent} (h : EntOk c id e) {k : Nat} (ho : c.ow id e k) : k < c.w.heap.size := by
  rcases ho with ⟨hh, rfl⟩ | ⟨hf, hx⟩
  · exact h.lt hh
  · cases e with
    | fm => exact h.1 k hx
    | fx => exact h.1 k hx
    | lp => exact h.1 k hx
    | mx => exact h.1 k hx
    | _ => cases hf
theorem EntOk.trans {c c' : Cx} (h : Trans c c') (ho : HeapOk c) {id : Nat} {e : Ent} (he : EntOk c id e) (hb : c'.b id = c.b id) (hu : c'.u id = c.u id) (hx : c'.o id = c.o id)
    (hw : ∀ k, c.ow id e k → c'.w.heap[k]? = c.w.heap[k]?) : EntOk c' id e := by
  have hwo := hw
  have hw : has e = true → c'.w.heap[c.b id]? = c.w.heap[c.b id]? := fun h => hw _ (ow_b h)
  cases e with
  | blk cs =>
    obtain ⟨arr, e, h1, h2, h3⟩ := he
    refine ⟨arr, e, by rw [hb, hw rfl]; exact h1, h2, fun i s v hs hv => ?_⟩
    obtain ⟨h4, h5⟩ := h3 i s v hs hv
    exact ⟨h4.trans h ho, h5⟩
  | row nl fl size n cl =>
    obtain ⟨hf, h1⟩ := he
    refine ⟨hf, ?_⟩
    rcases h1 with ⟨a, b, d⟩ | ⟨a, cap, arr, e, b, d, f, g, k⟩
    · exact .inl ⟨a, b, by rw [hu]; exact d⟩
    · refine .inr ⟨a, cap, arr, e, by rw [hu, hb]; exact b, by rw [hb, hw (by simp [has, a])]; exact d, f, g, fun i j hi hj => ?_⟩
      obtain ⟨v, hv, hd⟩ := k i j hi hj
      exact ⟨v, hv, hd.trans h ho⟩
  | mp k hs gt =>
    obtain ⟨es, clock, h1, h2, h3⟩ := he
    exact ⟨es, clock, by rw [hu, hb]; exact h1, by rw [hb, hw rfl]; exact h2, h3⟩
  | fm ik fl size hs ln gt hole =>
    obtain ⟨h0, es, clock, X, h1, h2, h3⟩ := he
    refine ⟨fun k hk => Nat.lt_of_lt_of_le (h0 k (by rw [← hx]; exact hk)) h.size, es, clock, X, by rw [hu, hb]; exact h1, by rw [hb, hw rfl]; exact h2, ?_⟩
    rw [hb, hx]
    exact h3.mono (fun s v hd => hd.trans h ho) fun k hk => hwo k (.inr ⟨rfl, hk⟩)
  | fx v bs =>
    obtain ⟨h0, h1, h2⟩ := he
    refine ⟨fun k hk => Nat.lt_of_lt_of_le (h0 k (by rw [← hx]; exact hk)) h.size, by rw [hu]; exact h1, fun p hp => ?_⟩
    obtain ⟨q1, q2⟩ := h2 p hp
    exact ⟨by rw [hx]; exact q1, by rw [hwo _ (.inr ⟨rfl, q1⟩)]; exact q2⟩
  | lp n =>
    obtain ⟨h0, h1⟩ := he
    refine ⟨fun k hk => Nat.lt_of_lt_of_le (h0 k (by rw [← hx]; exact hk)) h.size, ?_⟩
    rw [hu, hx]
    exact h1.mono fun k hk => hwo k (.inr ⟨rfl, hk⟩)
  | mx ik n ln gt =>
    obtain ⟨h0, ⟨rfl, h1⟩ | ⟨hn, cap, arr, e, h1, h2, h3, h4, h5⟩⟩ := he
    · exact ⟨fun k hk => Nat.lt_of_lt_of_le (h0 k (by rw [← hx]; exact hk)) h.size, .inl ⟨rfl, by rw [hu]; exact h1⟩⟩
    refine ⟨fun k hk => Nat.lt_of_lt_of_le (h0 k (by rw [← hx]; exact hk)) h.size, .inr ⟨hn, cap, arr, e, by rw [hu, hb]; exact h1, by rw [hb, hw (by simp [has, hn])]; exact h2, h3, h4, ?_⟩⟩
    rw [hb, hx]
    exact h5.mono rfl rfl (fun _ h => h) fun k hk => hwo k (.inr ⟨rfl, hk⟩)
structure Mem (c : Cx) (T : Nat → Prop) (w' : World) : Prop where
  os : w'.os = c.w.os
  tape : w'.tape = c.w.tape
  output : w'.output = c.w.output
  size : c.w.heap.size ≤ w'.heap.size
  same : ∀ k, k < c.w.heap.size → ¬ T k → w'.heap[k]? = c.w.heap[k]?
  own : ∀ k, T k → ∃ id e, c.en id = some e ∧ c.ow id e k
theorem Mem.refl (c : Cx) : Mem c (fun _ => False) c.w := ⟨rfl, rfl, rfl, Nat.le_refl _, fun _ _ _ => rfl, fun _ h => h.elim⟩
theorem Mem.drew (c : Cx) : Mem c (fun _ => False) c.w.drew := ⟨rfl, rfl, rfl, Nat.le_refl _, fun _ _ _ => rfl, fun _ h => h.elim⟩
theorem Mem.alloc {c : Cx} {T : Nat → Prop} {w' : World} (h : Mem c T w') (o : Obj) : Mem c T (w'.alloc o) :=
  ⟨h.os, h.tape, h.output, Nat.le_trans h.size (by simp), fun k hk ht => by
    rw [← h.same k hk ht]
    exact heap_alloc_old w' o k (Nat.lt_of_lt_of_le hk h.size), h.own⟩
theorem Mem.setRow {c : Cx} {id : Nat} {e : Ent} (he : c.en id = some e) (hh : has e = true) (arr : Array Value) : Mem c (fun k => k = c.b id) (c.w.setRow (c.b id) arr) :=
  ⟨rfl, rfl, rfl, by rw [size_setRow]; exact Nat.le_refl _, fun k _ ht => heap_setRow_ne _ _ _ _ ht, fun k hk => ⟨id, e, he, hk ▸ ow_b hh⟩⟩
theorem step_ok {c c' : Cx} {T : Nat → Prop} (ho : HeapOk c) (m : Mem c T c'.w) (hK : ∀ id, c.K id → c'.K id) (hZ : ∀ k, c'.Z k ↔ c.Z k)
    (hen : ∀ id e', c'.en id = some e' → c'.K id ∧
      ((c.en id = some e' ∧ c'.b id = c.b id ∧ c'.u id = c.u id ∧ c'.o id = c.o id ∧ (∀ k, c.ow id e' k → ¬ T k)) ∨
       ((Trans c c' → EntOk c' id e') ∧ ((∃ e, c.en id = some e ∧ c'.b id = c.b id ∧ c'.u id = c.u id ∧ shape e' = shape e ∧ (c'.o id).y = (c.o id).y) ∨ ¬ c.K id) ∧
        (∀ k, c'.ow id e' k → c.w.heap.size ≤ k ∨ ∃ id0 e, c.en id0 = some e ∧ c.ow id0 e k))))
    (hinj : ∀ id id' e e' k, c'.en id = some e → c'.en id' = some e' → c'.ow id e k → c'.ow id' e' k → id = id') : HeapOk c' ∧ Trans c c' := by
  have same : ∀ id e', c'.b id = c.b id → c'.o id = c.o id → ∀ k, c'.ow id e' k → c.ow id e' k := fun id e' hb hx k h => by
    rcases h with ⟨h1, h2⟩ | ⟨h1, h2⟩
    · exact .inl ⟨h1, by rw [← hb]; exact h2⟩
    · exact .inr ⟨h1, by rw [← hx]; exact h2⟩
  have ht : Trans c c' :=
    { os := m.os, tape := m.tape, output := m.output, size := m.size, kn := hK
      zs := fun k hk => (hZ k).2 hk
      znew := fun k hk => .inl ((hZ k).1 hk)
      keep := fun k hk hn => m.same k hk fun ht => by
        obtain ⟨id, e, he, hh⟩ := m.own k ht
        exact hn id e he hh
      old := fun id e' he' => by
        rcases (hen id e' he').2 with ⟨h1, h2, h3, hx, _⟩ | ⟨_, h2, _⟩
        · exact .inl ⟨e', h1, h2, h3, rfl, by rw [hx]⟩
        · exact h2
      loc := fun id e' k he' hh' => by
        rcases (hen id e' he').2 with ⟨h1, h2, h3, h4, _⟩ | ⟨_, _, h3⟩
        · exact .inr ⟨id, e', h1, same id e' h2 h4 k hh'⟩
        · exact h3 k hh' }
  refine ⟨⟨fun id e he => (hen id e he).1, fun id e he => ?_, hinj, fun k hk => ?_, fun k hk id e he hh => ?_, ht.gls ho⟩, ht⟩
  · rcases (hen id e he).2 with ⟨h1, h2, h3, hx, h4⟩ | ⟨h1, _⟩
    · exact (ho.ents id e h1).trans ht ho h2 h3 hx fun k hh => m.same _ ((ho.ents id e h1).olt hh) (h4 k hh)
    · exact h1 ht
  · exact Nat.lt_of_lt_of_le (ho.zlt k ((hZ k).1 hk)) m.size
  · rcases ht.loc id e k he hh with h1 | ⟨id0, e0, he0, hh0⟩
    · have := ho.zlt k ((hZ k).1 hk)
      omega
    · exact ho.zno k ((hZ k).1 hk) id0 e0 he0 hh0
def Cx.add (c : Cx) (id : Nat) (e : Ent) (b : Nat) (u : Value) (w' : World) : Cx :=
  { b := fun j => if j = id then b else c.b j, o := fun j => if j = id then {} else c.o j, u := fun j => if j = id then u else c.u j, en := fun j => if j = id then some e else c.en j, K := fun j => c.K j ∨ j = id, Z := c.Z, w := w' }
theorem add_ok {c : Cx} (ho : HeapOk c) {id : Nat} (hk : ¬ c.K id) {e : Ent} {b : Nat} {u : Value} {w' : World} (m : Mem c (fun _ => False) w')
    (hb : has e = true → c.w.heap.size ≤ b) (hent : Trans c (c.add id e b u w') → EntOk (c.add id e b u w') id e) : HeapOk (c.add id e b u w') ∧ Trans c (c.add id e b u w') := by
  have new : ∀ e' k, (c.add id e b u w').en id = some e' → (c.add id e b u w').ow id e' k → c.w.heap.size ≤ k := by
    intro e' k h1 h2
    have h1' : e = e' := by simpa [Cx.add] using h1
    subst h1'
    rcases h2 with ⟨h2, h3⟩ | ⟨_, h3⟩
    · have : b = k := by simpa [Cx.add] using h3
      exact this ▸ hb h2
    · simp [Cx.add] at h3
  have old : ∀ j e' k, j ≠ id → (c.add id e b u w').en j = some e' → (c.add id e b u w').ow j e' k → c.en j = some e' ∧ c.ow j e' k := by
    intro j e' k hj h1 h2
    refine ⟨by simpa [Cx.add, hj] using h1, ?_⟩
    rcases h2 with ⟨h2, h3⟩ | ⟨h2, h3⟩
    · exact .inl ⟨h2, by simpa [Cx.add, hj] using h3⟩
    · exact .inr ⟨h2, by simpa [Cx.add, hj] using h3⟩
  refine step_ok (T := fun _ => False) ho m (fun j hj => .inl hj) (fun k => Iff.rfl) (fun j e' he' => ?_) (fun j j' e1 e2 k h1 h2 hh1 hh2 => ?_)
  · by_cases hj : j = id
    · subst hj
      have h1' : e = e' := by simpa [Cx.add] using he'
      subst h1'
      exact ⟨.inr rfl, .inr ⟨hent, .inr hk, fun k h => .inl (new e k he' h)⟩⟩
    · have he2 : c.en j = some e' := by simpa [Cx.add, hj] using he'
      exact ⟨.inl (ho.lt j e' he2), .inl ⟨he2, by simp [Cx.add, hj], by simp [Cx.add, hj], by simp [Cx.add, hj], fun _ _ h => h⟩⟩
  · by_cases hj : j = id <;> by_cases hj' : j' = id
    · rw [hj, hj']
    · subst hj
      obtain ⟨a1, a2⟩ := old j' e2 k hj' h2 hh2
      have := (ho.ents j' e2 a1).olt a2
      have := new e1 k h1 hh1
      omega
    · subst hj'
      obtain ⟨a1, a2⟩ := old j e1 k hj h1 hh1
      have := (ho.ents j e1 a1).olt a2
      have := new e2 k h2 hh2
      omega
    · obtain ⟨a1, a2⟩ := old j e1 k hj h1 hh1
      obtain ⟨b1, b2⟩ := old j' e2 k hj' h2 hh2
      exact ho.inj j j' e1 e2 k a1 b1 a2 b2
def Cx.set (c : Cx) (id : Nat) (e : Ent) (w' : World) : Cx := { c with en := fun j => if j = id then some e else c.en j, w := w' }
theorem set_ok {c : Cx} (ho : HeapOk c) {id : Nat} {e0 e : Ent} (he0 : c.en id = some e0) (hh0 : has e0 = true) (hs : shape e = shape e0) {w' : World} (m : Mem c (fun k => k = c.b id) w')
    (hent : Trans c (c.set id e w') → EntOk (c.set id e w') id e) (hfm : fam e = fam e0 := by rfl) : HeapOk (c.set id e w') ∧ Trans c (c.set id e w') := by
  have hhe : has e = true := by cases e <;> cases e0 <;> simp_all [shape, has]
  have key : ∀ j e1 k, (c.set id e w').en j = some e1 → (c.set id e w').ow j e1 k → ∃ e2, c.en j = some e2 ∧ c.ow j e2 k := by
    intro j e1 k h1 hh1
    by_cases hj : j = id
    · subst hj
      have h1' : e = e1 := by simpa [Cx.set] using h1
      subst h1'
      refine ⟨e0, he0, ?_⟩
      rcases hh1 with ⟨_, h⟩ | ⟨h, h'⟩
      · exact .inl ⟨hh0, h⟩
      · exact .inr ⟨by rw [← hfm]; exact h, h'⟩
    · exact ⟨e1, by simpa [Cx.set, hj] using h1, hh1⟩
  refine step_ok ho m (fun j hj => hj) (fun k => Iff.rfl) (fun j e' he' => ?_) (fun j j' e1 e2 k h1 h2 hh1 hh2 => ?_)
  · by_cases hj : j = id
    · subst hj
      have h1' : e = e' := by simpa [Cx.set] using he'
      subst h1'
      exact ⟨ho.lt j e0 he0, .inr ⟨hent, .inl ⟨e0, he0, rfl, rfl, hs, rfl⟩, fun k h => .inr (by obtain ⟨e2, a, b⟩ := key j e k he' h; exact ⟨j, e2, a, b⟩)⟩⟩
    · have he2 : c.en j = some e' := by simpa [Cx.set, hj] using he'
      exact ⟨ho.lt j e' he2, .inl ⟨he2, rfl, rfl, rfl, fun k h hk => hj (ho.inj j id e' e0 k he2 he0 h (hk ▸ ow_b hh0))⟩⟩
  · obtain ⟨e3, h3, hh3⟩ := key j e1 k h1 hh1
    obtain ⟨e4, h4, hh4⟩ := key j' e2 k h2 hh2
    exact ho.inj j j' e3 e4 k h3 h4 hh3 hh4
def Cx.move (c : Cx) (r id : Nat) (e : Ent) (b : Nat) (u : Value) (w' : World) : Cx :=
  { b := fun j => if j = id then b else c.b j, o := fun j => if j = id then {} else c.o j, u := fun j => if j = id then u else c.u j, en := fun j => if j = id then some e else if j = r then Option.none else c.en j, K := fun j => c.K j ∨ j = id, Z := c.Z, w := w' }
theorem move_ok {c : Cx} (ho : HeapOk c) {r id : Nat} (hk : ¬ c.K id) {e0 e : Ent} (he0 : c.en r = some e0) {b : Nat} {u : Value} {w' : World}
    (hcase : (Mem c (fun _ => False) w' ∧ (has e = true → c.w.heap.size ≤ b)) ∨ (has e0 = true ∧ b = c.b r ∧ Mem c (fun k => k = c.b r) w'))
    (hent : Trans c (c.move r id e b u w') → EntOk (c.move r id e b u w') id e) : HeapOk (c.move r id e b u w') ∧ Trans c (c.move r id e b u w') := by
  have hkr : c.K r := ho.lt r e0 he0
  have new : ∀ e' k, (c.move r id e b u w').en id = some e' → (c.move r id e b u w').ow id e' k → has e = true ∧ b = k := by
    intro e' k h1 h2
    have h1' : e = e' := by simpa [Cx.move] using h1
    subst h1'
    rcases h2 with ⟨h2, h3⟩ | ⟨_, h3⟩
    · exact ⟨h2, by simpa [Cx.move] using h3⟩
    · simp [Cx.move] at h3
  have old : ∀ j e', j ≠ id → (c.move r id e b u w').en j = some e' → j ≠ r ∧ c.en j = some e' := by
    intro j e' hj he'
    simp only [Cx.move, if_neg hj] at he'
    by_cases hr : j = r
    · simp [hr] at he'
    · rw [if_neg hr] at he'; exact ⟨hr, he'⟩
  have oldo : ∀ j e' k, j ≠ id → (c.move r id e b u w').ow j e' k → c.ow j e' k := by
    intro j e' k hj h2
    rcases h2 with ⟨h2, h3⟩ | ⟨h2, h3⟩
    · exact .inl ⟨h2, by simpa [Cx.move, hj] using h3⟩
    · exact .inr ⟨h2, by simpa [Cx.move, hj] using h3⟩
  have inj : ∀ j e' k, j ≠ id → (c.move r id e b u w').en j = some e' → (c.move r id e b u w').ow j e' k → has e = true → b ≠ k := by
    intro j e' k hj he' hh' hh hbb
    obtain ⟨hr, h1⟩ := old j e' hj he'
    have ho' := oldo j e' k hj hh'
    rcases hcase with ⟨_, h2⟩ | ⟨h2, h3, _⟩
    · have := (ho.ents j e' h1).olt ho'
      have := h2 hh
      omega
    · exact hr (ho.inj j r e' e0 k h1 he0 ho' (.inl ⟨h2, by rw [← h3, hbb]⟩))
  have hinj : ∀ j j' e1 e2 k, (c.move r id e b u w').en j = some e1 → (c.move r id e b u w').en j' = some e2 → (c.move r id e b u w').ow j e1 k → (c.move r id e b u w').ow j' e2 k → j = j' := by
    intro j j' e1 e2 k h1 h2 hh1 hh2
    by_cases hj : j = id <;> by_cases hj' : j' = id
    · rw [hj, hj']
    · subst hj
      obtain ⟨a, b'⟩ := new e1 k h1 hh1
      exact absurd b' (inj j' e2 k hj' h2 hh2 a)
    · subst hj'
      obtain ⟨a, b'⟩ := new e2 k h2 hh2
      exact absurd b' (inj j e1 k hj h1 hh1 a)
    · exact ho.inj j j' e1 e2 k (old j e1 hj h1).2 (old j' e2 hj' h2).2 (oldo j e1 k hj hh1) (oldo j' e2 k hj' hh2)
  rcases hcase with ⟨m, h2⟩ | ⟨h2, h3, m⟩
  · refine step_ok (T := fun _ => False) ho m (fun j hj => .inl hj) (fun k => Iff.rfl) (fun j e' he' => ?_) hinj
    by_cases hj : j = id
    · subst hj
      have h1' : e = e' := by simpa [Cx.move] using he'
      subst h1'
      exact ⟨.inr rfl, .inr ⟨hent, .inr hk, fun k h => .inl (by obtain ⟨a, b'⟩ := new e k he' h; exact b' ▸ h2 a)⟩⟩
    · obtain ⟨_, h4⟩ := old j e' hj he'
      exact ⟨.inl (ho.lt j e' h4), .inl ⟨h4, by simp [Cx.move, hj], by simp [Cx.move, hj], by simp [Cx.move, hj], fun _ _ h => h⟩⟩
  · refine step_ok ho m (fun j hj => .inl hj) (fun k => Iff.rfl) (fun j e' he' => ?_) hinj
    by_cases hj : j = id
    · subst hj
      have h1' : e = e' := by simpa [Cx.move] using he'
      subst h1'
      exact ⟨.inr rfl, .inr ⟨hent, .inr hk, fun k h => .inr ⟨r, e0, he0, .inl ⟨h2, by obtain ⟨_, b'⟩ := new e k he' h; rw [← h3]; exact b'⟩⟩⟩⟩
    · obtain ⟨hr, h4⟩ := old j e' hj he'
      exact ⟨.inl (ho.lt j e' h4), .inl ⟨h4, by simp [Cx.move, hj], by simp [Cx.move, hj], by simp [Cx.move, hj], fun k h hk => hr (ho.inj j r e' e0 k h4 he0 h (hk ▸ ow_b h2))⟩⟩
def Cx.drop (c : Cx) (r : Nat) : Cx := { c with en := fun j => if j = r then Option.none else c.en j, Z := fun k => c.Z k ∨ ∃ e, c.en r = some e ∧ c.ow r e k }
theorem drop_ok {c : Cx} (ho : HeapOk c) (r : Nat) : HeapOk (c.drop r) ∧ Trans c (c.drop r) := by
  have old : ∀ j e', (c.drop r).en j = some e' → j ≠ r ∧ c.en j = some e' := by
    intro j e' he'
    simp only [Cx.drop] at he'
    by_cases hr : j = r
    · simp [hr] at he'
    · rw [if_neg hr] at he'; exact ⟨hr, he'⟩
  have ht : Trans c (c.drop r) :=
    { os := rfl, tape := rfl, output := rfl, size := Nat.le_refl _, kn := fun _ h => h
      zs := fun k hk => .inl hk
      znew := fun k hk => by
        rcases hk with h | ⟨e, he, hh⟩
        · exact .inl h
        · exact .inr (.inr ⟨r, e, he, hh⟩)
      keep := fun _ _ _ => rfl
      old := fun id e' he' => .inl ⟨e', (old id e' he').2, rfl, rfl, rfl, rfl⟩
      loc := fun id e' k he' hh' => .inr ⟨id, e', (old id e' he').2, hh'⟩ }
  refine ⟨⟨fun id e he => ho.lt id e (old id e he).2, fun id e he => (ho.ents id e (old id e he).2).trans ht ho rfl rfl rfl (fun _ _ => rfl),
    fun id id' e e' k h1 h2 hh1 hh2 => ho.inj id id' e e' k (old _ _ h1).2 (old _ _ h2).2 hh1 hh2, fun k hk => ?_, fun k hk id e he hh => ?_, ht.gls ho⟩, ht⟩
  · rcases hk with h | ⟨e, he, hh⟩
    · exact ho.zlt k h
    · exact (ho.ents r e he).olt hh
  · obtain ⟨hr, h1⟩ := old id e he
    rcases hk with h | ⟨e0, he0, hh0⟩
    · exact ho.zno k h id e h1 hh
    · exact hr (ho.inj id r e e0 k h1 he0 hh hh0)
end Go.Sx
