import Derived.Test.YtlphgonhenegoaaSxCall
namespace Go.Sx
def Cx.bare (c : Cx) : Cx := { c with Z := fun _ => False }
theorem flatN_at {c : CK} {n j : Nat} (h : flatN c n = true) (hj : j < n) : isFlat (ckAt c j) = true := by
  induction n with
  | zero => omega
  | succ n ih =>
    simp only [flatN, Bool.and_eq_true] at h
    by_cases e : j = n
    · subst e; exact h.1
    · exact ih h.2 (by omega)
theorem flat_denG {Z Z' : Nat → Prop} {w w' : World} {s : SV} {v : Value} {c : CK} (h : DenG Z w s v) (hc : ckOk c s = true) (hf : isFlat c = true) : DenG Z' w' s v := by
  cases c <;> simp [isFlat] at hf <;> cases h <;> simp [ckOk] at hc
  · exact .int _ _
  · exact .bool _
  · exact .str _
theorem den_bareC {c : Cx} {s : SV} {v : Value} (h : Den c s v) (hs : noSlC s = true) : Den c.bare s v := by
  cases h with
  | und v => exact .und v
  | non => exact .non
  | g s v hg =>
    cases hg <;> simp [noSlC] at hs
    · exact .g _ _ (.int _ _)
    · exact .g _ _ (.bool _)
    · exact .g _ _ (.str _)
    · exact .g _ _ .nilp
    · exact .g _ _ .nilm
    · exact .g _ _ .nilf
  | ptr g off v hk h1 h2 => exact .ptr g off v hk h1 h2
  | xptr g b st n z v hk h1 h2 => exact .xptr g b st n z v hk h1 h2
  | row q v hk h1 h2 => exact .row q v hk h1 h2
  | wptr q size i off v hk h1 h2 => exact .wptr q size i off v hk h1 h2
  | func f k cs vs hl h => simp [noSlC] at hs
  | agg cs vs hl h => simp [noSlC] at hs
  | tup cs vs hl h => simp [noSlC] at hs
theorem den_bare1 {c : Cx} {s : SV} {v : Value} (h : Den c s v) (hs : noSl1 s = true) : Den c.bare s v := by
  by_cases ha : ∃ cs, s = .agg cs
  · obtain ⟨cs, rfl⟩ := ha
    obtain ⟨vs, rfl, hl, hds⟩ := h.agg_inv
    exact .agg _ _ hl fun i s v h1 h2 => den_bareC (hds i s v h1 h2) (List.all_eq_true.1 hs s (List.mem_of_getElem? h1))
  · have : noSl1 s = noSlC s := by cases s <;> first | rfl | exact absurd ⟨_, rfl⟩ ha
    rw [this] at hs
    exact den_bareC h hs
theorem den_bare {c : Cx} {s : SV} {v : Value} (h : Den c s v) (hs : noSl s = true) : Den c.bare s v := by
  by_cases ha : ∃ cs, s = .tup cs
  · obtain ⟨cs, rfl⟩ := ha
    obtain ⟨vs, rfl, hl, hds⟩ := h.tup_inv
    exact .tup _ _ hl fun i s v h1 h2 => den_bare1 (hds i s v h1 h2) (List.all_eq_true.1 hs s (List.mem_of_getElem? h1))
  · have : noSl s = noSl1 s := by cases s <;> first | rfl | exact absurd ⟨_, rfl⟩ ha
    rw [this] at hs
    exact den_bare1 h hs
theorem ent_bare {c : Cx} {id : Nat} {e : Ent} (h : EntOk c id e) (hs : noSlE e = true) : EntOk c.bare id e := by
  cases e with
  | blk cs =>
    obtain ⟨arr, et, h1, h2, h3⟩ := h
    refine ⟨arr, et, h1, h2, fun i s v hs' hv => ?_⟩
    obtain ⟨h4, h5⟩ := h3 i s v hs' hv
    exact ⟨den_bareC h4 (List.all_eq_true.1 hs s (List.mem_of_getElem? hs')), h5⟩
  | row nl fl size n cl =>
    have hs : flatN fl size = true := hs
    obtain ⟨hf, h1⟩ := h
    refine ⟨hf, ?_⟩
    rcases h1 with h1 | ⟨a, cap, arr, et, b, e, f, k, l⟩
    · exact .inl h1
    · refine .inr ⟨a, cap, arr, et, b, e, f, k, fun i j hi hj => ?_⟩
      obtain ⟨v, hv, hd⟩ := l i j hi hj
      exact ⟨v, hv, flat_denG hd (hf i j hi hj) (flatN_at hs hj)⟩
  | mp k hm gt => exact h
  | fm ik fl size hh ln gt hole =>
    have hs : flatN fl size = true := hs
    obtain ⟨h0, es, clock, X, h1, h2, h3⟩ := h
    exact ⟨h0, es, clock, X, h1, h2, h3.mono' (fun z i j v hck hj hd => flat_denG hd hck (flatN_at hs hj)) fun _ _ => rfl⟩
  | fx => cases hs
  | lp => cases hs
  | mx ik n ln gt => exact h
def srcId (T' : Tab) (L : List Nat) (nx id : Nat) : Option Nat :=
  match idxN L id 0 with
  | some i => some i
  | Option.none => if nx ≤ id ∧ (tget T' (L.length + (id - nx))).isSome = true then some (L.length + (id - nx)) else Option.none
def callUpd (T' : Tab) (L V : List Nat) (nx : Nat) (pure : Bool) : List (Nat × Option Ent) :=
  lowUpd T' (backN T' L nx) L 0 ++ newUpd L.length nx (backN T' L nx) T' ++ (bif pure then [] else V.map fun r => (r, Option.none))
open Classical in
noncomputable def Cx.back (c c' : Cx) (T' : Tab) (L V : List Nat) (nx : Nat) (pure : Bool) : Cx :=
  { b := fun id => match srcId T' L nx id with | some i => c'.b i | Option.none => c.b id
    o := fun id => match srcId T' L nx id with | some i => c'.o i | Option.none => c.o id
    u := fun id => match srcId T' L nx id with | some i => c'.u i | Option.none => c.u id
    en := fun id => upd c.en (callUpd T' L V nx pure) id
    K := fun id => c.K id ∨ id ∈ (callUpd T' L V nx pure).map (·.1)
    Z := fun k => c.Z k ∨ ((V = [] ∨ pure = false) ∧ c'.Z k)
    w := c'.w }
theorem mem_newUpd (k nx : Nat) (ν : Nat → Option Nat) (T : Tab) {i : Nat} {e : Ent} (h : (i, e) ∈ T) (hk : k ≤ i) : nx + (i - k) ∈ (newUpd k nx ν T).map (·.1) := by
  induction T with
  | nil => simp at h
  | cons p t ih =>
    obtain ⟨j, x⟩ := p
    simp only [newUpd]
    rcases List.mem_cons.1 h with h1 | h1
    · injection h1 with h1 h2
      subst h1
      have : Nat.blt i k = false := by cases hb : Nat.blt i k; rfl; rw [Nat.blt_eq] at hb; omega
      rw [this]
      simp
    · have := ih h1
      cases Nat.blt j k <;> simp only [cond_true, cond_false]
      · simp only [List.map_cons, List.mem_cons]; exact .inr this
      · exact this
section
variable {c c' : Cx} {T' : Tab} {L V : List Nat} {nx : Nat} {pure : Bool}
theorem new_key {i : Nat} {e : Ent} (h : tget T' i = some e) (hk : L.length ≤ i) : nx + (i - L.length) ∈ (callUpd T' L V nx pure).map (·.1) := by
  unfold callUpd
  simp only [List.map_append, List.mem_append]
  exact .inl (.inr (mem_newUpd _ _ _ _ (tget_mem h) hk))
theorem low_key {g : Nat} (h : g ∈ L) : g ∈ (callUpd T' L V nx pure).map (·.1) := by
  unfold callUpd
  simp only [List.map_append, List.mem_append, keys_lowUpd]
  exact .inl (.inl h)
structure Hyp (c : Cx) (T' : Tab) (L V : List Nat) (nx : Nat) (pure : Bool) : Prop where
  hn : L.Nodup
  hT : tabOk T' = true
  hVL : ∀ q ∈ V, q ∉ L
  hVn : ∀ q ∈ V, c.K q
  hL : ∀ g ∈ L, c.K g
  hfr : ∀ id, id ∈ (callUpd T' L V nx pure).map (·.1) → nx ≤ id → ¬ c.K id
theorem back_en (h : Hyp c T' L V nx pure) (id : Nat) :
    (∀ i, srcId T' L nx id = some i → (c.back c' T' L V nx pure).en id = (tget T' i).map (renE (backN T' L nx))) ∧
    (srcId T' L nx id = Option.none → (c.back c' T' L V nx pure).en id = if pure = false ∧ id ∈ V then Option.none else c.en id) := by
  have hdel : ∀ (en : Nat → Option Ent), upd en (bif pure then [] else V.map fun r => (r, Option.none)) id = if pure = false ∧ id ∈ V then Option.none else en id := by
    intro en
    cases pure with
    | true => simp [upd]
    | false => simp only [cond_false, upd_dels]; by_cases h : id ∈ V <;> simp [h]
  have hen : (c.back c' T' L V nx pure).en id = if pure = false ∧ id ∈ V then Option.none else (if nx ≤ id then (match tget T' (L.length + (id - nx)) with | some e => some (renE (backN T' L nx) e) | Option.none => (match idxN L id 0 with | some i => (tget T' i).map (renE (backN T' L nx)) | Option.none => c.en id)) else (match idxN L id 0 with | some i => (tget T' i).map (renE (backN T' L nx)) | Option.none => c.en id)) := by
    show upd c.en (callUpd T' L V nx pure) id = _
    unfold callUpd
    rw [upd_append, hdel, upd_append, upd_newUpd _ _ _ _ h.hT, upd_lowUpd _ _ _ h.hn]
    rfl
  have hkey : nx ≤ id → ∀ e, tget T' (L.length + (id - nx)) = some e → ¬ c.K id := fun hle e he => by
    refine h.hfr id ?_ hle
    have := new_key (L := L) (V := V) (nx := nx) (pure := pure) he (by omega)
    have e1 : nx + (L.length + (id - nx) - L.length) = id := by omega
    rwa [e1] at this
  rw [hen]
  unfold srcId
  cases hx : idxN L id 0 with
  | some i =>
    obtain ⟨_, hmem⟩ := idxN_spec L id 0 i hx
    have hin : id ∈ L := List.mem_of_getElem? hmem
    refine ⟨fun i' hi' => ?_, fun hc => (by cases hc)⟩
    injection hi' with hi'
    subst hi'
    rw [if_neg (fun hv => h.hVL id hv.2 hin)]
    split
    · rename_i hle
      cases he : tget T' (L.length + (id - nx)) with
      | none => rfl
      | some e => exact absurd (h.hL id hin) (hkey hle e he)
    · rfl
  | none =>
    simp only
    by_cases hc : nx ≤ id ∧ (tget T' (L.length + (id - nx))).isSome = true
    · rw [if_pos hc]
      refine ⟨fun i' hi' => ?_, fun hc => (by cases hc)⟩
      injection hi' with hi'
      subst hi'
      obtain ⟨e, he⟩ := Option.isSome_iff_exists.1 hc.2
      rw [if_neg (fun hv => hkey hc.1 e he (h.hVn id hv.2)), if_pos hc.1, he]
      rfl
    · rw [if_neg hc]
      refine ⟨fun i' hi' => (by cases hi'), fun _ => ?_⟩
      split
      · rfl
      · split
        · rename_i hle
          cases he : tget T' (L.length + (id - nx)) with
          | none => rfl
          | some e => exact absurd ⟨hle, by rw [he]; rfl⟩ hc
        · rfl
theorem src_back (h : Hyp c T' L V nx pure) {i g : Nat} (hi : backN T' L nx i = some g) : srcId T' L nx g = some i ∧ ∃ e, tget T' i = some e := by
  unfold backN at hi
  cases he : tget T' i with
  | none => rw [he] at hi; cases hi
  | some e =>
    rw [he] at hi
    simp only at hi
    refine ⟨?_, e, rfl⟩
    cases hb : Nat.blt i L.length <;> rw [hb] at hi <;> simp only [cond_true, cond_false] at hi
    · injection hi with hi
      subst hi
      have hge : L.length ≤ i := by
        rcases Nat.lt_or_ge i L.length with h | h
        · rw [← Nat.blt_eq] at h; rw [h] at hb; cases hb
        · exact h
      unfold srcId
      have hnk := h.hfr _ (new_key (L := L) (V := V) (nx := nx) (pure := pure) he hge) (by omega)
      have hnone : idxN L (nx + (i - L.length)) 0 = Option.none := by
        cases hx : idxN L (nx + (i - L.length)) 0 with
        | none => rfl
        | some j =>
          obtain ⟨_, hmem⟩ := idxN_spec L _ 0 j hx
          exact absurd (h.hL _ (List.mem_of_getElem? hmem)) hnk
      rw [hnone]
      have e1 : L.length + (i - L.length) = i := by omega
      simp [e1, he]
    · unfold srcId
      rw [idxN_of L h.hn g 0 i hi]
      simp
theorem src_spec {id i : Nat} (hs : srcId T' L nx id = some i) : (L[i]? = some id ∧ i < L.length) ∨ (L.length ≤ i ∧ nx ≤ id ∧ id = nx + (i - L.length) ∧ (tget T' i).isSome = true) := by
  unfold srcId at hs
  cases hx : idxN L id 0 with
  | some j =>
    rw [hx] at hs
    injection hs with hs
    subst hs
    obtain ⟨_, hmem⟩ := idxN_spec L id 0 j hx
    exact .inl ⟨by simpa using hmem, by simpa using (List.getElem?_eq_some_iff.1 hmem).1⟩
  | none =>
    rw [hx] at hs
    simp only at hs
    split at hs
    · rename_i hc
      injection hs with hs
      subst hs
      exact .inr ⟨by omega, hc.1, by omega, hc.2⟩
    · cases hs
theorem src_inj {id id' i : Nat} (h1 : srcId T' L nx id = some i) (h2 : srcId T' L nx id' = some i) : id = id' := by
  rcases src_spec h1 with ⟨a1, a2⟩ | ⟨a1, a2, a3, _⟩ <;> rcases src_spec h2 with ⟨b1, b2⟩ | ⟨b1, b2, b3, _⟩
  · rw [a1] at b1; injection b1
  · omega
  · omega
  · omega
theorem back_ok (h : Hyp c T' L V nx pure) (ho : HeapOk c) (hp : pure = true → V = [] ∨ ∀ i e, tget T' i = some e → noSlE e = true) (ho' : HeapOk c') (hen' : ∀ id, c'.en id = tget T' id) (ht : Trans (c.sub L V) c') :
    HeapOk (c.back c' T' L V nx pure) ∧ Trans c (c.back c' T' L V nx pure) ∧
    (∀ s v, Den c' s v → (V = [] ∨ pure = false ∨ noSl s = true) → Den (c.back c' T' L V nx pure) (ren (backN T' L nx) s) v) := by
  have sub_has : ∀ i e' k, (c.sub L V).en i = some e' → (c.sub L V).ow i e' k → ∃ g e, L[i]? = some g ∧ c.en g = some e ∧ c.ow g e k := by
    intro i e' k hi hh
    obtain ⟨g, e, hg, he, rfl, hb, _, hx⟩ := sub_en hi
    exact ⟨g, e, hg, he, ow_renE hb hx hh⟩
  have loc' : ∀ i e' k, tget T' i = some e' → c'.ow i e' k → c.w.heap.size ≤ k ∨ ∃ g e, g ∈ L ∧ c.en g = some e ∧ c.ow g e k := by
    intro i e' k hi hh
    rcases ht.loc i e' k ((hen' i).trans hi) hh with h1 | ⟨j, e0, hj, hhj⟩
    · exact .inl h1
    · obtain ⟨g, e, hg, he, hhe⟩ := sub_has j e0 k hj hhj
      exact .inr ⟨g, e, List.mem_of_getElem? hg, he, hhe⟩
  have keep' : ∀ k, k < c.w.heap.size → (∀ id e, c.en id = some e → ¬ c.ow id e k) → c'.w.heap[k]? = c.w.heap[k]? := by
    intro k hk hno
    refine ht.keep k hk fun i e' hi hh => ?_
    obtain ⟨g, e, _, he, hhe⟩ := sub_has i e' k hi hh
    exact hno g e he hhe
  have keepId : ∀ id e, c.en id = some e → id ∉ L → ∀ k, c.ow id e k → c'.w.heap[k]? = c.w.heap[k]? := by
    intro id e he hid k hh
    refine ht.keep _ ((ho.ents id e he).olt hh) fun i e' hi hh' => ?_
    obtain ⟨g, e2, hg, he2, hhe2⟩ := sub_has i e' k hi hh'
    have := ho.inj g id e2 e k he2 he hhe2 hh
    subst this
    exact hid (List.mem_of_getElem? hg)
  have old_en : ∀ id e', srcId T' L nx id = Option.none → (c.back c' T' L V nx pure).en id = some e' → c.en id = some e' ∧ id ∉ L ∧ ¬ (pure = false ∧ id ∈ V) := by
    intro id e' hs he
    rw [(back_en (c' := c') h id).2 hs] at he
    split at he
    · cases he
    · rename_i hc
      refine ⟨he, fun hin => ?_, hc⟩
      obtain ⟨j, hj⟩ := List.mem_iff_getElem?.1 hin
      unfold srcId at hs
      rw [idxN_of L h.hn id 0 j hj] at hs
      cases hs
  have new_en : ∀ id i e', srcId T' L nx id = some i → (c.back c' T' L V nx pure).en id = some e' → ∃ e, tget T' i = some e ∧ e' = renE (backN T' L nx) e := by
    intro id i e' hs he
    rw [(back_en (c' := c') h id).1 i hs, Option.map_eq_some_iff] at he
    obtain ⟨e, h1, h2⟩ := he
    exact ⟨e, h1, h2.symm⟩
  have bsrc : ∀ id i, srcId T' L nx id = some i → (c.back c' T' L V nx pure).b id = c'.b i ∧ (c.back c' T' L V nx pure).u id = c'.u i ∧ (c.back c' T' L V nx pure).o id = c'.o i := by
    intro id i hs; simp [Cx.back, hs]
  have bold : ∀ id, srcId T' L nx id = Option.none → (c.back c' T' L V nx pure).b id = c.b id ∧ (c.back c' T' L V nx pure).u id = c.u id ∧ (c.back c' T' L V nx pure).o id = c.o id := by
    intro id hs; simp [Cx.back, hs]
  have osrc : ∀ id i e k, srcId T' L nx id = some i → (c.back c' T' L V nx pure).ow id (renE (backN T' L nx) e) k → c'.ow i e k := fun id i e k hs h => ow_renE (bsrc id i hs).1 (bsrc id i hs).2.2 h
  have oold : ∀ id e k, srcId T' L nx id = Option.none → (c.back c' T' L V nx pure).ow id e k → c.ow id e k := by
    intro id e k hs h
    rcases h with ⟨h1, h2⟩ | ⟨h1, h2⟩
    · exact .inl ⟨h1, by rw [← (bold id hs).1]; exact h2⟩
    · exact .inr ⟨h1, by rw [← (bold id hs).2.2]; exact h2⟩
  have T : Trans c (c.back c' T' L V nx pure) :=
    { os := ht.os, tape := ht.tape, output := ht.output, size := ht.size
      kn := fun id hk => .inl hk
      zs := fun k hk => .inl hk
      znew := fun k hk => by
        rcases hk with hk | ⟨_, hk⟩
        · exact .inl hk
        · rcases ht.znew k hk with (h1 | ⟨q, e, _, he, hh⟩) | h1 | ⟨i, e', hi, hh⟩
          · exact .inl h1
          · exact .inr (.inr ⟨q, e, he, hh⟩)
          · exact .inr (.inl h1)
          · obtain ⟨g, e, _, he, hhe⟩ := sub_has i e' k hi hh
            exact .inr (.inr ⟨g, e, he, hhe⟩)
      keep := keep'
      old := fun id e' he' => by
        cases hs : srcId T' L nx id with
        | none =>
          obtain ⟨h1, _, _⟩ := old_en id e' hs he'
          exact .inl ⟨e', h1, (bold id hs).1, (bold id hs).2.1, rfl, by rw [(bold id hs).2.2]⟩
        | some i =>
          obtain ⟨e, h1, rfl⟩ := new_en id i e' hs he'
          rcases src_spec hs with ⟨a1, a2⟩ | ⟨a1, a2, a3, a4⟩
          · rcases ht.old i e ((hen' i).trans h1) with ⟨e0, he0, hb0, hu0, hs0, hy0⟩ | hnk
            · obtain ⟨g, e1, hg, he1, rfl, hb1, hu1, hx1⟩ := sub_en he0
              rw [a1] at hg
              injection hg with hg
              subst hg
              exact .inl ⟨e1, he1, by rw [(bsrc id i hs).1, hb0, hb1], by rw [(bsrc id i hs).2.1, hu0, hu1], by rw [shape_renE, hs0, shape_renE], by rw [(bsrc id i hs).2.2, hy0, hx1]⟩
            · exact absurd a2 hnk
          · refine .inr (h.hfr id ?_ a2)
            rw [a3]
            exact new_key h1 a1
      loc := fun id e' k he' hh' => by
        cases hs : srcId T' L nx id with
        | none =>
          obtain ⟨h1, _, _⟩ := old_en id e' hs he'
          exact .inr ⟨id, e', h1, oold id e' k hs hh'⟩
        | some i =>
          obtain ⟨e, h1, rfl⟩ := new_en id i e' hs he'
          rcases loc' i e k h1 (osrc id i e k hs hh') with h2 | ⟨g, e0, _, he0, hh0⟩
          · exact .inl h2
          · exact .inr ⟨g, e0, he0, hh0⟩ }
  -- the callee's context, its stable blocks left out where they do not come along
  have hq : ∃ d : Cx, (∀ s v, Den c' s v → (V = [] ∨ pure = false ∨ noSl s = true) → Den d s v) ∧ (∀ i e, tget T' i = some e → EntOk d i e) ∧ Ren d (c.back c' T' L V nx pure) (backN T' L nx) ∧ (∀ i, d.b i = c'.b i ∧ d.u i = c'.u i ∧ d.o i = c'.o i) ∧ d.w = c'.w := by
    have mk : ∀ (Z : Nat → Prop), (∀ k, Z k → (c.back c' T' L V nx pure).Z k) → Ren { c' with Z := Z } (c.back c' T' L V nx pure) (backN T' L nx) := fun Z hZ =>
      { zs := hZ
        w := fun _ _ => rfl
        K := fun i g hi _ => by
          obtain ⟨h1, e, h2⟩ := src_back h hi
          rcases src_spec h1 with ⟨a1, a2⟩ | ⟨a1, a2, a3, a4⟩
          · exact .inr (low_key (List.mem_of_getElem? a1))
          · right
            rw [a3]
            exact new_key h2 a1
        b := fun i g hi => ⟨(bsrc g i (src_back h hi).1).1, (bsrc g i (src_back h hi).1).2.1⟩
        en := fun i g e' hi he' => by
          obtain ⟨h1, e, h2⟩ := src_back h hi
          obtain ⟨e0, h3, rfl⟩ := new_en g i e' h1 he'
          exact ⟨e0, (hen' i).trans h3, shape_renE _ _, by rw [(bsrc g i h1).2.2]⟩ }
    by_cases hV : V = [] ∨ pure = false
    · exact ⟨{ c' with Z := c'.Z }, fun s v hd _ => hd, fun i e hi => ho'.ents i e ((hen' i).trans hi), mk c'.Z (fun k hk => .inr ⟨hV, hk⟩), fun _ => ⟨rfl, rfl, rfl⟩, rfl⟩
    · have hpt : pure = true := by cases pure with
        | true => rfl
        | false => exact absurd (.inr rfl) hV
      refine ⟨c'.bare, fun s v hd hs => den_bare hd ?_, fun i e hi => ent_bare (ho'.ents i e ((hen' i).trans hi)) ?_, mk _ (fun k hk => hk.elim), fun _ => ⟨rfl, rfl, rfl⟩, rfl⟩
      · rcases hs with h1 | h1 | h1
        · exact absurd (.inl h1) hV
        · exact absurd (.inr h1) hV
        · exact h1
      · rcases hp hpt with h1 | h1
        · exact absurd (.inl h1) hV
        · exact h1 i e hi
  obtain ⟨d, hd1, hd2, hd3, hd4, hd5⟩ := hq
  refine ⟨⟨fun id e' he' => ?_, fun id e' he' => ?_, fun id id' e e' k h1 h2 hh1 hh2 => ?_, fun k hk => ?_, fun k hk id e' he' hh' => ?_, T.gls ho⟩, T, fun s v hd hs => den_ren hd3 (hd1 s v hd hs)⟩
  · cases hs : srcId T' L nx id with
    | none => exact .inl (ho.lt id e' (old_en id e' hs he').1)
    | some i =>
      obtain ⟨e, h1, rfl⟩ := new_en id i e' hs he'
      rcases src_spec hs with ⟨a1, a2⟩ | ⟨a1, a2, a3, a4⟩
      · exact .inr (low_key (List.mem_of_getElem? a1))
      · right
        rw [a3]
        exact new_key h1 a1
  · cases hs : srcId T' L nx id with
    | none =>
      obtain ⟨h1, h2, _⟩ := old_en id e' hs he'
      exact (ho.ents id e' h1).trans T ho (bold id hs).1 (bold id hs).2.1 (bold id hs).2.2 (keepId id e' h1 h2)
    | some i =>
      obtain ⟨e, h1, rfl⟩ := new_en id i e' hs he'
      exact ent_ren hd3 (hd2 i e h1) (by rw [(bsrc id i hs).1, (hd4 i).1]) (by rw [(bsrc id i hs).2.1, (hd4 i).2.1]) (by rw [(bsrc id i hs).2.2, (hd4 i).2.2]) (fun _ _ => by rw [hd5]; rfl)
  · have cross : ∀ id' i e e0, tget T' i = some e → c'.ow i e k → c.en id' = some e0 → c.ow id' e0 k → id' ∉ L → False := by
      intro id' i e e0 hi hh he0 hh0 hid'
      rcases loc' i e k hi hh with h3 | ⟨g, e1, hg, he1, hh1⟩
      · have := (ho.ents id' e0 he0).olt hh0
        omega
      · have := ho.inj g id' e1 e0 k he1 he0 hh1 hh0
        subst this
        exact hid' hg
    cases hs : srcId T' L nx id with
    | none =>
      obtain ⟨a1, a2, _⟩ := old_en id e hs h1
      cases hs' : srcId T' L nx id' with
      | none =>
        obtain ⟨b1, b2, _⟩ := old_en id' e' hs' h2
        exact ho.inj id id' e e' k a1 b1 (oold _ _ _ hs hh1) (oold _ _ _ hs' hh2)
      | some j =>
        obtain ⟨e0, b1, rfl⟩ := new_en id' j e' hs' h2
        exact (cross id j e0 e b1 (osrc _ _ _ _ hs' hh2) a1 (oold _ _ _ hs hh1) a2).elim
    | some i =>
      obtain ⟨e0, a1, rfl⟩ := new_en id i e hs h1
      cases hs' : srcId T' L nx id' with
      | none =>
        obtain ⟨b1, b2, _⟩ := old_en id' e' hs' h2
        exact (cross id' i e0 e' a1 (osrc _ _ _ _ hs hh1) b1 (oold _ _ _ hs' hh2) b2).elim
      | some j =>
        obtain ⟨e1, b1, rfl⟩ := new_en id' j e' hs' h2
        have := ho'.inj i j e0 e1 k ((hen' i).trans a1) ((hen' j).trans b1) (osrc _ _ _ _ hs hh1) (osrc _ _ _ _ hs' hh2)
        subst this
        exact src_inj hs hs'
  · rcases hk with hk | ⟨_, hk⟩
    · exact Nat.lt_of_lt_of_le (ho.zlt k hk) ht.size
    · exact ho'.zlt k hk
  · cases hs : srcId T' L nx id with
    | none =>
      obtain ⟨a1, a2, a3⟩ := old_en id e' hs he'
      have hh := oold _ _ _ hs hh'
      rcases hk with hk | ⟨hq, hk⟩
      · exact ho.zno k hk id e' a1 hh
      · have hlt := (ho.ents id e' a1).olt hh
        rcases ht.znew k hk with (h1 | ⟨q, e, hqV, he, hq1⟩) | h1 | ⟨i, e0, hi, hi1⟩
        · exact ho.zno k h1 id e' a1 hh
        · have := ho.inj q id e e' k he a1 hq1 hh
          subst this
          rcases hq with hq | hq
          · rw [hq] at hqV; simp at hqV
          · exact a3 ⟨hq, hqV⟩
        · have h1 : c.w.heap.size ≤ k := h1
          omega
        · obtain ⟨g, e, hg, he, hhe⟩ := sub_has i e0 k hi hi1
          have := ho.inj g id e e' k he a1 hhe hh
          subst this
          exact a2 (List.mem_of_getElem? hg)
    | some i =>
      obtain ⟨e, a1, rfl⟩ := new_en id i e' hs he'
      have hh := osrc _ _ _ _ hs hh'
      rcases hk with hk | ⟨_, hk⟩
      · have hlt := ho.zlt k hk
        rcases loc' i e k a1 hh with h1 | ⟨g, e1, _, he1, hh1⟩
        · omega
        · exact ho.zno k hk g e1 he1 hh1
      · exact ho'.zno k hk i e ((hen' i).trans a1) hh
end
section
variable {P : Program} {Θ : Tys} {R : Type} {cal : Cal R} {r : R} {kf : Delta → Option R} {o : Oper} {S : St}
theorem viewC_congr {en en' : Nat → Option Ent} {L : List Nat} {s : SV} (h : ∀ q, s = .row q → memN L q = false → en q = en' q) : viewC en L s = viewC en' L s := by
  cases s with
  | row q =>
    simp only [viewC]
    cases hm : memN L q with
    | true => rfl
    | false => simp only [cond_false]; rw [h q rfl hm]
  | sl k fl size n cl => cases k <;> rfl
  | _ => rfl
theorem rowsC_row {L : List Nat} {cs : List SV} {q : Nat} (h : q ∈ cs.flatMap (rowsC L)) : SV.row q ∈ cs ∧ memN L q = false := by
  rw [List.mem_flatMap] at h
  obtain ⟨s, hs, hq⟩ := h
  cases s <;> simp only [rowsC, List.not_mem_nil] at hq
  rename_i q'
  cases hm : memN L q' <;> rw [hm] at hq <;> simp at hq
  subst hq
  exact ⟨hs, hm⟩
theorem viewL_congr {en en' : Nat → Option Ent} {L : List Nat} {cs : List SV} (h : ∀ q ∈ cs.flatMap (rowsC L), en q = en' q) : cs.map (viewC en L) = cs.map (viewC en' L) :=
  List.map_congr_left fun s hs => viewC_congr fun q hq hm => h q (mem_rowsC (by rw [← hq]; exact hs) hm)
theorem view1_congr {ro : Bool} {en en' : Nat → Option Ent} {L : List Nat} {s : SV} (h : ∀ q ∈ viewIds ro en' L s, en q = en' q) : view1 ro en L s = view1 ro en' L s := by
  cases s with
  | agg cs => simp only [view1]; rw [viewL_congr h]
  | row q => exact viewC_congr (s := .row q) fun q' hq hm => h q' (by injection hq with hq; subst hq; simp [viewIds, hm])
  | sl k fl size n cl => cases k <;> rfl
  | ptr g off =>
    simp only [view1]
    cases hro : (ro && !(memN L g)) with
    | false => rfl
    | true =>
      simp only [viewIds, hro, cond_true] at h
      simp only [cond_true, viewP]
      have hg : en g = en' g := h g (by split <;> simp)
      rw [hg]
      cases he : en' g with
      | none => rfl
      | some e =>
        cases e with
        | row nl fl size n cl => rfl
        | mp k hs gt => rfl
        | fm => rfl
        | fx => rfl
        | lp => rfl
        | mx => rfl
        | blk cs =>
          simp only
          rw [viewL_congr fun q hq => h q (by rw [he]; simp only [List.mem_cons]; exact .inr hq)]
  | _ => rfl
theorem viewIds_congr {ro : Bool} {en en' : Nat → Option Ent} {L : List Nat} {s : SV} (h : ∀ q ∈ viewIds ro en' L s, en q = en' q) : viewIds ro en L s = viewIds ro en' L s := by
  cases s with
  | ptr g off =>
    simp only [viewIds]
    cases hro : (ro && !(memN L g)) with
    | false => rfl
    | true =>
      simp only [viewIds, hro, cond_true] at h
      simp only [cond_true]
      rw [h g (by split <;> simp)]
  | _ => rfl
theorem viewIds_k {ro : Bool} {c : Cx} {L : List Nat} {s : SV} {v : Value} (ho : HeapOk c) (hd : Den c s v) : ∀ q ∈ viewIds ro c.en L s, c.K q ∧ q ∉ L := by
  intro q hq
  have hnm : ∀ q', memN L q' = false → q' ∉ L := fun q' h1 h2 => by rw [← memN_iff] at h2; rw [h2] at h1; cases h1
  cases s with
  | row q' =>
    simp only [viewIds] at hq
    cases hm : memN L q' <;> rw [hm] at hq <;> simp at hq
    subst hq
    exact ⟨hd.row_k, hnm q hm⟩
  | agg cs =>
    obtain ⟨hs', hm⟩ := rowsC_row hq
    obtain ⟨vs, _, hl, hds⟩ := hd.agg_inv
    obtain ⟨i, hi⟩ := List.mem_iff_getElem?.1 hs'
    have hlt : i < vs.length := by rw [← hl]; exact (List.getElem?_eq_some_iff.1 hi).1
    exact ⟨(hds i _ _ hi (List.getElem?_eq_getElem hlt)).row_k, hnm q hm⟩
  | ptr g off =>
    simp only [viewIds] at hq
    cases hro : (ro && !(memN L g)) with
    | false => rw [hro] at hq; simp at hq
    | true =>
      rw [hro] at hq
      simp only [cond_true] at hq
      have hmg : memN L g = false := by
        rw [Bool.and_eq_true] at hro
        simpa using hro.2
      have hfst : c.K g ∧ g ∉ L := ⟨hd.ptr_k, hnm g hmg⟩
      cases he : c.en g with
      | none => rw [he] at hq; simp at hq; subst hq; exact hfst
      | some e =>
        cases e with
        | row nl fl size n cl => rw [he] at hq; simp at hq; subst hq; exact hfst
        | mp k hs gt => rw [he] at hq; simp at hq; subst hq; exact hfst
        | fm => rw [he] at hq; simp at hq; subst hq; exact hfst
        | fx => rw [he] at hq; simp at hq; subst hq; exact hfst
        | lp => rw [he] at hq; simp at hq; subst hq; exact hfst
        | mx => rw [he] at hq; simp at hq; subst hq; exact hfst
        | blk cs =>
          rw [he] at hq
          simp only [List.mem_cons] at hq
          rcases hq with rfl | hq
          · exact hfst
          · obtain ⟨hs', hm⟩ := rowsC_row hq
            obtain ⟨arr, et, h1, h2, h3⟩ := ho.ents g _ he
            obtain ⟨i, hi⟩ := List.mem_iff_getElem?.1 hs'
            have hlt : i < arr.size := by rw [h2]; exact (List.getElem?_eq_some_iff.1 hi).1
            exact ⟨(h3 i _ _ hi (Array.getElem?_eq_getElem hlt)).1.row_k, hnm q hm⟩
  | _ => simp [viewIds] at hq
theorem reach_alive {low : Nat → Bool} {t : Tab} {n : Nat} {l acc : List Nat} (hacc : ∀ g ∈ acc, ∃ e, tget t g = some e) : ∀ g ∈ reach low t n l acc, ∃ e, tget t g = some e := by
  induction n generalizing l acc with
  | zero => simpa [reach] using hacc
  | succ n ih =>
    cases l with
    | nil => simpa [reach] using hacc
    | cons a l =>
      simp only [reach]
      cases hb : (low a || memN acc a) with
      | true => simp only [cond_true]; exact ih hacc
      | false =>
        simp only [cond_false]
        cases ha : tget t a with
        | none => exact ih hacc
        | some e =>
          refine ih fun g hg => ?_
          rcases List.mem_append.1 hg with h1 | h1
          · exact hacc g h1
          · simp at h1; subst h1; exact ⟨e, ha⟩
theorem noSlE_all {T : Tab} (h : T.all (fun p => noSlE p.2) = true) : ∀ i e, tget T i = some e → noSlE e = true := fun i e hi => List.all_eq_true.1 h (i, e) (tget_mem hi)
theorem DenL.app {c : Cx} {l l' : List SV} {vs vs' : List Value} (h : DenL c l vs) (h' : DenL c l' vs') : DenL c (l ++ l') (vs ++ vs') := by
  refine ⟨by simp [h.1, h'.1], fun i s v hs hv => ?_⟩
  rw [List.getElem?_append] at hs hv
  rw [← h.1] at hv
  split at hs
  · rename_i hi
    rw [if_pos hi] at hv
    exact h.2 i s v hs hv
  · rename_i hi
    rw [if_neg hi] at hv
    exact h'.2 _ s v hs hv
theorem DenL.take {c : Cx} {l : List SV} {vs : List Value} (h : DenL c l vs) (k : Nat) : DenL c (l.take k) (vs.take k) := by
  refine ⟨by simp [h.1], fun i s v hs hv => ?_⟩
  rw [List.getElem?_take] at hs hv
  split at hs
  · rename_i hi
    rw [if_pos hi] at hv
    exact h.2 i s v hs hv
  · cases hs
theorem DenL.drop {c : Cx} {l : List SV} {vs : List Value} (h : DenL c l vs) (k : Nat) : DenL c (l.drop k) (vs.drop k) := by
  refine ⟨by simp [h.1], fun i s v hs hv => ?_⟩
  rw [List.getElem?_drop] at hs hv
  exact h.2 _ s v hs hv
theorem call_ok (hcal : CalOk P cal) {fx : Operand} {args : Array Operand} {ts : Array TypeId} (hop : o.op = .call ⟨.value fx, args, ts⟩) (h : opK Θ cal o S kf = some r) :
    ∃ δ, kf δ = some r ∧ Local P o (lget S.tmps) (tget S.tab) S.nx δ := by
  simp only [opK, hop] at h
  cases hf : ev Θ 0 (lget S.tmps) fx <;> rw [hf] at h <;> simp only [reduceCtorEq] at h
  rename_i f k caps
  cases hlen : (args.toList.length == ts.toList.length && (bif k == yK then Nat.ble yK f && (Nat.ble caps.length yK && args.toList.length == 1) else Nat.blt f yK)) <;> rw [hlen] at h <;> simp only [cond_true, cond_false, reduceCtorEq] at h
  rw [Bool.and_eq_true] at hlen
  have hyk := hlen.2
  have hlen : args.toList.length = ts.toList.length := by simpa using hlen.1
  simp only [callK] at h
  generalize hA : caps.take k ++ ((args.toList.zip ts.toList).map (fun (x, t) => ev Θ t (lget S.tmps) x) ++ caps.drop k) = A at h
  generalize hL : reach (fun _ => false) S.tab 1000 (A.flatMap (ptrIds (cal.ro f) (cal.own f))) [] = L at h
  generalize hV : A.flatMap (viewIds (cal.ro f) (tget S.tab) L) = V at h
  cases hn : nodupN L <;> rw [hn] at h <;> simp only [cond_true, cond_false, reduceCtorEq] at h
  have hn := nodupN_iff L hn
  obtain ⟨res, T', hFA, hk⟩ := hcal _ _ _ _ _ _ h
  simp only at hk
  cases hb : (idsBelow (T'.length + L.length) T' && tabOk T') <;> rw [hb] at hk <;> simp only [cond_true, cond_false, reduceCtorEq] at hk
  rw [Bool.and_eq_true] at hb
  obtain ⟨hb1, hb2⟩ := hb
  have hLal : ∀ g ∈ L, ∃ e, tget S.tab g = some e := by rw [← hL]; exact reach_alive (by simp)
  refine ⟨_, hk, ⟨fun id hid => ?_, Nat.le_add_right _ _⟩, fun c a p => ?_⟩
  · simp only [List.map_append, List.mem_append, keys_lowUpd] at hid
    rcases hid with (h1 | h1) | h1
    · exact .inl (by simp [h1])
    · obtain ⟨i, e, h2, h3, h4⟩ := keys_newUpd _ _ _ _ id h1
      have := idsBelow_lt hb1 i e (tabOk_mem hb2 h2)
      exact .inr ⟨by omega, by simp only; omega⟩
    · cases hp : pureOk V res T' <;> rw [hp] at h1 <;> simp at h1
      exact .inl (by simp [h1])
  · -- the arguments
    have hfx : fx ∈ o.op.operands.toList := by simp [hop, Op.operands, Call.operands]
    have hargs : ∀ x ∈ args.toList, x ∈ o.op.operands.toList := fun x hx => by simp only [hop, Op.operands, Call.operands, Array.toList_append, List.mem_append]; exact .inr hx
    have hdf := opd (Θ := Θ) p 0 fx hfx
    rw [hf] at hdf
    obtain ⟨cv, hfv, hlink, hcl, hcd⟩ := hdf.func_inv
    have hcap : DenL c caps cv := ⟨hcl, hcd⟩
    have hmid : DenL c ((args.toList.zip ts.toList).map (fun (x, t) => ev Θ t (lget S.tmps) x)) (args.toList.map a.eval) := by
      refine ⟨by simp [← hlen], fun i s v hs hv => ?_⟩
      simp only [List.getElem?_map, Option.map_eq_some_iff] at hs hv
      obtain ⟨⟨x, t⟩, hx, rfl⟩ := hs
      obtain ⟨x', hx', rfl⟩ := hv
      rw [List.getElem?_zip_eq_some] at hx
      rw [hx.1] at hx'
      injection hx' with hx'
      subst hx'
      exact opd p t x (hargs x (List.mem_of_getElem? hx.1))
    have hden : DenL c A (cv.take k ++ (args.toList.map a.eval ++ cv.drop k)) := by
      rw [← hA]
      exact (hcap.take k).app (hmid.app (hcap.drop k))
    have hcen : ∀ id, id ∈ L ∨ id ∈ V → c.en id = tget S.tab id := fun id hid => p.rd id (by simpa using hid)
    have hsV : ∀ s' ∈ A, ∀ q ∈ viewIds (cal.ro f) (tget S.tab) L s', q ∈ V := fun s' hs' q hq => by rw [← hV, List.mem_flatMap]; exact ⟨s', hs', hq⟩
    have hcg : ∀ s' ∈ A, viewIds (cal.ro f) c.en L s' = viewIds (cal.ro f) (tget S.tab) L s' := fun s' hs' => viewIds_congr fun q hq => hcen q (.inr (hsV s' hs' q hq))
    have hVk : ∀ q ∈ V, c.K q ∧ q ∉ L := fun q hq => by
      rw [← hV, List.mem_flatMap] at hq
      obtain ⟨s, hs, hq⟩ := hq
      obtain ⟨i, hi⟩ := List.mem_iff_getElem?.1 hs
      have hlt : i < (cv.take k ++ (args.toList.map a.eval ++ cv.drop k)).length := by rw [← hden.1]; exact (List.getElem?_eq_some_iff.1 hi).1
      exact viewIds_k (ro := cal.ro f) p.ho (hden.2 i s _ hi (List.getElem?_eq_getElem hlt)) q (by rw [hcg s hs]; exact hq)
    have hyp : Hyp c T' L V S.nx (pureOk V res T') :=
      { hn := hn, hT := hb2, hVL := fun q hq => (hVk q hq).2, hVn := fun q hq => (hVk q hq).1
        hL := fun g hg => by
          obtain ⟨e, he⟩ := hLal g hg
          exact p.ho.lt g e ((hcen g (.inl hg)).trans he)
        hfr := p.fresh }
    intro Kt Q hKt
    have hen1 : ∀ i, (c.sub L V).en i = tget (keepOrd S.tab (idxN L · 0) L 0) i := fun i => by
      rw [tget_keepOrd, if_pos (Nat.zero_le _)]
      simp only [Cx.sub, Nat.sub_zero]
      cases hg : L[i]? with
      | none => rfl
      | some g => simp only; rw [hcen g (.inl (List.mem_of_getElem? hg))]
    have hdl : DenL (c.sub L V) (A.map fun a => ren (idxN L · 0) (view1 (cal.ro f) (tget S.tab) L a)) (cv.take k ++ (args.toList.map a.eval ++ cv.drop k)) := by
      refine ⟨by simpa using hden.1, fun i s v hs hv => ?_⟩
      simp only [List.getElem?_map, Option.map_eq_some_iff] at hs
      obtain ⟨s', hs', rfl⟩ := hs
      have hmem := List.mem_of_getElem? hs'
      rw [← view1_congr (en := c.en) (fun q hq => hcen q (.inr (hsV s' hmem q hq)))]
      exact den_view p.ho (hden.2 i s' v hs' hv) (fun q hq => hsV s' hmem q (by rw [← hcg s' hmem]; exact hq))
    have hfin : ∀ (e : Ending) (w' : World), (∃ v c', e = .returned v ∧ c'.w = w' ∧ (∀ id, c'.en id = tget T' id) ∧ HeapOk c' ∧ Den c' res v ∧ Trans (c.sub L V) c') → ∃ v, e = .returned v ∧ Kt (a.put o.dst v) w' := by
      rintro e w' ⟨v, c', rfl, rfl, hen', ho', hres, ht⟩
      have hpure : pureOk V res T' = true → V = [] ∨ (noSl res = true ∧ ∀ i e, tget T' i = some e → noSlE e = true) := fun hp => by
        cases V with
        | nil => exact .inl rfl
        | cons q V =>
          simp only [pureOk, Bool.and_eq_true] at hp
          exact .inr ⟨hp.1, noSlE_all hp.2⟩
      obtain ⟨k1, k2, k3⟩ := back_ok hyp p.ho (fun hp => (hpure hp).imp id (·.2)) ho' hen' ht
      refine ⟨v, rfl, hKt v (c.back c' T' L V S.nx (pureOk V res T')) (k3 res v hres ?_) k1 (fun _ => rfl) (fun _ => Iff.rfl) k2⟩
      cases hp : pureOk V res T' with
      | false => exact .inr (.inl rfl)
      | true =>
        rcases hpure hp with h1 | h1
        · exact .inl h1
        · exact .inr (.inr h1.1)
    rcases hFA with ⟨⟨hflt, fn, hfn, hbody, hname⟩, hok⟩ | ⟨hfge, hok⟩
    · have hkn : k ≠ yK := fun e => by
        rw [e, beq_self_eq_true] at hyk
        simp only [cond_true, Bool.and_eq_true, Nat.ble_eq] at hyk
        exact absurd hyk.1 (Nat.not_le_of_lt hflt)
      rw [fnVal_lt hkn] at hfv
      have hrun : (execOp a.eval o).run P c.w = .ok (.enter f (cv.take k ++ (args.toList.map a.eval ++ cv.drop k)).toArray) c.w := by
        have e1 : ((cv.take k).toArray ++ args.map a.eval) ++ (cv.drop k).toArray = (cv.take k ++ (args.toList.map a.eval ++ cv.drop k)).toArray := by
          obtain ⟨l⟩ := args
          simp
        have hnone : fn.body.isNone = false := by cases hb : fn.body; rw [hb] at hbody; cases hbody; rfl
        simp only [execOp, hop, resolve, hfv, Deferred.ofValue, invoke, callFunc, Sem.run_bind, Sem.run_pure, Result.andThen_ok, run_program, hfn, hname, hnone, Bool.false_eq_true, if_false, e1]
      exact opA_enter hrun ((hok (c.sub L V) _ hen1 (fun i => Iff.rfl) (sub_ok p.ho hn (fun q hq => (hVk q hq).2)) hdl).mono hfin)
    · have hke : k = yK := by
        by_cases e : k = yK
        · exact e
        · have : (k == yK) = false := by simpa using e
          rw [this] at hyk
          simp only [cond_false, Nat.blt_eq] at hyk
          exact absurd hfge (Nat.not_le_of_lt hyk)
      subst hke
      rw [beq_self_eq_true] at hyk
      simp only [cond_true, Bool.and_eq_true, Nat.ble_eq, beq_iff_eq] at hyk
      obtain ⟨_, hcap2, har⟩ := hyk
      obtain ⟨l, hhd, hfv2⟩ := fnVal_yield (f := f) hlink
      rw [hfv2] at hfv
      obtain ⟨x, hx⟩ : ∃ x, args = #[x] := by
        obtain ⟨la⟩ := args
        simp only at har
        match la, har with
        | [x], _ => exact ⟨x, rfl⟩
      subst hx
      have hvs : cv.take yK ++ (#[x].toList.map a.eval ++ cv.drop yK) = .func (.yield l) (cv.drop 1).toArray #[] :: (cv.drop 1 ++ [a.eval x]) := by
        have hcl2 : cv.length ≤ yK := by rw [← hcl]; exact hcap2
        rw [List.take_of_length_le hcl2, List.drop_eq_nil_of_le hcl2]
        cases cv with
        | nil => cases hhd
        | cons v cv =>
          simp only [List.head?_cons, Option.some.injEq] at hhd
          rw [hhd]
          simp
      obtain ⟨fn, tmps, asg, body, hy, hR⟩ := hok (c.sub L V) _ hen1 (fun i => Iff.rfl) (sub_ok p.ho hn (fun q hq => (hVk q hq).2)) hdl l (cv.drop 1) (a.eval x) hvs
      have hrun : (execOp a.eval o).run P c.w = .ok (.round l fn tmps asg body) c.w := by
        have hy : (Instr.yield l #[a.eval x]).run P c.w = .ok (.round l fn tmps asg body) c.w := hy
        simp [execOp, hop, resolve, hfv, Deferred.ofValue, invoke, Sem.run_bind, Sem.run_pure, Result.andThen_ok, hy]
      exact opA_round hrun fun ro => (hR ro).mono hfin
theorem callK_sem (hcal : CalOk P cal) {f : FuncId} {A : List SV} {S : St} {kf : Delta → Option R} (h : callK cal f A S.tab S.nx kf = some r) :
    ∃ δ, kf δ = some r ∧ Ids S.nx δ ∧ (Nat.blt f yK = true → ∀ (c : Cx) (vals : List Value), HeapOk c → (∀ id, c.en id = tget S.tab id) → (∀ id, c.K id → id < S.nx) → DenL c A vals →
      (∃ fn, P.funcs[f]? = some fn ∧ fn.body.isSome = true ∧ (fn.name == "runtime.NumGoroutine") = false) ∧
      Calls P f vals.toArray c.w fun e w' => ∃ v c', e = .returned v ∧ c'.w = w' ∧ Den c' δ.v v ∧ HeapOk c' ∧ (∀ id, c'.en id = upd c.en δ.upd id) ∧ (∀ id, c'.K id ↔ c.K id ∨ id ∈ δ.upd.map (·.1)) ∧ Trans c c') := by
  simp only [callK] at h
  generalize hL : reach (fun _ => false) S.tab 1000 (A.flatMap (ptrIds (cal.ro f) (cal.own f))) [] = L at h
  generalize hV : A.flatMap (viewIds (cal.ro f) (tget S.tab) L) = V at h
  cases hn : nodupN L <;> rw [hn] at h <;> simp only [cond_true, cond_false, reduceCtorEq] at h
  have hn := nodupN_iff L hn
  obtain ⟨res, T', hFA, hk⟩ := hcal _ _ _ _ _ _ h
  simp only at hk
  cases hb : (idsBelow (T'.length + L.length) T' && tabOk T') <;> rw [hb] at hk <;> simp only [cond_true, cond_false, reduceCtorEq] at hk
  rw [Bool.and_eq_true] at hb
  obtain ⟨hb1, hb2⟩ := hb
  have hLal : ∀ g ∈ L, ∃ e, tget S.tab g = some e := by rw [← hL]; exact reach_alive (by simp)
  refine ⟨_, hk, ⟨fun id hid => ?_, Nat.le_add_right _ _⟩, fun hfy c vals ho hcen0 hcK hden => ?_⟩
  · simp only [List.map_append, List.mem_append, keys_lowUpd] at hid
    rcases hid with (h1 | h1) | h1
    · exact .inl (by simp [h1])
    · obtain ⟨i, e, h2, h3, h4⟩ := keys_newUpd _ _ _ _ id h1
      have := idsBelow_lt hb1 i e (tabOk_mem hb2 h2)
      exact .inr ⟨by omega, by simp only; omega⟩
    · cases hp : pureOk V res T' <;> rw [hp] at h1 <;> simp at h1
      exact .inl (by simp [h1])
  · have hcen : ∀ id, id ∈ L ∨ id ∈ V → c.en id = tget S.tab id := fun id _ => hcen0 id
    have hsV : ∀ s' ∈ A, ∀ q ∈ viewIds (cal.ro f) (tget S.tab) L s', q ∈ V := fun s' hs' q hq => by rw [← hV, List.mem_flatMap]; exact ⟨s', hs', hq⟩
    have hcg : ∀ s' ∈ A, viewIds (cal.ro f) c.en L s' = viewIds (cal.ro f) (tget S.tab) L s' := fun s' hs' => viewIds_congr fun q hq => hcen q (.inr (hsV s' hs' q hq))
    have hVk : ∀ q ∈ V, c.K q ∧ q ∉ L := fun q hq => by
      rw [← hV, List.mem_flatMap] at hq
      obtain ⟨s, hs, hq⟩ := hq
      obtain ⟨i, hi⟩ := List.mem_iff_getElem?.1 hs
      have hlt : i < vals.length := by rw [← hden.1]; exact (List.getElem?_eq_some_iff.1 hi).1
      exact viewIds_k (ro := cal.ro f) ho (hden.2 i s _ hi (List.getElem?_eq_getElem hlt)) q (by rw [hcg s hs]; exact hq)
    have hyp : Hyp c T' L V S.nx (pureOk V res T') :=
      { hn := hn, hT := hb2, hVL := fun q hq => (hVk q hq).2, hVn := fun q hq => (hVk q hq).1
        hL := fun g hg => by
          obtain ⟨e, he⟩ := hLal g hg
          exact ho.lt g e ((hcen g (.inl hg)).trans he)
        hfr := fun id _ hle hk => by have := hcK id hk; omega }
    have hen1 : ∀ i, (c.sub L V).en i = tget (keepOrd S.tab (idxN L · 0) L 0) i := fun i => by
      rw [tget_keepOrd, if_pos (Nat.zero_le _)]
      simp only [Cx.sub, Nat.sub_zero]
      cases hg : L[i]? with
      | none => rfl
      | some g => simp only; rw [hcen g (.inl (List.mem_of_getElem? hg))]
    have hdl : DenL (c.sub L V) (A.map fun a => ren (idxN L · 0) (view1 (cal.ro f) (tget S.tab) L a)) vals := by
      refine ⟨by simpa using hden.1, fun i s v hs hv => ?_⟩
      simp only [List.getElem?_map, Option.map_eq_some_iff] at hs
      obtain ⟨s', hs', rfl⟩ := hs
      have hmem := List.mem_of_getElem? hs'
      rw [← view1_congr (en := c.en) (fun q hq => hcen q (.inr (hsV s' hmem q hq)))]
      exact den_view ho (hden.2 i s' v hs' hv) (fun q hq => hsV s' hmem q (by rw [← hcg s' hmem]; exact hq))
    rcases hFA with ⟨⟨_, hfn⟩, hok⟩ | ⟨hfge, _⟩
    rotate_left
    · exact absurd hfge (Nat.not_le_of_lt (by simpa using hfy))
    refine ⟨hfn, (hok (c.sub L V) _ hen1 (fun i => Iff.rfl) (sub_ok ho hn (fun q hq => (hVk q hq).2)) hdl).mono ?_⟩
    rintro e w' ⟨v, c', rfl, rfl, hen', ho', hres, ht⟩
    have hpure : pureOk V res T' = true → V = [] ∨ (noSl res = true ∧ ∀ i e, tget T' i = some e → noSlE e = true) := fun hp => by
      cases V with
      | nil => exact .inl rfl
      | cons q V =>
        simp only [pureOk, Bool.and_eq_true] at hp
        exact .inr ⟨hp.1, noSlE_all hp.2⟩
    obtain ⟨k1, k2, k3⟩ := back_ok hyp ho (fun hp => (hpure hp).imp id (·.2)) ho' hen' ht
    refine ⟨v, c.back c' T' L V S.nx (pureOk V res T'), rfl, rfl, k3 res v hres ?_, k1, fun _ => rfl, fun _ => Iff.rfl, k2⟩
    cases hp : pureOk V res T' with
    | false => exact .inr (.inl rfl)
    | true =>
      rcases hpure hp with h1 | h1
      · exact .inl h1
      · exact .inr (.inr h1.1)
theorem op_ok (hty : tyOk P Θ = true) (hcal : CalOk P cal) (h : opK Θ cal o S kf = some r) : ∃ δ, kf δ = some r ∧ Local P o (lget S.tmps) (tget S.tab) S.nx δ := by
  by_cases hc : ∃ fx args ts, o.op = .call ⟨.value fx, args, ts⟩
  · obtain ⟨fx, args, ts, hop⟩ := hc
    exact call_ok hcal hop h
  · have : opK Θ cal o S kf = planZ Θ o S.nx (frzOf Θ o (lget S.tmps)) (lget S.tmps) (tget S.tab) kf := by
      unfold opK
      split
      · rename_i fx args ts hop
        exact absurd ⟨fx, args, ts, hop⟩ hc
      · rfl
    rw [this] at h
    exact planZ_ok hty _ _ _ _ h
end
end Go.Sx
