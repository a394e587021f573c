import Derived.Test.YtlphgonhenegoaaSxOps9
namespace Go.Sx
def FnOk (P : Program) (f : FuncId) (args : List SV) (T : Tab) (base : Nat) (res : SV) (T' : Tab) : Prop :=
  (f < yK ∧ ∃ fn, P.funcs[f]? = some fn ∧ fn.body.isSome = true ∧ (fn.name == "runtime.NumGoroutine") = false) ∧
  ∀ (c : Cx) (vs : List Value), (∀ id, c.en id = tget T id) → (∀ id, c.K id ↔ id < base) → HeapOk c → DenL c args vs →
    Calls P f vs.toArray c.w fun e w' => ∃ v c', e = .returned v ∧ c'.w = w' ∧ (∀ id, c'.en id = tget T' id) ∧ HeapOk c' ∧ Den c' res v ∧ Trans c c'
def RoundY (P : Program) (vs : List Value) (w : World) (R : Ending → World → Prop) : Prop :=
  ∀ l mid x, vs = .func (.yield l) mid.toArray #[] :: (mid ++ [x]) → ∃ fn tmps asg body, (Instr.yield l #[x]).run P w = .ok (.round l fn tmps asg body) w ∧ ∀ ro, RoundIn (fw ro) 0 P l fn tmps asg body w R
def FnY (P : Program) (f : FuncId) (args : List SV) (T : Tab) (base : Nat) (res : SV) (T' : Tab) : Prop :=
  yK ≤ f ∧ ∀ (c : Cx) (vs : List Value), (∀ id, c.en id = tget T id) → (∀ id, c.K id ↔ id < base) → HeapOk c → DenL c args vs →
    RoundY P vs c.w fun e w' => ∃ v c', e = .returned v ∧ c'.w = w' ∧ (∀ id, c'.en id = tget T' id) ∧ HeapOk c' ∧ Den c' res v ∧ Trans c c'
def CalOk (P : Program) {R : Type} (cal : Cal R) : Prop :=
  ∀ f args T base kf r, cal.run f args T base kf = some r → ∃ res T', (FnOk P f args T base res T' ∨ FnY P f args T base res T') ∧ kf (res, T') = some r
theorem memN_iff (l : List Nat) (a : Nat) : memN l a = true ↔ a ∈ l := by
  induction l with
  | nil => simp [memN]
  | cons b l ih =>
    simp only [memN]
    cases h : b == a
    · simp at h
      simp [ih]
      exact fun e => absurd e.symm h
    · simp at h
      subst h
      simp
theorem nodupN_iff (l : List Nat) : nodupN l = true → l.Nodup := by
  induction l with
  | nil => intro _; simp
  | cons a l ih =>
    intro h
    simp only [nodupN] at h
    cases hm : memN l a <;> rw [hm] at h <;> simp only [cond_true, cond_false, reduceCtorEq] at h
    refine List.nodup_cons.2 ⟨fun hin => ?_, ih h⟩
    rw [← memN_iff] at hin
    rw [hin] at hm
    cases hm
theorem idxN_spec (l : List Nat) (b k : Nat) : ∀ i, idxN l b k = some i → k ≤ i ∧ l[i - k]? = some b := by
  induction l generalizing k with
  | nil => intro i h; simp [idxN] at h
  | cons a l ih =>
    intro i h
    simp only [idxN] at h
    cases hb : a == b <;> rw [hb] at h <;> simp only [cond_true, cond_false] at h
    · obtain ⟨h1, h2⟩ := ih (k + 1) i h
      refine ⟨by omega, ?_⟩
      have : i - k = (i - (k + 1)) + 1 := by omega
      rw [this]; simpa using h2
    · injection h with h
      subst h
      simp at hb
      subst hb
      simp
theorem idxN_of (l : List Nat) (hn : l.Nodup) (b k j : Nat) (h : l[j]? = some b) : idxN l b k = some (k + j) := by
  induction l generalizing k j with
  | nil => simp at h
  | cons a l ih =>
    simp only [idxN]
    cases j with
    | zero =>
      simp at h
      subst h
      simp
    | succ j =>
      simp at h
      have hne : a ≠ b := by
        rintro rfl
        exact (List.nodup_cons.1 hn).1 (List.mem_of_getElem? h)
      have : (a == b) = false := by simp [hne]
      rw [this]
      simp only [cond_false]
      rw [ih (List.nodup_cons.1 hn).2 (k + 1) j h]
      congr 1; omega
theorem tget_keepOrd (t : Tab) (ν : Nat → Option Nat) (l : List Nat) (k j : Nat) : tget (keepOrd t ν l k) j = if k ≤ j then (match l[j - k]? with | some g => (tget t g).map (renE ν) | Option.none => Option.none) else Option.none := by
  induction l generalizing k with
  | nil => simp [keepOrd, tget]
  | cons g l ih =>
    simp only [keepOrd]
    have key : tget (match tget t g with | some e => (k, renE ν e) :: keepOrd t ν l (k + 1) | Option.none => keepOrd t ν l (k + 1)) j = if j = k then (tget t g).map (renE ν) else tget (keepOrd t ν l (k + 1)) j := by
      cases hg : tget t g with
      | none =>
        simp only [Option.map_none]
        by_cases hj : j = k
        · subst hj
          rw [if_pos rfl, ih]
          rw [if_neg (by omega)]
        · rw [if_neg hj]
      | some e =>
        simp only [tget, Option.map_some]
        by_cases hj : j = k
        · subst hj; simp
        · have : (k == j) = false := by simp; omega
          rw [this, if_neg hj]
          rfl
    refine key.trans ?_
    rw [ih]
    by_cases hj : j = k
    · subst hj; simp
    · rw [if_neg hj]
      by_cases hlt : k + 1 ≤ j
      · rw [if_pos hlt, if_pos (by omega)]
        have : j - k = (j - (k + 1)) + 1 := by omega
        rw [this]; simp
      · rw [if_neg hlt, if_neg (by omega)]
theorem shape_renE (ν : Nat → Option Nat) (e : Ent) : shape (renE ν e) = shape e := by cases e <;> simp [renE, shape]
theorem has_renE (ν : Nat → Option Nat) (e : Ent) : has (renE ν e) = has e := by cases e <;> rfl
theorem fam_renE (ν : Nat → Option Nat) (e : Ent) : fam (renE ν e) = fam e := by cases e <;> rfl
theorem ow_renE {c d : Cx} {ν : Nat → Option Nat} {e : Ent} {g j k : Nat} (hb : d.b j = c.b g) (hx : d.o j = c.o g) (h : d.ow j (renE ν e) k) : c.ow g e k := by
  rcases h with ⟨h1, h2⟩ | ⟨h1, h2⟩
  · exact .inl ⟨by rw [← has_renE ν e]; exact h1, by rw [← hb]; exact h2⟩
  · exact .inr ⟨by rw [← fam_renE ν e]; exact h1, by rw [← hx]; exact h2⟩
structure Ren (c d : Cx) (ν : Nat → Option Nat) : Prop where
  zs : ∀ k, c.Z k → d.Z k
  w : ∀ k, c.Z k → d.w.heap[k]? = c.w.heap[k]?
  K : ∀ g g', ν g = some g' → c.K g → d.K g'
  b : ∀ g g', ν g = some g' → d.b g' = c.b g ∧ d.u g' = c.u g
  en : ∀ g g' e', ν g = some g' → d.en g' = some e' → ∃ e, c.en g = some e ∧ shape e' = shape e ∧ (d.o g').y = (c.o g).y
theorem DenG.ren {c d : Cx} {ν : Nat → Option Nat} (h : Ren c d ν) {s : SV} {v : Value} (hd : DenG c.Z c.w s v) : DenG d.Z d.w s v := hd.mono h.zs h.w
theorem den_renC0 {c d : Cx} {ν : Nat → Option Nat} (h : Ren c d ν) {s : SV} {v : Value} (hd : Den c s v) : Den d (renC0 ν s) v := by
  cases hd with
  | und v => exact .und _
  | non => exact .non
  | g s v hg =>
    have := hg.ren h
    cases hg <;> exact .g _ _ this
  | ptr g off v hk h1 h2 =>
    simp only [renC0]
    cases hn : ν g with
    | none => exact .und _
    | some g' =>
      refine .ptr g' off v (h.K g g' hn hk) h1 fun hs => ?_
      obtain ⟨e', he'⟩ := Option.isSome_iff_exists.1 hs
      obtain ⟨e, he, _⟩ := h.en g g' e' hn he'
      rw [(h.b g g' hn).1]
      exact h2 (by rw [he]; rfl)
  | xptr g b st n z v hk h1 h2 =>
    simp only [renC0]
    cases hn : ν g with
    | none => exact .und _
    | some g' =>
      refine .xptr g' b st n z v (h.K g g' hn hk) h1 fun hs => ?_
      obtain ⟨e', he'⟩ := Option.isSome_iff_exists.1 hs
      obtain ⟨e, he, _⟩ := h.en g g' e' hn he'
      rw [(h.b g g' hn).1]
      exact h2 (by rw [he]; rfl)
  | row q v hk h1 h2 =>
    simp only [renC0]
    cases hn : ν q with
    | none => exact .und _
    | some g' =>
      refine .row g' v (h.K q g' hn hk) h1 fun hs => ?_
      obtain ⟨e', he'⟩ := Option.isSome_iff_exists.1 hs
      obtain ⟨e, he, _⟩ := h.en q g' e' hn he'
      rw [(h.b q g' hn).2]
      exact h2 (by rw [he]; rfl)
  | wptr q size i off v hk h1 h2 =>
    simp only [renC0]
    cases hn : ν q with
    | none => exact .und _
    | some g' =>
      refine .wptr g' size i off v (h.K q g' hn hk) h1 fun e' he' => ?_
      obtain ⟨e, he, hsh, hy⟩ := h.en q g' e' hn he'
      rcases h2 e he with ⟨fl, n, cl, rfl, hi, hv⟩ | ⟨⟨ik, n, ln, gt, rfl, hi⟩, h3, h4⟩
      · obtain ⟨fl', cl', rfl⟩ := shape_row hsh
        exact .inl ⟨fl', n, cl', rfl, hi, by rw [(h.b q g' hn).1]; exact hv⟩
      · obtain ⟨ik', ln', gt', rfl⟩ := shape_mx hsh
        refine .inr ⟨⟨ik', n, ln', gt', rfl, hi⟩, by rw [hy]; exact h3, ?_⟩
        rw [h4]
        unfold refV
        rw [hy, (h.b q g' hn).1]
  | func f k cs vs hl hy h => exact .und _
  | agg cs vs hl h => exact .und _
  | tup cs vs hl h => exact .und _
theorem den_map {c d : Cx} {g : SV → SV} {cs : List SV} {vs : List Value} (hd : ∀ s v, Den c s v → Den d (g s) v) (h : ∀ (i : Nat) (s : SV) (v : Value), cs[i]? = some s → vs[i]? = some v → Den c s v) :
    ∀ (i : Nat) (s : SV) (v : Value), (cs.map g)[i]? = some s → vs[i]? = some v → Den d s v := by
  intro i s v hs hv
  simp only [List.getElem?_map, Option.map_eq_some_iff] at hs
  obtain ⟨s', hs', rfl⟩ := hs
  exact hd s' v (h i s' v hs' hv)
theorem den_renA {c d : Cx} {ν : Nat → Option Nat} (h : Ren c d ν) {s : SV} {v : Value} (hd : Den c s v) : Den d (renA ν s) v := by
  by_cases ha : ∃ cs, s = .agg cs
  · obtain ⟨cs, rfl⟩ := ha
    obtain ⟨vs, rfl, hl, hds⟩ := hd.agg_inv
    exact .agg _ _ (by simpa using hl) (den_map (fun s v => den_renC0 h) hds)
  · have : renA ν s = renC0 ν s := by cases s <;> first | rfl | exact absurd ⟨_, rfl⟩ ha
    rw [this]
    exact den_renC0 h hd
theorem den_renC {c d : Cx} {ν : Nat → Option Nat} (h : Ren c d ν) {s : SV} {v : Value} (hd : Den c s v) : Den d (renC ν s) v := by
  by_cases hf : ∃ f k cs, s = .func f k cs
  · obtain ⟨f, k, cs, rfl⟩ := hf
    obtain ⟨vs, rfl, hy, hl, hds⟩ := hd.func_inv
    exact .func _ _ _ _ (by simpa using hl) hy (den_map (fun s v => den_renA h) hds)
  · have : renC ν s = renC0 ν s := by cases s <;> first | rfl | exact absurd ⟨_, _, _, rfl⟩ hf
    rw [this]
    exact den_renC0 h hd
theorem den_ren1 {c d : Cx} {ν : Nat → Option Nat} (h : Ren c d ν) {s : SV} {v : Value} (hd : Den c s v) : Den d (ren1 ν s) v := by
  by_cases ha : ∃ cs, s = .agg cs
  · obtain ⟨cs, rfl⟩ := ha
    obtain ⟨vs, rfl, hl, hds⟩ := hd.agg_inv
    exact .agg _ _ (by simpa using hl) (den_map (fun s v => den_renC h) hds)
  · have : ren1 ν s = renC ν s := by cases s <;> first | rfl | exact absurd ⟨_, rfl⟩ ha
    rw [this]
    exact den_renC h hd
theorem den_ren {c d : Cx} {ν : Nat → Option Nat} (h : Ren c d ν) {s : SV} {v : Value} (hd : Den c s v) : Den d (ren ν s) v := by
  by_cases ha : ∃ cs, s = .tup cs
  · obtain ⟨cs, rfl⟩ := ha
    obtain ⟨vs, rfl, hl, hds⟩ := hd.tup_inv
    exact .tup _ _ (by simpa using hl) (den_map (fun s v => den_ren1 h) hds)
  · have : ren ν s = ren1 ν s := by cases s <;> first | rfl | exact absurd ⟨_, rfl⟩ ha
    rw [this]
    exact den_ren1 h hd
theorem lt_of_same {w w' : World} {k : Nat} (h : k < w.heap.size) (he : w'.heap[k]? = w.heap[k]?) : k < w'.heap.size := by
  rw [Array.getElem?_eq_getElem h] at he
  exact (Array.getElem?_eq_some_iff.1 he).1
theorem ent_ren {c d : Cx} {ν : Nat → Option Nat} (h : Ren c d ν) {g g' : Nat} {e : Ent} (he : EntOk c g e) (hb : d.b g' = c.b g) (hu : d.u g' = c.u g) (hx : d.o g' = c.o g) (hw : ∀ k, c.ow g e k → d.w.heap[k]? = c.w.heap[k]?) : EntOk d g' (renE ν e) := by
  have hwo := hw
  have hw : has e = true → d.w.heap[c.b g]? = c.w.heap[c.b g]? := fun h => hw _ (ow_b h)
  cases e with
  | blk cs =>
    obtain ⟨arr, et, h1, h2, h3⟩ := he
    refine ⟨arr, et, by rw [hb, hw rfl]; exact h1, by simpa using h2, fun i s v hs hv => ?_⟩
    simp only [List.getElem?_map, Option.map_eq_some_iff] at hs
    obtain ⟨s', hs', rfl⟩ := hs
    obtain ⟨h4, h5⟩ := h3 i s' v hs' hv
    exact ⟨den_renC h h4, h5⟩
  | row nl fl size n cl =>
    obtain ⟨hf, h1⟩ := he
    refine ⟨hf, ?_⟩
    rcases h1 with ⟨a, b, e⟩ | ⟨a, cap, arr, et, b, e, f, k, l⟩
    · exact .inl ⟨a, b, by rw [hu]; exact e⟩
    · refine .inr ⟨a, cap, arr, et, by rw [hu, hb]; exact b, by rw [hb, hw (by simp [has, a])]; exact e, f, k, fun i j hi hj => ?_⟩
      obtain ⟨v, hv, hd⟩ := l i j hi hj
      exact ⟨v, hv, hd.ren h⟩
  | mp k hs gt =>
    obtain ⟨es, clock, h1, h2, h3⟩ := he
    exact ⟨es, clock, by rw [hu, hb]; exact h1, by rw [hb, hw rfl]; exact h2, h3⟩
  | fm ik fl size hs ln gt hole =>
    obtain ⟨h0, es, clock, X, h1, h2, h3⟩ := he
    refine ⟨fun k hk => ?_, es, clock, X, by rw [hu, hb]; exact h1, by rw [hb, hw rfl]; exact h2, ?_⟩
    · rw [hx] at hk
      exact lt_of_same (h0 k hk) (hwo k (.inr ⟨rfl, hk⟩))
    · rw [hb, hx]
      exact h3.mono (fun s v hd => hd.ren h) fun k hk => hwo k (.inr ⟨rfl, hk⟩)
  | fx v bs =>
    obtain ⟨h0, h1, h2⟩ := he
    refine ⟨fun k hk => ?_, by rw [hu]; exact h1, fun p hp => ?_⟩
    · rw [hx] at hk
      exact lt_of_same (h0 k hk) (hwo k (.inr ⟨rfl, hk⟩))
    · obtain ⟨q1, q2⟩ := h2 p hp
      exact ⟨by rw [hx]; exact q1, by rw [hwo _ (.inr ⟨rfl, q1⟩)]; exact q2⟩
  | lp n =>
    obtain ⟨h0, h1⟩ := he
    refine ⟨fun k hk => ?_, ?_⟩
    · rw [hx] at hk
      exact lt_of_same (h0 k hk) (hwo k (.inr ⟨rfl, hk⟩))
    · rw [hu, hx]
      exact h1.mono fun k hk => hwo k (.inr ⟨rfl, hk⟩)
  | mx ik n ln gt =>
    obtain ⟨h0, hor⟩ := he
    refine ⟨fun k hk => ?_, ?_⟩
    · rw [hx] at hk
      exact lt_of_same (h0 k hk) (hwo k (.inr ⟨rfl, hk⟩))
    · rcases hor with ⟨rfl, h1⟩ | ⟨hn, cap, arr, e, h1, h2, h3, h4, h5⟩
      · exact .inl ⟨rfl, by rw [hu]; exact h1⟩
      · refine .inr ⟨hn, cap, arr, e, by rw [hu, hb]; exact h1, by rw [hb, hw (by simp [has, hn])]; exact h2, h3, h4, ?_⟩
        rw [hb, hx]
        exact h5.mono rfl rfl (fun _ h => h) fun k hk => hwo k (.inr ⟨rfl, hk⟩)
def Cx.sub (c : Cx) (L V : List Nat) : Cx :=
  { b := fun i => c.b (L.getD i 0), o := fun i => c.o (L.getD i 0), u := fun i => c.u (L.getD i 0), en := fun i => match L[i]? with | some g => (c.en g).map (renE (idxN L · 0)) | Option.none => Option.none
    K := fun i => i < L.length, Z := fun k => c.Z k ∨ ∃ q e, q ∈ V ∧ c.en q = some e ∧ c.ow q e k, w := c.w }
theorem sub_ren {c : Cx} {L V : List Nat} : Ren c (c.sub L V) (idxN L · 0) where
  zs := fun k hk => .inl hk
  w := fun k _ => rfl
  K := fun g g' h _ => by
    obtain ⟨_, h2⟩ := idxN_spec L g 0 g' h
    exact (List.getElem?_eq_some_iff.1 h2).1
  b := fun g g' h => by
    obtain ⟨_, h2⟩ := idxN_spec L g 0 g' h
    have : L.getD g' 0 = g := by simp at h2; simp [h2]
    simp only [Cx.sub, this, and_self]
  en := fun g g' e' h he' => by
    obtain ⟨_, h2⟩ := idxN_spec L g 0 g' h
    simp only [Nat.sub_zero] at h2
    simp only [Cx.sub, h2, Option.map_eq_some_iff] at he'
    obtain ⟨e, he, rfl⟩ := he'
    have : L.getD g' 0 = g := by rw [List.getD_eq_getElem?_getD, h2]; rfl
    exact ⟨e, he, shape_renE _ e, by simp only [Cx.sub, this]⟩
theorem sub_en {c : Cx} {L V : List Nat} {i : Nat} {e' : Ent} (h : (c.sub L V).en i = some e') : ∃ g e, L[i]? = some g ∧ c.en g = some e ∧ e' = renE (idxN L · 0) e ∧ (c.sub L V).b i = c.b g ∧ (c.sub L V).u i = c.u g ∧ (c.sub L V).o i = c.o g := by
  simp only [Cx.sub] at h
  cases hg : L[i]? with
  | none => rw [hg] at h; cases h
  | some g =>
    rw [hg] at h
    simp only [Option.map_eq_some_iff] at h
    obtain ⟨e, he, rfl⟩ := h
    have : L.getD i 0 = g := by simp [hg]
    exact ⟨g, e, rfl, he, rfl, by simp only [Cx.sub, this], by simp only [Cx.sub, this], by simp only [Cx.sub, this]⟩
theorem sub_ok {c : Cx} {L V : List Nat} (ho : HeapOk c) (hn : L.Nodup) (hV : ∀ q ∈ V, q ∉ L) : HeapOk (c.sub L V) where
  lt := fun i e' h => by
    obtain ⟨g, e, hg, _⟩ := sub_en h
    exact (List.getElem?_eq_some_iff.1 hg).1
  ents := fun i e' h => by
    obtain ⟨g, e, hg, he, rfl, hb, hu, hx⟩ := sub_en h
    exact ent_ren sub_ren (ho.ents g e he) hb hu hx (fun _ _ => rfl)
  inj := fun i i' e e' k h h' hh hh' => by
    obtain ⟨g, e1, hg, he, rfl, hb1, _, hx1⟩ := sub_en h
    obtain ⟨g', e2, hg', he', rfl, hb2, _, hx2⟩ := sub_en h'
    have := ho.inj g g' e1 e2 k he he' (ow_renE hb1 hx1 hh) (ow_renE hb2 hx2 hh')
    subst this
    have h3 := idxN_of L hn g 0 i hg
    have h4 := idxN_of L hn g 0 i' hg'
    rw [h3] at h4
    simpa using h4
  gls := fun g cs h => (ho.gls g cs h).mono (fun k hk => .inl hk) (fun _ _ => rfl)
  zlt := fun k hk => by
    rcases hk with h | ⟨q, e, _, he, hh⟩
    · exact ho.zlt k h
    · exact (ho.ents q e he).olt hh
  zno := fun k hk i e' h hh => by
    obtain ⟨g, e1, hg, he, rfl, hb1, _, hx1⟩ := sub_en h
    have hh := ow_renE hb1 hx1 hh
    rcases hk with hz | ⟨q, e, hq, heq, hhq⟩
    · exact ho.zno k hz g e1 he hh
    · have := ho.inj q g e e1 k heq he hhq hh
      subst this
      exact hV q hq (List.mem_of_getElem? hg)
theorem den_viewC {c : Cx} {L V : List Nat} (ho : HeapOk c) {s : SV} {v : Value} (hd : Den c s v) (hV : ∀ q, s = .row q → memN L q = false → q ∈ V) : Den (c.sub L V) (renC (idxN L · 0) (viewC c.en L s)) v := by
  have hr := sub_ren (c := c) (L := L) (V := V)
  have other : viewC c.en L s = s → Den (c.sub L V) (renC (idxN L · 0) (viewC c.en L s)) v := fun h => by rw [h]; exact den_renC hr hd
  cases s with
  | row q =>
    simp only [viewC]
    cases hm : memN L q with
    | true => simp only [cond_true]; exact den_renC hr hd
    | false =>
      simp only [cond_false]
      cases he : c.en q with
      | none => exact .und _
      | some e =>
        cases e with
        | blk cs => exact .und _
        | mp k hs gt => exact .und _
        | fm => exact .und _
        | fx => exact .und _
        | lp => exact .und _
        | mx => exact .und _
        | row nl fl size n cl =>
          have hv := hd.row_inv he
          obtain ⟨hfl, ⟨_, rfl, hu⟩ | ⟨rfl, cap, arr, et, hu, hblk, hcap, hsz, hcell⟩⟩ := ho.ents q _ he
          · rw [hv, hu]
            exact .g _ _ (.sl _ _ _ _ _ _ (fun _ _ => Go.undef) (Nat.le_refl _) (fun i j hi => by omega) (fun h => by omega) (fun ad ha i j hi => by omega) (fun i j hi => by omega))
          · rw [hv, hu]
            refine .g _ _ (.sl _ _ _ _ _ _ (fun i j => arr.getD (i * size + j) Go.undef) hcap hfl (fun _ => ⟨_, rfl, .inr ⟨q, _, hV q rfl hm, he, .inl ⟨rfl, rfl⟩⟩⟩) (fun ad ha i j hi hj => ?_) (fun i j hi hj => ?_))
            · injection ha with ha
              subst ha
              obtain ⟨u, h1, h2⟩ := hcell i j hi hj
              show c.w.cell? _ = _
              rw [add_mk, cell_of hblk, Nat.zero_add, h1]
              simp [h1]
            · obtain ⟨u, h1, h2⟩ := hcell i j hi hj
              have : arr.getD (i * size + j) Go.undef = u := by simp [h1]
              rw [this]
              exact h2.ren hr
  | sl k fl size n cl =>
    cases k with
    | any => exact other rfl
    | nil =>
      obtain ⟨rfl, rfl⟩ := hd.slnil_inv
      simp only [viewC]
      cases nilKeep fl <;> simp only [cond_true, cond_false]
      · exact .g _ _ (.sl _ _ _ _ _ _ (fun _ _ => Go.undef) (Nat.le_refl _) (fun i j hi => by omega) (fun h => by omega) (fun ad ha i j hi => by omega) (fun i j hi => by omega))
      · exact .g _ _ (.slnil _ _ _)
    | cap0 =>
      obtain ⟨rfl, a, rfl⟩ := hd.slcap_inv
      exact .g _ _ (.sl _ _ _ _ _ _ (fun _ _ => Go.undef) (Nat.le_refl _) (fun i j hi => by omega) (fun h => by omega) (fun ad ha i j hi => by omega) (fun i j hi => by omega))
  | undef => exact other rfl
  | none => exact other rfl
  | int k n => exact other rfl
  | bool b => exact other rfl
  | str s => exact other rfl
  | nilp => exact other rfl
  | nilm => exact other rfl
  | nilf => exact other rfl
  | xptr g b st n z => exact other rfl
  | ptr g off => exact other rfl
  | eptr m cl => exact other rfl
  | wptr q s i off => exact other rfl
  | func f k cs => exact other rfl
  | agg cs => exact other rfl
  | tup vs => exact other rfl
theorem viewC_flat {en : Nat → Option Ent} {L : List Nat} {s : SV} (ha : ∀ cs, s ≠ .agg cs) (ht : ∀ cs, s ≠ .tup cs) (hf : ∀ f k cs, s ≠ .func f k cs) (ν : Nat → Option Nat) : ren ν (viewC en L s) = renC ν (viewC en L s) := by
  have hnf : ∀ s', viewC en L s = s' → (∀ cs, s' ≠ .agg cs) ∧ (∀ cs, s' ≠ .tup cs) ∧ (∀ f k cs, s' ≠ .func f k cs) := by
    intro s' hs'
    subst hs'
    unfold viewC
    split
    · rename_i q
      cases memN L q
      · simp only [cond_false]
        split <;> simp
      · simp
    · rename_i fl size n c
      cases nilKeep fl <;> simp
    · simp
    · exact ⟨ha, ht, hf⟩
  obtain ⟨n1, n2, n3⟩ := hnf _ rfl
  generalize viewC en L s = s' at *
  cases s' <;> first | rfl | exact absurd rfl (n1 _) | exact absurd rfl (n2 _) | exact absurd rfl (n3 _ _ _)
theorem renC_ground {ν : Nat → Option Nat} {s : SV} (h : groundOk s = true) : renC ν s = s := by cases s <;> first | rfl | cases h
theorem mem_rowsC {L : List Nat} {q : Nat} {cs : List SV} (h : SV.row q ∈ cs) (hm : memN L q = false) : q ∈ cs.flatMap (rowsC L) := by
  rw [List.mem_flatMap]
  exact ⟨_, h, by simp [rowsC, hm]⟩
theorem den_viewP {c : Cx} {L V : List Nat} (ho : HeapOk c) {g off : Nat} {v : Value} (hd : Den c (.ptr g off) v) (hg : g ∈ V) (hV : ∀ cs, c.en g = some (.blk cs) → ∀ q ∈ cs.flatMap (rowsC L), q ∈ V) (ν : Nat → Option Nat) :
    Den (c.sub L V) (ren ν (viewP c.en L g off)) v := by
  unfold viewP
  cases he : c.en g with
  | none => exact .und _
  | some e =>
    cases e with
    | row nl fl size n cl => exact .und _
    | mp k hs gt => exact .und _
    | fm => exact .und _
    | fx => exact .und _
    | lp => exact .und _
    | mx => exact .und _
    | blk cs =>
      simp only
      cases hall : (cs.map (viewC c.en L)).all groundOk with
      | false => exact .und _
      | true =>
        simp only [cond_true, ren, ren1, renC]
        obtain ⟨arr, et, h1, h2, h3⟩ := ho.ents g _ he
        rw [hd.ptr_inv he]
        refine .g _ _ (.eptr _ _ _ (fun j => arr.getD (j + off) Go.undef) (fun _ => .inr ⟨g, _, hg, he, .inl ⟨rfl, rfl⟩⟩) (fun j hj => ?_) (fun j hj => ?_))
        · show c.w.cell? _ = _
          have hlt : j + off < arr.size := by omega
          rw [add_mk, cell_of h1, Nat.add_comm off j]
          simp [hlt]
        · have hlt : j + off < cs.length := by omega
          have hs : cs[j + off]? = some cs[j + off] := List.getElem?_eq_getElem hlt
          have ha : arr[j + off]? = some (arr.getD (j + off) Go.undef) := by
            have hlt' : j + off < arr.size := by omega
            simp [hlt']
          obtain ⟨h4, _⟩ := h3 _ _ _ hs ha
          have hgr : groundOk (viewC c.en L cs[j + off]) = true := List.all_eq_true.1 hall _ (List.mem_map.2 ⟨_, List.getElem_mem hlt, rfl⟩)
          have hd' := den_viewC (L := L) (V := V) ho h4 fun q hq hm => hV cs he q (mem_rowsC (by rw [← hq]; exact List.getElem_mem hlt) hm)
          rw [renC_ground hgr] at hd'
          have hl : lget (cs.map (viewC c.en L)) (j + off) = viewC c.en L cs[j + off] := by simp [lget, hlt]
          rw [hl]
          exact hd'.ground hgr
theorem den_view {c : Cx} {L V : List Nat} {ro : Bool} (ho : HeapOk c) {s : SV} {v : Value} (hd : Den c s v) (hV : ∀ q ∈ viewIds ro c.en L s, q ∈ V) : Den (c.sub L V) (ren (idxN L · 0) (view1 ro c.en L s)) v := by
  have hr := sub_ren (c := c) (L := L) (V := V)
  by_cases ha : ∃ cs, s = .agg cs
  · obtain ⟨cs, rfl⟩ := ha
    obtain ⟨vs, rfl, hl, hds⟩ := hd.agg_inv
    simp only [view1, ren, ren1, List.map_map]
    refine .agg _ _ (by simpa using hl) fun i s v hs hv => ?_
    simp only [List.getElem?_map, Option.map_eq_some_iff] at hs
    obtain ⟨s', hs', rfl⟩ := hs
    refine den_viewC ho (hds i s' v hs' hv) fun q hq hm => hV q ?_
    subst hq
    exact mem_rowsC (List.mem_of_getElem? hs') hm
  · by_cases hf : (∃ f k cs, s = .func f k cs) ∨ ∃ cs, s = .tup cs
    · have : view1 ro c.en L s = s := by rcases hf with ⟨f, k, cs, rfl⟩ | ⟨cs, rfl⟩ <;> rfl
      rw [this]
      exact den_ren hr hd
    · by_cases hp : ∃ g off, s = .ptr g off
      · obtain ⟨g, off, rfl⟩ := hp
        simp only [view1]
        cases hro : (ro && !(memN L g)) with
        | false => simp only [cond_false]; exact den_ren hr hd
        | true =>
          simp only [cond_true]
          simp only [viewIds, hro, cond_true] at hV
          refine den_viewP ho hd (hV g ?_) (fun cs he q hq => hV q ?_) _
          · split <;> simp
          · rw [he]; simp only [List.mem_cons]; exact .inr hq
      · have h1 : view1 ro c.en L s = viewC c.en L s := by cases s <;> first | rfl | exact absurd ⟨_, rfl⟩ ha | exact absurd ⟨_, _, rfl⟩ hp
        rw [h1]
        rw [viewC_flat (fun cs h => ha ⟨cs, h⟩) (fun cs h => hf (.inr ⟨cs, h⟩)) (fun f k cs h => hf (.inl ⟨f, k, cs, h⟩))]
        refine den_viewC ho hd fun q hq hm => hV q ?_
        subst hq
        simp [viewIds, hm]
theorem idsBelow_lt {b : Nat} {t : Tab} (h : idsBelow b t = true) : ∀ i e, tget t i = some e → i < b := by
  induction t with
  | nil => intro i e h; simp [tget] at h
  | cons p t ih =>
    obtain ⟨j, x⟩ := p
    simp only [idsBelow, Bool.and_eq_true] at h
    intro i e hi
    simp only [tget] at hi
    cases hb : j == i <;> rw [hb] at hi <;> simp only [cond_true, cond_false] at hi
    · exact ih h.2 i e hi
    · simp at hb
      subst hb
      simpa [Nat.blt_eq] using h.1
theorem upd_append (en : Nat → Option Ent) (us us' : List (Nat × Option Ent)) (j : Nat) : upd en (us ++ us') j = upd (upd en us) us' j := by
  induction us generalizing en with
  | nil => rfl
  | cons p us ih => obtain ⟨i, e⟩ := p; simp only [List.cons_append, upd]; exact ih _
theorem keys_lowUpd (T : Tab) (ν : Nat → Option Nat) (L : List Nat) (k : Nat) : (lowUpd T ν L k).map (·.1) = L := by
  induction L generalizing k with
  | nil => rfl
  | cons g l ih => simp [lowUpd, ih]
theorem upd_lowUpd (T : Tab) (ν : Nat → Option Nat) (L : List Nat) (hn : L.Nodup) (k : Nat) (en : Nat → Option Ent) (j : Nat) :
    upd en (lowUpd T ν L k) j = match idxN L j k with | some i => (tget T i).map (renE ν) | Option.none => en j := by
  induction L generalizing k en with
  | nil => rfl
  | cons g l ih =>
    simp only [lowUpd, upd, idxN]
    rw [ih (List.nodup_cons.1 hn).2]
    cases hb : g == j with
    | true =>
      simp at hb
      subst hb
      have : idxN l g (k + 1) = Option.none := by
        cases h : idxN l g (k + 1) with
        | none => rfl
        | some i =>
          obtain ⟨_, h2⟩ := idxN_spec l g (k + 1) i h
          exact absurd (List.mem_of_getElem? h2) (List.nodup_cons.1 hn).1
      rw [this]
      simp
    | false =>
      simp at hb
      simp only [cond_false]
      have hne : ¬ j = g := fun e => hb e.symm
      simp [hne]
theorem keys_newUpd (k nx : Nat) (ν : Nat → Option Nat) (T : Tab) : ∀ j, j ∈ (newUpd k nx ν T).map (·.1) → ∃ i e, (i, e) ∈ T ∧ k ≤ i ∧ j = nx + (i - k) := by
  induction T with
  | nil => intro j h; simp [newUpd] at h
  | cons p t ih =>
    obtain ⟨i, e⟩ := p
    intro j h
    simp only [newUpd] at h
    cases hb : Nat.blt i k <;> rw [hb] at h <;> simp only [cond_true, cond_false] at h
    · simp only [List.map_cons, List.mem_cons] at h
      rcases h with rfl | h
      · have : ¬ i < k := fun h => by rw [← Nat.blt_eq] at h; rw [h] at hb; cases hb
        exact ⟨i, e, by simp, by omega, rfl⟩
      · obtain ⟨i', e', h1, h2, h3⟩ := ih j h
        exact ⟨i', e', by simp [h1], h2, h3⟩
    · obtain ⟨i', e', h1, h2, h3⟩ := ih j h
      exact ⟨i', e', by simp [h1], h2, h3⟩
theorem tabOk_mem {t : Tab} (h : tabOk t = true) {i : Nat} {e : Ent} (hm : (i, e) ∈ t) : tget t i = some e := by
  induction t with
  | nil => simp at hm
  | cons p t ih =>
    obtain ⟨j, x⟩ := p
    simp only [tabOk, Bool.and_eq_true] at h
    rcases List.mem_cons.1 hm with h1 | h1
    · injection h1 with h1 h2
      subst h1 h2
      simp [tget]
    · have h2 := ih h.2 h1
      simp only [tget]
      cases hb : j == i with
      | false => exact h2
      | true =>
        simp at hb
        subst hb
        rw [h2] at h
        simp at h
theorem tget_mem {t : Tab} {i : Nat} {e : Ent} (h : tget t i = some e) : (i, e) ∈ t := by
  induction t with
  | nil => simp [tget] at h
  | cons p t ih =>
    obtain ⟨j, x⟩ := p
    simp only [tget] at h
    cases hb : j == i <;> rw [hb] at h <;> simp only [cond_true, cond_false] at h
    · exact List.mem_cons_of_mem _ (ih h)
    · simp at hb
      subst hb
      injection h with h
      subst h
      simp
theorem upd_newUpd (k nx : Nat) (ν : Nat → Option Nat) (T : Tab) (hT : tabOk T = true) (en : Nat → Option Ent) (j : Nat) :
    upd en (newUpd k nx ν T) j = if nx ≤ j then (match tget T (k + (j - nx)) with | some e => some (renE ν e) | Option.none => en j) else en j := by
  induction T generalizing en with
  | nil => simp [newUpd, upd, tget]
  | cons p t ih =>
    obtain ⟨i, e⟩ := p
    simp only [tabOk, Bool.and_eq_true] at hT
    have hni : tget t i = Option.none := by simpa using hT.1
    simp only [newUpd]
    cases hb : Nat.blt i k with
    | true =>
      simp only [cond_true]
      rw [ih hT.2]
      have hik : i < k := by rw [← Nat.blt_eq]; exact hb
      have hne : (i == k + (j - nx)) = false := by simp; omega
      simp only [tget, hne, cond_false]
    | false =>
      have hik : ¬ i < k := fun h => by rw [← Nat.blt_eq] at h; rw [h] at hb; cases hb
      simp only [cond_false, upd]
      rw [ih hT.2]
      by_cases hj : nx ≤ j
      · rw [if_pos hj, if_pos hj]
        simp only [tget]
        cases hb2 : i == k + (j - nx) with
        | true =>
          simp at hb2
          subst hb2
          rw [hni]
          simp
          omega
        | false =>
          simp at hb2
          have hne : ¬ j = nx + (i - k) := by omega
          simp [hne]
      · rw [if_neg hj, if_neg hj]
        have hne : ¬ j = nx + (i - k) := by omega
        simp [hne]
theorem upd_dels (en : Nat → Option Ent) (V : List Nat) (j : Nat) : upd en (V.map fun r => (r, Option.none)) j = if j ∈ V then Option.none else en j := by
  induction V generalizing en with
  | nil => simp [upd]
  | cons q V ih =>
    simp only [List.map_cons, upd, ih]
    by_cases h1 : j ∈ V
    · simp [h1]
    · by_cases h2 : j = q <;> simp [h1, h2]
end Go.Sx
