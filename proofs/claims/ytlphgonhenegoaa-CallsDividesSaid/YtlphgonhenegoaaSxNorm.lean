import Derived.Test.YtlphgonhenegoaaSxAny2
namespace Go.Sx
variable {dfs : List Deferred}
structure Tok (c : Cx) (t : Tab) (nx : Nat) : Prop where
  ho : HeapOk c
  en : ∀ id, c.en id = tget t id
  K : ∀ id, c.K id → id < nx
structure Grow (c : Cx) (t : Tab) (nx : Nat) (c' : Cx) (t' : Tab) (nx' : Nat) : Prop where
  ok : Tok c' t' nx'
  tr : Trans c c'
  w : c'.w = c.w
  mono : ∀ id e, tget t id = some e → tget t' id = some e
  le : nx ≤ nx'
theorem Grow.refl {c : Cx} {t : Tab} {nx : Nat} (h : Tok c t nx) : Grow c t nx c t nx := ⟨h, .refl, rfl, fun _ _ h => h, Nat.le_refl _⟩
theorem Grow.trans {c c' c'' : Cx} {t t' t'' : Tab} {nx nx' nx'' : Nat} (h : Grow c t nx c' t' nx') (k : Grow c' t' nx' c'' t'' nx'') : Grow c t nx c'' t'' nx'' :=
  ⟨k.ok, h.tr.trans k.tr, k.w.trans h.w, fun id e he => k.mono id e (h.mono id e he), Nat.le_trans h.le k.le⟩
section
variable {R : Type} {r : R}
theorem nilEnt_has (fl : CK) (size : Nat) (cl : Nat → Nat → SV) : has (nilEnt fl size cl) = false := by
  unfold nilEnt
  cases matOn
  · rfl
  · simp only [cond_true]; split <;> rfl
theorem nilEnt_ok {c : Cx} {id : Nat} {fl : CK} {size : Nat} {cl : Nat → Nat → SV} (hu : c.u id = .slice Option.none 0 0) (hx : ∀ k, ¬ (c.o id).x k) : EntOk c id (nilEnt fl size cl) := by
  have row : EntOk c id (.row true fl size 0 cl) := ⟨fun i j hi => by omega, .inl ⟨rfl, rfl, hu⟩⟩
  unfold nilEnt
  cases matOn
  · exact row
  · simp only [cond_true]
    split
    · exact ⟨fun k hk => absurd hk (hx k), .inl ⟨rfl, hu⟩⟩
    · exact row
theorem rowifyC_ok {s : SV} {t : Tab} {nx : Nat} {kf : SV → Tab → Nat → Option R} (h : rowifyC s t nx kf = some r) :
    ∃ s' t' nx', kf s' t' nx' = some r ∧ ∀ c v, Tok c t nx → Den c s v → ∃ c', Grow c t nx c' t' nx' ∧ Den c' s' v ∧ (Sx.one v = true → Sx.one v = true) := by
  unfold rowifyC at h
  split at h
  · rename_i fl size n cl
    refine ⟨_, _, _, h, fun c v hc hd => ?_⟩
    obtain ⟨_, rfl⟩ := hd.slnil_inv
    have hk : ¬ c.K nx := fun hk => Nat.lt_irrefl _ (hc.K nx hk)
    have hnone : tget t nx = Option.none := by
      cases he : tget t nx with
      | none => rfl
      | some e => exact absurd (hc.ho.lt nx e ((hc.en nx).trans he)) hk
    obtain ⟨h1, h2⟩ := add_ok hc.ho hk (e := nilEnt fl size cl) (b := 0) (u := .slice Option.none 0 0) (w' := c.w) (Mem.refl c) (fun hh => by rw [nilEnt_has] at hh; cases hh) (fun _ => nilEnt_ok (by simp [Cx.add]) (fun k hk => by simp [Cx.add] at hk))
    refine ⟨_, ⟨⟨h1, fun id => ?_, fun id hid => ?_⟩, h2, rfl, fun id e he => ?_, Nat.le_succ _⟩, .row _ _ (.inr rfl) rfl (fun _ => by simp [Cx.add]), fun h => h⟩
    · simp only [Cx.add, tget]
      by_cases hid : id = nx
      · subst hid; simp
      · have : (nx == id) = false := by simp; exact fun e => hid e.symm
        rw [if_neg hid, this]
        exact hc.en id
    · rcases hid with hid | hid
      · exact Nat.lt_succ_of_lt (hc.K id hid)
      · omega
    · simp only [tget]
      have : (nx == id) = false := by
        simp
        rintro rfl
        rw [hnone] at he
        cases he
      rw [this]
      exact he
  · exact ⟨_, _, _, h, fun c v hc hd => ⟨c, .refl hc, hd, fun h => h⟩⟩
theorem rowifyL_ok : ∀ (l : List SV) (t : Tab) (nx : Nat) (kf : List SV → Tab → Nat → Option R), rowifyL l t nx kf = some r →
    ∃ l' t' nx', kf l' t' nx' = some r ∧ ∀ c vs, Tok c t nx → DenL c l vs → ∃ c', Grow c t nx c' t' nx' ∧ DenL c' l' vs := by
  intro l
  induction l with
  | nil => intro t nx kf h; exact ⟨_, _, _, h, fun c vs hc hd => ⟨c, .refl hc, hd⟩⟩
  | cons s l ih =>
    intro t nx kf h
    simp only [rowifyL] at h
    obtain ⟨s', t1, nx1, h1, p1⟩ := rowifyC_ok h
    obtain ⟨l', t2, nx2, h2, p2⟩ := ih _ _ _ h1
    refine ⟨_, _, _, h2, fun c vs hc hd => ?_⟩
    obtain ⟨hl, hds⟩ := hd
    cases vs with
    | nil => simp at hl
    | cons v vs =>
      obtain ⟨c1, g1, d1, _⟩ := p1 c v hc (hds 0 s v rfl rfl)
      obtain ⟨c2, g2, e2, d2⟩ := p2 c1 vs g1.ok ⟨by simpa using hl, fun i s v hs hv => (hds (i + 1) s v (by simpa using hs) (by simpa using hv)).trans g1.tr hc.ho⟩
      refine ⟨c2, g1.trans g2, by simp [e2], fun i s v hs hv => ?_⟩
      cases i with
      | zero => simp at hs hv; subst hs hv; exact d1.trans g2.tr g1.ok.ho
      | succ i => exact d2 i s v (by simpa using hs) (by simpa using hv)
theorem rowify1_ok {s : SV} {t : Tab} {nx : Nat} {kf : SV → Tab → Nat → Option R} (h : rowify1 s t nx kf = some r) :
    ∃ s' t' nx', kf s' t' nx' = some r ∧ ∀ c v, Tok c t nx → Den c s v → ∃ c', Grow c t nx c' t' nx' ∧ Den c' s' v := by
  unfold rowify1 at h
  split at h
  · rename_i cs
    obtain ⟨l', t', nx', h1, p1⟩ := rowifyL_ok _ _ _ _ h
    refine ⟨_, _, _, h1, fun c v hc hd => ?_⟩
    obtain ⟨vs, rfl, hl, hds⟩ := hd.agg_inv
    obtain ⟨c', g, e, d⟩ := p1 c vs hc ⟨hl, hds⟩
    exact ⟨c', g, .agg _ _ e d⟩
  · obtain ⟨s', t', nx', h1, p1⟩ := rowifyC_ok h
    exact ⟨_, _, _, h1, fun c v hc hd => by obtain ⟨c', g, d, _⟩ := p1 c v hc hd; exact ⟨c', g, d⟩⟩
theorem rowifyS_ok : ∀ (l : List SV) (t : Tab) (nx : Nat) (kf : List SV → Tab → Nat → Option R), rowifyS l t nx kf = some r →
    ∃ l' t' nx', kf l' t' nx' = some r ∧ ∀ c vs, Tok c t nx → DenL c l vs → ∃ c', Grow c t nx c' t' nx' ∧ DenL c' l' vs := by
  intro l
  induction l with
  | nil => intro t nx kf h; exact ⟨_, _, _, h, fun c vs hc hd => ⟨c, .refl hc, hd⟩⟩
  | cons s l ih =>
    intro t nx kf h
    simp only [rowifyS] at h
    obtain ⟨s', t1, nx1, h1, p1⟩ := rowify1_ok h
    obtain ⟨l', t2, nx2, h2, p2⟩ := ih _ _ _ h1
    refine ⟨_, _, _, h2, fun c vs hc hd => ?_⟩
    obtain ⟨hl, hds⟩ := hd
    cases vs with
    | nil => simp at hl
    | cons v vs =>
      obtain ⟨c1, g1, d1⟩ := p1 c v hc (hds 0 s v rfl rfl)
      obtain ⟨c2, g2, e2, d2⟩ := p2 c1 vs g1.ok ⟨by simpa using hl, fun i s v hs hv => (hds (i + 1) s v (by simpa using hs) (by simpa using hv)).trans g1.tr hc.ho⟩
      refine ⟨c2, g1.trans g2, by simp [e2], fun i s v hs hv => ?_⟩
      cases i with
      | zero => simp at hs hv; subst hs hv; exact d1.trans g2.tr g1.ok.ho
      | succ i => exact d2 i s v (by simpa using hs) (by simpa using hv)
theorem rowifyV_ok {s : SV} {t : Tab} {nx : Nat} {kf : SV → Tab → Nat → Option R} (h : rowifyV s t nx kf = some r) :
    ∃ s' t' nx', kf s' t' nx' = some r ∧ ∀ c v, Tok c t nx → Den c s v → ∃ c', Grow c t nx c' t' nx' ∧ Den c' s' v := by
  unfold rowifyV at h
  split at h
  · rename_i cs
    obtain ⟨l', t', nx', h1, p1⟩ := rowifyS_ok _ _ _ _ h
    refine ⟨_, _, _, h1, fun c v hc hd => ?_⟩
    obtain ⟨vs, rfl, hl, hds⟩ := hd.tup_inv
    obtain ⟨c', g, e, d⟩ := p1 c vs hc ⟨hl, hds⟩
    exact ⟨c', g, .tup _ _ e d⟩
  · exact rowify1_ok h
structure Turn (c : Cx) (nx : Nat) (c' : Cx) (t' : Tab) (nx' : Nat) : Prop where
  ok : Tok c' t' nx'
  tr : Trans c c'
  w : c'.w = c.w
  le : nx ≤ nx'
theorem rowifyT_ok : ∀ (l : List Nat) (t : Tab) (nx : Nat) (kf : Tab → Nat → Option R), rowifyT l t nx kf = some r →
    ∃ t' nx', kf t' nx' = some r ∧ ∀ c, Tok c t nx → ∃ c', Turn c nx c' t' nx' := by
  intro l
  induction l with
  | nil => intro t nx kf h; exact ⟨_, _, h, fun c hc => ⟨c, hc, .refl, rfl, Nat.le_refl _⟩⟩
  | cons i l ih =>
    intro t nx kf h
    simp only [rowifyT] at h
    split at h
    · rename_i cs hi
      obtain ⟨cs', t1, nx1, h1, p1⟩ := rowifyL_ok _ _ _ _ h
      obtain ⟨t2, nx2, h2, p2⟩ := ih _ _ _ h1
      refine ⟨_, _, h2, fun c hc => ?_⟩
      have he : c.en i = some (.blk cs) := (hc.en i).trans hi
      obtain ⟨arr, et, hb, hsz, hds⟩ := hc.ho.ents i _ he
      obtain ⟨c1, g1, e1, d1⟩ := p1 c arr.toList hc ⟨by simpa using hsz.symm, fun k s v hs hv => (hds k s v hs (by simpa using hv)).1⟩
      have he1 : c1.en i = some (.blk cs) := (g1.ok.en i).trans (g1.mono i _ hi)
      have hb1 : c1.b i = c.b i := by
        rcases g1.tr.old i _ he1 with ⟨_, _, hb, _⟩ | hn
        · exact hb
        · exact absurd (hc.ho.lt i _ he) hn
      have hlen : cs'.length = cs.length := by rw [e1]; simpa using hsz
      obtain ⟨k1, k2⟩ := set_ok g1.ok.ho (e := .blk cs') he1 rfl (by simp [shape, hlen]) (w' := c1.w) ⟨rfl, rfl, rfl, Nat.le_refl _, fun _ _ _ => rfl, fun k hk => ⟨i, _, he1, hk ▸ ow_b rfl⟩⟩ (fun ht => by
        refine ⟨arr, et, ?_, by rw [hlen]; exact hsz, fun k s v hs hv => ?_⟩
        · show c1.w.heap[c1.b i]? = _
          rw [hb1, g1.w]; exact hb
        · have hk : k < cs.length := by rw [← hlen]; exact (List.getElem?_eq_some_iff.1 hs).1
          exact ⟨(d1 k s v hs (by simpa using hv)).trans ht g1.ok.ho, (hds k _ v (lget_lt hk) hv).2⟩)
      have hc2 : Tok (c1.set i (.blk cs') c1.w) (tput t1 i (.blk cs')) nx1 := ⟨k1, fun id => by
        rw [tget_tput]
        simp only [Cx.set]
        split
        · rfl
        · exact g1.ok.en id, g1.ok.K⟩
      obtain ⟨c3, g3⟩ := p2 _ hc2
      exact ⟨c3, g3.ok, (g1.tr.trans k2).trans g3.tr, g3.w.trans g1.w, Nat.le_trans g1.le g3.le⟩
    · exact ih _ _ _ h
theorem tget_append (t t' : Tab) (j : Nat) : tget (t ++ t') j = match tget t j with | some e => some e | Option.none => tget t' j := by
  induction t with
  | nil => rfl
  | cons p t ih =>
    obtain ⟨i, e⟩ := p
    simp only [List.cons_append, tget]
    cases i == j
    · simpa using ih
    · rfl
theorem tget_keepLow (low : Nat → Bool) (ν : Nat → Option Nat) (t : Tab) (j : Nat) : tget (keepLow low ν t) j = if low j = true then (tget t j).map (renE ν) else Option.none := by
  induction t with
  | nil => simp [keepLow, tget]
  | cons p t ih =>
    obtain ⟨i, e⟩ := p
    simp only [keepLow]
    cases hb : low i with
    | true =>
      simp only [cond_true, tget, ih]
      cases hij : i == j with
      | true => simp at hij; subst hij; simp [hb]
      | false => simp
    | false =>
      simp only [cond_false, tget, ih]
      cases hij : i == j with
      | true => simp at hij; subst hij; simp [hb]
      | false => simp
theorem lowB_lt {base : Nat} {bp : Nat → Bool} {g : Nat} (h : lowB base bp g = true) : g < base := by
  unfold lowB at h
  rw [Bool.and_eq_true, Nat.blt_eq] at h
  exact h.1
theorem reach_ge {low : Nat → Bool} {t : Tab} {n : Nat} {l acc : List Nat} (hacc : ∀ g ∈ acc, low g = false) : ∀ g ∈ reach low t n l acc, low g = false := by
  induction n generalizing l acc with
  | zero => simpa [reach] using hacc
  | succ n ih =>
    cases l with
    | nil => simpa [reach] using hacc
    | cons a l =>
      simp only [reach]
      cases hb : (low a || memN acc a) with
      | true => simp only [cond_true]; exact ih hacc
      | false =>
        simp only [cond_false]
        rw [Bool.or_eq_false_iff] at hb
        have hge : low a = false := hb.1
        cases ha : tget t a with
        | none => exact ih hacc
        | some e =>
          refine ih fun g hg => ?_
          rcases List.mem_append.1 hg with h1 | h1
          · exact hacc g h1
          · simp at h1; subst h1; exact hge
def Cx.num (c : Cx) (base : Nat) (low : Nat → Bool) (ord : List Nat) (t : Tab) : Cx :=
  { b := fun j => if j < base then c.b j else c.b (ord.getD (j - base) 0), o := fun j => if j < base then c.o j else c.o (ord.getD (j - base) 0), u := fun j => if j < base then c.u j else c.u (ord.getD (j - base) 0)
    en := fun j => tget (keepLow low (numOf low base ord) t ++ keepOrd t (numOf low base ord) ord base) j
    K := fun j => j < base + ord.length, Z := c.Z, w := c.w }
theorem num_en {c : Cx} {base : Nat} {low : Nat → Bool} (hlow : ∀ g, low g = true → g < base) {ord : List Nat} {t : Tab} {nx : Nat} (h : Tok c t nx) {j : Nat} {e' : Ent} (he : (c.num base low ord t).en j = some e') :
    ∃ g e, c.en g = some e ∧ e' = renE (numOf low base ord) e ∧ (c.num base low ord t).b j = c.b g ∧ (c.num base low ord t).u j = c.u g ∧ (c.num base low ord t).o j = c.o g ∧ ((low j = true ∧ g = j) ∨ (base ≤ j ∧ ord[j - base]? = some g)) := by
  simp only [Cx.num, tget_append, tget_keepLow, tget_keepOrd] at he
  by_cases hj : low j = true
  · have hjb := hlow j hj
    simp only [if_pos hj] at he
    cases ht : tget t j with
    | none =>
      rw [ht] at he
      simp only [Option.map_none] at he
      rw [if_neg (by omega)] at he
      cases he
    | some e =>
      rw [ht] at he
      simp only [Option.map_some] at he
      injection he with he
      exact ⟨j, e, (h.en j).trans ht, he.symm, by simp [Cx.num, hjb], by simp [Cx.num, hjb], by simp [Cx.num, hjb], .inl ⟨hj, rfl⟩⟩
  · simp only [if_neg hj] at he
    by_cases hjb : base ≤ j
    · rw [if_pos hjb] at he
      cases hg : ord[j - base]? with
      | none => rw [hg] at he; cases he
      | some g =>
        rw [hg] at he
        simp only [Option.map_eq_some_iff] at he
        obtain ⟨e, he, rfl⟩ := he
        have : ord.getD (j - base) 0 = g := by simp [hg]
        exact ⟨g, e, (h.en g).trans he, rfl, by simp only [Cx.num, if_neg (show ¬ j < base by omega), this], by simp only [Cx.num, if_neg (show ¬ j < base by omega), this], by simp only [Cx.num, if_neg (show ¬ j < base by omega), this], .inr ⟨hjb, rfl⟩⟩
    · rw [if_neg hjb] at he
      cases he
theorem num_ren {c : Cx} {base : Nat} {low : Nat → Bool} (hlow : ∀ g, low g = true → g < base) {ord : List Nat} {t : Tab} {nx : Nat} (h : Tok c t nx) : Ren c (c.num base low ord t) (numOf low base ord) where
  zs := fun _ hk => hk
  w := fun _ _ => rfl
  K := fun g g' hν _ => by
    unfold numOf at hν
    cases hb : low g <;> rw [hb] at hν <;> simp only [cond_true, cond_false] at hν
    · obtain ⟨h1, h2⟩ := idxN_spec ord g base g' hν
      have := (List.getElem?_eq_some_iff.1 h2).1
      simp only [Cx.num]; omega
    · injection hν with hν
      subst hν
      have hb := hlow g hb
      simp only [Cx.num]; omega
  b := fun g g' hν => by
    unfold numOf at hν
    cases hb : low g <;> rw [hb] at hν <;> simp only [cond_true, cond_false] at hν
    · obtain ⟨h1, h2⟩ := idxN_spec ord g base g' hν
      have : ord.getD (g' - base) 0 = g := by simp [h2]
      simp only [Cx.num, if_neg (show ¬ g' < base by omega), this, and_self]
    · injection hν with hν
      subst hν
      have hb := hlow g hb
      simp only [Cx.num, if_pos hb, and_self]
  en := fun g g' e' hν he' => by
    obtain ⟨g2, e, he, rfl, _, _, ho, hcase⟩ := num_en hlow h he'
    have : g2 = g := by
      unfold numOf at hν
      cases hb : low g <;> rw [hb] at hν <;> simp only [cond_true, cond_false] at hν
      · obtain ⟨h1, h2⟩ := idxN_spec ord g base g' hν
        rcases hcase with ⟨h3, _⟩ | ⟨_, h4⟩
        · have := hlow _ h3; omega
        · rw [h2] at h4; injection h4 with h4; exact h4.symm
      · injection hν with hν
        subst hν
        have hb := hlow g hb
        rcases hcase with ⟨_, h4⟩ | ⟨h3, _⟩
        · exact h4
        · omega
    subst this
    exact ⟨e, he, shape_renE _ e, by rw [ho]⟩
theorem num_ok {c : Cx} {base : Nat} {low : Nat → Bool} (hlow : ∀ g, low g = true → g < base) {ord : List Nat} {t : Tab} {nx : Nat} (h : Tok c t nx) (hge : ∀ g ∈ ord, low g = false) (hn : ord.Nodup) : HeapOk (c.num base low ord t) where
  lt := fun j e' he => by
    obtain ⟨g, e, _, _, _, _, _, hcase⟩ := num_en hlow h he
    rcases hcase with ⟨h1, _⟩ | ⟨h1, h2⟩
    · have := hlow _ h1; simp only [Cx.num]; omega
    · have := (List.getElem?_eq_some_iff.1 h2).1
      simp only [Cx.num]; omega
  ents := fun j e' he => by
    obtain ⟨g, e, h1, rfl, hb, hu, hx, _⟩ := num_en hlow h he
    exact ent_ren (num_ren hlow h) (h.ho.ents g e h1) hb hu hx (fun _ _ => rfl)
  inj := fun j j' e e' k h1 h2 hh1 hh2 => by
    obtain ⟨g, e1, a1, rfl, ab, _, ax, ac⟩ := num_en hlow h h1
    obtain ⟨g', e2, b1, rfl, bb, _, bx, bc⟩ := num_en hlow h h2
    have := h.ho.inj g g' e1 e2 k a1 b1 (ow_renE ab ax hh1) (ow_renE bb bx hh2)
    subst this
    rcases ac with ⟨a2, rfl⟩ | ⟨a2, a3⟩ <;> rcases bc with ⟨b2, b3⟩ | ⟨b2, b3⟩
    · exact b3
    · have := hge _ (List.mem_of_getElem? b3); rw [a2] at this; cases this
    · have := hge _ (List.mem_of_getElem? a3); rw [b3] at this; rw [b2] at this; cases this
    · have h3 := idxN_of ord hn g 0 _ a3
      have h4 := idxN_of ord hn g 0 _ b3
      rw [h3] at h4
      injection h4 with h4
      omega
  zlt := h.ho.zlt
  gls := h.ho.gls
  zno := fun k hk j e' he hh => by
    obtain ⟨g, e, h1, rfl, hb', _, hx', _⟩ := num_en hlow h he
    exact h.ho.zno k hk g e h1 (ow_renE hb' hx' hh)
theorem num_trans {c0 c : Cx} {base : Nat} {low : Nat → Bool} (hlow : ∀ g, low g = true → g < base) {ord : List Nat} {t : Tab} {nx : Nat} (h : Tok c t nx) (hK : ∀ id, c0.K id → id < base) (ht : Trans c0 c) : Trans c0 (c.num base low ord t) where
  os := ht.os
  tape := ht.tape
  output := ht.output
  size := ht.size
  kn := fun id hk => by have := hK id hk; simp only [Cx.num]; omega
  zs := ht.zs
  znew := ht.znew
  keep := ht.keep
  old := fun j e' he => by
    obtain ⟨g, e, h1, rfl, hb, hu, hx, hcase⟩ := num_en hlow h he
    rcases hcase with ⟨h2, rfl⟩ | ⟨h2, _⟩
    · rcases ht.old g e h1 with ⟨e0, h3, h4, h5, h6, h7⟩ | h3
      · exact .inl ⟨e0, h3, hb.trans h4, hu.trans h5, by rw [shape_renE]; exact h6, by rw [hx]; exact h7⟩
      · exact .inr h3
    · exact .inr fun hk => by have := hK j hk; omega
  loc := fun j e' k he hh => by
    obtain ⟨g, e, h1, rfl, hb, _, hx, _⟩ := num_en hlow h he
    exact ht.loc g e k h1 (ow_renE hb hx hh)
theorem canon_ok {base : Nat} {bp : Nat → Bool} {roots : List SV} {t : Tab} {kf : List SV → Tab → Nat → Option R} (h : canon base bp roots t kf = some r) :
    ∃ roots' t' nx', kf roots' t' nx' = some r ∧ ∀ c0 c vs nx, (∀ id, c0.K id → id < base) → Tok c t nx → Trans c0 c → DenL c roots vs → ∃ c', Tok c' t' nx' ∧ Trans c0 c' ∧ c'.w = c.w ∧ DenL c' roots' vs := by
  unfold canon at h
  simp only at h
  generalize ho : reach (lowB base bp) t 1000 (idR roots ++ belowIds (lowB base bp) t) [] = ord at h
  cases hn : nodupN ord <;> rw [hn] at h <;> simp only [cond_true, cond_false, reduceCtorEq] at h
  have hn := nodupN_iff ord hn
  have hlow : ∀ g, lowB base bp g = true → g < base := fun g hg => lowB_lt hg
  have hge : ∀ g ∈ ord, lowB base bp g = false := by rw [← ho]; exact reach_ge (by simp)
  refine ⟨_, _, _, h, fun c0 c vs nx hK hc ht hd => ?_⟩
  exact ⟨c.num base (lowB base bp) ord t, ⟨num_ok hlow hc hge hn, fun _ => rfl, fun _ hid => hid⟩, num_trans hlow hc hK ht, rfl, by simpa using hd.1, den_map (fun s v => den_ren (num_ren hlow hc)) hd.2⟩
theorem clearS_get (i : Nat) (keep : List Nat) (l : List SV) (j : Nat) : (clearS i keep l)[j]? = (l[j]?).map fun s => bif memN keep (i + j) then s else .undef := by
  induction l generalizing i j with
  | nil => simp [clearS]
  | cons s l ih =>
    cases j with
    | zero => simp [clearS]
    | succ j =>
      simp only [clearS, List.getElem?_cons_succ, ih]
      rw [show i + 1 + j = i + (j + 1) by omega]
theorem length_clearS (i : Nat) (keep : List Nat) (l : List SV) : (clearS i keep l).length = l.length := by
  induction l generalizing i with
  | nil => rfl
  | cons s l ih => simp [clearS, ih]
theorem norm_ok {base : Nat} {keep : List Nat} {S : St} {kf : St → Option R} (h : normK base keep S kf = some r) :
    ∃ S0, kf S0 = some r ∧ ∀ {dfs : List Deferred} (c0 c : Cx) (a : Act), (∀ id, c0.K id → id < base) → Rel dfs c S a → Trans c0 c → ∃ c', Rel dfs c' S0 a ∧ Trans c0 c' ∧ c'.w = c.w := by
  unfold normK at h
  obtain ⟨l1, t1, n1, h1, p1⟩ := rowifyS_ok _ _ _ _ h
  obtain ⟨t2, n2, h2, p2⟩ := rowifyT_ok _ _ _ _ h1
  obtain ⟨l3, t3, n3, h3, p3⟩ := canon_ok h2
  refine ⟨_, h3, fun c0 c a hK hr ht => ?_⟩
  have hden : DenL c (clearS 0 keep S.tmps) a.tmps.toList := by
    refine ⟨by rw [length_clearS, hr.len]; simp, fun i s v hs hv => ?_⟩
    rw [clearS_get, Option.map_eq_some_iff] at hs
    obtain ⟨s', hs', rfl⟩ := hs
    cases memN keep (0 + i) with
    | false => exact .und _
    | true =>
      have := hr.sl i
      rw [lget_some hs'] at this
      have hv' : a.tmps.getD i Go.undef = v := by
        simp only [Array.getElem?_toList] at hv
        simp [hv]
      rw [hv'] at this
      exact this
  obtain ⟨c1, g1, d1⟩ := p1 c a.tmps.toList ⟨hr.ho, hr.en, hr.K⟩ hden
  obtain ⟨c2, g2⟩ := p2 c1 g1.ok
  obtain ⟨c3, k1, k2, k3, k4⟩ := p3 c0 c2 a.tmps.toList n2 hK g2.ok (ht.trans (g1.tr.trans g2.tr)) ⟨d1.1, fun i s v hs hv => (d1.2 i s v hs hv).trans g2.tr g1.ok.ho⟩
  refine ⟨c3, ⟨k1.ho, k1.en, k1.K, hr.defers, by simpa using k4.1, fun s => ?_⟩, k2, k3.trans (g2.w.trans g1.w)⟩
  rcases Nat.lt_or_ge s l3.length with hlt | hge
  · have hlt2 : s < a.tmps.size := by have := k4.1; simp at this; omega
    have := k4.2 s _ (a.tmps.getD s Go.undef) (lget_lt hlt) (by simp [hlt2])
    exact this
  · have : lget l3 s = .undef := by simp [lget, hge]
    show Den c3 (lget l3 s) _
    rw [this]
    exact .und _
end
end Go.Sx
