import Derived.Test.YtlphgonhenegoaaSxAny
namespace Go.Sx
def maskOf (o : Oper) (B : List Nat) : Nat := o.after.toList.foldl (fun s e => bif Region.binds .any e then s ||| 2 ^ e.on ||| B.getD e.on 0 else s) 0
theorem mask_bit {B : List Nat} {i : Nat} : ∀ (es : List Edge) (s : Nat), (es.foldl (fun s e => bif Region.binds .any e then s ||| 2 ^ e.on ||| B.getD e.on 0 else s) s).testBit i = true →
    s.testBit i = true ∨ ∃ e ∈ es, Region.binds .any e = true ∧ (e.on = i ∨ (B.getD e.on 0).testBit i = true) := by
  intro es
  induction es with
  | nil => intro s h; exact .inl h
  | cons e es ih =>
    intro s h
    simp only [List.foldl_cons] at h
    rcases ih _ h with h1 | ⟨e', he', hb, h2⟩
    · cases hb : Region.binds .any e with
      | false => rw [hb] at h1; exact .inl h1
      | true =>
        rw [hb] at h1
        simp only [cond_true, Nat.testBit_or, Nat.testBit_two_pow, Bool.or_eq_true, decide_eq_true_eq] at h1
        rcases h1 with (h1 | h1) | h1
        · exact .inl h1
        · exact .inr ⟨e, by simp, hb, .inl h1⟩
        · exact .inr ⟨e, by simp, hb, .inr h1⟩
    · exact .inr ⟨e', by simp [he'], hb, h2⟩
theorem foldl_congr_mem {B B' : List Nat} : ∀ (es : List Edge) (s : Nat), (∀ e ∈ es, Region.binds .any e = true → B.getD e.on 0 = B'.getD e.on 0) →
    es.foldl (fun s e => bif Region.binds .any e then s ||| 2 ^ e.on ||| B.getD e.on 0 else s) s = es.foldl (fun s e => bif Region.binds .any e then s ||| 2 ^ e.on ||| B'.getD e.on 0 else s) s := by
  intro es
  induction es with
  | nil => intro s _; rfl
  | cons e es ih =>
    intro s h
    simp only [List.foldl_cons]
    have : (bif Region.binds .any e then s ||| 2 ^ e.on ||| B.getD e.on 0 else s) = (bif Region.binds .any e then s ||| 2 ^ e.on ||| B'.getD e.on 0 else s) := by
      cases hb : Region.binds .any e with
      | false => rfl
      | true => simp only [cond_true]; rw [h e (by simp) hb]
    rw [this]
    exact ih _ fun e' he' => h e' (by simp [he'])
theorem befores_spec : ∀ (ops : List Oper) (acc : List Nat), edgesOk ops acc.length = true →
    (befores ops acc).length = acc.length + ops.length ∧ (∀ k, k < acc.length → (befores ops acc).getD k 0 = acc.getD k 0) ∧
    ∀ j o, ops[j]? = some o → (befores ops acc).getD (acc.length + j) 0 = maskOf o (befores ops acc) ∧ ∀ e ∈ o.after.toList, Region.binds .any e = true → e.on < acc.length + j := by
  intro ops
  induction ops with
  | nil => intro acc _; exact ⟨rfl, fun _ _ => rfl, fun j o h => by simp at h⟩
  | cons o l ih =>
    intro acc he
    simp only [edgesOk, Bool.and_eq_true] at he
    obtain ⟨he1, he2⟩ := he
    have hon : ∀ e ∈ o.after.toList, Region.binds .any e = true → e.on < acc.length := fun e hm hb => by
      have := List.all_eq_true.1 he1 e hm
      rw [hb] at this
      simpa [Nat.blt_eq] using this
    simp only [befores]
    obtain ⟨h1, h2, h3⟩ := ih (acc ++ [maskOf o acc]) (by simpa using he2)
    have e0 : o.after.toList.foldl (fun s e => bif Region.binds .any e then s ||| 2 ^ e.on ||| acc.getD e.on 0 else s) 0 = maskOf o acc := rfl
    rw [e0]
    refine ⟨by rw [h1]; simp; omega, fun k hk => ?_, fun j o' hj => ?_⟩
    · rw [h2 k (by simp; omega)]
      simp [List.getElem?_append_left hk]
    · cases j with
      | zero =>
        simp at hj
        subst hj
        refine ⟨?_, fun e hm hb => by have := hon e hm hb; omega⟩
        rw [h2 (acc.length + 0) (by simp)]
        have : (acc ++ [maskOf o acc]).getD (acc.length + 0) 0 = maskOf o acc := by simp
        rw [this]
        refine foldl_congr_mem _ _ fun e hm hb => ?_
        have hlt := hon e hm hb
        rw [h2 e.on (by simp; omega)]
        simp [List.getElem?_append_left hlt]
      | succ j =>
        obtain ⟨g1, g2⟩ := h3 j o' (by simpa using hj)
        have e1 : (acc ++ [maskOf o acc]).length + j = acc.length + (j + 1) := by simp; omega
        rw [e1] at g1 g2
        exact ⟨g1, g2⟩
def Closed (ops : List Oper) (D : Nat → Bool) : Prop := ∀ k o, ops[k]? = some o → D k = true → ∀ e ∈ o.after.toList, Region.binds .any e = true → D e.on = true
theorem anc {ops : List Oper} (he : edgesOk ops 0 = true) {D : Nat → Bool} (hc : Closed ops D) : ∀ (j : Nat) (o : Oper), ops[j]? = some o → (∀ e ∈ o.after.toList, Region.binds .any e = true → D e.on = true) →
    ∀ i, ((befores ops []).getD j 0).testBit i = true → D i = true := by
  intro j
  induction j using Nat.strongRecOn with
  | _ j ih =>
    intro o ho hd i hi
    obtain ⟨_, _, h3⟩ := befores_spec ops [] he
    obtain ⟨g1, g2⟩ := h3 j o ho
    simp only [List.length_nil, Nat.zero_add] at g1 g2
    rw [g1] at hi
    rcases mask_bit _ _ hi with h1 | ⟨e, hm, hb, h1⟩
    · simp at h1
    · have hDe := hd e hm hb
      rcases h1 with rfl | h1
      · exact hDe
      · have hlt := g2 e hm hb
        have hlen : j < ops.length := (List.getElem?_eq_some_iff.1 ho).1
        have hoe : ops[e.on]? = some (ops[e.on]'(by omega)) := List.getElem?_eq_getElem (by omega)
        exact ih e.on hlt _ hoe (hc e.on _ hoe hDe) i h1
theorem slots_spec {all : List Oper} {j bj : Nat} {b : Oper} : ∀ (l : List Oper) (k : Nat), slotsAt all j bj b l k = true → ∀ i a, l[i]? = some a → k + i < j → bj.testBit (k + i) = true ∨ slotPair all a b = true := by
  intro l
  induction l with
  | nil => intro k _ i a h; simp at h
  | cons x l ih =>
    intro k h i a hi hlt
    simp only [slotsAt, Bool.and_eq_true] at h
    cases i with
    | zero =>
      simp at hi
      subst hi
      have hb : Nat.blt k j = true := by rw [Nat.blt_eq]; omega
      have := h.1
      rw [hb] at this
      simpa using this
    | succ i =>
      have := ih (k + 1) h.2 i a (by simpa using hi) (by omega)
      rwa [show k + 1 + i = k + (i + 1) by omega] at this
theorem slotsFrom_spec {all : List Oper} : ∀ (bs : List Nat) (l : List Oper) (k : Nat), slotsFrom all bs l k = true → ∀ j b, l[j]? = some b → slotsAt all (k + j) (bs.getD j 0) b all 0 = true := by
  intro bs
  induction bs with
  | nil =>
    intro l k h j b hj
    cases l with
    | nil => simp at hj
    | cons x l => simp [slotsFrom] at h
  | cons bj bs ih =>
    intro l k h j b hj
    cases l with
    | nil => simp at hj
    | cons x l =>
      simp only [slotsFrom, Bool.and_eq_true] at h
      cases j with
      | zero => simp at hj; subst hj; simpa using h.1
      | succ j =>
        have := ih l (k + 1) h.2 j b (by simpa using hj)
        rw [show k + 1 + j = k + (j + 1) by omega] at this
        simpa using this
theorem pairs_spec {j bj : Nat} {b : Info} : ∀ (l : List Info) (k : Nat), pairsAt j bj b l k = true → ∀ i a, l[i]? = some a → k + i < j → bj.testBit (k + i) = true ∨ pairOk a b = true := by
  intro l
  induction l with
  | nil => intro k _ i a h; simp at h
  | cons x l ih =>
    intro k h i a hi hlt
    simp only [pairsAt, Bool.and_eq_true] at h
    cases i with
    | zero =>
      simp at hi
      subst hi
      have hb : Nat.blt k j = true := by rw [Nat.blt_eq]; omega
      have := h.1
      rw [hb] at this
      simpa using this
    | succ i =>
      have := ih (k + 1) h.2 i a (by simpa using hi) (by omega)
      rwa [show k + 1 + i = k + (i + 1) by omega] at this
theorem pairsFrom_spec {all : List Info} : ∀ (bs : List Nat) (l : List Info) (k : Nat), pairsFrom all bs l k = true → ∀ j b, l[j]? = some b → (b.1.all (fun q => Nat.blt q b.2.2) = true) ∧ pairsAt (k + j) (bs.getD j 0) b all 0 = true := by
  intro bs
  induction bs with
  | nil =>
    intro l k h j b hj
    cases l with
    | nil => simp at hj
    | cons x l => simp [pairsFrom] at h
  | cons bj bs ih =>
    intro l k h j b hj
    cases l with
    | nil => simp at hj
    | cons x l =>
      simp only [pairsFrom, Bool.and_eq_true] at h
      cases j with
      | zero => simp at hj; subst hj; exact ⟨h.1.1, by simpa using h.1.2⟩
      | succ j =>
        have := ih l (k + 1) h.2 j b (by simpa using hj)
        rw [show k + 1 + j = k + (j + 1) by omega] at this
        simpa using this
theorem meets_false {a b : List Nat} (h : meets a b = false) {x : Nat} (ha : x ∈ a) (hb : x ∈ b) : False := by
  unfold meets at h
  rw [List.any_eq_false] at h
  exact h x ha ((memN_iff b x).2 hb)
section
variable {P : Program} {all : List Oper} {l : List (Oper × Delta)} {S S' : St}
structure Setup (P : Program) (all : List Oper) (l : List (Oper × Delta)) (S S' : St) : Prop where
  hl : l.map (·.1) = all
  tr : Trace P all l S S'
  rok : regionOk all = true
  ind : indep all (infosOf l S) = true
structure Inv (dfs : List Deferred) (l : List (Oper × Delta)) (S : St) (c0 : Cx) (D : Nat → Bool) (c : Cx) (a : Act) : Prop where
  ho : HeapOk c
  tr : Trans c0 c
  defers : a.defers = dfs
  len : a.tmps.size = S.tmps.length
  sl : ∀ s, s < S.tmps.length → Den c (svD D S.tmps.length l 0 (lget S.tmps) s) (a.tmps.getD s Go.undef)
  en : ∀ id, c.en id = enD D l 0 (tget S.tab) id
  K : ∀ id, c.K id → id < S.nx ∨ ∃ j o δ, l[j]? = some (o, δ) ∧ D j = true ∧ id ∈ δ.upd.map (·.1)
variable {dfs : List Deferred}
theorem Setup.op (h : Setup P all l S S') {i : Nat} {o : Oper} {δ : Delta} (hi : l[i]? = some (o, δ)) : all[i]? = some o := by rw [← h.hl]; simp [hi]
theorem Setup.edges (h : Setup P all l S S') : edgesOk all 0 = true := by have := h.rok; simp only [regionOk, Bool.and_eq_true] at this; exact this.1
theorem Setup.slotOrder (h : Setup P all l S S') {D : Nat → Bool} (hc : Closed all D) {i : Nat} {o : Oper} {δ : Delta} (hi : l[i]? = some (o, δ)) (hn : D i = false) (hr : ∀ e ∈ o.after.toList, Region.binds .any e = true → D e.on = true)
    {j : Nat} {o' : Oper} {δ' : Delta} (hj : l[j]? = some (o', δ')) (hne : j ≠ i) {s : Nat} (hd : o'.dst = some s) (hs : s ∈ readsO all o ∨ o.dst = some s) : D j = decide (j < i) := by
  have hso := h.rok
  simp only [regionOk, Bool.and_eq_true] at hso
  rcases Nat.lt_or_gt_of_ne hne with hlt | hgt
  · simp only [hlt, decide_true]
    have h1 := slotsFrom_spec _ _ _ hso.2 i o (h.op hi)
    simp only [Nat.zero_add] at h1
    rcases slots_spec _ _ h1 j o' (h.op hj) (by omega) with h2 | h2
    · rw [Nat.zero_add] at h2
      exact anc h.edges hc i o (h.op hi) hr j h2
    · exfalso
      simp only [slotPair, hd, Bool.and_eq_true] at h2
      rcases hs with hs | hs
      · have := h2.1.1
        rw [Bool.not_eq_true', ← Bool.not_eq_true, memN_iff] at this
        exact this hs
      · have := h2.1.2
        rw [hs] at this
        simp at this
  · have hf : decide (j < i) = false := by simp; omega
    rw [hf]
    have h1 := slotsFrom_spec _ _ _ hso.2 j o' (h.op hj)
    simp only [Nat.zero_add] at h1
    rcases slots_spec _ _ h1 i o (h.op hi) (by omega) with h2 | h2
    · rw [Nat.zero_add] at h2
      cases hD : D j with
      | false => rfl
      | true =>
        have := anc h.edges hc j o' (h.op hj) (hc j o' (h.op hj) hD) i h2
        rw [hn] at this
        cases this
    · exfalso
      simp only [slotPair, hd, Bool.and_eq_true] at h2
      rcases hs with hs | hs
      · have := h2.2
        rw [Bool.not_eq_true', ← Bool.not_eq_true, memN_iff] at this
        exact this hs
      · have := h2.1
        rw [hs] at this
        simp at this
theorem Setup.idOrder (h : Setup P all l S S') {D : Nat → Bool} (hc : Closed all D) {i : Nat} {o : Oper} {δ : Delta} (hi : l[i]? = some (o, δ)) (hn : D i = false) (hr : ∀ e ∈ o.after.toList, Region.binds .any e = true → D e.on = true)
    {j : Nat} {o' : Oper} {δ' : Delta} (hj : l[j]? = some (o', δ')) (hne : j ≠ i) {id : Nat} (hrel : (id ∈ δ'.upd.map (·.1) ∧ (id ∈ δ.rd ∨ id ∈ δ.upd.map (·.1))) ∨ (id ∈ δ'.rd ∧ id ∈ δ.upd.map (·.1))) : D j = decide (j < i) := by
  obtain ⟨tr1, _, _, _, _, _⟩ := trace_at l 0 S (lget S.tmps) (tget S.tab) h.tr (fun _ => rfl) (fun _ => rfl)
  obtain ⟨Si, _, _, _, _, _, _, hInfo, _⟩ := tr1 i o δ hi
  obtain ⟨Sj, _, _, _, _, _, _, hInfo', _⟩ := tr1 j o' δ' hj
  have hind := h.ind
  rcases Nat.lt_or_gt_of_ne hne with hlt | hgt
  · simp only [hlt, decide_true]
    have h1 := (pairsFrom_spec _ _ _ hind i _ hInfo).2
    simp only [Nat.zero_add] at h1
    rcases pairs_spec _ _ h1 j _ hInfo' (by omega) with h2 | h2
    · rw [Nat.zero_add] at h2
      exact anc h.edges hc i o (h.op hi) hr j h2
    · exfalso
      simp only [pairOk, Bool.and_eq_true, Bool.not_eq_true'] at h2
      rcases hrel with ⟨r1, r2 | r2⟩ | ⟨r1, r2⟩
      · exact meets_false h2.1.1 r1 r2
      · exact meets_false h2.1.2 r1 r2
      · exact meets_false h2.2 r1 r2
  · have hf : decide (j < i) = false := by simp; omega
    rw [hf]
    have h1 := (pairsFrom_spec _ _ _ hind j _ hInfo').2
    simp only [Nat.zero_add] at h1
    rcases pairs_spec _ _ h1 i _ hInfo (by omega) with h2 | h2
    · rw [Nat.zero_add] at h2
      cases hD : D j with
      | false => rfl
      | true =>
        have := anc h.edges hc j o' (h.op hj) (hc j o' (h.op hj) hD) i h2
        rw [hn] at this
        cases this
    · exfalso
      simp only [pairOk, Bool.and_eq_true, Bool.not_eq_true'] at h2
      rcases hrel with ⟨r1, r2 | r2⟩ | ⟨r1, r2⟩
      · exact meets_false h2.2 r2 r1
      · exact meets_false h2.1.2 r2 r1
      · exact meets_false h2.1.1 r2 r1
def addD (D : Nat → Bool) (i : Nat) : Nat → Bool := fun j => if j = i then true else D j
theorem any_step (h : Setup P all l S S') {c0 c : Cx} {a : Act} {D : Nat → Bool} (hc : Closed all D) (hinv : Inv dfs l S c0 D c a) {i : Nat} {o : Oper} {δ : Delta} (hi : l[i]? = some (o, δ)) (hn : D i = false)
    (hr : ∀ e ∈ o.after.toList, Region.binds .any e = true → D e.on = true) (Kt : Act → World → Prop) (Q : Exit → Act → World → Prop)
    (hK : ∀ c' a', Inv dfs l S c0 (addD D i) c' a' → Kt a' c'.w) : (if Region.wanted o (yielded all.toArray a.tmps) then opA P o a c.w Kt Q else Kt (a.put o.dst Go.undef) c.w) := by
  obtain ⟨tr1, _, _, _, _, _⟩ := trace_at l 0 S (lget S.tmps) (tget S.tab) h.tr (fun _ => rfl) (fun _ => rfl)
  obtain ⟨Si, hg, hlen, hsv, hent, hnx0, hnx1, hInfo, hprev⟩ := tr1 i o δ hi
  simp only [Nat.zero_add] at hsv hent
  have hrdlt := (pairsFrom_spec _ _ _ h.ind i _ hInfo).1
  -- what the operation reads
  have hread : ∀ s, s ∈ readsO all o → Den c (lget Si.tmps s) (a.tmps.getD s Go.undef) := by
    intro s hs
    rcases Nat.lt_or_ge s S.tmps.length with hlt | hge
    · have : svD (upto i) S.tmps.length l 0 (lget S.tmps) s = svD D S.tmps.length l 0 (lget S.tmps) s := by
        refine svD_congr l 0 _ _ rfl fun j o' δ' hj hd => ?_
        rw [Nat.zero_add]
        by_cases hji : j = i
        · subst hji; rw [hn]; simp [upto]
        · rw [h.slotOrder hc hi hn hr hj hji hd (.inl hs)]; rfl
      rw [hsv, this]
      exact hinv.sl s hlt
    · have : lget Si.tmps s = .undef := by simp [lget, hlen, hge]
      rw [this]
      exact .und _
  have hen : ∀ id, id ∈ δ.rd → c.en id = tget Si.tab id := by
    intro id hid
    rw [hinv.en, hent]
    refine enD_congr l 0 _ _ rfl fun j o' δ' hj hk => ?_
    rw [Nat.zero_add]
    by_cases hji : j = i
    · subst hji; rw [hn]; simp [upto]
    · rw [h.idOrder hc hi hn hr hj hji (.inl ⟨hk, .inl hid⟩)]; rfl
  have hwant : ∀ b, wantS all o Si = some b → Region.wanted o (yielded all.toArray a.tmps) = b := fun b hb =>
    wanted_of hb (by rw [hlen, hinv.len]) fun j want d hgd hd => hread d (by
      simp only [readsO, hgd, hd, List.mem_append]
      exact .inr (by simp))
  -- the invariant afterwards
  have hnext : ∀ (c' : Cx) (v : Value), Den c' δ.v v → HeapOk c' → (∀ id, c'.en id = upd c.en δ.upd id) → (∀ id, c'.K id ↔ c.K id ∨ id ∈ δ.upd.map (·.1)) → Trans c c' → Inv dfs l S c0 (addD D i) c' (a.put o.dst v) := by
    intro c' v hd ho' hen' hK' ht
    have hother : ∀ j, j ≠ i → addD D i j = D j := fun j hj => by simp [addD, hj]
    refine ⟨ho', hinv.tr.trans ht, by rw [put_defers']; exact hinv.defers, by rw [put_size]; exact hinv.len, fun s hs => ?_, fun id => ?_, fun id hid => ?_⟩
    · rw [put_getD, hinv.len]
      by_cases hds : o.dst = some s
      · rw [if_pos ⟨hds, hs⟩]
        have : svD (addD D i) S.tmps.length l 0 (lget S.tmps) s = δ.v := by
          refine svD_last l 0 i _ o δ hi hds hs (by simp [addD]) fun j o' δ' hij hj hd' => ?_
          rw [Nat.zero_add, hother j (by omega), h.slotOrder hc hi hn hr hj (by omega) hd' (.inr hds)]
          simp; omega
        rw [this]
        exact hd
      · rw [if_neg (fun hh => hds hh.1)]
        have : svD (addD D i) S.tmps.length l 0 (lget S.tmps) s = svD D S.tmps.length l 0 (lget S.tmps) s := by
          refine svD_congr l 0 _ _ rfl fun j o' δ' hj hd' => ?_
          rw [Nat.zero_add]
          by_cases hji : j = i
          · subst hji
            rw [hi] at hj
            injection hj with hj
            injection hj with hj1 hj2
            subst hj1
            exact absurd hd' hds
          · exact hother j hji
        rw [this]
        exact (hinv.sl s hs).trans ht hinv.ho
    · rw [hen']
      by_cases hk : id ∈ δ.upd.map (·.1)
      · rw [enD_last (D := addD D i) (en0 := c.en) l 0 i _ o δ hi hk (by simp [addD]) fun j o' δ' hij hj hk' => by
          rw [Nat.zero_add, hother j (by omega), h.idOrder hc hi hn hr hj (by omega) (.inl ⟨hk', .inr hk⟩)]
          simp; omega]
      · rw [upd_miss _ _ _ hk, hinv.en]
        refine enD_congr l 0 _ _ rfl fun j o' δ' hj hk' => ?_
        rw [Nat.zero_add]
        by_cases hji : j = i
        · subst hji
          rw [hi] at hj
          injection hj with hj
          injection hj with hj1 hj2
          subst hj2
          exact absurd hk' hk
        · exact (hother j hji).symm
    · rcases (hK' id).1 hid with h1 | h1
      · rcases hinv.K id h1 with h2 | ⟨j, o', δ', hj, hDj, hk⟩
        · exact .inl h2
        · exact .inr ⟨j, o', δ', hj, by by_cases hji : j = i <;> simp [addD, hji, hDj], hk⟩
      · exact .inr ⟨i, o, δ, hi, by simp [addD], h1⟩
  rcases hg with ⟨hw, ⟨hids, hloc⟩, hlt⟩ | ⟨hw, rfl⟩
  · rw [hwant true hw]
    simp only [if_true]
    refine (hloc c a ⟨hinv.ho, fun s hs => hread s ?_, hen, fun id hid hle hk => ?_⟩ _ _ fun v c' hd ho' hen' hK' ht => hK _ _ (hnext c' v hd ho' hen' hK' ht))
    · simp only [readsO, List.mem_append]
      exact .inl (List.mem_filterMap.2 ⟨_, hs, rfl⟩)
    · rcases hinv.K id hk with h2 | ⟨j, o', δ', hj, hDj, hkj⟩
      · omega
      · have hji : j ≠ i := fun e => by subst e; rw [hn] at hDj; cases hDj
        obtain ⟨Sj, hgj, _, _, _, _, _, hInfoj, hprevj⟩ := tr1 j o' δ' hj
        have hord := h.idOrder hc hi hn hr hj hji (.inl ⟨hkj, .inr hid⟩)
        rw [hDj] at hord
        have hji2 : j < i := by simpa using hord.symm
        have hnxj := hprev j o' δ' hji2 hj
        rcases hgj with ⟨_, _, hltj⟩ | ⟨_, rfl⟩
        · have := keysLt_iff hltj id hkj
          omega
        · simp [skipδ] at hkj
  · rw [hwant false hw]
    simp only [Bool.false_eq_true, if_false]
    exact hK _ _ (hnext c Go.undef .non hinv.ho (fun _ => rfl) (fun _ => by simp [skipδ]) .refl)
theorem listed_set (listed : Array Bool) (i j : Nat) (hi : i < listed.size) : (listed.setIfInBounds i true).getD j false = addD (fun j => listed.getD j false) i j := by
  simp only [addD, Array.getD_eq_getD_getElem?, Array.getElem?_setIfInBounds]
  by_cases h : i = j
  · subst h; simp [hi]
  · have : ¬ j = i := fun e => h e.symm
    simp [h, this]
theorem any_order (h : Setup P all l S S') {c0 : Cx} {Q : Exit → Act → World → Prop} (hq : ∀ c a, Rel dfs c S' a → Trans c0 c → Q .normal a c.w) : ∀ (fuel : Nat) (listed : Array Bool) (c : Cx) (a : Act), listed.size = all.length →
    (listed.toList.count false) ≤ fuel → Closed all (fun j => listed.getD j false) → Inv dfs l S c0 (fun j => listed.getD j false) c a → anyA P all.toArray Q fuel listed a c.w := by
  obtain ⟨tr1, tlen, tsv, ten, tnx, tinf⟩ := trace_at l 0 S (lget S.tmps) (tget S.tab) h.tr (fun _ => rfl) (fun _ => rfl)
  have hll : l.length = all.length := by rw [← h.hl]; simp
  have ready_iff : ∀ (listed : Array Bool) (i : Nat), listed.size = all.length → (i ∈ Region.ready .any all.toArray listed ↔ ∃ o, all[i]? = some o ∧ listed.getD i false = false ∧ ∀ e ∈ o.after.toList, Region.binds .any e = true → listed.getD e.on false = true) := by
    intro listed i hsz
    unfold Region.ready
    simp only [List.mem_filter, List.mem_range, List.size_toArray, Bool.and_eq_true]
    constructor
    · rintro ⟨h1, h2, h3⟩
      have ho : all[i]? = some all[i] := List.getElem?_eq_getElem h1
      have hi2 : i < listed.size := by omega
      refine ⟨all[i], ho, by simp [hi2] at h2 ⊢; exact h2, fun e he hb => ?_⟩
      have h4 : ((all.toArray[i]?).map (·.after.all fun e => !Region.binds .any e || listed.getD e.on false)).getD false = true := h3
      simp only [List.getElem?_toArray, ho, Option.map_some, Option.getD_some] at h4
      have h5 := (Array.all_eq_true_iff_forall_mem.1 h4) e (by simpa using he)
      rw [hb] at h5
      simpa using h5
    · rintro ⟨o, ho, h1, h2⟩
      have hlt : i < all.length := (List.getElem?_eq_some_iff.1 ho).1
      have hi2 : i < listed.size := by omega
      refine ⟨hlt, by simp [hi2] at h1 ⊢; exact h1, ?_⟩
      show ((all.toArray[i]?).map (·.after.all fun e => !Region.binds .any e || listed.getD e.on false)).getD false = true
      simp only [List.getElem?_toArray, ho, Option.map_some, Option.getD_some]
      rw [Array.all_eq_true_iff_forall_mem]
      intro e he
      cases hb : Region.binds .any e with
      | false => rfl
      | true => simpa using h2 e (by simpa using he) hb
  have all_listed : ∀ (listed : Array Bool), listed.size = all.length → Closed all (fun j => listed.getD j false) → Region.ready .any all.toArray listed = [] → ∀ j, j < all.length → listed.getD j false = true := by
    intro listed hsz hc hr j
    induction j using Nat.strongRecOn with
    | _ j ih =>
      intro hj
      cases hD : listed.getD j false with
      | true => rfl
      | false =>
        exfalso
        have : j ∈ Region.ready .any all.toArray listed := by
          rw [ready_iff listed j hsz]
          refine ⟨all[j], List.getElem?_eq_getElem hj, hD, fun e he hb => ?_⟩
          obtain ⟨_, _, h3⟩ := befores_spec all [] h.edges
          have := (h3 j _ (List.getElem?_eq_getElem hj)).2 e he hb
          simp only [List.length_nil, Nat.zero_add] at this
          exact ih e.on this (by omega)
        rw [hr] at this
        simp at this
  have finish : ∀ (listed : Array Bool) (c : Cx) (a : Act), listed.size = all.length → Closed all (fun j => listed.getD j false) → Inv dfs l S c0 (fun j => listed.getD j false) c a → Region.ready .any all.toArray listed = [] → Q .normal a c.w := by
    intro listed c a hsz hc hinv hr
    have hall := all_listed listed hsz hc hr
    have hlt : ∀ j p, l[j]? = some p → j < all.length := fun j p hj => by rw [← hll]; exact (List.getElem?_eq_some_iff.1 hj).1
    refine hq c a ⟨hinv.ho, fun id => ?_, fun id hid => ?_, hinv.defers, by rw [tlen, hinv.len], fun s => ?_⟩ hinv.tr
    · rw [hinv.en, ten]
      exact enD_congr l 0 _ _ rfl fun j o δ hj _ => by rw [Nat.zero_add]; exact hall j (hlt j _ hj)
    · rcases hinv.K id hid with h1 | ⟨j, o, δ, hj, _, hk⟩
      · omega
      · obtain ⟨Sj, hg, _, _, _, _, hnx, _⟩ := tr1 j o δ hj
        rcases hg with ⟨_, _, hlt⟩ | ⟨_, rfl⟩
        · have := keysLt_iff hlt id hk
          omega
        · simp [skipδ] at hk
    · rcases Nat.lt_or_ge s S.tmps.length with h1 | h1
      · rw [tsv]
        have : svD (fun _ => true) S.tmps.length l 0 (lget S.tmps) s = svD (fun j => listed.getD j false) S.tmps.length l 0 (lget S.tmps) s :=
          svD_congr l 0 _ _ rfl fun j o δ hj _ => by rw [Nat.zero_add]; exact (hall j (hlt j _ hj)).symm
        rw [this]
        exact hinv.sl s h1
      · have : lget S'.tmps s = .undef := by simp [lget, tlen, h1]
        rw [this]
        exact .und _
  intro fuel
  induction fuel with
  | zero =>
    intro listed c a hsz hcnt hc hinv
    have hr : Region.ready .any all.toArray listed = [] := by
      rw [List.eq_nil_iff_forall_not_mem]
      intro i hi
      obtain ⟨o, ho, h1, _⟩ := (ready_iff listed i hsz).1 hi
      have hlt : i < listed.size := by rw [hsz]; exact (List.getElem?_eq_some_iff.1 ho).1
      have hmem : false ∈ listed.toList := by
        have : listed[i] = false := by simpa [hlt] using h1
        rw [← this]
        simp
      have := List.count_pos_iff.2 hmem
      omega
    exact anyA_zero hr (finish listed c a hsz hc hinv hr)
  | succ fuel ih =>
    intro listed c a hsz hcnt hc hinv
    refine anyA_succ (fun hr => finish listed c a hsz hc hinv hr) fun i hi => ?_
    obtain ⟨o, ho, h1, h2⟩ := (ready_iff listed i hsz).1 hi
    have hlt : i < listed.size := by rw [hsz]; exact (List.getElem?_eq_some_iff.1 ho).1
    have hil : i < l.length := by omega
    obtain ⟨o', δ⟩ : Oper × Delta := l[i]
    obtain ⟨p, hp⟩ : ∃ p, l[i]? = some p := ⟨_, List.getElem?_eq_getElem hil⟩
    obtain ⟨o2, δ2⟩ := p
    have ho2 : o2 = o := by
      have := h.op hp
      rw [ho] at this
      injection this with this
      exact this.symm
    subst ho2
    unfold oneA
    simp only [List.getElem?_toArray, ho]
    refine any_step h hc hinv hp h1 h2 _ Q fun c' a' hinv' => ?_
    have hD : (fun j => (listed.setIfInBounds i true).getD j false) = addD (fun j => listed.getD j false) i := funext fun j => listed_set listed i j hlt
    refine ih (listed.setIfInBounds i true) c' a' (by simpa using hsz) ?_ ?_ ?_
    · have hfi : listed.toList[i]? = some false := by
        have : listed[i] = false := by simpa [hlt] using h1
        simp [hlt, this]
      have hcount : ∀ (L : List Bool) (k : Nat), L[k]? = some false → (L.set k true).count false + 1 = L.count false := by
        intro L
        induction L with
        | nil => intro k hk; simp at hk
        | cons b L ihL =>
          intro k hk
          cases k with
          | zero => simp at hk; subst hk; simp
          | succ k =>
            have := ihL k (by simpa using hk)
            simp only [List.set_cons_succ, List.count_cons]
            omega
      have := hcount listed.toList i hfi
      rw [Array.toList_setIfInBounds]
      omega
    · rw [hD]
      intro k ok hok hk e he hb
      by_cases hki : k = i
      · subst hki
        rw [ho] at hok
        injection hok with hok
        subst hok
        have := h2 e he hb
        simp only [addD]
        split
        · rfl
        · exact this
      · simp only [addD, if_neg hki] at hk
        have := hc k ok hok hk e he hb
        simp only [addD]
        split
        · rfl
        · exact this
    · rw [hD]
      exact hinv'
theorem region_any (hm : P.follows .mixedOrders = true) (h : Setup P all l S S') {c : Cx} {a : Act} (hr : Rel dfs c S a) {Q : Exit → Act → World → Prop} {id : Nat} (hq : ∀ c' a', Rel dfs c' S' a' → Trans c c' → Q .normal a' c'.w) :
    wpA P (Code.region id all.toArray true) Q a c.w := by
  refine wpA_region_any hm ?_
  have hrd : Rel dfs { c with w := c.w.drew } S a := by
    have ht : Trans c { c with w := c.w.drew } := ⟨rfl, rfl, rfl, Nat.le_refl _, fun _ h => h, fun _ h => h, fun _ h => .inl h, fun _ _ _ => rfl, fun _ e' h => .inl ⟨e', h, rfl, rfl, rfl, rfl⟩, fun id e' k h h' => .inr ⟨id, e', h, h'⟩⟩
    exact ⟨⟨hr.ho.lt, fun id e he => (hr.ho.ents id e he).trans ht hr.ho rfl rfl rfl (fun _ _ => rfl), hr.ho.inj, hr.ho.zlt, hr.ho.zno, ht.gls hr.ho⟩, hr.en, hr.K, hr.defers, hr.len, fun s => (hr.sl s).trans ht hr.ho⟩
  have ht : Trans c { c with w := c.w.drew } := ⟨rfl, rfl, rfl, Nat.le_refl _, fun _ h => h, fun _ h => h, fun _ h => .inl h, fun _ _ _ => rfl, fun _ e' h => .inl ⟨e', h, rfl, rfl, rfl, rfl⟩, fun id e' k h h' => .inr ⟨id, e', h, h'⟩⟩
  have key : ∀ (l : List (Oper × Delta)) (i : Nat) (sv : Nat → SV) (en : Nat → Option Ent) (len : Nat), svD (fun _ => false) len l i sv = sv ∧ enD (fun _ => false) l i en = en := by
    intro l
    induction l with
    | nil => intro i sv en len; exact ⟨rfl, rfl⟩
    | cons p l ih => obtain ⟨o, δ⟩ := p; intro i sv en len; simp only [svD, enD]; exact ih _ _ _ _
  have hD : (fun j => (Array.replicate all.toArray.size false).getD j false) = fun _ => false := by
    funext j
    by_cases hj : j < all.length <;> simp [hj]
  refine any_order h (c0 := c) (fun c' a' h1 h2 => hq c' a' h1 h2) all.toArray.size _ { c with w := c.w.drew } a (by simp) (by simp) ?_ ?_
  · rw [hD]; intro k o _ hk; cases hk
  · rw [hD]
    refine ⟨hrd.ho, ht, hrd.defers, hrd.len.symm, fun s _ => ?_, fun id => ?_, fun id hid => .inl (hrd.K id hid)⟩
    · rw [(key l 0 _ (tget S.tab) _).1]; exact hrd.sl s
    · rw [(key l 0 (lget S.tmps) _ 0).2]; exact hrd.en id
end
end Go.Sx
