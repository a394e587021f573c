import Derived.Test.YtlphgonhenegoaaSxMap
namespace Go.Sx
section
variable {P : Program} {Θ : Tys} {R : Type} {sv : Nat → SV} {en : Nat → Option Ent} {nx : Nat} {r : R} {kf : Delta → Option R} {o : Oper}
theorem ls_makeF (hty : tyOk P Θ = true) {t : TypeId} (hop : o.op = .makeMap t Option.none) (h : planF Θ o sv en nx kf = some r) : ∃ δ, kf δ = some r ∧ Local P o sv en nx δ := by
  simp only [planF, hop] at h
  split at h
  · rename_i kt et _ _ _ h1
    split at h
    · rename_i ik _ _ _ _ e _ _ _ h2 h3
      split at h
      · rename_i te h4
        refine ⟨_, h, ⟨fun id hid => .inr (by simp at hid; subst hid; exact ⟨Nat.le_refl _, Nat.lt_succ_self _⟩), Nat.le_succ _⟩, fun c a p => ?_⟩
        have hk : ¬ c.K nx := p.fresh nx (by simp) (Nat.le_refl _)
        have hrun : (execOp a.eval o).run P c.w = .ok (.value (.map (some c.w.heap.size))) (c.w.alloc (.map #[] 0)) := by
          simp only [execOp, hop]; rfl
        obtain ⟨h5, h6⟩ := add_ok p.ho hk (e := .fm ik (ckL te.zero) te.size noHs noLn (noGt te.zero) Option.none) (b := c.w.heap.size) (u := .map (some c.w.heap.size)) (Mem.alloc (Mem.refl c) (.map #[] 0)) (fun _ => Nat.le_refl _) (fun _ => by
          refine ⟨fun k hk => by simp [Cx.add] at hk, #[], 0, fun _ => 0, by simp [Cx.add], by simpa [Cx.add] using heap_alloc_new c.w _, ?_⟩
          exact ⟨fun e he => (by simp at he), (by simp), (by simp), fun e he => (by simp at he), fun z hz => (by cases hz), fun z _ => rfl, fun e he => (by simp at he), fun z hz => (by cases hz), fun z z' hz => (by cases hz)⟩)
        refine stp_value hrun ?_ h5 (fun id => rfl) (fun id => by simp [Cx.add]) h6
        exact .row _ _ (.inr rfl) rfl fun _ => by simp [Cx.add]
      · cases h
    · cases h
  · cases h
def Cx.out (c : Cx) (r id B : Nat) (e : Ent) (e' : Ent) (u : Value) : Cx :=
  { b := fun j => if j = id then B else c.b j, o := fun j => if j = id then {} else if j = r then ⟨fun k => (c.o r).x k ∧ k ≠ B, (c.o r).y⟩ else c.o j, u := fun j => if j = id then u else c.u j
    en := fun j => if j = id then some e' else if j = r then some e else c.en j, K := fun j => c.K j ∨ j = id, Z := c.Z, w := c.w }
theorem out_ok {c : Cx} (ho : HeapOk c) {r id : Nat} (hk : ¬ c.K id) {e0 e e' : Ent} (he0 : c.en r = some e0) (hh0 : has e0 = true) (hf0 : fam e0 = true) (hs : shape e = shape e0) (hhe : has e = true) (hfe' : fam e' = false) {B : Nat} {u : Value}
    (hB : has e' = true → (c.o r).x B ∧ B ≠ c.b r)
    (hent : Trans c (c.out r id B e e' u) → EntOk (c.out r id B e e' u) r e ∧ EntOk (c.out r id B e e' u) id e') : HeapOk (c.out r id B e e' u) ∧ Trans c (c.out r id B e e' u) := by
  have hkr : c.K r := ho.lt r e0 he0
  have hne : r ≠ id := fun h => hk (h ▸ hkr)
  have ow0 : ∀ k, c.ow r e0 k ↔ (c.b r = k ∨ (c.o r).x k) := fun k => by simp [Cx.ow, hh0, hf0]
  have own_id : ∀ e1 k, (c.out r id B e e' u).en id = some e1 → (c.out r id B e e' u).ow id e1 k → e1 = e' ∧ has e' = true ∧ B = k := by
    intro e1 k h1 h2
    have h1' : e' = e1 := by simpa [Cx.out] using h1
    subst h1'
    rcases h2 with ⟨h2, h3⟩ | ⟨h2, _⟩
    · exact ⟨rfl, h2, by simpa [Cx.out] using h3⟩
    · rw [hfe'] at h2; cases h2
  have own_r : ∀ e1 k, (c.out r id B e e' u).en r = some e1 → (c.out r id B e e' u).ow r e1 k → e1 = e ∧ (c.b r = k ∨ ((c.o r).x k ∧ k ≠ B)) := by
    intro e1 k h1 h2
    have h1' : e = e1 := by simpa [Cx.out, hne] using h1
    subst h1'
    rcases h2 with ⟨_, h3⟩ | ⟨_, h3⟩
    · exact ⟨rfl, .inl (by simpa [Cx.out, hne] using h3)⟩
    · exact ⟨rfl, .inr (by simpa [Cx.out, hne] using h3)⟩
  have old : ∀ j e1, j ≠ id → j ≠ r → (c.out r id B e e' u).en j = some e1 → c.en j = some e1 := by
    intro j e1 h1 h2 h3
    simpa [Cx.out, h1, h2] using h3
  have oldo : ∀ j e1 k, j ≠ id → j ≠ r → (c.out r id B e e' u).ow j e1 k → c.ow j e1 k := by
    intro j e1 k h1 h2 h3
    rcases h3 with ⟨h3, h4⟩ | ⟨h3, h4⟩
    · exact .inl ⟨h3, by simpa [Cx.out, h1] using h4⟩
    · exact .inr ⟨h3, by simpa [Cx.out, h1, h2] using h4⟩
  have toR : ∀ k, (has e' = true ∧ B = k) ∨ (c.b r = k ∨ ((c.o r).x k ∧ k ≠ B)) → c.ow r e0 k := fun k h => by
    rw [ow0]
    rcases h with ⟨h, rfl⟩ | h | ⟨h, _⟩
    · exact .inr (hB h).1
    · exact .inl h
    · exact .inr h
  refine step_ok (T := fun _ => False) ho (Mem.refl c) (fun j hj => .inl hj) (fun k => Iff.rfl) (fun j e1 h1 => ?_) (fun j j' e1 e2 k h1 h2 hh1 hh2 => ?_)
  · by_cases hj : j = id
    · subst hj
      have h1' : e' = e1 := by simpa [Cx.out] using h1
      refine ⟨.inr rfl, .inr ⟨fun ht => h1' ▸ (hent ht).2, .inr hk, fun k hk2 => .inr ⟨r, e0, he0, toR k (.inl ?_)⟩⟩⟩
      obtain ⟨_, a, b⟩ := own_id e1 k h1 hk2
      exact ⟨a, b⟩
    · by_cases hjr : j = r
      · subst hjr
        have h1' : e = e1 := by simpa [Cx.out, hne] using h1
        refine ⟨.inl hkr, .inr ⟨fun ht => h1' ▸ (hent ht).1, .inl ⟨e0, he0, by simp [Cx.out, hne], by simp [Cx.out, hne], h1' ▸ hs, by simp [Cx.out, hne]⟩, fun k hk2 => .inr ⟨j, e0, he0, toR k (.inr (own_r e1 k h1 hk2).2)⟩⟩⟩
      · have h2 := old j e1 hj hjr h1
        exact ⟨.inl (ho.lt j e1 h2), .inl ⟨h2, by simp [Cx.out, hj], by simp [Cx.out, hj], by simp [Cx.out, hj, hjr], fun _ _ h => h⟩⟩
  · by_cases hj : j = id
    · by_cases hj' : j' = id
      · rw [hj, hj']
      · subst hj
        obtain ⟨_, a, b⟩ := own_id e1 k h1 hh1
        by_cases hjr' : j' = r
        · subst hjr'
          obtain ⟨_, h3⟩ := own_r e2 k h2 hh2
          rcases h3 with h3 | ⟨_, h3⟩
          · exact absurd (b.trans h3.symm) (hB a).2
          · exact absurd b.symm h3
        · have := ho.inj r j' e0 e2 k he0 (old j' e2 hj' hjr' h2) (toR k (.inl ⟨a, b⟩)) (oldo j' e2 k hj' hjr' hh2)
          exact absurd this.symm hjr'
    · by_cases hjr : j = r
      · subst hjr
        obtain ⟨_, h3⟩ := own_r e1 k h1 hh1
        by_cases hj' : j' = id
        · subst hj'
          obtain ⟨_, a, b⟩ := own_id e2 k h2 hh2
          rcases h3 with h3 | ⟨_, h3⟩
          · exact absurd (b.trans h3.symm) (hB a).2
          · exact absurd b.symm h3
        · by_cases hjr' : j' = j
          · exact hjr'.symm
          · exact ho.inj j j' e0 e2 k he0 (old j' e2 hj' hjr' h2) (toR k (.inr h3)) (oldo j' e2 k hj' hjr' hh2)
      · have a1 := old j e1 hj hjr h1
        have a2 := oldo j e1 k hj hjr hh1
        by_cases hj' : j' = id
        · subst hj'
          obtain ⟨_, a, b⟩ := own_id e2 k h2 hh2
          exact absurd (ho.inj r j e0 e1 k he0 a1 (toR k (.inl ⟨a, b⟩)) a2).symm hjr
        · by_cases hjr' : j' = r
          · subst hjr'
            exact ho.inj j j' e1 e0 k a1 he0 a2 (toR k (.inr (own_r e2 k h2 hh2).2))
          · exact ho.inj j j' e1 e2 k a1 (old j' e2 hj' hjr' h2) a2 (oldo j' e2 k hj' hjr' hh2)
theorem int_keyCells (ik : IntKind) (z : Int) : keyCells (.cons (.int ik) .nil) [.int ik z] = true := by simp [keyCells, keyCell]
theorem keys_int {es : List MapEntry} {ik : IntKind} {hs : Int → Bool} (h : ∀ e ∈ es, ∃ z, e.key = .int ik z ∧ hs z = true) : ∀ e ∈ es, ∃ kc, keyCells (.cons (.int ik) .nil) kc = true ∧ e.key = mkV false (kc.map kval) := fun e he => by
  obtain ⟨z, hz, _⟩ := h e he
  exact ⟨[.int ik z], int_keyCells ik z, by rw [hz]; rfl⟩
theorem ls_lookF (hty : tyOk P Θ = true) {t : TypeId} {x i : Operand} (hop : o.op = .lookup t x i false) (h : planF Θ o sv en nx kf = some r) : ∃ δ, kf δ = some r ∧ Local P o sv en nx δ := by
  have hx : x ∈ o.op.operands.toList := by simp [hop, Op.operands]
  have hi : i ∈ o.op.operands.toList := by simp [hop, Op.operands]
  simp only [planF, hop] at h
  split at h
  · rename_i kt et _ _ _ h1
    split at h
    · rename_i ik' _ _ k0 _ _ _ _ _ _ _ q ik'' z h2 h3 h4 h5
      split at h
      · rename_i ik fl size hs ln gt he0
        cases hb : (nestTy Θ 20 kt && (decide (ik = k0) && (decide (ik' = k0) && decide (ik'' = k0)))) <;> rw [hb] at h <;> simp only [cond_true, cond_false, reduceCtorEq] at h
        simp only [Bool.and_eq_true, decide_eq_true_eq] at hb
        obtain ⟨hnk, rfl, rfl, rfl⟩ := hb
        refine ⟨_, h, ⟨fun id hid => by
          simp at hid
          rcases hid with rfl | rfl
          · exact .inl (by simp)
          · exact .inr ⟨Nat.le_refl _, Nat.lt_succ_self _⟩, Nat.le_succ _⟩, fun c a p => ?_⟩
        have hdm := opd (Θ := Θ) p t x hx
        have hdk := opd (Θ := Θ) p kt i hi
        rw [h4] at hdm
        rw [h5] at hdk
        have he : c.en q = some (.fm ik'' fl size hs ln gt Option.none) := (p.rd q (by simp)).trans he0
        have hk : ¬ c.K nx := p.fresh nx (by simp) (Nat.le_refl _)
        obtain ⟨hxl, es, clock, X, hu, hblk, hm⟩ := p.ho.ents q _ he
        have hum := (rowTy hty h1).map_
        have hck := checkKey_nest hty es.isEmpty 20 kt hnk 10000 (by omega) _ h2 c.w [.int ik'' z] (int_keyCells ik'' z)
        have hfk := findKey_nest hty (n := 20) (by omega) hnk h2 (int_keyCells ik'' z) c.w es.toList (keys_int hm.own)
        have hmv : a.eval x = .map (some (c.b q)) := (hdm.row_inv he).trans hu
        have hkv : a.eval i = .int ik'' z := hdk.int_inv
        have hneq : q ≠ nx := fun h => hk (h ▸ p.ho.lt q _ he)
        have hrest : ∀ B, (hs z = true → B = X z) → (hs z = false → B = c.w.heap.size) → FamOk c.Z c.w (c.b q) (fun k => (c.o q).x k ∧ k ≠ B) ik'' fl size hs ln gt (some z) es.toList clock X := fun B hB1 hB2 =>
          { born := hm.born, stamps := hm.stamps, apart := hm.apart, own := hm.own, all := hm.all, none := hm.none
            val := fun e he' z' hz' hne => by
              obtain ⟨cap, arr, ety, v1, v2, v3, v4, v5⟩ := hm.val e he' z' hz' (by simp)
              refine ⟨cap, arr, ety, v1, ⟨v2, fun hXB => ?_⟩, v3, v4, v5⟩
              have hzz : z' ≠ z := fun h => hne (by rw [h])
              obtain ⟨z2, hk2, hs2⟩ := hm.own e he'
              rw [hz'] at hk2
              injection hk2 with _ hk2
              subst hk2
              cases hsz : hs z with
              | true =>
                rw [hB1 hsz] at hXB
                exact hzz (hm.inj z' z hs2 hsz (by simp) (by simp) hXB)
              | false =>
                rw [hB2 hsz] at hXB
                have := hxl _ v2
                omega
            ck := fun z' h1 _ => hm.ck z' h1 (by simp)
            inj := fun z1 z2 a1 a2 _ _ => hm.inj z1 z2 a1 a2 (by simp) (by simp) }
        have fin : ∀ (B : Nat) (v : Value), (hs z = true → B = X z) → (hs z = false → B = c.w.heap.size) →
            (execOp a.eval o).run P c.w = .ok (.value v) c.w → Sx.one v = true → (has (.row (!(hs z)) fl size (ln z) (gt z)) = true → (c.o q).x B ∧ B ≠ c.b q) →
            (Trans c (c.out q nx B (.fm ik'' fl size hs ln gt (some z)) (.row (!(hs z)) fl size (ln z) (gt z)) v) → EntOk (c.out q nx B (.fm ik'' fl size hs ln gt (some z)) (.row (!(hs z)) fl size (ln z) (gt z)) v) nx (.row (!(hs z)) fl size (ln z) (gt z))) →
            Stp P o c a ⟨.row nx, [(q, some (.fm ik'' fl size hs ln gt (some z))), (nx, some (.row (!(hs z)) fl size (ln z) (gt z)))], [q], nx + 1⟩ := fun B v hB1 hB2 hrun hone hB hent => by
          have hE : EntOk (c.out q nx B (.fm ik'' fl size hs ln gt (some z)) (.row (!(hs z)) fl size (ln z) (gt z)) v) q (.fm ik'' fl size hs ln gt (some z)) := by
            refine ⟨fun k hk' => hxl k ?_, es, clock, X, by simp only [Cx.out, if_neg hneq]; exact hu, by simp only [Cx.out, if_neg hneq]; exact hblk, ?_⟩
            · simp only [Cx.out, if_neg hneq, if_true] at hk'
              exact hk'.1
            · have := hrest B hB1 hB2
              simpa only [Cx.out, if_neg hneq, if_true] using this
          obtain ⟨k1, k2⟩ := out_ok p.ho hk he rfl rfl (e := .fm ik'' fl size hs ln gt (some z)) (e' := .row (!(hs z)) fl size (ln z) (gt z)) rfl rfl rfl (B := B) (u := v) hB (fun ht => ⟨hE, hent ht⟩)
          refine stp_value (c' := c.out q nx B _ _ v) hrun ?_ k1 (fun id => ?_) (fun id => ?_) k2
          · exact .row _ _ (.inr rfl) hone fun _ => by simp [Cx.out]
          · simp only [Cx.out, upd]
          · simp only [Cx.out, List.map_cons, List.map_nil, List.mem_cons, List.not_mem_nil, or_false]
            exact ⟨fun h => h.elim .inl (fun h => .inr (.inr h)), fun h => h.elim .inl (fun h => h.elim (fun h => .inl (h ▸ p.ho.lt q _ he)) .inr)⟩
        rcases hfk with ⟨f1, f2⟩ | ⟨j, e, f1, f2, f3⟩
        · have hno : hs z = false := by
            cases hsz : hs z with
            | false => rfl
            | true =>
              obtain ⟨e, he', hke⟩ := hm.all z hsz
              exact absurd hke (f2 e he')
          have hzero : (zeroValue et).run P c.w = .ok (.slice Option.none 0 0) c.w := by
            obtain ⟨ii, zz, hi1, _, _, hz, hzs, _, _, hag, hon⟩ := (rowTy hty h3).info
            have hon := hon rfl
            have : zz.cells.toList = [zz] := by cases zz <;> first | rfl | simp [Sx.one] at hon
            rw [this] at hzs
            simp only [zerosEq, Bool.and_true] at hzs
            have : zz = .slice Option.none 0 0 := by
              cases zz with
              | slice ad ln cp =>
                cases ad with
                | none =>
                  match ln, cp, hzs with
                  | 0, 0, _ => rfl
                  | n + 1, _, h => simp [zeroEq] at h
                  | 0, n + 1, h => simp [zeroEq] at h
                | some ad => simp [zeroEq] at hzs
              | _ => simp [zeroEq] at hzs
            subst this
            simp [zeroValue, typeInfo, hi1, hz]
          have hck' : (Instr.checkKey es.isEmpty 10000 kt (.int ik'' z)).run P c.w = .ok () c.w := hck
          have f1' : (Instr.findKey kt (.int ik'' z) es.toList).run P c.w = .ok Option.none c.w := f1
          refine fin c.w.heap.size (.slice Option.none 0 0) (fun h => by rw [hno] at h; cases h) (fun _ => rfl) ?_ rfl (fun h => by simp [has, hno] at h) (fun _ => ?_)
          · simp only [execOp, hop, hmv, hkv, Instr.lookup, Sem.run_bind, run_underlying hum, Result.andThen_ok, MapKept.run_getObj_map hblk, Sem.run_pure, hck', f1', hzero]
            rfl
          · rw [hno, hm.none z hno]
            exact ⟨fun i j hi => by omega, .inl ⟨rfl, rfl, by simp [Cx.out]⟩⟩
        · have hmem : e ∈ es.toList := List.mem_of_getElem? f2
          have f3' : e.key = .int ik'' z := f3
          obtain ⟨z2, hk2, hs2⟩ := hm.own e hmem
          rw [f3'] at hk2
          injection hk2 with _ hk2
          subst hk2
          obtain ⟨cap, arr, ety, v1, v2, v3, v4, v5, v6, v7⟩ := hm.val e hmem z f3' (by simp)
          have hck' : (Instr.checkKey es.isEmpty 10000 kt (.int ik'' z)).run P c.w = .ok () c.w := hck
          have f1' : (Instr.findKey kt (.int ik'' z) es.toList).run P c.w = .ok (some (j, e.val)) c.w := f1
          refine fin (X z) e.val (fun _ => rfl) (fun h => by rw [hs2] at h; cases h) ?_ (by rw [v1]; rfl) (fun _ => ⟨v2, v3⟩) (fun ht => ?_)
          · simp only [execOp, hop, hmv, hkv, Instr.lookup, Sem.run_bind, run_underlying hum, Result.andThen_ok, MapKept.run_getObj_map hblk, Sem.run_pure, hck', f1']
            rfl
          · rw [hs2]
            refine ⟨fun i j hi hj => hm.ck z hs2 (by simp) i j hi hj, .inr ⟨rfl, cap, arr, ety, by simp [Cx.out, v1], by simpa [Cx.out] using v4, v5, v6, fun i j hi hj => ?_⟩⟩
            obtain ⟨v, hv, hd⟩ := v7 i j hi hj
            exact ⟨v, hv, hd⟩
      · cases h
    · cases h
  · cases h
def Cx.inn (c : Cx) (r q : Nat) (e : Ent) (w' : World) : Cx :=
  { b := c.b, o := fun j => if j = r then ⟨fun k => (c.o r).x k ∨ k = c.b q, (c.o r).y⟩ else c.o j, u := c.u
    en := fun j => if j = r then some e else if j = q then Option.none else c.en j, K := c.K, Z := c.Z, w := w' }
theorem inn_ok {c : Cx} (ho : HeapOk c) {r q : Nat} (hrq : r ≠ q) {e0 e eq : Ent} (he0 : c.en r = some e0) (heq : c.en q = some eq) (hh0 : has e0 = true) (hf0 : fam e0 = true) (hhq : has eq = true) (hs : shape e = shape e0) {w' : World}
    (m : Mem c (fun k => k = c.b r) w') (hent : Trans c (c.inn r q e w') → EntOk (c.inn r q e w') r e) : HeapOk (c.inn r q e w') ∧ Trans c (c.inn r q e w') := by
  have own_r : ∀ e1 k, (c.inn r q e w').en r = some e1 → (c.inn r q e w').ow r e1 k → e1 = e ∧ (c.ow r e0 k ∨ k = c.b q) := by
    intro e1 k h1 h2
    have h1' : e = e1 := by simpa [Cx.inn] using h1
    subst h1'
    refine ⟨rfl, ?_⟩
    rcases h2 with ⟨_, h3⟩ | ⟨_, h3⟩
    · exact .inl (.inl ⟨hh0, by simpa [Cx.inn] using h3⟩)
    · have h3 : (c.o r).x k ∨ k = c.b q := by simpa [Cx.inn] using h3
      rcases h3 with h3 | h3
      · exact .inl (.inr ⟨hf0, h3⟩)
      · exact .inr h3
  have owq : ∀ k, k = c.b q → c.ow q eq k := fun k h => .inl ⟨hhq, h.symm⟩
  have old : ∀ j e1, j ≠ r → (c.inn r q e w').en j = some e1 → j ≠ q ∧ c.en j = some e1 := by
    intro j e1 h1 h3
    simp only [Cx.inn, if_neg h1] at h3
    by_cases hq : j = q
    · simp [hq] at h3
    · rw [if_neg hq] at h3; exact ⟨hq, h3⟩
  have oldo : ∀ j e1 k, j ≠ r → (c.inn r q e w').ow j e1 k → c.ow j e1 k := by
    intro j e1 k h1 h3
    rcases h3 with ⟨h3, h4⟩ | ⟨h3, h4⟩
    · exact .inl ⟨h3, h4⟩
    · exact .inr ⟨h3, by simpa [Cx.inn, h1] using h4⟩
  have no : ∀ j e1 k, j ≠ r → (c.inn r q e w').en j = some e1 → (c.inn r q e w').ow j e1 k → ¬ (c.ow r e0 k ∨ k = c.b q) := by
    intro j e1 k hj h1 h2 h3
    obtain ⟨hq, h4⟩ := old j e1 hj h1
    have h5 := oldo j e1 k hj h2
    rcases h3 with h3 | h3
    · exact hj (ho.inj j r e1 e0 k h4 he0 h5 h3)
    · exact hq (ho.inj j q e1 eq k h4 heq h5 (owq k h3))
  refine step_ok ho m (fun j hj => hj) (fun k => Iff.rfl) (fun j e1 h1 => ?_) (fun j j' e1 e2 k h1 h2 hh1 hh2 => ?_)
  · by_cases hj : j = r
    · subst hj
      have h1' : e = e1 := by simpa [Cx.inn] using h1
      refine ⟨ho.lt j e0 he0, .inr ⟨fun ht => h1' ▸ hent ht, .inl ⟨e0, he0, rfl, rfl, h1' ▸ hs, by simp [Cx.inn]⟩, fun k hk => .inr ?_⟩⟩
      rcases (own_r e1 k h1 hk).2 with h | h
      · exact ⟨j, e0, he0, h⟩
      · exact ⟨q, eq, heq, owq k h⟩
    · obtain ⟨hq, h2⟩ := old j e1 hj h1
      exact ⟨ho.lt j e1 h2, .inl ⟨h2, rfl, rfl, by simp [Cx.inn, hj], fun k hk hT => hj (ho.inj j r e1 e0 k h2 he0 hk (hT ▸ ow_b hh0))⟩⟩
  · by_cases hj : j = r <;> by_cases hj' : j' = r
    · rw [hj, hj']
    · subst hj
      exact absurd (own_r e1 k h1 hh1).2 (no j' e2 k hj' h2 hh2)
    · subst hj'
      exact absurd (own_r e2 k h2 hh2).2 (no j e1 k hj h1 hh1)
    · exact ho.inj j j' e1 e2 k (old j e1 hj h1).2 (old j' e2 hj' h2).2 (oldo j e1 k hj hh1) (oldo j' e2 k hj' hh2)
theorem ls_updF (hty : tyOk P Θ = true) {t : TypeId} {m i v : Operand} (hop : o.op = .mapUpdate t m i v) (h : planF Θ o sv en nx kf = some r) : ∃ δ, kf δ = some r ∧ Local P o sv en nx δ := by
  have hops : m ∈ o.op.operands.toList ∧ i ∈ o.op.operands.toList ∧ v ∈ o.op.operands.toList := by simp [hop, Op.operands]
  simp only [planF, hop] at h
  split at h
  · rename_i kt et _ _ _ h1
    split at h
    · rename_i ik' _ _ k0 _ g ik'' z q h2 h3 h4 h5
      split at h
      · rename_i ik fl size hs ln gt z0 nl fl' size' n cl he0 he0q
        cases hb : (nestTy Θ 20 kt && ((decide (ik = k0) && (decide (ik' = k0) && decide (ik'' = k0))) && (ckEq fl fl' && (size == size' && (!nl && decide (z = z0)))))) <;> rw [hb] at h <;> simp only [cond_true, cond_false, reduceCtorEq] at h
        simp only [Bool.and_eq_true, decide_eq_true_eq, beq_iff_eq, Bool.not_eq_true'] at hb
        obtain ⟨hnk, ⟨rfl, rfl, rfl⟩, hfl, rfl, rfl, rfl⟩ := hb
        have hfl := ckEq_eq hfl
        subst hfl
        refine ⟨_, h, ⟨fun id hid => .inl (by simp at hid ⊢; exact hid.symm), Nat.le_refl _⟩, fun c a p => ?_⟩
        have hdm := opd (Θ := Θ) p t m hops.1
        have hdk := opd (Θ := Θ) p kt i hops.2.1
        have hdv := opd (Θ := Θ) p et v hops.2.2
        rw [h3] at hdm
        rw [h4] at hdk
        rw [h5] at hdv
        have he : c.en g = some (.fm ik'' fl size hs ln gt (some z)) := (p.rd g (by simp)).trans he0
        have heq : c.en q = some (.row false fl size n cl) := (p.rd q (by simp)).trans he0q
        have hgq : g ≠ q := fun h => by rw [h, heq] at he; simp at he
        obtain ⟨hxl, es, clock, X, hu, hblk, hm⟩ := p.ho.ents g _ he
        obtain ⟨hck0, hrow⟩ := p.ho.ents q _ heq
        rcases hrow with ⟨h6, _⟩ | ⟨_, cap, arr, ety, huq, hbq, hnc, hcs, hcell⟩
        · cases h6
        have hum := (rowTy hty h1).map_
        have hck : (Instr.checkKey false 10000 kt (.int ik'' z)).run P c.w = .ok () c.w := checkKey_nest hty false 20 kt hnk 10000 (by omega) _ h2 c.w [.int ik'' z] (int_keyCells ik'' z)
        have hfk := findKey_nest hty (n := 20) (by omega) hnk h2 (int_keyCells ik'' z) c.w es.toList (keys_int hm.own)
        have hmv : a.eval m = .map (some (c.b g)) := (hdm.row_inv he).trans hu
        have hkv : a.eval i = .int ik'' z := hdk.int_inv
        have hvv : a.eval v = .slice (some ⟨c.b q, 0, Option.none⟩) n cap := (hdv.row_inv heq).trans huq
        have hlt : c.b g < c.w.heap.size := (Array.getElem?_eq_some_iff.1 hblk).1
        have hltq : c.b q < c.w.heap.size := (Array.getElem?_eq_some_iff.1 hbq).1
        have hbb : c.b q ≠ c.b g := fun h => hgq (p.ho.inj g q _ _ (c.b g) he heq (.inl ⟨rfl, rfl⟩) (.inl ⟨rfl, h⟩))
        have hxb : ∀ k, (c.o g).x k → k ≠ c.b q := fun k hk h => hgq (p.ho.inj g q _ _ k he heq (.inr ⟨rfl, hk⟩) (.inl ⟨rfl, h.symm⟩))
        have one_key : ∀ e ∈ es.toList, ∀ z', e.key = .int ik'' z' → hs z' = true := fun e he z' hz' => by
          obtain ⟨z2, k2, s2⟩ := hm.own e he
          rw [hz'] at k2
          injection k2 with _ k2
          exact k2 ▸ s2
        have fin : ∀ (es' : Array MapEntry) (clock' : Nat), (Instr.mapUpdate t (a.eval m) (a.eval i) (a.eval v)).run P c.w = .ok () { c.w with heap := c.w.heap.setIfInBounds (c.b g) (.map es' clock') } →
            (∀ e ∈ es'.toList, e.born < clock') → (es'.toList.map (·.born)).Nodup → es'.toList.Pairwise (fun a b => a.key ≠ b.key) →
            (∀ e ∈ es'.toList, (e ∈ es.toList ∧ e.key ≠ .int ik'' z) ∨ (e.key = .int ik'' z ∧ e.val = a.eval v)) → (∀ e ∈ es.toList, e.key ≠ .int ik'' z → e ∈ es'.toList) → (∃ e ∈ es'.toList, e.key = .int ik'' z) →
            Stp P o c a ⟨.none, [(q, Option.none), (g, some (.fm ik'' fl size (fHs z hs) (fLn z n ln) (fGt z cl gt) Option.none))], [g, q], nx⟩ := fun es' clock' hrun s1 s2 s3 s4 s5 s6 => by
          have hheap : ∀ k, k ≠ c.b g → ({ c.w with heap := c.w.heap.setIfInBounds (c.b g) (.map es' clock') } : World).heap[k]? = c.w.heap[k]? := fun k hk => by
            have : c.b g ≠ k := fun h => hk h.symm
            simp [this]
          obtain ⟨k1, k2⟩ := inn_ok p.ho hgq he heq rfl rfl rfl (e := .fm ik'' fl size (fHs z hs) (fLn z n ln) (fGt z cl gt) Option.none) rfl (Mem.setObj he rfl (.map es' clock')) (fun ht => by
            refine ⟨fun k hk => ?_, es', clock', fun k => if k = z then c.b q else X k, hu, by simp [Cx.inn, hlt], ?_⟩
            · simp only [Cx.inn, if_true] at hk
              show k < (c.w.heap.setIfInBounds _ _).size
              rw [Array.size_setIfInBounds]
              rcases hk with hk | rfl
              · exact hxl k hk
              · exact hltq
            · refine ⟨s1, s2, s3, fun e he' => ?_, fun z' hz' => ?_, fun z' hz' => ?_, fun e he' z' hz' _ => ?_, fun z' hz' _ i j hi hj => ?_, fun z1 z2 a1 a2 _ _ hX => ?_⟩
              · rcases s4 e he' with ⟨h6, _⟩ | ⟨h6, _⟩
                · obtain ⟨z2, k2, s2⟩ := hm.own e h6
                  exact ⟨z2, k2, by simp [fHs, s2]⟩
                · exact ⟨z, h6, by simp [fHs]⟩
              · by_cases hzz : z' = z
                · subst hzz; exact s6
                · have : hs z' = true := by simpa [fHs, hzz] using hz'
                  obtain ⟨e, he', hke⟩ := hm.all z' this
                  exact ⟨e, s5 e he' (by rw [hke]; intro h; injection h with _ h; exact hzz h), hke⟩
              · have hzz : z' ≠ z := fun h => by subst h; simp [fHs] at hz'
                have hh : hs z' = false := by simpa [fHs, hzz] using hz'
                have : (z' == z) = false := by simp [hzz]
                simp [fLn, this, hm.none z' hh]
              · rcases s4 e he' with ⟨h6, h7⟩ | ⟨h6, h7⟩
                · have hzz : z' ≠ z := fun h => h7 (h ▸ hz')
                  obtain ⟨cap', arr', ety', v1, v2, v3, v4, v5, v6, v7⟩ := hm.val e h6 z' hz' (by simpa using fun h => hzz h.symm)
                  have hb2 : (z' == z) = false := by simp [hzz]
                  refine ⟨cap', arr', ety', by simpa [if_neg hzz, fLn, hb2] using v1, by simp only [if_neg hzz, Cx.inn, if_true]; exact .inl v2, by simpa only [if_neg hzz, Cx.inn] using v3, ?_, by simpa [fLn, hb2] using v5, v6, fun i j hi hj => ?_⟩
                  · simp only [if_neg hzz]
                    rw [← v4]
                    exact hheap _ v3
                  · have hi : i < ln z' := by simpa [fLn, hb2] using hi
                    obtain ⟨v, hv, hd⟩ := v7 i j hi hj
                    exact ⟨v, hv, by simp only [fGt, hb2, cond_false]; exact hd.trans ht p.ho⟩
                · have hzz : z' = z := by
                    rw [hz'] at h6
                    injection h6
                  subst hzz
                  refine ⟨cap, arr, ety, by simp [h7, hvv, fLn], by simp [Cx.inn], by simpa [Cx.inn] using hbb, ?_, by simpa [fLn] using hnc, hcs, fun i j hi hj => ?_⟩
                  · simp only [if_true]
                    rw [← hbq]
                    exact hheap _ hbb
                  · have hi : i < n := by simpa [fLn] using hi
                    obtain ⟨v, hv, hd⟩ := hcell i j hi hj
                    exact ⟨v, hv, by simp only [fGt, BEq.rfl, cond_true]; exact hd.trans ht p.ho⟩
              · by_cases hzz : z' = z
                · subst hzz
                  have hi : i < n := by simpa [fLn] using hi
                  simpa [fGt] using hck0 i j hi hj
                · have hb2 : (z' == z) = false := by simp [hzz]
                  have hh : hs z' = true := by simpa [fHs, hzz] using hz'
                  have hi : i < ln z' := by simpa [fLn, hb2] using hi
                  simpa [fGt, hb2] using hm.ck z' hh (by simpa using fun h => hzz h.symm) i j hi hj
              · have ne : ∀ z', z' ≠ z → fHs z hs z' = true → hs z' = true ∧ X z' ≠ c.b q := fun z' hzz hz' => by
                  have hh : hs z' = true := by simpa [fHs, hzz] using hz'
                  obtain ⟨e, he', hke⟩ := hm.all z' hh
                  obtain ⟨_, _, _, _, v2, _⟩ := hm.val e he' z' hke (by simpa using fun h => hzz h.symm)
                  exact ⟨hh, hxb _ v2⟩
                by_cases h1z : z1 = z <;> by_cases h2z : z2 = z
                · rw [h1z, h2z]
                · simp only [if_pos h1z, if_neg h2z] at hX
                  exact absurd hX.symm (ne z2 h2z a2).2
                · simp only [if_pos h2z, if_neg h1z] at hX
                  exact absurd hX (ne z1 h1z a1).2
                · simp only [if_neg h1z, if_neg h2z] at hX
                  exact hm.inj z1 z2 (ne z1 h1z a1).1 (ne z2 h2z a2).1 (by simpa using fun h => h1z h.symm) (by simpa using fun h => h2z h.symm) hX)
          refine stp_skip (c' := c.inn g q _ _) ?_ rfl k1 (fun id => ?_) (fun id => ?_) k2
          · simp [execOp, hop, hrun, Cx.inn]
          · simp only [Cx.inn, upd]
          · simp only [List.map_cons, List.map_nil, List.mem_cons, List.not_mem_nil, or_false]
            exact ⟨fun h => .inl h, fun h => h.elim (fun h => h) (fun h => h.elim (fun h => h ▸ p.ho.lt q _ heq) (fun h => h ▸ p.ho.lt g _ he))⟩
        rcases hfk with ⟨f1, f2⟩ | ⟨j, e, f1, f2, f3⟩
        · have f1' : (Instr.findKey kt (.int ik'' z) es.toList).run P c.w = .ok Option.none c.w := f1
          refine fin (es.push { key := a.eval i, val := a.eval v, born := clock }) (clock + 1) ?_ (fun e he' => ?_) ?_ ?_ (fun e he' => ?_) (fun e he' _ => ?_) ⟨{ key := a.eval i, val := a.eval v, born := clock }, by simp, hkv⟩
          · rw [hmv]
            simp only [Instr.mapUpdate, Sem.run_bind, run_underlying hum, Result.andThen_ok, MapKept.run_getObj_map hblk, hkv, hck, f1']
            exact MapKept.run_setObj_map _ hblk
          · simp at he'
            rcases he' with he' | rfl
            · have := hm.born e (by simpa using he'); omega
            · exact Nat.lt_succ_self _
          · rw [Array.toList_push, List.map_append, List.nodup_append]
            refine ⟨hm.stamps, by simp, fun b hb b' hb' => ?_⟩
            simp at hb'
            subst hb'
            obtain ⟨e, he', rfl⟩ := List.mem_map.1 hb
            have := hm.born e he'
            omega
          · rw [Array.toList_push, List.pairwise_append]
            refine ⟨hm.apart, by simp, fun x hx y hy => ?_⟩
            simp at hy
            subst hy
            rw [hkv]
            exact f2 x hx
          · simp at he'
            rcases he' with he' | rfl
            · exact .inl ⟨by simpa using he', f2 e (by simpa using he')⟩
            · exact .inr ⟨hkv, rfl⟩
          · simp at he' ⊢
            exact .inl he'
        · have f1' : (Instr.findKey kt (.int ik'' z) es.toList).run P c.w = .ok (some (j, e.val)) c.w := f1
          have f3' : e.key = .int ik'' z := f3
          have hj : j < es.size := by have := (List.getElem?_eq_some_iff.1 f2).1; simpa using this
          have hej : es[j] = e := by
            have := f2
            simp [hj] at this
            exact this
          have hlen : j < es.toList.length := by simpa using hj
          have hmod : (es.modify j fun e => { e with key := a.eval i, val := a.eval v }).toList = es.toList.set j { e with key := a.eval i, val := a.eval v } := by
            rw [Array.toList_modify]
            refine List.ext_getElem? fun n => ?_
            rw [List.getElem?_modify, List.getElem?_set]
            by_cases hn : j = n
            · subst hn
              rw [f2, if_pos rfl, if_pos hlen]; simp
            · rw [if_neg hn]; simp [hn]
          have hmem : e ∈ es.toList := List.mem_of_getElem? f2
          have hborn : (es.toList.set j { e with key := a.eval i, val := a.eval v }).map (·.born) = es.toList.map (·.born) := by
            rw [List.map_set]
            refine List.ext_getElem? fun n => ?_
            rw [List.getElem?_set]
            split
            · rename_i hjn
              subst hjn
              rw [if_pos (by simpa using hlen), List.getElem?_map, f2]
              rfl
            · rfl
          have hkeys : (es.toList.set j { e with key := a.eval i, val := a.eval v }).map (·.key) = es.toList.map (·.key) := by
            rw [List.map_set]
            refine List.ext_getElem? fun n => ?_
            rw [List.getElem?_set]
            split
            · rename_i hjn
              subst hjn
              rw [if_pos (by simpa using hlen), List.getElem?_map, f2]
              simp only [Option.map_some]
              rw [f3', hkv]
            · rfl
          have hap : (es.toList.set j { e with key := a.eval i, val := a.eval v }).Pairwise (fun a b => a.key ≠ b.key) := by
            have hp : (es.toList.map (·.key)).Pairwise (· ≠ ·) := List.pairwise_map.2 hm.apart
            rw [← hkeys] at hp
            exact List.pairwise_map.1 hp
          have hnth : ∀ (n : Nat) (e' : MapEntry), es.toList[n]? = some e' → e'.key = .int ik'' z → n = j := fun n e' hn hk => by
            have hp : (es.toList.map (·.key)).Nodup := List.pairwise_map.2 hm.apart
            have a1 : (es.toList.map (·.key))[n]? = some (.int ik'' z) := by rw [List.getElem?_map, hn]; simp [hk]
            have a2 : (es.toList.map (·.key))[j]? = some (.int ik'' z) := by rw [List.getElem?_map, f2]; simp [f3']
            have l1 := (List.getElem?_eq_some_iff.1 a1)
            have l2 := (List.getElem?_eq_some_iff.1 a2)
            exact (List.getElem_inj hp).1 (l1.2.trans l2.2.symm)
          refine fin (es.modify j fun e => { e with key := a.eval i, val := a.eval v }) clock ?_ (fun e' he' => ?_) ?_ ?_ (fun e' he' => ?_) (fun e' he' hne => ?_) ⟨{ e with key := a.eval i, val := a.eval v }, ?_, hkv⟩
          · rw [hmv]
            simp only [Instr.mapUpdate, Sem.run_bind, run_underlying hum, Result.andThen_ok, MapKept.run_getObj_map hblk, hkv, hck, f1']
            have hst := stays_nest (P := P) (c := .cons (.int ik'') .nil) (xs := [.int ik'' z]) false (int_keyCells ik'' z) (fun _ => rfl) c.w
            have hst : (Instr.keyThatStays (.int ik'' z) (.int ik'' z)).run P c.w = .ok (.int ik'' z) c.w := hst
            have : ((es[j]?).map (·.key)).getD (.int ik'' z) = .int ik'' z := by simp [hj, hej, f3']
            rw [this, hst]
            simp only [Result.andThen_ok]
            exact MapKept.run_setObj_map _ hblk
          · rw [hmod] at he'
            have : e'.born ∈ es.toList.map (·.born) := by rw [← hborn]; exact List.mem_map.2 ⟨e', he', rfl⟩
            obtain ⟨e2, h7, h8⟩ := List.mem_map.1 this
            rw [← h8]
            exact hm.born e2 h7
          · rw [hmod, hborn]; exact hm.stamps
          · rw [hmod]; exact hap
          · rw [hmod] at he'
            obtain ⟨n', hn'⟩ := List.mem_iff_getElem?.1 he'
            rw [List.getElem?_set] at hn'
            by_cases hjn : j = n'
            · rw [if_pos hjn, if_pos hlen] at hn'
              injection hn' with hn'
              subst hn'
              exact .inr ⟨hkv, rfl⟩
            · rw [if_neg hjn] at hn'
              exact .inl ⟨List.mem_of_getElem? hn', fun h => hjn (hnth n' e' hn' h).symm⟩
          · rw [hmod]
            obtain ⟨n', hn'⟩ := List.mem_iff_getElem?.1 he'
            refine List.mem_iff_getElem?.2 ⟨n', ?_⟩
            rw [List.getElem?_set_ne]
            · exact hn'
            · rintro rfl
              rw [f2] at hn'
              injection hn' with hn'
              subst hn'
              exact hne f3'
          · rw [hmod]; exact List.mem_set hlen _
      · cases h
    · cases h
  · cases h
theorem planF_ok (hty : tyOk P Θ = true) (h : planF Θ o sv en nx kf = some r) : ∃ δ, kf δ = some r ∧ Local P o sv en nx δ := by
  cases hop : o.op with
  | makeMap t x =>
    cases x with
    | none => exact ls_makeF hty hop h
    | some x => simp only [planF, hop, reduceCtorEq] at h
  | lookup t x i ok =>
    cases ok with
    | false => exact ls_lookF hty hop h
    | true => simp only [planF, hop, reduceCtorEq] at h
  | mapUpdate t m i v => exact ls_updF hty hop h
  | _ => simp only [planF, hop, reduceCtorEq] at h
end
end Go.Sx
