import Derived.Test.YtlphgonhenegoaaSxOps3
namespace Go.Sx
section
variable {P : Program} {Θ : Tys} {R : Type} {sv : Nat → SV} {en : Nat → Option Ent} {nx : Nat} {r : R} {kf : Delta → Option R} {o : Oper}
theorem new_row {c : Cx} (ho : HeapOk c) (hk : ¬ c.K nx) {fl : CK} {size n cap : Nat} {cl : Nat → Nat → SV} {arr : Array Value} {e : TypeId} {w' : World} (m : Mem c (fun _ => False) w')
    (hcap : n ≤ cap) (hsz : cap * size ≤ arr.size) (hfl : ∀ i j, i < n → j < size → ckOk (ckAt fl j) (cl i j) = true)
    (hcell : ∀ i j, i < n → j < size → ∃ v, arr[i * size + j]? = some v ∧ DenG c.Z c.w (cl i j) v) :
    ∃ c', c'.w = w'.alloc (.cells arr e) ∧ HeapOk c' ∧ Trans c c' ∧ (∀ id, c'.en id = upd c.en [(nx, some (.row false fl size n cl))] id) ∧ (∀ id, c'.K id ↔ c.K id ∨ id = nx) ∧
      Den c' (.row nx) (.slice (some ⟨w'.heap.size, 0, Option.none⟩) n cap) := by
  obtain ⟨h1, h2⟩ := add_ok ho hk (e := .row false fl size n cl) (b := w'.heap.size) (u := .slice (some ⟨w'.heap.size, 0, Option.none⟩) n cap) (m.alloc (.cells arr e)) (fun _ => m.size) (fun ht => by
    refine ⟨hfl, .inr ⟨rfl, cap, arr, e, by simp [Cx.add], by simpa [Cx.add] using heap_alloc_new w' _, hcap, hsz, fun i j hi hj => ?_⟩⟩
    obtain ⟨v, h3, h4⟩ := hcell i j hi hj
    exact ⟨v, h3, h4.trans ht ho⟩)
  exact ⟨_, rfl, h1, h2, fun _ => rfl, fun _ => Iff.rfl, .row _ _ (.inr rfl) rfl fun _ => by simp [Cx.add]⟩
theorem evParts_den {c : Cx} {a : Act} {t : Nat → TypeId} (ps : List (Nat × Operand)) (hg : Gls c.Z c.w) (h : ∀ p ∈ ps, ∀ s, p.2 = .tmp s → Den c (sv s) (a.tmps.getD s Go.undef)) :
    ∀ (k : Nat) (p : Nat × SV), (evParts Θ t sv ps)[k]? = some p → ∃ x, ps[k]? = some x ∧ x.1 = p.1 ∧ Den c p.2 (a.eval x.2) := by
  induction ps with
  | nil => intro k p hk; simp [evParts] at hk
  | cons x ps ih =>
    intro k p hk
    obtain ⟨i, y⟩ := x
    cases k with
    | zero =>
      simp [evParts] at hk
      subst hk
      exact ⟨_, rfl, rfl, ev_den y hg fun s hs => h (i, y) (by simp) s hs⟩
    | succ k =>
      simp only [evParts, List.getElem?_cons_succ] at hk
      simpa using ih (fun p hp => h p (by simp [hp])) k p hk
theorem length_evParts {t : Nat → TypeId} (ps : List (Nat × Operand)) : (evParts Θ t sv ps).length = ps.length := by
  induction ps with
  | nil => rfl
  | cons x ps ih => obtain ⟨i, y⟩ := x; simp [evParts, ih]
def DenL (c : Cx) (cs : List SV) (vs : List Value) : Prop := cs.length = vs.length ∧ ∀ (i : Nat) (s : SV) (v : Value), cs[i]? = some s → vs[i]? = some v → Den c s v
theorem foldl_set (cs : List Value) (off : Nat) (arr : Array Value) : ∀ (k : Nat), off + k + cs.length ≤ arr.size →
    ((cs.zipIdx k).foldl (fun (cs : Array Value) (p : Value × Nat) => cs.setIfInBounds (off + p.2) p.1) arr).size = arr.size ∧
    ∀ j, ((cs.zipIdx k).foldl (fun (cs : Array Value) (p : Value × Nat) => cs.setIfInBounds (off + p.2) p.1) arr)[j]? = if off + k ≤ j ∧ j < off + k + cs.length then cs[j - (off + k)]? else arr[j]? := by
  induction cs generalizing arr with
  | nil => intro k _; exact ⟨rfl, fun j => by rw [if_neg (by simp)]; rfl⟩
  | cons v cs ih =>
    intro k hk
    simp only [List.zipIdx_cons, List.foldl_cons]
    simp only [List.length_cons] at hk ⊢
    obtain ⟨h1, h2⟩ := ih (arr.setIfInBounds (off + k) v) (k + 1) (by simp; omega)
    refine ⟨by rw [h1]; simp, fun j => ?_⟩
    rw [h2 j]
    by_cases hj : off + (k + 1) ≤ j ∧ j < off + (k + 1) + cs.length
    · rw [if_pos hj, if_pos (by omega)]
      have : j - (off + k) = (j - (off + (k + 1))) + 1 := by omega
      rw [this]; simp
    · rw [if_neg hj]
      by_cases hj2 : j = off + k
      · subst hj2
        rw [if_pos (by omega)]
        simp [Array.getElem?_setIfInBounds]
        omega
      · rw [if_neg (by omega)]
        rw [Array.getElem?_setIfInBounds_ne (by omega)]
theorem fill_step {c : Cx} {cells : List SV} {cur : List Value} {off : Nat} {cs : List SV} {vs : List Value} (h : DenL c cells cur) (hd : DenL c cs vs) (hle : off + cs.length ≤ cells.length) :
    ∃ cur' : List Value, (vs.toArray.zipIdx.foldl (fun (cs : Array Value) (p : Value × Nat) => cs.setIfInBounds (off + p.2) p.1) cur.toArray) = cur'.toArray ∧ DenL c (lsetN cells off cs) cur' := by
  have hl1 := h.1
  have hl2 := hd.1
  obtain ⟨h1, h2⟩ := foldl_set vs off cur.toArray 0 (by simp; omega)
  refine ⟨((vs.zipIdx 0).foldl (fun (cs : Array Value) (p : Value × Nat) => cs.setIfInBounds (off + p.2) p.1) cur.toArray).toList, by simp, ?_, fun i s v hs hv => ?_⟩
  · rw [length_lsetN, Array.length_toList]; have := h1; simp at this; simp [hl1]; simpa using this.symm
  · rw [getElem?_lsetN _ _ _ _ hle] at hs
    rw [Array.getElem?_toList, h2 i] at hv
    simp only [Nat.add_zero] at hv
    by_cases hin : off ≤ i ∧ i < off + cs.length
    · rw [if_pos hin] at hs
      rw [if_pos (by omega)] at hv
      exact hd.2 _ s v hs hv
    · rw [if_neg hin] at hs
      rw [if_neg (by omega)] at hv
      exact h.2 i s v hs (by simpa using hv)
theorem fillP_ok {c : Cx} {a : Act} {fields : Array Field} (places : Array (Nat × Nat)) (hp : ∀ (i : Nat) (f : Field) (ti : TI), fields[i]? = some f → Θ.get f.type = some ti → places[i]? = some (f.offset, ti.size)) :
    ∀ (ps : List (Nat × SV)) (xs : List (Nat × Operand)) (cells out : List SV) (cur : List Value), fillP (fields.toList.map fun f => (f.offset, f.type)) Θ cells ps = some out →
      ps.length = xs.length → (∀ (k : Nat) (p : Nat × SV), ps[k]? = some p → ∃ x, xs[k]? = some x ∧ x.1 = p.1 ∧ Den c p.2 (a.eval x.2)) → DenL c cells cur →
      ∃ cur' : List Value, Instr.fill (places[·]?) cur.toArray (xs.map fun x => (x.1, a.eval x.2)) = some cur'.toArray ∧ DenL c out cur' := by
  intro ps
  induction ps with
  | nil =>
    intro xs cells out cur h hl _ hd
    cases xs with
    | nil => simp [fillP] at h; subst h; exact ⟨cur, rfl, hd⟩
    | cons x xs => simp at hl
  | cons p ps ih =>
    intro xs cells out cur h hl hps hd
    cases xs with
    | nil => simp at hl
    | cons x xs =>
      obtain ⟨i, s⟩ := p
      simp only [fillP] at h
      cases hf : foffs (fields.toList.map fun f => (f.offset, f.type)) i with
      | none => rw [hf] at h; cases h
      | some of =>
        obtain ⟨off, ft⟩ := of
        rw [hf] at h
        simp only at h
        cases ht : Θ.get ft with
        | none => rw [ht] at h; cases h
        | some ti =>
          rw [ht] at h
          simp only at h
          cases hb : ((cellsV s).length == ti.size && Nat.ble (off + ti.size) cells.length && (cellsV s).all cellOk) <;> rw [hb] at h <;> simp only [cond_true, cond_false, reduceCtorEq] at h
          rw [Bool.and_eq_true, Bool.and_eq_true] at hb
          obtain ⟨⟨hb1, hb2⟩, hb3⟩ := hb
          have hb1 : (cellsV s).length = ti.size := by simpa using hb1
          have hb2 : off + ti.size ≤ cells.length := by simpa using hb2
          obtain ⟨f, hf1, rfl, rfl⟩ := foffs_get hf
          obtain ⟨x', hx', hxi, hxd⟩ := hps 0 (i, s) rfl
          simp at hx'
          subst hx'
          obtain ⟨vs, hvs, hl', hdv⟩ := cells_den hxd hb3
          have hl' : (cellsV s).length = vs.length := hl'
          obtain ⟨cur', hc1, hc2⟩ := fill_step hd ⟨hl', fun i s v h1 h2 => (hdv i s v h1 h2).1⟩ (off := f.offset) (by omega)
          obtain ⟨cur'', h3, h4⟩ := ih xs _ out cur' h (by simpa using hl) (fun k p hk => by simpa using hps (k + 1) p (by simpa using hk)) hc2
          refine ⟨cur'', ?_, h4⟩
          have hpl := hp i f ti (by simpa using hf1) ht
          have hds := hd.1
          simp only [List.map_cons, Instr.fill, hxi, hpl, hvs]
          have e1 : ¬ (decide (vs.toArray.size ≠ ti.size) || decide (f.offset + vs.toArray.size > cur.toArray.size)) = true := by simp; omega
          rw [if_neg e1, hc1]
          exact h3
theorem run_mapM {α β : Type} {w : World} (g : α → Sem β) (k : α → β) : ∀ (l : List α), (∀ x ∈ l, (g x).run P w = .ok (k x) w) → (l.mapM g).run P w = .ok (l.map k) w := by
  intro l
  induction l with
  | nil => intro _; simp
  | cons x l ih =>
    intro h
    simp [h x (by simp), ih fun y hy => h y (by simp [hy])]
theorem allTys_get {fields : List Field} (h : allTys Θ (fields.map fun f => (f.offset, f.type)) = true) : ∀ f ∈ fields, ∃ ti, Θ.get f.type = some ti := by
  induction fields with
  | nil => intro f hf; simp at hf
  | cons g fs ih =>
    simp only [List.map_cons, allTys, Bool.and_eq_true] at h
    intro f hf
    rcases List.mem_cons.1 hf with rfl | hf
    · exact Option.isSome_iff_exists.1 h.1
    · exact ih h.2 f hf
theorem ls_build (hty : tyOk P Θ = true) {t : TypeId} {ps : Array (Nat × Operand)} (hop : o.op = .build t ps) (h : planK Θ o sv en nx kf = some r) : ∃ δ, kf δ = some r ∧ Local P o sv en nx δ := by
  simp only [planK, hop] at h
  split at h
  · rename_i fs sz by_ zero h1
    cases ha : allTys Θ fs <;> rw [ha] at h <;> simp only [cond_true, cond_false, reduceCtorEq] at h
    split at h
    · rename_i cs hcs
      refine ⟨_, h, ids_same _ _ _, fun c a p => ?_⟩
      obtain ⟨fields, hu, hfs, hpl⟩ := (rowTy hty h1).struct_
      subst hfs
      obtain ⟨i, z, hi, hsz, hby, hz, hzs, _⟩ := (rowTy hty h1).info
      have hzd := zerosEq_den (Z := c.Z) (w := c.w) hzs
      have hget := allTys_get ha
      have hm : (fields.mapM fun (f : Field) => do pure (f.offset, ← Go.sizeOf f.type)).run P c.w = .ok (fields.map fun f => (f.offset, ((Θ.get f.type).map (·.size)).getD 0)) c.w := by
        obtain ⟨l⟩ := fields
        rw [List.mapM_toArray]
        have := run_mapM (P := P) (w := c.w) (fun f : Field => do pure (f.offset, ← Go.sizeOf f.type)) (fun f => (f.offset, ((Θ.get f.type).map (·.size)).getD 0)) l (fun f hf => by
          obtain ⟨ti, hti⟩ := hget f hf
          simp [(rowTy hty hti).sizeOf_, hti])
        rw [Sem.run_map, this]
        simp
      have hpar : ∀ q ∈ ps.toList, ∀ s, q.2 = .tmp s → Den c (sv s) (a.tmps.getD s Go.undef) := fun q hq s hs => p.sl s (by
        rw [hop]
        simp only [Op.operands]
        rw [← hs]
        exact List.mem_map_of_mem hq)
      obtain ⟨cur', h2, h3⟩ := fillP_ok (c := c) (a := a) (fields := fields) (fields.map fun (f : Field) => (f.offset, ((Θ.get f.type).map (·.size)).getD 0)) (fun i f ti hf ht => by simp [hf, ht])
        (evParts Θ (fty (fields.toList.map fun f => (f.offset, f.type))) sv ps.toList) ps.toList zero cs z.cells.toList hcs (length_evParts _) (evParts_den ps.toList p.ho.gls hpar) ⟨hzd.1, fun i s v hs hv => .g _ _ (hzd.2 i s v hs hv).1⟩
      refine stp_same (v := .agg cur'.toArray) p.ho ?_ (.agg _ _ h3.1 h3.2)
      have e : (ps.map fun (x : Nat × Operand) => (x.1, a.eval x.2)).toList = ps.toList.map fun x => (x.1, a.eval x.2) := by simp
      simp only [execOp, hop, Instr.build, zeroValue, typeInfo, Sem.run_bind, run_program, hi, hz, Result.andThen_ok, Sem.run_pure, run_underlying hu, hm, e]
      simp only [Array.toArray_toList] at h2
      rw [h2]
      rfl
    · cases h
  · cases h
end
end Go.Sx
