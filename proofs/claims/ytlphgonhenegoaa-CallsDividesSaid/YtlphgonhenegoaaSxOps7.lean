import Derived.Test.YtlphgonhenegoaaSxOps6
namespace Go.Sx
section
variable {P : Program} {Θ : Tys} {R : Type} {sv : Nat → SV} {en : Nat → Option Ent} {nx : Nat} {r : R} {kf : Delta → Option R} {o : Oper}
structure Src (c : Cx) (size : Nat) (fl : CK) (m : Nat) (cx : Nat → Nat → SV) (xa : Option Addr) (X : Nat → Value) : Prop where
  ad : 0 < m * size → ∃ ad, xa = some ad
  cell : ∀ ad, xa = some ad → ∀ j, j < m * size → c.w.cell? (ad.add j) = some (X j)
  flat : ∀ i j, i < m → j < size → ckOk (ckAt fl j) (cx i j) = true
  den : ∀ i j, i < m → j < size → DenG c.Z c.w (cx i j) (X (i * size + j))
theorem srcOf_inv {size : Nat} {x : SV} {kg : CK → Nat → (Nat → Nat → SV) → List Nat → Option R} (h : srcOf en size x kg = some r) :
    ∃ fl m cx rd, kg fl m cx rd = some r ∧ ∀ c v, HeapOk c → (∀ id ∈ rd, c.en id = en id) → Den c x v → ∃ xa xc X, v = .slice xa m xc ∧ Src c size fl m cx xa X := by
  unfold srcOf at h
  split at h
  · rename_i fl s n cl
    cases hb : s == size <;> rw [hb] at h <;> simp only [cond_true, cond_false, reduceCtorEq] at h
    have hb : s = size := by simpa using hb
    subst hb
    refine ⟨_, _, _, _, h, fun c v ho hrd hd => ?_⟩
    obtain ⟨a, cap, U, rfl, hcap, hfl, hz, hc, hdd⟩ := hd.sl_inv
    refine ⟨a, cap, fun k => U (k / s) (k % s), rfl, fun hp => ?_, fun ad ha j hj => ?_, hfl, fun i j hi hj => ?_⟩
    · obtain ⟨ad, ha, _⟩ := hz (by
        rcases Nat.eq_zero_or_pos n with h0 | h0
        · subst h0; simp at hp
        · exact h0)
      exact ⟨ad, ha⟩
    · have hs : 0 < s := by
        rcases Nat.eq_zero_or_pos s with h0 | h0
        · subst h0; simp at hj
        · exact h0
      have h1 : j / s < n := (Nat.div_lt_iff_lt_mul hs).2 hj
      have h2 : j % s < s := Nat.mod_lt _ hs
      have := hc ad ha (j / s) (j % s) h1 h2
      have e1 : j / s * s + j % s = j := by rw [Nat.mul_comm]; exact Nat.div_add_mod j s
      rw [e1] at this
      exact this
    · have e1 : (i * s + j) / s = i := by rw [Nat.mul_comm, Nat.mul_add_div (by omega), Nat.div_eq_of_lt hj]; rfl
      have e2 : (i * s + j) % s = j := by rw [Nat.mul_comm, Nat.mul_add_mod, Nat.mod_eq_of_lt hj]
      rw [e1, e2]
      exact hdd i j hi hj
  · rename_i q
    split at h
    · rename_i nl fl s n cl he0
      cases hb : s == size <;> rw [hb] at h <;> simp only [cond_true, cond_false, reduceCtorEq] at h
      have hb : s = size := by simpa using hb
      subst hb
      refine ⟨_, _, _, _, h, fun c v ho hrd hd => ?_⟩
      have he : c.en q = _ := (hrd q (by simp)).trans he0
      have hv := hd.row_inv he
      obtain ⟨hfl, ⟨rfl, rfl, hu⟩ | ⟨rfl, cap, arr, et, hu, hblk, hcap, hsz, hcell⟩⟩ := ho.ents q _ he
      · exact ⟨Option.none, 0, fun _ => Go.undef, by rw [hv, hu], (fun hp => by simp at hp), (fun ad ha => by cases ha), (fun i j hi => by omega), (fun i j hi => by omega)⟩
      · refine ⟨some ⟨c.b q, 0, Option.none⟩, cap, fun k => arr.getD k Go.undef, by rw [hv, hu], fun _ => ⟨_, rfl⟩, fun ad ha j hj => ?_, hfl, fun i j hi hj => ?_⟩
        · injection ha with ha
          subst ha
          rw [add_mk, cell_of hblk]
          have : 0 + j < arr.size := by
            have : n * s ≤ cap * s := Nat.mul_le_mul_right _ hcap
            omega
          simp at this
          simp [this]
        · obtain ⟨v, h1, h2⟩ := hcell i j hi hj
          have : arr.getD (i * s + j) Go.undef = v := by simp [h1]
          rw [this]; exact h2
    · cases h
  · cases h
structure Dst (c : Cx) (size : Nat) (fl : CK) (n : Nat) (c0 : Nat → Nat → SV) (base : Option Addr) (U : Nat → Value) : Prop where
  ad : 0 < n * size → ∃ ad, base = some ad
  cell : ∀ ad, base = some ad → ∀ j, j < n * size → c.w.cell? (ad.add j) = some (U j)
  flat : ∀ i j, i < n → j < size → ckOk (ckAt fl j) (c0 i j) = true
  den : ∀ i j, i < n → j < size → DenG c.Z c.w (c0 i j) (U (i * size + j))
theorem cat_flat {n m size : Nat} {fl0 fl : CK} {c0 cx : Nat → Nat → SV} (h0 : ∀ i j, i < n → j < size → ckOk (ckAt fl0 j) (c0 i j) = true) (hx : ∀ i j, i < m → j < size → ckOk (ckAt fl j) (cx i j) = true) :
    ∀ i j, i < n + m → j < size → ckOk (ckAt (ckMeet fl0 fl) j) (catC n c0 cx i j) = true := by
  intro i j hi hj
  unfold catC
  cases hb : Nat.blt i n
  · have : ¬ i < n := fun h => by rw [← Nat.blt_eq] at h; rw [h] at hb; cases hb
    exact ckOk_meet (.inr (hx _ j (by omega) hj))
  · exact ckOk_meet (.inl (h0 i j (by rw [← Nat.blt_eq]; exact hb) hj))
theorem grown_cells {c : Cx} {size n m nc : Nat} {fl0 fl : CK} {c0 cx : Nat → Nat → SV} {base xa : Option Addr} {U X : Nat → Value} {rest : Array Value} (d : Dst c size fl0 n c0 base U) (s : Src c size fl m cx xa X)
    (hnc : n + m ≤ nc) (hr : rest.size = (nc - (n + m)) * size) :
    nc * size ≤ (((List.range (n * size)).map U).toArray ++ ((List.range (m * size)).map X).toArray ++ rest).size ∧
    ∀ i j, i < n + m → j < size → ∃ v, (((List.range (n * size)).map U).toArray ++ ((List.range (m * size)).map X).toArray ++ rest)[i * size + j]? = some v ∧ DenG c.Z c.w (catC n c0 cx i j) v := by
  constructor
  · simp [hr]
    have : (nc - (n + m)) * size + (n + m) * size = nc * size := by rw [← Nat.add_mul]; congr 1; omega
    rw [Nat.add_mul] at this
    omega
  · intro i j hi hj
    have hlt : i * size + j < (n + m) * size := mul_lt_of hi hj
    rw [Nat.add_mul] at hlt
    unfold catC
    by_cases hin : i < n
    · have hb : Nat.blt i n = true := by rw [Nat.blt_eq]; exact hin
      have h1 : i * size + j < n * size := mul_lt_of hin hj
      refine ⟨U (i * size + j), ?_, by rw [hb]; exact d.den i j hin hj⟩
      rw [Array.getElem?_append_left (by simp; omega), Array.getElem?_append_left (by simp; omega)]
      simp [h1]
    · have hb : Nat.blt i n = false := by cases h : Nat.blt i n; rfl; exact absurd (by rw [← Nat.blt_eq]; exact h) hin
      have e1 : i * size + j - n * size = (i - n) * size + j := by
        have : i * size = (i - n) * size + n * size := by rw [← Nat.add_mul]; congr 1; omega
        omega
      have h2 : n * size ≤ i * size := Nat.mul_le_mul_right _ (by omega)
      have h1 : (i - n) * size + j < m * size := mul_lt_of (by omega) hj
      refine ⟨X ((i - n) * size + j), ?_, by rw [hb]; exact s.den _ j (by omega) hj⟩
      rw [Array.getElem?_append_left (by simp; omega), Array.getElem?_append_right (by simp; omega)]
      simp [e1, h1]
theorem invoke_append {a : Act} {args : Array Operand} {ts : Array TypeId} (hop : o.op = .call ⟨.builtin .append, args, ts⟩) (w : World) :
    (execOp a.eval o).run P w = ((Builtin.append_ ts o.type (args.map a.eval)).run P w).andThen fun v w' => .ok (.value v) w' := by
  simp [execOp, hop, resolve, invoke, builtin]
theorem roomK_inv {x : SV} {b b' k : Nat} {kr : Bool → Option R} (hb : b' = b) (h : roomK x b k kr = some r) : ∃ rm, kr rm = some r ∧ (rm = true → k ≤ 1073741824 ∨ (k ≤ 17592186044416 ∧ b' ≤ 8)) := by
  subst hb
  unfold roomK at h
  split at h
  · cases h8 : Nat.ble b' 8 <;> rw [h8] at h
    · exact ⟨_, h, fun h => .inl (by simpa [room] using h)⟩
    · exact ⟨_, h, fun h => .inr ⟨by simpa [room8] using h, by simpa using h8⟩⟩
  · exact ⟨_, h, fun h => .inl (by simpa [room] using h)⟩
theorem ls_append (hty : tyOk P Θ = true) {args : Array Operand} {ts : Array TypeId} (hop : o.op = .call ⟨.builtin .append, args, ts⟩) (h : planK Θ o sv en nx kf = some r) : ∃ δ, kf δ = some r ∧ Local P o sv en nx δ := by
  obtain ⟨args⟩ := args
  obtain ⟨ts⟩ := ts
  simp only [planK, hop] at h
  match args, h with
  | [], h => simp [builtinK] at h
  | [x], h => simp [builtinK] at h
  | x :: y :: z :: l, h => simp [builtinK] at h
  | [x, y], h =>
    have hx : x ∈ o.op.operands.toList := by simp [hop, Op.operands, Call.operands]
    have hy : y ∈ o.op.operands.toList := by simp [hop, Op.operands, Call.operands]
    simp only [List.map_cons, List.map_nil, builtinK] at h
    split at h
    · rename_i t t'
      split at h
      · rename_i e _ _ _ e' _ _ _ h1 h2
        split at h
        · rename_i te h3
          obtain ⟨fl, m, cx, rd, hk, hsrc⟩ := srcOf_inv h
          have hu := (rowTy hty h1).slice_
          have hu' := (rowTy hty h2).slice_
          obtain ⟨i, z, hi, hsz, hby, hz, hzs, hle, _⟩ := (rowTy hty h3).info
          have hzl : z.cells.size = i.size := by
            have := (zerosEq_den (Z := fun _ => False) (w := default) hzs).1
            rw [(rowTy hty h3).zlen] at this
            simp at this
            omega
          have hby' : i.bytes ≤ 65536 := by omega
          clear h
          split at hk
          · rename_i q hq
            split at hk
            · rename_i nl fl0 size n c0 he0
              have hkk := roomK_inv hby hk
              clear hk
              obtain ⟨rm, hk, hrm⟩ := hkk
              cases hb : (size == te.size && rm) <;> rw [hb] at hk <;> simp only [cond_true, cond_false, reduceCtorEq] at hk
              simp at hb
              obtain ⟨rfl, hroom⟩ := hb
              have hroom : n + m ≤ 1073741824 ∨ (n + m ≤ 17592186044416 ∧ i.bytes ≤ 8) := hrm hroom
              refine ⟨_, hk, ⟨fun id hid => ?_, Nat.le_succ _⟩, fun c a p => ?_⟩
              · simp at hid
                rcases hid with rfl | rfl
                · exact .inl (by simp)
                · exact .inr ⟨Nat.le_refl _, Nat.lt_succ_self _⟩
              have hkn : ¬ c.K nx := p.fresh nx (by simp) (Nat.le_refl _)
              have he : c.en q = _ := (p.rd q (by simp)).trans he0
              have hqn : q ≠ nx := fun e => hkn (e ▸ p.ho.lt q _ he)
              have hdx := opd (Θ := Θ) p 0 x hx
              have hdy := opd (Θ := Θ) p 0 y hy
              rw [hq] at hdx
              obtain ⟨xa, xc, X, hvy, S⟩ := hsrc c _ p.ho (fun id hid => p.rd id (by simp [hid])) hdy
              have hvx := hdx.row_inv he
              have hupd : ∀ (c' : Cx) (e' : Ent) (b : Nat) (u : Value) (w' : World), c' = c.move q nx e' b u w' → (∀ id, c'.en id = upd c.en [(q, Option.none), (nx, some e')] id) ∧ (∀ id, c'.K id ↔ c.K id ∨ id ∈ [(q, (Option.none : Option Ent)), (nx, some e')].map (·.1)) := by
                intro c' e' b u w' hc'
                subst hc'
                refine ⟨fun id => rfl, fun id => ?_⟩
                simp only [Cx.move, List.map_cons, List.map_nil, List.mem_cons, List.not_mem_nil, or_false]
                refine ⟨fun h => h.elim .inl (fun h => .inr (.inr h)), fun h => ?_⟩
                rcases h with h | h | h
                · exact .inl h
                · exact .inl (h ▸ p.ho.lt q _ he)
                · exact .inr h
              obtain ⟨hfl0, ⟨rfl, rfl, hu2⟩ | ⟨rfl, cap, arr, et, hu2, hblk, hcap, hsz2, hcell⟩⟩ := p.ho.ents q _ he
              · rw [hu2] at hvx
                have D : Dst c te.size fl0 0 c0 Option.none (fun _ => Go.undef) := ⟨fun h => by simp at h, fun ad ha => (by cases ha), fun i j hi => by omega, fun i j hi => by omega⟩
                rcases run_append (ty := o.type) (w := c.w) hu hu' hi hz hzl hby' Option.none xa 0 0 m xc hroom (fun _ => Go.undef) X (by simp) (by simp) (by rw [hsz]; exact S.ad) (by rw [hsz]; exact S.cell) with ⟨hge, hrun⟩ | ⟨hlt, nc, rest, hnc, hrs, hrun⟩
                · have hm : m = 0 := by omega
                  subst hm
                  obtain ⟨h4, h5⟩ := move_ok (r := q) (id := nx) p.ho hkn (e := .row true (ckMeet fl0 fl) te.size (0 + 0) (catC 0 c0 cx)) (b := 0) (u := .slice Option.none 0 0) (w' := c.w) he (.inl ⟨Mem.refl c, fun hh => by simp [has] at hh⟩) (fun _ =>
                    ⟨fun i j hi => by omega, .inl ⟨rfl, rfl, by simp [Cx.move]⟩⟩)
                  obtain ⟨h6, h7⟩ := hupd _ _ _ _ _ rfl
                  refine stp_value (c' := c.move q nx (.row true (ckMeet fl0 fl) te.size (0 + 0) (catC 0 c0 cx)) 0 (.slice Option.none 0 0) c.w) (v := .slice Option.none 0 0) ?_ (.row _ _ (.inr rfl) rfl fun _ => by simp [Cx.move]) h4 h6 h7 h5
                  rw [invoke_append hop]
                  simp only [List.map_toArray, List.map_cons, List.map_nil, hvx, hvy, hrun]
                  rfl
                · rw [hsz] at hrun hrs
                  obtain ⟨g1, g2⟩ := grown_cells D S hnc hrs
                  have hm0 : (m == 0) = false := by simp; omega
                  obtain ⟨h4, h5⟩ := move_ok (r := q) (id := nx) p.ho hkn (e := .row (bif m == 0 then true else false) (ckMeet fl0 fl) te.size (0 + m) (catC 0 c0 cx)) (b := c.w.heap.size) (u := .slice (some ⟨c.w.heap.size, 0, Option.none⟩) (0 + m) nc)
                    (w' := c.w.drew.alloc (.cells (((List.range (0 * te.size)).map (fun _ => Go.undef)).toArray ++ ((List.range (m * te.size)).map X).toArray ++ rest) e)) he (.inl ⟨(Mem.drew c).alloc _, fun _ => Nat.le_refl _⟩) (fun ht =>
                    ⟨cat_flat D.flat S.flat, .inr ⟨by rw [hm0]; rfl, nc, _, e, by simp [Cx.move], by simpa [Cx.move] using heap_alloc_new c.w.drew _, hnc, g1, fun i j hi hj => by
                      obtain ⟨v, h8, h9⟩ := g2 i j hi hj
                      exact ⟨v, h8, h9.trans ht p.ho⟩⟩⟩)
                  obtain ⟨h6, h7⟩ := hupd _ _ _ _ _ rfl
                  refine stp_value (c' := c.move q nx _ _ _ _) (v := .slice (some ⟨c.w.heap.size, 0, Option.none⟩) (0 + m) nc) ?_ (.row _ _ (.inr rfl) rfl fun _ => by simp [Cx.move]) h4 h6 h7 h5
                  rw [invoke_append hop]
                  simp only [List.map_toArray, List.map_cons, List.map_nil, hvx, hvy, hrun]
                  rfl
              · rw [hu2] at hvx
                have hns : n * te.size ≤ arr.size := Nat.le_trans (Nat.mul_le_mul_right _ hcap) hsz2
                have D : Dst c te.size fl0 n c0 (some ⟨c.b q, 0, Option.none⟩) (fun k => arr.getD k Go.undef) := ⟨fun _ => ⟨_, rfl⟩, fun ad ha j hj => by
                    injection ha with ha
                    subst ha
                    rw [add_mk, cell_of hblk]
                    have : j < arr.size := by omega
                    simp [this], hfl0, fun i j hi hj => by
                    obtain ⟨v, h8, h9⟩ := hcell i j hi hj
                    have : arr.getD (i * te.size + j) Go.undef = v := by simp [h8]
                    rw [this]; exact h9⟩
                rcases run_append (ty := o.type) (w := c.w) hu hu' hi hz hzl hby' (some ⟨c.b q, 0, Option.none⟩) xa n cap m xc hroom (fun k => arr.getD k Go.undef) X (fun _ => ⟨_, rfl⟩) (by rw [hsz]; exact D.cell) (by rw [hsz]; exact S.ad) (by rw [hsz]; exact S.cell) with ⟨hge, hrun⟩ | ⟨hlt, nc, rest, hnc, hrs, hrun⟩
                · rw [hsz] at hrun
                  have hfit : n * te.size + ((List.range (m * te.size)).map X).length ≤ arr.size := by
                    have : (n + m) * te.size ≤ cap * te.size := Nat.mul_le_mul_right _ hge
                    rw [Nat.add_mul] at this
                    simp; omega
                  have hone : ∀ v ∈ (List.range (m * te.size)).map X, Sx.one v = true := fun v hv => by
                    simp only [List.mem_map, List.mem_range] at hv
                    obtain ⟨k, hk, rfl⟩ := hv
                    have hs : 0 < te.size := by
                      rcases Nat.eq_zero_or_pos te.size with h0 | h0
                      · rw [h0] at hk; simp at hk
                      · exact h0
                    have := S.den (k / te.size) (k % te.size) ((Nat.div_lt_iff_lt_mul hs).2 hk) (Nat.mod_lt _ hs)
                    have e1 : k / te.size * te.size + k % te.size = k := by rw [Nat.mul_comm]; exact Nat.div_add_mod k te.size
                    rw [e1] at this
                    exact this.one
                  have hst := run_storeCells (P := P) hblk hfit hone
                  have hgp := fun j => get_putAt (arr := arr) (o := n * te.size) (vs := (List.range (m * te.size)).map X) hfit j
                  obtain ⟨h4, h5⟩ := move_ok (r := q) (id := nx) p.ho hkn (e := .row (bif m == 0 then false else false) (ckMeet fl0 fl) te.size (n + m) (catC n c0 cx)) (b := c.b q) (u := .slice (some ⟨c.b q, 0, Option.none⟩) (n + m) cap)
                    (w' := c.w.setRow (c.b q) (putAt arr (n * te.size) ((List.range (m * te.size)).map X))) he (.inr ⟨rfl, rfl, Mem.setRow he rfl _⟩) (fun ht =>
                    ⟨cat_flat D.flat S.flat, .inr ⟨by cases m == 0 <;> rfl, cap, putAt arr (n * te.size) ((List.range (m * te.size)).map X), et, by simp [Cx.move], by simpa [Cx.move] using heap_setRow hblk, hge, by rw [size_putAt hfit]; exact hsz2, fun i j hi hj => by
                      have hlt : i * te.size + j < (n + m) * te.size := mul_lt_of hi hj
                      rw [Nat.add_mul] at hlt
                      rw [hgp]
                      unfold catC
                      by_cases hin : i < n
                      · have hb : Nat.blt i n = true := by rw [Nat.blt_eq]; exact hin
                        have h1 : i * te.size + j < n * te.size := mul_lt_of hin hj
                        rw [if_neg (by omega), hb]
                        obtain ⟨v, h8, h9⟩ := hcell i j hin hj
                        exact ⟨v, h8, h9.trans ht p.ho⟩
                      · have hb : Nat.blt i n = false := by cases h : Nat.blt i n; rfl; exact absurd (by rw [← Nat.blt_eq]; exact h) hin
                        have e1 : i * te.size + j - n * te.size = (i - n) * te.size + j := by
                          have : i * te.size = (i - n) * te.size + n * te.size := by rw [← Nat.add_mul]; congr 1; omega
                          omega
                        have h2 : n * te.size ≤ i * te.size := Nat.mul_le_mul_right _ (by omega)
                        have h1 : (i - n) * te.size + j < m * te.size := mul_lt_of (by omega) hj
                        rw [if_pos (by simp; omega), e1, hb]
                        exact ⟨X ((i - n) * te.size + j), by simp [h1], (S.den _ j (by omega) hj).trans ht p.ho⟩⟩⟩)
                  obtain ⟨h6, h7⟩ := hupd _ _ _ _ _ rfl
                  refine stp_value (c' := c.move q nx _ _ _ _) (v := .slice (some ⟨c.b q, 0, Option.none⟩) (n + m) cap) ?_ (.row _ _ (.inr rfl) rfl fun _ => by simp [Cx.move]) h4 h6 h7 h5
                  rw [invoke_append hop]
                  simp only [List.map_toArray, List.map_cons, List.map_nil, hvx, hvy, hrun, appRes, add_mk, Nat.zero_add, hst]
                  rfl
                · rw [hsz] at hrun hrs
                  obtain ⟨g1, g2⟩ := grown_cells D S hnc hrs
                  obtain ⟨h4, h5⟩ := move_ok (r := q) (id := nx) p.ho hkn (e := .row (bif m == 0 then false else false) (ckMeet fl0 fl) te.size (n + m) (catC n c0 cx)) (b := c.w.heap.size) (u := .slice (some ⟨c.w.heap.size, 0, Option.none⟩) (n + m) nc)
                    (w' := c.w.drew.alloc (.cells (((List.range (n * te.size)).map (fun k => arr.getD k Go.undef)).toArray ++ ((List.range (m * te.size)).map X).toArray ++ rest) e)) he (.inl ⟨(Mem.drew c).alloc _, fun _ => Nat.le_refl _⟩) (fun ht =>
                    ⟨cat_flat D.flat S.flat, .inr ⟨by cases m == 0 <;> rfl, nc, _, e, by simp [Cx.move], by simpa [Cx.move] using heap_alloc_new c.w.drew _, hnc, g1, fun i j hi hj => by
                      obtain ⟨v, h8, h9⟩ := g2 i j hi hj
                      exact ⟨v, h8, h9.trans ht p.ho⟩⟩⟩)
                  obtain ⟨h6, h7⟩ := hupd _ _ _ _ _ rfl
                  refine stp_value (c' := c.move q nx _ _ _ _) (v := .slice (some ⟨c.w.heap.size, 0, Option.none⟩) (n + m) nc) ?_ (.row _ _ (.inr rfl) rfl fun _ => by simp [Cx.move]) h4 h6 h7 h5
                  rw [invoke_append hop]
                  simp only [List.map_toArray, List.map_cons, List.map_nil, hvx, hvy, hrun]
                  rfl
            · cases hk
          · rename_i fl0 _ _ c0 hq
            cases hb : room m <;> rw [hb] at hk <;> simp only [cond_true, cond_false, reduceCtorEq] at hk
            have hroom : 0 + m ≤ 1073741824 ∨ (0 + m ≤ 17592186044416 ∧ i.bytes ≤ 8) := .inl (by have := hb; simp [room] at this; omega)
            refine ⟨_, hk, ⟨fun id hid => .inr (by simp at hid; subst hid; exact ⟨Nat.le_refl _, Nat.lt_succ_self _⟩), Nat.le_succ _⟩, fun c a p => ?_⟩
            have hkn : ¬ c.K nx := p.fresh nx (by simp) (Nat.le_refl _)
            have hdx := opd (Θ := Θ) p 0 x hx
            have hdy := opd (Θ := Θ) p 0 y hy
            rw [hq] at hdx
            obtain ⟨_, hvx⟩ := hdx.slnil_inv
            obtain ⟨xa, xc, X, hvy, S⟩ := hsrc c _ p.ho (fun id hid => p.rd id hid) hdy
            have D : Dst c te.size fl0 0 c0 Option.none (fun _ => Go.undef) := ⟨fun h => by simp at h, fun ad ha => (by cases ha), fun i j hi => by omega, fun i j hi => by omega⟩
            rcases run_append (ty := o.type) (w := c.w) hu hu' hi hz hzl hby' Option.none xa 0 0 m xc hroom (fun _ => Go.undef) X (by simp) (by simp) (by rw [hsz]; exact S.ad) (by rw [hsz]; exact S.cell) with ⟨hge, hrun⟩ | ⟨hlt, nc, rest, hnc, hrs, hrun⟩
            · have hm : m = 0 := by omega
              subst hm
              obtain ⟨h4, h5⟩ := add_ok (id := nx) p.ho hkn (e := .row true fl te.size 0 (catC 0 c0 cx)) (b := 0) (u := .slice Option.none 0 0) (w' := c.w) (Mem.refl c) (fun hh => by simp [has] at hh) (fun _ =>
                ⟨fun i j hi => by omega, .inl ⟨rfl, rfl, by simp [Cx.add]⟩⟩)
              refine stp_value (c' := c.add nx (.row true fl te.size 0 (catC 0 c0 cx)) 0 (.slice Option.none 0 0) c.w) (v := .slice Option.none 0 0) ?_ (.row _ _ (.inr rfl) rfl fun _ => by simp [Cx.add]) h4 (fun id => rfl) (fun id => by simp [Cx.add]) h5
              rw [invoke_append hop]
              simp only [List.map_toArray, List.map_cons, List.map_nil, hvx, hvy, hrun]
              rfl
            · rw [hsz] at hrun hrs
              obtain ⟨g1, g2⟩ := grown_cells D S hnc hrs
              have hm0 : (m == 0) = false := by simp; omega
              simp only [Nat.zero_add] at g2
              obtain ⟨h4, h5⟩ := add_ok (id := nx) p.ho hkn (e := .row (m == 0) fl te.size m (catC 0 c0 cx)) (b := c.w.heap.size) (u := .slice (some ⟨c.w.heap.size, 0, Option.none⟩) m nc)
                (w' := c.w.drew.alloc (.cells (((List.range (0 * te.size)).map (fun _ => Go.undef)).toArray ++ ((List.range (m * te.size)).map X).toArray ++ rest) e)) ((Mem.drew c).alloc _) (fun _ => Nat.le_refl _) (fun ht =>
                ⟨S.flat, .inr ⟨hm0, nc, _, e, by simp [Cx.add], by simpa [Cx.add] using heap_alloc_new c.w.drew _, by omega, g1, fun i j hi hj => by
                  obtain ⟨v, h8, h9⟩ := g2 i j hi hj
                  exact ⟨v, h8, h9.trans ht p.ho⟩⟩⟩)
              refine stp_value (c' := c.add nx _ _ _ _) (v := .slice (some ⟨c.w.heap.size, 0, Option.none⟩) m nc) ?_ (.row _ _ (.inr rfl) rfl fun _ => by simp [Cx.add]) h4 (fun id => rfl) (fun id => by simp [Cx.add]) h5
              rw [invoke_append hop]
              simp only [List.map_toArray, List.map_cons, List.map_nil, hvx, hvy, hrun, Nat.zero_add]
              rfl
          · rename_i fl0 _ _ c0 hq
            cases hb : (room m && Nat.blt 0 m) <;> rw [hb] at hk <;> simp only [cond_true, cond_false, reduceCtorEq] at hk
            rw [Bool.and_eq_true] at hb
            have hroom : 0 + m ≤ 1073741824 ∨ (0 + m ≤ 17592186044416 ∧ i.bytes ≤ 8) := .inl (by have := hb.1; simp [room] at this; omega)
            have hpos : 0 < m := by have := hb.2; rw [Nat.blt_eq] at this; exact this
            refine ⟨_, hk, ⟨fun id hid => .inr (by simp at hid; subst hid; exact ⟨Nat.le_refl _, Nat.lt_succ_self _⟩), Nat.le_succ _⟩, fun c a p => ?_⟩
            have hkn : ¬ c.K nx := p.fresh nx (by simp) (Nat.le_refl _)
            have hdx := opd (Θ := Θ) p 0 x hx
            have hdy := opd (Θ := Θ) p 0 y hy
            rw [hq] at hdx
            obtain ⟨_, base, hvx⟩ := hdx.slcap_inv
            obtain ⟨xa, xc, X, hvy, S⟩ := hsrc c _ p.ho (fun id hid => p.rd id hid) hdy
            have D : Dst c te.size fl0 0 c0 base (fun _ => Go.undef) := ⟨fun h => by simp at h, fun ad ha j hj => (by simp at hj), fun i j hi => by omega, fun i j hi => by omega⟩
            rcases run_append (ty := o.type) (w := c.w) hu hu' hi hz hzl hby' base xa 0 0 m xc hroom (fun _ => Go.undef) X (by simp) (by simp) (by rw [hsz]; exact S.ad) (by rw [hsz]; exact S.cell) with ⟨hge, hrun⟩ | ⟨hlt, nc, rest, hnc, hrs, hrun⟩
            · omega
            · rw [hsz] at hrun hrs
              obtain ⟨g1, g2⟩ := grown_cells D S hnc hrs
              simp only [Nat.zero_add] at g2
              obtain ⟨h4, h5⟩ := add_ok (id := nx) p.ho hkn (e := .row false fl te.size m (catC 0 c0 cx)) (b := c.w.heap.size) (u := .slice (some ⟨c.w.heap.size, 0, Option.none⟩) m nc)
                (w' := c.w.drew.alloc (.cells (((List.range (0 * te.size)).map (fun _ => Go.undef)).toArray ++ ((List.range (m * te.size)).map X).toArray ++ rest) e)) ((Mem.drew c).alloc _) (fun _ => Nat.le_refl _) (fun ht =>
                ⟨S.flat, .inr ⟨rfl, nc, _, e, by simp [Cx.add], by simpa [Cx.add] using heap_alloc_new c.w.drew _, by omega, g1, fun i j hi hj => by
                  obtain ⟨v, h8, h9⟩ := g2 i j hi hj
                  exact ⟨v, h8, h9.trans ht p.ho⟩⟩⟩)
              refine stp_value (c' := c.add nx _ _ _ _) (v := .slice (some ⟨c.w.heap.size, 0, Option.none⟩) m nc) ?_ (.row _ _ (.inr rfl) rfl fun _ => by simp [Cx.add]) h4 (fun id => rfl) (fun id => by simp [Cx.add]) h5
              rw [invoke_append hop]
              simp only [List.map_toArray, List.map_cons, List.map_nil, hvx, hvy, hrun, Nat.zero_add]
              rfl
          · cases hk
        · cases h
      · cases h
    · cases h
end
end Go.Sx
