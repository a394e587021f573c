import Derived.Test.YtlikcijophbkbaaSxOps8
import Derived.Laws.IdiomStrings
namespace Go.Sx
theorem froz_ok {c : Cx} (ho : HeapOk c) {w' : World} (m : Mem c (fun _ => False) w') {b : Nat} (hb : c.w.heap.size ≤ b) (hb' : b < w'.heap.size) :
    HeapOk { c with Z := fun k => c.Z k ∨ k = b, w := w' } ∧ Trans c { c with Z := fun k => c.Z k ∨ k = b, w := w' } := by
  have ht : Trans c { c with Z := fun k => c.Z k ∨ k = b, w := w' } :=
    { os := m.os, tape := m.tape, output := m.output, size := m.size, kn := fun _ h => h
      zs := fun k hk => .inl hk
      znew := fun k hk => by
        rcases hk with h | h
        · exact .inl h
        · exact .inr (.inl (h ▸ hb))
      keep := fun k hk hn => m.same k hk fun h => h
      old := fun id e' he' => .inl ⟨e', he', rfl, rfl, rfl, rfl⟩
      loc := fun id e' k he' hh' => .inr ⟨id, e', he', hh'⟩ }
  refine ⟨⟨ho.lt, fun id e he => (ho.ents id e he).trans ht ho rfl rfl rfl (fun k hk => m.same k ((ho.ents id e he).olt hk) fun h => h), ho.inj, fun k hk => ?_, fun k hk id e he hh => ?_, ht.gls ho⟩, ht⟩
  · rcases hk with h | h
    · exact Nat.lt_of_lt_of_le (ho.zlt k h) m.size
    · exact h ▸ hb'
  · rcases hk with h | h
    · exact ho.zno k h id e he hh
    · have := (ho.ents id e he).olt hh
      omega
section
variable {P : Program} {Θ : Tys} {R : Type} {sv : Nat → SV} {en : Nat → Option Ent} {nx : Nat} {r : R} {kf : Delta → Option R} {o : Oper}
theorem byteI_at (s : ByteArray) (i : Nat) (h : i < s.data.size) : byteI s i = (s.data[i].toNat : Int) := by
  unfold byteI
  rw [List.getElem?_map, Array.getElem?_toList, Array.getElem?_eq_getElem h]
  rfl
theorem run_append_zeros {w : World} {t t' e ty : TypeId} {k' : IntKind} {i : TypeInfo} {z : Value} (ht : P.underlying t = some (.slice e)) (ht' : P.underlying t' = some (.int k')) (hi : P.info? e = some i) (hz : i.zero = some z)
    (hzs : z.cells.size = i.size) (hs1 : i.size = 1) (hby : i.bytes ≤ 65536) (k : IntKind) (m : Int) (h0 : 0 < m) (hroom : m ≤ 1073741824) :
    ∃ nc rest, m.toNat ≤ nc ∧ rest.size = (nc - m.toNat) * i.size ∧
      (Builtin.append_ #[t, t'] ty #[.slice Option.none 0 0, .int k m]).run P w =
        .ok (.slice (some ⟨w.heap.size, 0, Option.none⟩) m.toNat nc) (w.drew.alloc (.cells (Builtin.zeroCells z.cells m.toNat ++ rest) e)) := by
  have hw : IntKind.i64.wrap m = m := by rw [IntKind.wrap_i64]; omega
  have hb1 : ¬ (m * (i.bytes : Int) > 281474976710656) := by
    have : m * (i.bytes : Int) ≤ 1073741824 * 65536 := by
      have h5 : (i.bytes : Int) ≤ 65536 := by omega
      exact Int.le_trans (Int.mul_le_mul_of_nonneg_right hroom (by omega)) (Int.mul_le_mul_of_nonneg_left h5 (by omega))
    omega
  have hcapb : ¬ (Builtin.nextslicecap m.toNat 0 * i.bytes > 281474976710656) := by
    have h1 := nextslicecap_le m.toNat 0 (by omega) (by omega)
    have h2 : Builtin.nextslicecap m.toNat 0 * i.bytes ≤ 2147483648 * 65536 := Nat.mul_le_mul h1 hby
    omega
  have hlt : ¬ m < 0 := by omega
  have hn0 : ¬ (m.toNat = 0) := by omega
  refine ⟨(Question.appendCap m.toNat 0 e).cut (w.tape w.drawn (.appendCap m.toNat 0 e)), Builtin.zeroCells z.cells ((Question.appendCap m.toNat 0 e).cut (w.tape w.drawn (.appendCap m.toNat 0 e)) - m.toNat), ?_, ?_, ?_⟩
  · simp only [Question.cut]; omega
  · rw [size_zeroCells', hzs]
  · simp [Builtin.append_, run_underlying ht, run_underlying ht', Go.sizeOf, typeInfo, hi, asInt, asIntOf, hw, hlt, show ¬ m ≤ 0 by omega, hb1, hn0, hcapb, hs1, Question.forced, zeroValue, hz, newRow, Builtin.firstCells]
    intro hc
    exfalso
    omega
theorem planS_ok (hty : tyOk P Θ = true) (hs0 : strOp Θ o = true) (h : planS Θ o sv en nx kf = some r) : ∃ δ, kf δ = some r ∧ Local P o sv en nx δ := by
  unfold planS at h
  split at h
  · rename_i t x y yt hop
    have hx : x ∈ o.op.operands.toList := by simp [hop, Op.operands]
    have hy : y ∈ o.op.operands.toList := by simp [hop, Op.operands]
    split at h
    · rename_i a b h1 h2
      cases hb : Nat.ble (a.size + b.size) 1073741824 <;> rw [hb] at h <;> simp only [cond_true, cond_false, reduceCtorEq] at h
      rw [Nat.ble_eq] at hb
      refine ⟨_, h, ids_same _ _ _, fun c ac p => ?_⟩
      have hdx := opd (Θ := Θ) p t x hx
      have hdy := opd (Θ := Θ) p yt y hy
      rw [h1] at hdx
      rw [h2] at hdy
      refine stp_same (v := .string (a ++ b)) p.ho ?_ (.g _ _ (.str _))
      simp only [execOp, hop, hdx.str_inv, hdy.str_inv]
      have hm' : (a.size : Int) + (b.size : Int) ≤ 9223372036854775807 := by omega
      simp [eqGuard, binOp, Op.stringOp, hm']
    · cases h
  · rename_i s d x hop
    have hx : x ∈ o.op.operands.toList := by simp [hop, Op.operands]
    split at h
    · rename_i n h1 h2 h3
      refine ⟨_, h, ids_same _ _ _, fun c a p => ?_⟩
      have hdx := opd (Θ := Θ) p s x hx
      rw [h3] at hdx
      obtain ⟨ds, hds, _⟩ := (rowTy hty h1).desc
      have hdd := (rowTy hty h2).str_
      exact stp_same p.ho (by simp [execOp, hop, hdx.int_inv, convert, run_underlying hds, run_underlying hdd, Conv.intToString]) (.g _ _ (.str _))
    · rename_i e _ _ _ b h1 h2 h3
      split at h
      · rename_i h4
        refine ⟨_, h, ids_same _ _ _, fun c a p => ?_⟩
        have hdx := opd (Θ := Θ) p s x hx
        rw [h3] at hdx
        have hs := (rowTy hty h1).str_
        have hd := (rowTy hty h2).slice_
        have he := (rowTy hty h4).int_
        have hrun := run_bytes_of_string (P := P) c.w s d e b hs hd he
        have m : Mem c (fun _ => False) (c.w.drew.alloc (.cells (bytesRow b (grownCap c.w b.size 0 e)) e ((bytesRow b (grownCap c.w b.size 0 e)).size, (bytesRow b (grownCap c.w b.size 0 e)).size + 1))) := (Mem.drew c).alloc _
        obtain ⟨g1, g2⟩ := froz_ok p.ho m (b := c.w.heap.size) (Nat.le_refl _) (by simp [World.alloc])
        refine stp_value (c' := { c with Z := fun k => c.Z k ∨ k = c.w.heap.size, w := _ }) (v := .slice (some ⟨c.w.heap.size, 0, Option.none⟩) b.size (grownCap c.w b.size 0 e)) ?_ ?_ g1 (fun _ => rfl) (fun _ => by simp) g2
        · simp only [execOp, hop, hdx.str_inv]
          simp [hrun]
        · refine .g _ _ (.sl _ _ _ _ _ _ (fun i _ => .int .u8 (byteI b i)) ?_ (fun i j hi hj => ?_) (fun _ => ⟨_, rfl, .inr rfl⟩) (fun ad ha i j hi hj => ?_) (fun i j hi hj => .int _ _))
          · simp only [grownCap, Question.cut]; omega
          · have : j = 0 := by omega
            subst this
            simp [byteC, ckAt, ckOk]
          · injection ha with ha
            subst ha
            have : j = 0 := by omega
            subst this
            have hi' : i < b.data.size := hi
            rw [add_mk]
            simp only [Nat.mul_one, Nat.add_zero, Nat.zero_add]
            have hw : (c.w.drew.alloc (.cells (bytesRow b (grownCap c.w b.size 0 e)) e ((bytesRow b (grownCap c.w b.size 0 e)).size, (bytesRow b (grownCap c.w b.size 0 e)).size + 1))).heap[c.w.heap.size]? = some (.cells (bytesRow b (grownCap c.w b.size 0 e)) e ((bytesRow b (grownCap c.w b.size 0 e)).size, (bytesRow b (grownCap c.w b.size 0 e)).size + 1)) := by
              show (c.w.heap.push _)[c.w.heap.size]? = _
              simp
            show World.cell? (c.w.drew.alloc _) _ = _
            rw [cell_of hw, bytesRow_at b _ i hi', byteI_at b i hi']
      · cases h
    · cases h
  · rename_i t x i hop
    have hx : x ∈ o.op.operands.toList := by simp [hop, Op.operands]
    have hi : i ∈ o.op.operands.toList := by simp [hop, Op.operands]
    split at h
    · rename_i b k z h1 h2
      cases hb : (decide (0 ≤ z) && decide (z < (b.size : Int))) <;> rw [hb] at h <;> simp only [cond_true, cond_false, reduceCtorEq] at h
      simp only [Bool.and_eq_true, decide_eq_true_eq] at hb
      refine ⟨_, h, ids_same _ _ _, fun c a p => ?_⟩
      have hdx := opd (Θ := Θ) p t x hx
      have hdi := opd (Θ := Θ) p 0 i hi
      rw [h1] at hdx
      rw [h2] at hdi
      simp only [strOp, hop, isStrT] at hs0
      split at hs0
      · rename_i h0
        have hu := (rowTy hty h0).str_
        have hlt : z.toNat < b.data.size := by
          have : b.size = b.data.size := rfl
          omega
        have hb2 : b[z.toNat]? = some b.data[z.toNat] := by
          have h3 : z.toNat < b.size := hlt
          rw [getElem?_pos b z.toNat h3]
          rfl
        rw [byteI_at b _ hlt]
        exact stp_same p.ho (by simp [execOp, hop, hdx.str_inv, hdi.int_inv, Instr.index, asIntOf, run_underlying hu, hb.1, hb2]) (.g _ _ (.int _ _))
      · cases hs0
    · cases h
  · rename_i t x hi hop
    have hx : x ∈ o.op.operands.toList := by simp [hop, Op.operands]
    have hh : hi ∈ o.op.operands.toList := by simp [hop, Op.operands]
    split at h
    · rename_i e _ _ _ h1
      have hu := (rowTy hty h1).slice_
      split at h
      · rename_i te q k z hte h2 h3
        have rs := fun w => (rowTy hty hte).sizeOf_ w
        split at h
        · rename_i nl fl size n cl he0
          cases hb : (size == te.size && (decide (0 ≤ z) && decide (z ≤ (n : Int)))) <;> rw [hb] at h <;> simp only [cond_true, cond_false, reduceCtorEq] at h
          simp only [Bool.and_eq_true, beq_iff_eq, decide_eq_true_eq] at hb
          obtain ⟨rfl, g1, g2⟩ := hb
          refine ⟨_, h, ⟨fun id hid => ?_, Nat.le_succ _⟩, fun c a p => ?_⟩
          · simp only [List.map_cons, List.map_nil, List.mem_cons, List.not_mem_nil, or_false] at hid
            rcases hid with rfl | rfl
            · exact .inl (by simp)
            · exact .inr ⟨Nat.le_refl _, Nat.lt_succ_self _⟩
          have hk : ¬ c.K nx := p.fresh nx (by simp) (Nat.le_refl _)
          have he : c.en q = _ := (p.rd q (by simp)).trans he0
          have hd := opd (Θ := Θ) p t x hx
          rw [h2] at hd
          have hv := hd.row_inv he
          have hdz := opd (Θ := Θ) p 0 hi hh
          rw [h3] at hdz
          obtain ⟨hfl, hent⟩ := p.ho.ents q _ he
          have hnq : nx ≠ q := fun e => hk (e ▸ p.ho.lt q _ he)
          have henn : ∀ (b : Nat) (u : Value) (w' : World) (id : Nat), (c.move q nx (.row nl fl te.size z.toNat cl) b u w').en id = upd c.en [(q, Option.none), (nx, some (.row nl fl te.size z.toNat cl))] id := fun b u w' id => by
            simp only [Cx.move, upd]
          have hKK : ∀ (b : Nat) (u : Value) (w' : World) (id : Nat), (c.move q nx (.row nl fl te.size z.toNat cl) b u w').K id ↔ c.K id ∨ id ∈ [(q, (Option.none : Option Ent)), (nx, some (.row nl fl te.size z.toNat cl))].map (·.1) := fun b u w' id => by
            simp only [Cx.move, List.map_cons, List.map_nil, List.mem_cons, List.not_mem_nil, or_false]
            constructor
            · rintro (h | h)
              · exact .inl h
              · exact .inr (.inr h)
            · rintro (h | rfl | h)
              · exact .inl h
              · exact .inl (p.ho.lt _ _ he)
              · exact .inr h
          rcases hent with ⟨rfl, rfl, hu2⟩ | ⟨rfl, cap, arr, et, hu2, hblk, hcap, hsz, hcell⟩
          · rw [hu2] at hv
            have hz0 : z.toNat = 0 := by omega
            obtain ⟨d1, d2⟩ := move_ok p.ho hk he (e := .row true fl te.size z.toNat cl) (b := 0) (u := .slice Option.none 0 0) (w' := c.w) (.inl ⟨Mem.refl c, fun hh => by simp [has] at hh⟩) (fun ht => ⟨fun i j hi hj => by omega, .inl ⟨rfl, hz0, by simp [Cx.move]⟩⟩)
            refine stp_value (c' := c.move q nx (.row true fl te.size z.toNat cl) 0 (.slice Option.none 0 0) c.w) (v := .slice Option.none 0 0) ?_ (.row _ _ (.inr rfl) rfl (fun _ => by simp [Cx.move])) d1 (henn _ _ _) (hKK _ _ _) d2
            have hrun := run_sliceAt (P := P) (a := Option.none) hu c.w (rs c.w) (lo := Option.none) (hi := some (a.eval hi)) (l := 0) (h := z) (n := 0) (cap := 0) (.inl ⟨rfl, rfl⟩) (.inr ⟨k, by rw [hdz.int_inv]⟩) (Int.le_refl _) g1 g2 (Nat.le_refl 0)
            simp only [execOp, hop, hv, Option.map_none, Option.map_some, hrun, Sem.run_bind, Result.andThen_ok, Sem.run_pure]
            simp [hz0]
            rfl
          · rw [hu2] at hv
            obtain ⟨d1, d2⟩ := move_ok p.ho hk he (e := .row false fl te.size z.toNat cl) (b := c.b q) (u := .slice (some ⟨c.b q, 0, Option.none⟩) z.toNat cap) (w' := c.w) (.inr ⟨rfl, rfl, ⟨rfl, rfl, rfl, Nat.le_refl _, fun _ _ _ => rfl, fun k hk => ⟨q, _, he, hk ▸ ow_b rfl⟩⟩⟩) (fun ht =>
              ⟨fun i j hi hj => hfl i j (by omega) hj, .inr ⟨rfl, cap, arr, et, by simp [Cx.move], by simpa [Cx.move] using hblk, by omega, hsz, fun i j hi hj => by
                obtain ⟨v, hv1, hv2⟩ := hcell i j (by omega) hj
                exact ⟨v, hv1, hv2.trans ht p.ho⟩⟩⟩)
            refine stp_value (c' := c.move q nx (.row false fl te.size z.toNat cl) (c.b q) (.slice (some ⟨c.b q, 0, Option.none⟩) z.toNat cap) c.w) (v := .slice (some ⟨c.b q, 0, Option.none⟩) z.toNat cap) ?_ (.row _ _ (.inr rfl) rfl (fun _ => by simp [Cx.move])) d1 (henn _ _ _) (hKK _ _ _) d2
            have hrun := run_sliceAt (P := P) (a := some ⟨c.b q, 0, Option.none⟩) hu c.w (rs c.w) (lo := Option.none) (hi := some (a.eval hi)) (l := 0) (h := z) (n := n) (cap := cap) (.inl ⟨rfl, rfl⟩) (.inr ⟨k, by rw [hdz.int_inv]⟩) (Int.le_refl _) g1 g2 hcap
            simp only [execOp, hop, hv, Option.map_none, Option.map_some, hrun, Sem.run_bind, Result.andThen_ok, Sem.run_pure]
            simp [add_zero]
            rfl
        · cases h
      · rename_i te fl size m cl k z hte h2 h3
        have rs := fun w => (rowTy hty hte).sizeOf_ w
        cases hb : decide (z = 0) <;> rw [hb] at h <;> simp only [cond_true, cond_false, reduceCtorEq] at h
        have hz : z = 0 := by simpa using hb
        subst hz
        refine ⟨_, h, ids_same _ _ _, fun c a p => ?_⟩
        have hd := opd (Θ := Θ) p t x hx
        rw [h2] at hd
        obtain ⟨_, hv⟩ := hd.slnil_inv
        have hdz := opd (Θ := Θ) p 0 hi hh
        rw [h3] at hdz
        have hrun := run_sliceAt (P := P) (a := Option.none) hu c.w (rs c.w) (lo := Option.none) (hi := some (a.eval hi)) (l := 0) (h := 0) (n := 0) (cap := 0) (.inl ⟨rfl, rfl⟩) (.inr ⟨k, by rw [hdz.int_inv]⟩) (Int.le_refl _) (Int.le_refl _) (Int.le_refl _) (Nat.le_refl 0)
        refine stp_same (v := .slice Option.none 0 0) p.ho ?_ (.g _ _ (.slnil _ _ _))
        simp only [execOp, hop, hv, Option.map_none, Option.map_some, hrun, Sem.run_bind, Result.andThen_ok, Sem.run_pure]
        simp
      · exact plan_ok hty h
    · cases h
  · rename_i t n ps hop
    obtain ⟨δ, h1, ⟨hid, hst⟩⟩ := plan_ok hty h
    split at h1
    · rename_i δ0 q q' nl fl size n cl rd nx'
      cases hb : q == q' <;> rw [hb] at h1 <;> simp only [cond_true, cond_false, reduceCtorEq] at h1
      have : q = q' := by simpa using hb
      subst this
      refine ⟨_, h1, ⟨fun id hi => hid.keys id (by simpa using hi), hid.le⟩, fun c a p => ?_⟩
      have hp : Pre o sv en nx ⟨.row q, [(q, some (.row nl fl size n cl))], rd, nx'⟩ c a := ⟨p.ho, p.sl, p.rd, fun id hi hn => p.fresh id (by simpa using hi) hn⟩
      intro Kt Q hK
      refine hst c a hp Kt Q fun v c' k1 k2 k3 k4 k5 => ?_
      have he : c'.en q = some (.row nl fl size n cl) := by rw [k3]; simp [upd]
      obtain ⟨g1, g2⟩ := drop_ok k2 q
      refine hK v (c'.drop q) (den_frz k2 he k1) g1 (fun id => ?_) (fun id => ?_) (k5.trans g2)
      · simp only [Cx.drop, k3, upd]
        by_cases e : id = q
        · subst e; simp
        · simp [e]
      · show c'.K id ↔ _
        rw [k4]
        simp
    · cases h1
  · rename_i args ts hop
    split at h
    · rename_i x t ha ht
      obtain ⟨args⟩ := args
      obtain ⟨ts⟩ := ts
      simp only at ha ht
      subst ha ht
      have hx : x ∈ o.op.operands.toList := by simp [hop, Op.operands, Call.operands]
      have run : ∀ (a : Act) (w : World), (execOp a.eval o).run P w = ((Builtin.cap_ #[t] o.type #[a.eval x]).run P w).andThen fun v w' => .ok (.value v) w' := fun a w => by
        simp [execOp, hop, resolve, invoke, builtin]
      split at h
      · rename_i h1 h2
        refine ⟨_, h, ids_same _ _ _, fun c a p => ?_⟩
        have hd := opd (Θ := Θ) p 0 x hx
        rw [h2] at hd
        have hu := (rowTy hty h1).slice_
        exact stp_same (v := goInt ((0 : Nat) : Int)) p.ho (by rw [run, hd.slnil_inv.2]; simp [Builtin.cap_, run_underlying hu]) (.g _ _ (.int _ _))
      · rename_i q h1 h2
        split at h
        · rename_i nl fl size n cl he0
          cases hnl : nl <;> rw [hnl] at h <;> simp only [cond_true, cond_false, reduceCtorEq] at h
          refine ⟨_, h, ids_same _ _ _, fun c a p => ?_⟩
          have he : c.en q = _ := (p.rd q (by simp)).trans he0
          have hd := opd (Θ := Θ) p 0 x hx
          rw [h2] at hd
          have hv := hd.row_inv he
          have hu := (rowTy hty h1).slice_
          obtain ⟨_, ⟨_, rfl, hu2⟩ | ⟨hf, _⟩⟩ := p.ho.ents q _ he
          · rw [hu2] at hv
            exact stp_same (v := goInt ((0 : Nat) : Int)) p.ho (by rw [run, hv]; simp [Builtin.cap_, run_underlying hu]) (.g _ _ (.int _ _))
          · rw [hnl] at hf; cases hf
        · cases h
      · cases h
    · cases h
  · rename_i args ts hop
    split at h
    · rename_i x y t t' ha ht
      obtain ⟨args⟩ := args
      obtain ⟨ts⟩ := ts
      simp only at ha ht
      subst ha ht
      have hx : x ∈ o.op.operands.toList := by simp [hop, Op.operands, Call.operands]
      have hy : y ∈ o.op.operands.toList := by simp [hop, Op.operands, Call.operands]
      simp only [strOp, hop] at hs0
      split at hs0
      · rename_i k' _ _ _ hk'
        have hu' := (rowTy hty hk').int_
        split at h
        · rename_i e _ _ _ h1
          have hu := (rowTy hty h1).slice_
          split at h
          · rename_i te _ _ _ _ k m h2 h3 h4
            cases hb : (Nat.beq te.size 1 && (decide (0 < m) && decide (m ≤ 1073741824))) <;> rw [hb] at h <;> simp only [cond_true, cond_false, reduceCtorEq] at h
            simp only [Bool.and_eq_true, decide_eq_true_eq, Nat.beq_eq] at hb
            obtain ⟨hb1, hb2, hb3⟩ := hb
            refine ⟨_, h, ⟨fun id hid => .inr (by simp at hid; subst hid; exact ⟨Nat.le_refl _, Nat.lt_succ_self _⟩), Nat.le_succ _⟩, fun c a p => ?_⟩
            have hk : ¬ c.K nx := p.fresh nx (by simp) (Nat.le_refl _)
            have hdx := opd (Θ := Θ) p 0 x hx
            have hdy := opd (Θ := Θ) p 0 y hy
            rw [h3] at hdx
            rw [h4] at hdy
            obtain ⟨i, z, hi, hsz, hby, hz, hzs, hle, _⟩ := (rowTy hty h2).info
            have hzd := zerosEq_den (Z := c.Z) (w := c.w) hzs
            have hzl : z.cells.size = te.zero.length := by simpa using hzd.1.symm
            have hzsz : z.cells.size = i.size := by rw [hzl, (rowTy hty h2).zlen, hsz]
            obtain ⟨nc, rest, q1, q2, q3⟩ := run_append_zeros (P := P) (w := c.w) (ty := o.type) hu hu' hi hz hzsz (by omega) (by omega) k m hb2 hb3
            have hzc := size_zeroCells' z.cells m.toNat
            obtain ⟨c', hw, h5, h6, h7, h8, h9⟩ := new_row (nx := nx) (fl := ckL te.zero) (size := te.size) (n := m.toNat) (cap := nc) (cl := zeroC te.zero) (arr := Builtin.zeroCells z.cells m.toNat ++ rest) (e := e) p.ho hk (Mem.drew c) q1
              (by rw [Array.size_append, hzc, q2, hzsz, hb1, show i.size = 1 by omega]; omega) (fun i' j' hi' hj' => ckOk_L (lget_lt (by rw [(rowTy hty h2).zlen]; exact hj'))) (fun i' j' hi' hj' => by
                have hj0 : j' = 0 := by omega
                subst hj0
                have hz0 : 0 < z.cells.size := by omega
                refine ⟨z.cells[0], ?_, ?_⟩
                · rw [hb1, Nat.mul_one, Nat.add_zero, Array.getElem?_append_left (by rw [hzc, hzsz, hsz, hb1, Nat.mul_one]; exact hi')]
                  simp [Builtin.zeroCells, hzsz, show i.size = 1 by omega, hi', Nat.mod_one]
                · exact (hzd.2 0 _ _ (lget_lt (by rw [(rowTy hty h2).zlen]; omega)) (by simp [hz0])).1)
            exact stp_value (c' := c') (by rw [hw]; simp only [execOp, hop, resolve, invoke, builtin, List.map_toArray, List.map_cons, List.map_nil, hdx.slnil_inv.2, hdy.int_inv, q3, Sem.run_bind, Result.andThen_ok, Sem.run_pure]; rfl) h9 h5 h7 (fun id => by rw [h8]; simp) h6
          · cases h
        · cases h
      · cases hs0
    · cases h
  · cases h
end
end Go.Sx
