import Derived.Test.YtlphgonhenegoaaSxOps2
import Derived.DeepKeys3
namespace Go.Sx
theorem keyCells_len {c : CK} {xs : List SV} (h : keyCells c xs = true) : xs.length = ckLen c := by
  induction c generalizing xs with
  | nil => cases xs <;> simp [keyCells] at h; rfl
  | cons a l _ ih => cases xs with
    | nil => simp [keyCells] at h
    | cons s ss => simp [keyCells] at h; simp [ckLen, ih h.2]
  | _ => simp [keyCells] at h
theorem ckLen_L (l : List SV) : ckLen (ckL l) = l.length := by
  induction l with
  | nil => rfl
  | cons s l ih => simp [ckL, ckLen, ih]
theorem keyCells_app {l : List SV} {m : CK} {xs : List SV} (h : keyCells (ckApp (ckL l) m) xs = true) : keyCells (ckL l) (xs.take l.length) = true ∧ keyCells m (xs.drop l.length) = true := by
  induction l generalizing xs with
  | nil => simp only [ckL, ckApp] at h; exact ⟨by simp [ckL, keyCells], by simpa using h⟩
  | cons s l ih =>
    simp only [ckL, ckApp] at h
    cases xs with
    | nil => simp [keyCells] at h
    | cons x xs =>
      simp only [keyCells, Bool.and_eq_true] at h
      obtain ⟨h1, h2⟩ := ih h.2
      exact ⟨by simp only [List.length_cons, List.take_succ_cons, ckL, keyCells, Bool.and_eq_true]; exact ⟨h.1, h1⟩, by simpa using h2⟩
theorem keyCell_val {a : CK} {s : SV} (h : keyCell a s = true) {c : Cx} {v : Value} (hd : Den c s v) : v = kval s := by
  cases a <;> cases s <;> simp [keyCell] at h
  · exact hd.int_inv
  · exact hd.bool_inv
  · exact hd.str_inv
theorem keyCells_at {c : CK} {xs : List SV} (h : keyCells c xs = true) {i : Nat} {s : SV} (hs : xs[i]? = some s) : keyCell (ckAt c i) s = true := by
  induction c generalizing xs i with
  | nil => rw [show xs = [] by cases xs <;> simp [keyCells] at h ⊢] at hs; simp at hs
  | cons a l _ ih =>
    cases xs with
    | nil => simp at hs
    | cons x xs =>
      simp only [keyCells, Bool.and_eq_true] at h
      cases i with
      | zero => simp at hs; subst hs; exact h.1
      | succ i => exact ih h.2 (by simpa using hs)
  | _ => simp [keyCells] at h
theorem kval_inj {a : CK} {s s' : SV} (h : keyCell a s = true) (h' : keyCell a s' = true) (e : kval s = kval s') : s = s' := by
  cases a <;> cases s <;> simp only [keyCell, Bool.false_eq_true, decide_eq_true_eq] at h <;> cases s' <;> simp only [keyCell, Bool.false_eq_true, decide_eq_true_eq] at h' <;> simp_all [kval]
theorem kvals_inj {c : CK} {xs ys : List SV} (h : keyCells c xs = true) (h' : keyCells c ys = true) (e : xs.map kval = ys.map kval) : xs = ys := by
  have hl : xs.length = ys.length := by rw [keyCells_len h, keyCells_len h']
  refine List.ext_getElem? fun i => ?_
  cases hx : xs[i]? with
  | none =>
    have := List.getElem?_eq_none_iff.1 hx
    rw [List.getElem?_eq_none (by omega)]
  | some s =>
    have hi := (List.getElem?_eq_some_iff.1 hx).1
    have hy : ys[i]? = some ys[i] := List.getElem?_eq_getElem (by omega)
    rw [hy]
    congr 1
    refine kval_inj (keyCells_at h hx) (keyCells_at h' hy) ?_
    have h3 : (xs.map kval)[i]? = (ys.map kval)[i]? := by rw [e]
    rw [List.getElem?_map, List.getElem?_map, hx, hy] at h3
    simpa using h3
theorem bytes_beq (a b : ByteArray) : (a.toList == b.toList) = true ↔ a = b := by
  rw [beq_iff_eq, ByteArray.toList_eq, ByteArray.toList_eq]
  obtain ⟨⟨x⟩⟩ := a
  obtain ⟨⟨y⟩⟩ := b
  simp
theorem bytes_eq (a b : ByteArray) : (a == b) = true ↔ a = b := by rw [beq_toListBytes]; exact bytes_beq a b
theorem eqCells_spec {c : CK} {xs ys : List SV} (h : keyCells c xs = true) (h' : keyCells c ys = true) : ∃ b, eqCells xs ys = some b ∧ (b = true ↔ xs = ys) := by
  induction c generalizing xs ys with
  | nil =>
    rw [show xs = [] by cases xs <;> simp [keyCells] at h ⊢, show ys = [] by cases ys <;> simp [keyCells] at h' ⊢]
    exact ⟨true, rfl, by simp⟩
  | cons a l _ ih =>
    cases xs with
    | nil => simp [keyCells] at h
    | cons x xs =>
      cases ys with
      | nil => simp [keyCells] at h'
      | cons y ys =>
        simp only [keyCells, Bool.and_eq_true] at h h'
        obtain ⟨b, h1, h2⟩ := ih h.2 h'.2
        obtain ⟨hx, _⟩ := h
        obtain ⟨hy, _⟩ := h'
        cases a <;> cases x <;> simp [keyCell] at hx <;> cases y <;> simp [keyCell] at hy
        · subst hx hy
          rename_i k n m
          exact ⟨(n == m) && b, by simp [eqCells, h1], by simp [h2]⟩
        · rename_i p q
          exact ⟨(p == q) && b, by simp [eqCells, h1], by simp [h2]⟩
        · rename_i p q
          refine ⟨(p.toList == q.toList) && b, by simp only [eqCells, h1], ?_⟩
          have hb : (p.toList == q.toList) = true ↔ p = q := bytes_beq p q
          rw [Bool.and_eq_true, hb, h2]; simp
  | _ => simp [keyCells] at h
theorem keyEq_iff {c : CK} {xs ys : List SV} (h : keyCells c xs = true) (h' : keyCells c ys = true) : keyEq xs ys = true ↔ xs = ys := by
  obtain ⟨b, h1, h2⟩ := eqCells_spec h h'
  simp only [keyEq, h1]; exact h2
def flatL : CK → Bool
  | .nil => true
  | .cons a l => isFlat a && flatL l
  | _ => false
theorem flat_zeros {c : CK} (h : flatL c = true) : keyCells c (zerosOf c) = true ∧ ∀ j, j < ckLen c → (zerosOf c)[j]? = some (zeroOf (ckAt c j)) := by
  induction c with
  | nil => exact ⟨rfl, fun j hj => by simp [ckLen] at hj⟩
  | cons a l _ ih =>
    simp only [flatL, Bool.and_eq_true] at h
    obtain ⟨h1, h2⟩ := ih h.2
    refine ⟨?_, fun j hj => ?_⟩
    · simp only [zerosOf, keyCells, Bool.and_eq_true]
      refine ⟨?_, h1⟩
      cases a <;> simp [isFlat] at h <;> simp [zeroOf, keyCell]
    · cases j with
      | zero => rfl
      | succ j => simp only [zerosOf, List.getElem?_cons_succ, ckAt]; exact h2 j (by simp [ckLen] at hj; omega)
  | _ => simp [flatL] at h
section
variable {P : Program} {Θ : Tys}
theorem nest_one {n : Nat} {t : TypeId} {ti : TI} (hty : tyOk P Θ = true) (h : nestTy Θ n t = true) (ht : Θ.get t = some ti) (hg : isAgg ti.d = false) : ti.size = 1 := by
  have hz := (rowTy hty ht).zlen
  cases n with
  | zero => cases h
  | succ n =>
    unfold nestTy at h
    rw [ht] at h
    split at h <;> rename_i he <;> first | (injection he with he; subst he; first | (simp [isAgg] at hg; done) | (simp at hz; exact hz.symm)) | cases h
theorem part_nest (hty : tyOk P Θ = true) {n : Nat} {t : TypeId} {ti : TI} (h : nestTy Θ n t = true) (ht : Θ.get t = some ti) {xs : List SV} {off : Nat} (hl : off + ti.size ≤ xs.length) (w : World) :
    (part t (xs.map kval).toArray off).run P w = .ok (mkV (isAgg ti.d) (((xs.drop off).take ti.size).map kval)) w := by
  have ra := (rowTy hty ht).isAgg_ w
  have rs := (rowTy hty ht).sizeOf_ w
  cases hg : isAgg ti.d with
  | true =>
    rw [hg] at ra
    simp only [part, Sem.run_bind, ra, rs, Result.andThen_ok, if_true, Sem.run_pure, mkV, cond_true]
    congr 2
    apply Array.ext'
    rw [Array.toList_extract]
    simp [List.extract, List.map_take, List.map_drop]
  | false =>
    rw [hg] at ra
    have h1 := nest_one hty h ht hg
    rw [h1] at hl ⊢
    have hx : xs[off]? = some xs[off] := List.getElem?_eq_getElem (by omega)
    have h2 : (xs.drop off).take 1 = [xs[off]] := by
      rw [List.drop_eq_getElem_cons (by omega)]; rfl
    rw [h2]
    simp [part, ra, mkV, hx]
theorem take_drop_eq {xs ys : List SV} {i s : Nat} : xs.drop i = ys.drop i ↔ ((xs.drop i).take s = (ys.drop i).take s ∧ xs.drop (i + s) = ys.drop (i + s)) := by
  constructor
  · intro h
    refine ⟨by rw [h], ?_⟩
    rw [← List.drop_drop, ← List.drop_drop, h]
  · rintro ⟨h1, h2⟩
    rw [← List.take_append_drop s (xs.drop i), ← List.take_append_drop s (ys.drop i), h1, List.drop_drop, List.drop_drop, h2]
def EqN (P : Program) (Θ : Tys) (d : Nat) (t : TypeId) : Prop :=
  ∀ ti, Θ.get t = some ti → ∀ (w : World) (xs ys : List SV), keyCells (ckL ti.zero) xs = true → keyCells (ckL ti.zero) ys = true →
    ∃ r : Bool, (Op.equalIn d t (mkV (isAgg ti.d) (xs.map kval)) (mkV (isAgg ti.d) (ys.map kval))).run P w = .ok r w ∧ (r = true ↔ xs = ys)
theorem eqFields_nest (hty : tyOk P Θ = true) {n d : Nat} (IH : ∀ t, nestTy Θ n t = true → EqN P Θ d t) {xs ys : List SV} {size : Nat} (hlx : xs.length = size) (hly : ys.length = size) (w : World) : ∀ (fs : List Field) (i : Nat),
    (∀ f ∈ fs, f.name ≠ "_") → nestFs Θ (nestTy Θ n) (fs.map fun f => (f.offset, f.type)) i size = true →
    keyCells (fsCk Θ (fs.map fun f => (f.offset, f.type))) (xs.drop i) = true → keyCells (fsCk Θ (fs.map fun f => (f.offset, f.type))) (ys.drop i) = true →
    ∃ r : Bool, (Op.eqFields d (xs.map kval).toArray (ys.map kval).toArray fs).run P w = .ok r w ∧ (r = true ↔ xs.drop i = ys.drop i) := by
  intro fs
  induction fs with
  | nil =>
    intro i _ hn hx hy
    refine ⟨true, by simp [Op.eqFields], ?_⟩
    simp only [List.map_nil, fsCk] at hx hy
    have e1 : xs.drop i = [] := by cases h : xs.drop i <;> rw [h] at hx <;> simp [keyCells] at hx ⊢
    have e2 : ys.drop i = [] := by cases h : ys.drop i <;> rw [h] at hy <;> simp [keyCells] at hy ⊢
    simp [e1, e2]
  | cons f fs ih =>
    intro i hnm hn hx hy
    simp only [List.map_cons, nestFs, Bool.and_eq_true, beq_iff_eq] at hn
    obtain ⟨⟨ho, hp⟩, hn⟩ := hn
    cases hti : Θ.get f.type with
    | none => rw [hti] at hn; cases hn
    | some ti =>
      rw [hti] at hn
      simp only at hn
      simp only [List.map_cons, fsCk, hti] at hx hy
      have hz := (rowTy hty hti).zlen
      obtain ⟨hx1, hx2⟩ := keyCells_app hx
      obtain ⟨hy1, hy2⟩ := keyCells_app hy
      rw [hz] at hx1 hx2 hy1 hy2
      rw [List.drop_drop] at hx2 hy2
      have lx : i + ti.size ≤ xs.length := by
        have := keyCells_len hx1
        rw [ckLen_L, hz, List.length_take, List.length_drop] at this
        by_cases h0 : ti.size = 0
        · rw [h0] at hn ⊢
          have hi : i ≤ size := by
            have : ∀ (gs : List (Nat × TypeId)) (j : Nat), nestFs Θ (nestTy Θ n) gs j size = true → j ≤ size := by
              intro gs
              induction gs with
              | nil => intro j h; simp [nestFs] at h; omega
              | cons g gs ihg =>
                obtain ⟨o, t⟩ := g
                intro j h
                simp only [nestFs, Bool.and_eq_true] at h
                cases hg : Θ.get t with
                | none => rw [hg] at h; simp at h
                | some tg => rw [hg] at h; have := ihg _ h.2; omega
            have := this _ _ hn
            omega
          omega
        · omega
      have ly : i + ti.size ≤ ys.length := by omega
      obtain ⟨r, hr, hri⟩ := IH f.type hp ti hti w _ _ hx1 hy1
      obtain ⟨r', hr', hri'⟩ := ih (i + ti.size) (fun g hg => hnm g (by simp [hg])) hn hx2 hy2
      have p1 := part_nest hty hp hti (xs := xs) (off := i) lx w
      have p2 := part_nest hty hp hti (xs := ys) (off := i) ly w
      have hnf := hnm f (by simp)
      have ho' : f.offset = i := ho
      simp only [Op.eqFields, hnf, ne_eq, not_false_eq_true, if_true, Sem.run_bind, ho', p1, p2, hr, Result.andThen_ok]
      rw [take_drop_eq (s := ti.size)]
      cases r
      · exact ⟨false, by simp, by simp; intro h; exact absurd (hri.2 h) (by simp)⟩
      · exact ⟨r', by simpa using hr', by rw [hri']; simp [hri.1 rfl]⟩
theorem eqItems_nest (hty : tyOk P Θ = true) {n d : Nat} {e : TypeId} {te : TI} (he : nestTy Θ n e = true) (hte : Θ.get e = some te) (IH : EqN P Θ d e) {xs ys : List SV} (w : World) : ∀ (m k : Nat),
    keyCells (repCk (ckL te.zero) m) (xs.drop (k * te.size)) = true → keyCells (repCk (ckL te.zero) m) (ys.drop (k * te.size)) = true →
    ∃ r : Bool, (Op.eqItems d e te.size (xs.map kval).toArray (ys.map kval).toArray (List.range' k m)).run P w = .ok r w ∧ (r = true ↔ xs.drop (k * te.size) = ys.drop (k * te.size)) := by
  intro m
  induction m with
  | zero =>
    intro k hx hy
    refine ⟨true, by simp [Op.eqItems], ?_⟩
    simp only [repCk] at hx hy
    have e1 : xs.drop (k * te.size) = [] := by cases h : xs.drop (k * te.size) <;> rw [h] at hx <;> simp [keyCells] at hx ⊢
    have e2 : ys.drop (k * te.size) = [] := by cases h : ys.drop (k * te.size) <;> rw [h] at hy <;> simp [keyCells] at hy ⊢
    simp [e1, e2]
  | succ m ih =>
    intro k hx hy
    simp only [repCk] at hx hy
    have hz := (rowTy hty hte).zlen
    obtain ⟨hx1, hx2⟩ := keyCells_app hx
    obtain ⟨hy1, hy2⟩ := keyCells_app hy
    rw [hz] at hx1 hx2 hy1 hy2
    rw [List.drop_drop, ← Nat.succ_mul] at hx2 hy2
    obtain ⟨r, hr, hri⟩ := IH te hte w _ _ hx1 hy1
    obtain ⟨r', hr', hri'⟩ := ih (k + 1) hx2 hy2
    have lx := keyCells_len hx1
    have ly := keyCells_len hy1
    rw [ckLen_L, hz, List.length_take, List.length_drop] at lx ly
    have step : ∀ (zs : List SV), min te.size (zs.length - k * te.size) = te.size → (part e (zs.map kval).toArray (k * te.size)).run P w = .ok (mkV (isAgg te.d) (((zs.drop (k * te.size)).take te.size).map kval)) w := by
      intro zs hl
      by_cases h0 : te.size = 0
      · have hg : isAgg te.d = true := by
          cases hg : isAgg te.d with
          | true => rfl
          | false => have := nest_one hty he hte hg; omega
        have ra := (rowTy hty hte).isAgg_ w
        have rs := (rowTy hty hte).sizeOf_ w
        rw [hg] at ra
        simp [part, ra, rs, h0, hg, mkV]
      · exact part_nest hty he hte (by omega) w
    have p1 := step xs lx
    have p2 := step ys ly
    simp only [List.range'_succ, Op.eqItems, Sem.run_bind, p1, p2, hr, Result.andThen_ok]
    rw [take_drop_eq (s := te.size), ← Nat.succ_mul]
    cases r
    · exact ⟨false, by simp, by simp; intro h; exact absurd (hri.2 h) (by simp)⟩
    · exact ⟨r', by simpa using hr', by rw [hri']; simp [hri.1 rfl]⟩
theorem equalIn_nest (hty : tyOk P Θ = true) : ∀ (n : Nat) (t : TypeId), nestTy Θ n t = true → ∀ d, n ≤ d → EqN P Θ d t := by
  intro n
  induction n with
  | zero => intro t h; cases h
  | succ n ih =>
    intro t h d hd ti ht w xs ys hx hy
    obtain ⟨d, rfl⟩ : ∃ d', d = d' + 1 := ⟨d - 1, by omega⟩
    have hd : n ≤ d := by omega
    have hrow := rowTy hty ht
    unfold nestTy at h
    rw [ht] at h
    split at h <;> rename_i he <;> first | (injection he with he; subst he) | cases h
    · rename_i k _ _ k' z
      obtain ⟨x, xs', rfl, hx1, hx2⟩ := (show ∃ s ss, xs = s :: ss ∧ keyCell (.int k') s = true ∧ keyCells .nil ss = true by
        cases xs with
        | nil => simp [ckL, keyCells] at hx
        | cons s ss => simp only [ckL, ckOf, keyCells, Bool.and_eq_true] at hx; exact ⟨s, ss, rfl, hx⟩)
      obtain ⟨y, ys', rfl, hy1, hy2⟩ := (show ∃ s ss, ys = s :: ss ∧ keyCell (.int k') s = true ∧ keyCells .nil ss = true by
        cases ys with
        | nil => simp [ckL, keyCells] at hy
        | cons s ss => simp only [ckL, ckOf, keyCells, Bool.and_eq_true] at hy; exact ⟨s, ss, rfl, hy⟩)
      have e1 : xs' = [] := by cases xs' <;> simp [keyCells] at hx2 ⊢
      have e2 : ys' = [] := by cases ys' <;> simp [keyCells] at hy2 ⊢
      subst e1 e2
      cases x <;> simp [keyCell] at hx1
      cases y <;> simp [keyCell] at hy1
      subst hx1 hy1
      rename_i a b
      refine ⟨a == b, ?_, by simp⟩
      simp only [mkV, isAgg, cond_false, List.map_cons, List.headD_cons, kval]
      exact run_equalIn_int w d t _ _ a b hrow.int_
    · obtain ⟨x, xs', rfl, hx1, hx2⟩ := (show ∃ s ss, xs = s :: ss ∧ keyCell .bool s = true ∧ keyCells .nil ss = true by
        cases xs with
        | nil => simp [ckL, keyCells] at hx
        | cons s ss => simp only [ckL, ckOf, keyCells, Bool.and_eq_true] at hx; exact ⟨s, ss, rfl, hx⟩)
      obtain ⟨y, ys', rfl, hy1, hy2⟩ := (show ∃ s ss, ys = s :: ss ∧ keyCell .bool s = true ∧ keyCells .nil ss = true by
        cases ys with
        | nil => simp [ckL, keyCells] at hy
        | cons s ss => simp only [ckL, ckOf, keyCells, Bool.and_eq_true] at hy; exact ⟨s, ss, rfl, hy⟩)
      have e1 : xs' = [] := by cases xs' <;> simp [keyCells] at hx2 ⊢
      have e2 : ys' = [] := by cases ys' <;> simp [keyCells] at hy2 ⊢
      subst e1 e2
      cases x <;> simp [keyCell] at hx1
      cases y <;> simp [keyCell] at hy1
      rename_i a b
      refine ⟨a == b, ?_, by simp⟩
      simp only [mkV, isAgg, cond_false, List.map_cons, List.headD_cons, kval]
      exact run_equalIn_bool' w d t a b hrow.bool_
    · obtain ⟨x, xs', rfl, hx1, hx2⟩ := (show ∃ s ss, xs = s :: ss ∧ keyCell .str s = true ∧ keyCells .nil ss = true by
        cases xs with
        | nil => simp [ckL, keyCells] at hx
        | cons s ss => simp only [ckL, ckOf, keyCells, Bool.and_eq_true] at hx; exact ⟨s, ss, rfl, hx⟩)
      obtain ⟨y, ys', rfl, hy1, hy2⟩ := (show ∃ s ss, ys = s :: ss ∧ keyCell .str s = true ∧ keyCells .nil ss = true by
        cases ys with
        | nil => simp [ckL, keyCells] at hy
        | cons s ss => simp only [ckL, ckOf, keyCells, Bool.and_eq_true] at hy; exact ⟨s, ss, rfl, hy⟩)
      have e1 : xs' = [] := by cases xs' <;> simp [keyCells] at hx2 ⊢
      have e2 : ys' = [] := by cases ys' <;> simp [keyCells] at hy2 ⊢
      subst e1 e2
      cases x <;> simp [keyCell] at hx1
      cases y <;> simp [keyCell] at hy1
      rename_i a b
      refine ⟨a.toList == b.toList, ?_, by rw [bytes_beq]; simp⟩
      simp only [mkV, isAgg, cond_false, List.map_cons, List.headD_cons, kval]
      exact run_equalIn_string w d t a b hrow.str_
    · rename_i fs size _ zero
      simp only [Bool.and_eq_true] at h
      obtain ⟨hn, hck⟩ := h
      have hck := ckEq_eq hck
      simp only at hx hy
      have hz : zero.length = size := hrow.zlen
      have lx := keyCells_len hx
      have ly := keyCells_len hy
      rw [ckLen_L, hz] at lx ly
      rw [hck] at hx hy
      obtain ⟨fields, hu, hfs, hp⟩ := hrow.struct_
      obtain ⟨hh1, _⟩ := hrow.held fields hu
      have hfo : P.fieldsOf t = fields := by simp [Program.fieldsOf, hu]
      subst hfs
      obtain ⟨r, hr, hri⟩ := eqFields_nest hty (fun t' ht' => ih t' ht' d hd) lx ly w fields.toList 0 hp hn (by simpa using hx) (by simpa using hy)
      refine ⟨r, ?_, by simpa using hri⟩
      simp only [mkV, isAgg, cond_true]
      rw [run_equalIn_struct w d t _ _ (by rw [hfo]; exact hu) hh1, hfo]
      exact hr
    · rename_i m e size _ zero
      simp only [Bool.and_eq_true] at h
      obtain ⟨he, h2⟩ := h
      cases hte : Θ.get e with
      | none => rw [hte] at h2; cases h2
      | some te =>
        rw [hte] at h2
        have hck := ckEq_eq h2
        simp only at hx hy
        rw [hck] at hx hy
        have hu := hrow.arr_
        obtain ⟨i, z, hi, hs, _⟩ := (rowTy hty hte).info
        obtain ⟨r, hr, hri⟩ := eqItems_nest hty he hte (ih e he d hd) w m 0 (by simpa using hx) (by simpa using hy)
        refine ⟨r, ?_, by simpa using hri⟩
        simp only [mkV, isAgg, cond_true]
        rw [run_equalIn_array w d _ _ hu hi, show P.cellsOf e = te.size by simp [Program.cellsOf, hi, hs], List.range_eq_range']
        exact hr
def CheckN (P : Program) (Θ : Tys) (em : Bool) (d : Nat) (t : TypeId) : Prop :=
  ∀ ti, Θ.get t = some ti → ∀ (w : World) (xs : List SV), keyCells (ckL ti.zero) xs = true → (Instr.checkKey em d t (mkV (isAgg ti.d) (xs.map kval))).run P w = .ok () w
theorem checkKey_nest (hty : tyOk P Θ = true) (em : Bool) : ∀ (n : Nat) (t : TypeId), nestTy Θ n t = true → ∀ d, n ≤ d → CheckN P Θ em d t := by
  intro n
  induction n with
  | zero => intro t h; cases h
  | succ n ih =>
    intro t h d hd ti ht w xs hx
    obtain ⟨d, rfl⟩ : ∃ d', d = d' + 1 := ⟨d - 1, by omega⟩
    have hd : n ≤ d := by omega
    have hrow := rowTy hty ht
    unfold nestTy at h
    rw [ht] at h
    split at h <;> rename_i he <;> first | (injection he with he; subst he) | cases h
    · simp [Instr.checkKey, run_underlying hrow.int_]
    · simp [Instr.checkKey, run_underlying hrow.bool_]
    · simp [Instr.checkKey, run_underlying hrow.str_]
    · rename_i fs size _ zero
      simp only [Bool.and_eq_true] at h
      obtain ⟨hn, hck⟩ := h
      have hck := ckEq_eq hck
      simp only at hx
      have hz : zero.length = size := hrow.zlen
      have lx := keyCells_len hx
      rw [ckLen_L, hz] at lx
      rw [hck] at hx
      obtain ⟨fields, hu, hfs, hp⟩ := hrow.struct_
      subst hfs
      simp only [mkV, isAgg, cond_true, Instr.checkKey, Sem.run_bind, run_underlying hu, Result.andThen_ok]
      rw [← Array.forIn_toList]
      have key : ∀ (fs : List Field) (i : Nat), (∀ f ∈ fs, f.name ≠ "_") → nestFs Θ (nestTy Θ n) (fs.map fun f => (f.offset, f.type)) i size = true → i ≤ size →
          keyCells (fsCk Θ (fs.map fun f => (f.offset, f.type))) (xs.drop i) = true →
          (forIn fs PUnit.unit (fun f r => if f.name ≠ "_" then do
              Instr.checkKey em d f.type (← part f.type (xs.map kval).toArray f.offset)
              pure (ForInStep.yield PUnit.unit) else pure (ForInStep.yield PUnit.unit) : Field → PUnit → Sem (ForInStep PUnit))).run P w = .ok PUnit.unit w := by
        intro fs
        induction fs with
        | nil => intro i _ _ _ _; simp
        | cons f fs ihf =>
          intro i hnm hn hi hx
          simp only [List.map_cons, nestFs, Bool.and_eq_true, beq_iff_eq] at hn
          obtain ⟨⟨ho, hp⟩, hn⟩ := hn
          cases hti : Θ.get f.type with
          | none => rw [hti] at hn; cases hn
          | some ti =>
            rw [hti] at hn
            simp only at hn
            simp only [List.map_cons, fsCk, hti] at hx
            have hz := (rowTy hty hti).zlen
            obtain ⟨hx1, hx2⟩ := keyCells_app hx
            rw [hz] at hx1 hx2
            rw [List.drop_drop] at hx2
            have l1 := keyCells_len hx1
            rw [ckLen_L, hz, List.length_take, List.length_drop] at l1
            have hi2 : i + ti.size ≤ size := by omega
            have p1 := part_nest hty hp hti (xs := xs) (off := i) (by omega) w
            have p2 := ih f.type hp d hd ti hti w _ hx1
            have hnf := hnm f (by simp)
            have ho' : f.offset = i := ho
            simp only [List.forIn_cons, Sem.run_bind, hnf, ne_eq, not_false_eq_true, if_true, ho', Result.andThen_ok, p1, p2, Sem.run_pure]
            exact ihf (i + ti.size) (fun g hg => hnm g (by simp [hg])) hn hi2 hx2
      have := key fields.toList 0 hp hn (Nat.zero_le _) (by simpa using hx)
      simpa using congrArg (fun r => Result.andThen r fun _ w' => Result.ok () w') this
    · rename_i m e size _ zero
      simp only [Bool.and_eq_true] at h
      obtain ⟨he, h2⟩ := h
      cases hte : Θ.get e with
      | none => rw [hte] at h2; cases h2
      | some te =>
        rw [hte] at h2
        have hck := ckEq_eq h2
        simp only at hx
        rw [hck] at hx
        have hu := hrow.arr_
        have rs := (rowTy hty hte).sizeOf_ w
        simp only [mkV, isAgg, cond_true, Instr.checkKey, Sem.run_bind, run_underlying hu, Result.andThen_ok]
        simp only [Std.Legacy.Range.forIn_eq_forIn_range', Std.Legacy.Range.size, Nat.sub_zero, Nat.add_one_sub_one, Nat.div_one]
        have key : ∀ (m k : Nat), keyCells (repCk (ckL te.zero) m) (xs.drop (k * te.size)) = true →
            (forIn (List.range' k m) PUnit.unit (fun i r => do
              Instr.checkKey em d e (← part e (xs.map kval).toArray (i * (← sizeOf e)))
              pure (ForInStep.yield PUnit.unit) : Nat → PUnit → Sem (ForInStep PUnit))).run P w = .ok PUnit.unit w := by
          intro m
          induction m with
          | zero => intro k _; simp
          | succ m ihm =>
            intro k hx
            simp only [repCk] at hx
            have hz := (rowTy hty hte).zlen
            obtain ⟨hx1, hx2⟩ := keyCells_app hx
            rw [hz] at hx1 hx2
            rw [List.drop_drop, ← Nat.succ_mul] at hx2
            have lx := keyCells_len hx1
            rw [ckLen_L, hz, List.length_take, List.length_drop] at lx
            have p1 : (part e (xs.map kval).toArray (k * te.size)).run P w = .ok (mkV (isAgg te.d) (((xs.drop (k * te.size)).take te.size).map kval)) w := by
              by_cases h0 : te.size = 0
              · have hg : isAgg te.d = true := by
                  cases hg : isAgg te.d with
                  | true => rfl
                  | false => have := nest_one hty he hte hg; omega
                have ra := (rowTy hty hte).isAgg_ w
                rw [hg] at ra
                simp [part, ra, rs, h0, hg, mkV]
              · exact part_nest hty he hte (by omega) w
            have p2 := ih e he d hd te hte w _ hx1
            simp only [List.range'_succ, List.forIn_cons, Sem.run_bind, rs, Result.andThen_ok, p1, p2, Sem.run_pure]
            exact ihm (k + 1) hx2
        have := key m 0 (by simpa using hx)
        simpa using congrArg (fun r => Result.andThen r fun _ w' => Result.ok () w') this
theorem sameBits_cell {a : CK} {s : SV} (h : keyCell a s = true) (n : Nat) : Instr.sameBits n (kval s) (kval s) = true := by
  cases a <;> cases s <;> simp [keyCell] at h <;> cases n <;> simp [kval, Instr.sameBits, bytes_eq]
theorem stays_nest {c : CK} {xs : List SV} (ag : Bool) (h : keyCells c xs = true) (h1 : ag = false → ckLen c = 1) (w : World) : (Instr.keyThatStays (mkV ag (xs.map kval)) (mkV ag (xs.map kval))).run P w = .ok (mkV ag (xs.map kval)) w := by
  have hs : Instr.sameBits 10000 (mkV ag (xs.map kval)) (mkV ag (xs.map kval)) = true := by
    cases ag with
    | false =>
      have hl := keyCells_len h
      rw [h1 rfl] at hl
      obtain ⟨x, rfl⟩ := List.length_eq_one_iff.1 hl
      simp only [mkV, cond_false, List.map_cons, List.headD_cons]
      exact sameBits_cell (keyCells_at h (i := 0) rfl) _
    | true =>
      simp only [mkV, cond_true]
      show Instr.sameBits (9999 + 1) _ _ = true
      simp only [Instr.sameBits, beq_self_eq_true, Bool.true_and, List.all_eq_true]
      intro p hp
      obtain ⟨i, hi, e⟩ := List.getElem_of_mem hp
      rw [List.getElem_zip] at e
      rw [← e]
      simp only [List.getElem_map]
      simp at hi
      exact sameBits_cell (keyCells_at h (List.getElem?_eq_getElem hi)) 9999
  simp [Instr.keyThatStays, hs]
theorem findKey_nest (hty : tyOk P Θ = true) {n : Nat} (hn : n ≤ 10000) {t : TypeId} {ti : TI} (h : nestTy Θ n t = true) (ht : Θ.get t = some ti) {xs : List SV} (hx : keyCells (ckL ti.zero) xs = true) (w : World)
    (es : List MapEntry) (hes : ∀ e ∈ es, ∃ kc, keyCells (ckL ti.zero) kc = true ∧ e.key = mkV (isAgg ti.d) (kc.map kval)) :
    ((Instr.findKey t (mkV (isAgg ti.d) (xs.map kval)) es).run P w = .ok Option.none w ∧ ∀ e ∈ es, e.key ≠ mkV (isAgg ti.d) (xs.map kval)) ∨
    ∃ j e, (Instr.findKey t (mkV (isAgg ti.d) (xs.map kval)) es).run P w = .ok (some (j, e.val)) w ∧ es[j]? = some e ∧ e.key = mkV (isAgg ti.d) (xs.map kval) := by
  have hrow := rowTy hty ht
  have hinj : ∀ kc, keyCells (ckL ti.zero) kc = true → mkV (isAgg ti.d) (kc.map kval) = mkV (isAgg ti.d) (xs.map kval) → kc = xs := by
    intro kc hk he
    refine kvals_inj hk hx ?_
    cases hg : isAgg ti.d with
    | true => rw [hg] at he; simpa [mkV] using he
    | false =>
      rw [hg] at he
      have l1 := keyCells_len hk
      have l2 := keyCells_len hx
      rw [ckLen_L, hrow.zlen, nest_one hty h ht hg] at l1 l2
      obtain ⟨a, rfl⟩ := List.length_eq_one_iff.1 l1
      obtain ⟨b, rfl⟩ := List.length_eq_one_iff.1 l2
      simpa [mkV] using he
  have asking : ∀ (es : List MapEntry) (i : Nat), (∀ e ∈ es, ∃ kc, keyCells (ckL ti.zero) kc = true ∧ e.key = mkV (isAgg ti.d) (kc.map kval)) →
      ((Instr.findAsking t (mkV (isAgg ti.d) (xs.map kval)) es i).run P w = .ok Option.none w ∧ ∀ e ∈ es, e.key ≠ mkV (isAgg ti.d) (xs.map kval)) ∨
      ∃ j e, (Instr.findAsking t (mkV (isAgg ti.d) (xs.map kval)) es i).run P w = .ok (some (i + j, e.val)) w ∧ es[j]? = some e ∧ e.key = mkV (isAgg ti.d) (xs.map kval) := by
    intro es
    induction es with
    | nil => intro i _; exact .inl ⟨by simp [Instr.findAsking], by simp⟩
    | cons e es ih =>
      intro i hall
      obtain ⟨kc, hk, hke⟩ := hall e (by simp)
      obtain ⟨r, hr, hri⟩ := equalIn_nest hty n t h 10000 hn ti ht w xs kc hx hk
      have hr' : (Op.equal t (mkV (isAgg ti.d) (xs.map kval)) e.key).run P w = .ok r w := by rw [hke]; exact hr
      cases r with
      | false =>
        have hne : e.key ≠ mkV (isAgg ti.d) (xs.map kval) := fun he => by
          rw [hke] at he
          have := hri.2 (hinj kc hk he).symm
          cases this
        rcases ih (i + 1) (fun y hy => hall y (by simp [hy])) with ⟨h1, h2⟩ | ⟨j, e', h1, h2, h3⟩
        · left
          refine ⟨by simp [Instr.findAsking, hr', h1], fun y hy => ?_⟩
          rcases List.mem_cons.1 hy with rfl | hy
          · exact hne
          · exact h2 y hy
        · right
          exact ⟨j + 1, e', by simp [Instr.findAsking, hr', h1, Nat.add_assoc, Nat.add_comm 1 j], by simpa using h2, h3⟩
      | true =>
        right
        exact ⟨0, e, by simp [Instr.findAsking, hr'], rfl, by rw [hke, hri.1 rfl]⟩
  obtain ⟨kd, hu, hde, _⟩ := hrow.desc
  have plain : ∀ (hone : ∀ (kc : List SV), keyCells (ckL ti.zero) kc = true → ∃ b : Bool, Instr.sameNow kd (mkV (isAgg ti.d) (xs.map kval)) (mkV (isAgg ti.d) (kc.map kval)) = some b ∧ (b = true ↔ xs = kc)) (es : List MapEntry) (i : Nat), (∀ e ∈ es, ∃ kc, keyCells (ckL ti.zero) kc = true ∧ e.key = mkV (isAgg ti.d) (kc.map kval)) →
      (Instr.findNow kd (mkV (isAgg ti.d) (xs.map kval)) es i = some Option.none ∧ ∀ e ∈ es, e.key ≠ mkV (isAgg ti.d) (xs.map kval)) ∨
      ∃ j e, Instr.findNow kd (mkV (isAgg ti.d) (xs.map kval)) es i = some (some (i + j, e.val)) ∧ es[j]? = some e ∧ e.key = mkV (isAgg ti.d) (xs.map kval) := by
    intro hone es
    induction es with
    | nil => intro i _; exact .inl ⟨by simp [Instr.findNow], by simp⟩
    | cons e es ih =>
      intro i hall
      obtain ⟨kc, hk, hke⟩ := hall e (by simp)
      obtain ⟨b, hb, hbi⟩ := hone kc hk
      rw [← hke] at hb
      cases b with
      | false =>
        have hne : e.key ≠ mkV (isAgg ti.d) (xs.map kval) := fun he => by
          rw [hke] at he
          have := hbi.2 (hinj kc hk he).symm
          cases this
        rcases ih (i + 1) (fun y hy => hall y (by simp [hy])) with ⟨h1, h2⟩ | ⟨j, e', h1, h2, h3⟩
        · left
          refine ⟨by simp [Instr.findNow, hb, h1], fun y hy => ?_⟩
          rcases List.mem_cons.1 hy with rfl | hy
          · exact hne
          · exact h2 y hy
        · right
          exact ⟨j + 1, e', by simp [Instr.findNow, hb, h1, Nat.add_assoc, Nat.add_comm 1 j], by simpa using h2, h3⟩
      | true =>
        right
        exact ⟨0, e, by simp [Instr.findNow, hb], rfl, by rw [hke, hbi.1 rfl]⟩
  have fin : (∀ (kc : List SV), keyCells (ckL ti.zero) kc = true → ∃ b : Bool, Instr.sameNow kd (mkV (isAgg ti.d) (xs.map kval)) (mkV (isAgg ti.d) (kc.map kval)) = some b ∧ (b = true ↔ xs = kc)) →
      ((Instr.findKey t (mkV (isAgg ti.d) (xs.map kval)) es).run P w = .ok Option.none w ∧ ∀ e ∈ es, e.key ≠ mkV (isAgg ti.d) (xs.map kval)) ∨
      ∃ j e, (Instr.findKey t (mkV (isAgg ti.d) (xs.map kval)) es).run P w = .ok (some (j, e.val)) w ∧ es[j]? = some e ∧ e.key = mkV (isAgg ti.d) (xs.map kval) := fun hone => by
    rcases plain hone es 0 hes with ⟨h1, h2⟩ | ⟨j, e, h1, h2, h3⟩
    · exact .inl ⟨by simp [Instr.findKey, run_underlying hu, h1], h2⟩
    · exact .inr ⟨j, e, by simp [Instr.findKey, run_underlying hu, h1], h2, h3⟩
  have wide : (∀ y z, Instr.sameNow kd y z = Option.none) →
      ((Instr.findKey t (mkV (isAgg ti.d) (xs.map kval)) es).run P w = .ok Option.none w ∧ ∀ e ∈ es, e.key ≠ mkV (isAgg ti.d) (xs.map kval)) ∨
      ∃ j e, (Instr.findKey t (mkV (isAgg ti.d) (xs.map kval)) es).run P w = .ok (some (j, e.val)) w ∧ es[j]? = some e ∧ e.key = mkV (isAgg ti.d) (xs.map kval) := fun hno => by
    have e1 : (Instr.findKey t (mkV (isAgg ti.d) (xs.map kval)) es).run P w = (Instr.findAsking t (mkV (isAgg ti.d) (xs.map kval)) es).run P w := by
      cases es with
      | nil => simp [Instr.findKey, run_underlying hu, Instr.findNow, Instr.findAsking]
      | cons e es => simp [Instr.findKey, run_underlying hu, Instr.findNow, hno]
    rw [e1]
    rcases asking es 0 hes with ⟨h1, h2⟩ | ⟨j, e, h1, h2, h3⟩
    · exact .inl ⟨h1, h2⟩
    · exact .inr ⟨j, e, by simpa using h1, h2, h3⟩
  obtain ⟨n, rfl⟩ : ∃ n', n = n' + 1 := ⟨n - 1, by cases n with | zero => cases h | succ n => rfl⟩
  unfold nestTy at h
  rw [ht] at h
  have single : ∀ {c : CK} {zs : List SV}, keyCells (.cons c .nil) zs = true → ∃ s, zs = [s] ∧ keyCell c s = true := fun {c zs} hz => by
    cases zs with
    | nil => simp [keyCells] at hz
    | cons s ss =>
      simp only [keyCells, Bool.and_eq_true] at hz
      cases ss with
      | nil => exact ⟨s, rfl, hz.1⟩
      | cons _ _ => simp [keyCells] at hz
  split at h <;> rename_i he <;> first | (injection he with he; subst he) | cases h
  · cases kd <;> simp [descEq] at hde
    refine fin fun kc hk => ?_
    obtain ⟨x, rfl, hx1⟩ := single hx
    obtain ⟨y, rfl, hy1⟩ := single hk
    cases x <;> simp [ckOf, keyCell] at hx1
    cases y <;> simp [ckOf, keyCell] at hy1
    subst hx1 hy1
    exact ⟨_, by simp [mkV, isAgg, kval, Instr.sameNow]; rfl, by simp⟩
  · cases kd <;> simp [descEq] at hde
    refine fin fun kc hk => ?_
    obtain ⟨x, rfl, hx1⟩ := single hx
    obtain ⟨y, rfl, hy1⟩ := single hk
    cases x <;> simp [ckOf, keyCell] at hx1
    cases y <;> simp [ckOf, keyCell] at hy1
    exact ⟨_, by simp [mkV, isAgg, kval, Instr.sameNow]; rfl, by simp⟩
  · cases kd <;> simp [descEq] at hde
    refine fin fun kc hk => ?_
    obtain ⟨x, rfl, hx1⟩ := single hx
    obtain ⟨y, rfl, hy1⟩ := single hk
    cases x <;> simp [ckOf, keyCell] at hx1
    cases y <;> simp [ckOf, keyCell] at hy1
    exact ⟨_, by simp [mkV, isAgg, kval, Instr.sameNow]; rfl, by rw [bytes_eq]; simp⟩
  · cases kd <;> simp [descEq] at hde
    exact wide fun y z => by cases y <;> cases z <;> rfl
  · cases kd <;> simp [descEq] at hde
    exact wide fun y z => by cases y <;> cases z <;> rfl
end
end Go.Sx
