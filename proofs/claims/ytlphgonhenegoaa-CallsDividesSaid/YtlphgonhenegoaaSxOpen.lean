import Derived.Test.YtlphgonhenegoaaSxUse
import Derived.Deep.Slices
import Derived.ReadAgain
import Derived.Below
import Derived.ChangeSame
import Derived.RowKit
import Derived.OpenShut
import Derived.JoinedOf
import Derived.ChangeCalls
namespace Go.Sx
open Go.ChangeShapes Go.WideShapes Go.RowKit
def rng : CK → (Nat → SV) → Nat → Prop
  | .int k, f, j => ∃ n, f j = .int k n ∧ (Lit.int k n).wf = true
  | .bool, f, j => ∃ b, f j = .bool b
  | .str, f, j => ∃ b : ByteArray, f j = .str b ∧ b.size ≤ maxLen
  | .sl c, f, j => ∃ n cell, f j = .sl .any c (ckLen c) n cell ∧ n ≤ maxLen ∧ ∀ i, i < n → rng c (cell i) 0
  | .nil, _, _ => True
  | .cons a l, f, j => rng a f j ∧ rng l f (j + 1)
  | .any, _, _ => True
def ckSpan : CK → Nat
  | .cons a l => max (ckSpan a) (ckSpan l + 1)
  | .nil => 0
  | .any => 0
  | _ => 1
def plainFs (Θ : Tys) (p : TypeId → Bool) : List (Nat × TypeId) → Nat → Nat → Bool
  | [], i, size => i == size
  | (off, t) :: fs, i, size => off == i && p t && (match Θ.get t with
    | some ti => plainFs Θ p fs (i + ti.size) size
    | Option.none => false)
def arrFs (e : TypeId) (s : Nat) : Nat → Nat → List (Nat × TypeId)
  | _, 0 => []
  | i, m + 1 => (i * s, e) :: arrFs e s (i + 1) m
def plainTy (Θ : Tys) : Nat → TypeId → Bool
  | 0, _ => false
  | n + 1, t => match Θ.get t with
    | some ⟨.int k, _, _, [.int k' _]⟩ => decide (k = k')
    | some ⟨.bool, _, _, [.bool _]⟩ => true
    | some ⟨.str, _, _, [.str _]⟩ => true
    | some ⟨.arr m e, size, _, zero⟩ => (match Θ.get e with
      | some te => plainFs Θ (plainTy Θ n) (arrFs e te.size 0 m) 0 size && ckEq (ckL zero) (fsCk Θ (arrFs e te.size 0 m))
      | Option.none => false)
    | some ⟨.slice e, _, _, [.sl .nil c size _ _]⟩ => plainTy Θ n e && (match Θ.get e with
      | some te => ckEq c (ckL te.zero) && size == te.size && size == ckLen c && Nat.blt 0 size
      | Option.none => false)
    | some ⟨.struct fs, size, _, zero⟩ => plainFs Θ (plainTy Θ n) fs 0 size && ckEq (ckL zero) (fsCk Θ fs)
    | _ => false
theorem span_of (s : SV) : ckSpan (ckOf s) ≤ 1 := by
  cases s with
  | sl k c size n cell => cases k <;> simp only [ckOf] <;> (try cases size == ckLen c) <;> simp [ckSpan]
  | _ => simp [ckOf, ckSpan]
theorem span_L (l : List SV) : ckSpan (ckL l) ≤ l.length := by
  induction l with
  | nil => simp [ckL, ckSpan]
  | cons s l ih =>
    have := span_of s
    simp only [ckL, ckSpan, List.length_cons]
    omega
theorem rng_congr {c : CK} {f g : Nat → SV} {j j' : Nat} (h : ∀ i, i < ckSpan c → f (j + i) = g (j' + i)) (hr : rng c f j) : rng c g j' := by
  induction c generalizing j j' with
  | any => trivial
  | int k => obtain ⟨n, h1, h2⟩ := hr; exact ⟨n, by rw [← h1]; exact (h 0 (by simp [ckSpan])).symm, h2⟩
  | bool => obtain ⟨b, h1⟩ := hr; exact ⟨b, by rw [← h1]; exact (h 0 (by simp [ckSpan])).symm⟩
  | str => obtain ⟨b, h1, h2⟩ := hr; exact ⟨b, by rw [← h1]; exact (h 0 (by simp [ckSpan])).symm, h2⟩
  | sl c ih => obtain ⟨n, cell, h1, h2, h3⟩ := hr; exact ⟨n, cell, by rw [← h1]; exact (h 0 (by simp [ckSpan])).symm, h2, h3⟩
  | nil => trivial
  | cons a l ih1 ih2 =>
    obtain ⟨h1, h2⟩ := hr
    refine ⟨ih1 (fun i hi => h i ?_) h1, ih2 (fun i hi => ?_) h2⟩
    · simp only [ckSpan]; omega
    · have := h (i + 1) (by simp only [ckSpan]; omega)
      rwa [show j + (i + 1) = j + 1 + i by omega, show j' + (i + 1) = j' + 1 + i by omega] at this
theorem rng_app {l : List SV} {m : CK} {f : Nat → SV} {j : Nat} : rng (ckApp (ckL l) m) f j ↔ rng (ckL l) f j ∧ rng m f (j + l.length) := by
  induction l generalizing j with
  | nil => simp [ckL, ckApp, rng]
  | cons s l ih =>
    simp only [ckL, ckApp, rng, ih, List.length_cons]
    rw [show j + (l.length + 1) = j + 1 + l.length by omega]
    exact and_assoc.symm
theorem rng_of {s : SV} {f : Nat → SV} {j : Nat} (hr : rng (ckOf s) f j) : ckOk (ckOf s) (f j) = true := by
  have key : ∀ c, ckOf s = c → c = .any ∨ (∃ k, c = .int k) ∨ c = .bool ∨ c = .str ∨ ∃ d, c = .sl d := by
    intro c hc
    subst hc
    cases s with
    | sl k c size n cell => cases k <;> simp only [ckOf] <;> (try cases size == ckLen c) <;> simp
    | _ => simp [ckOf]
  rcases key _ rfl with h | ⟨k, h⟩ | h | h | ⟨d, h⟩ <;> rw [h] at hr ⊢
  · exact ckOk_any _
  · obtain ⟨n, h3, _⟩ := hr; rw [h3]; simp [ckOk]
  · obtain ⟨b, h3⟩ := hr; rw [h3]; rfl
  · obtain ⟨b, h3, _⟩ := hr; rw [h3]; rfl
  · obtain ⟨n, cell, h3, _⟩ := hr; rw [h3]; simp [ckOk, ckEq_refl]
theorem rng_ck {l : List SV} {f : Nat → SV} {j i : Nat} (hr : rng (ckL l) f j) : ckOk (ckAt (ckL l) i) (f (j + i)) = true := by
  induction l generalizing j i with
  | nil => simp only [ckL, ckAt_nil]; exact ckOk_any _
  | cons s l ih =>
    obtain ⟨h1, h2⟩ := hr
    cases i with
    | zero => exact rng_of h1
    | succ i =>
      simp only [ckL, ckAt]
      rw [show j + (i + 1) = j + 1 + i by omega]
      exact ih h2
section
variable {H : Type} {enc : TypeId × Value → H} {P : Program} {w : World} {Θ : Tys}
def old (w : World) : Nat → Prop := fun k => k < w.heap.size
theorem block_lt {w : World} {a : Addr} {v : Value} (h : w.cell? a = some v) : a.block < w.heap.size := by
  unfold World.cell? at h
  cases hb : w.heap[a.block]? with
  | none => rw [hb] at h; simp at h
  | some o => exact (Array.getElem?_eq_some_iff.1 hb).1
theorem cellsOf_ty (hty : tyOk P Θ = true) {t : TypeId} {ti : TI} (ht : Θ.get t = some ti) : P.cellsOf t = ti.size := by
  obtain ⟨i, z, hi, hs, _⟩ := (rowTy hty ht).info
  simp [Program.cellsOf, hi, hs]
def Reads (w : World) (ti : TI) (cs : List Value) : Prop :=
  cs.length = ti.size ∧ ∃ f : Nat → SV, (∀ j v, cs[j]? = some v → DenG (old w) w (f j) v) ∧ rng (ckL ti.zero) f 0
theorem reads_fields (hty : tyOk P Θ = true) {p : TypeId → Bool} {m : Nat} {cs : List Value} {size : Nat} (hcs : cs.length = size)
    (hp : ∀ t ti, p t = true → Θ.get t = some ti → ∀ cs x, DataW.trod enc P w 0 (fun _ => true) true m t cs = some x → Reads w ti cs) :
    ∀ (fs : List (Nat × TypeId)) (i : Nat), plainFs Θ p fs i size = true →
      (∀ off t, (off, t) ∈ fs → ∃ x, DataW.trod enc P w 0 (fun _ => true) true m t ((cs.drop off).take (P.cellsOf t)) = some x) →
      ∃ f : Nat → SV, (∀ j v, i ≤ j → cs[j]? = some v → DenG (old w) w (f j) v) ∧ rng (fsCk Θ fs) f i := by
  intro fs
  induction fs with
  | nil =>
    intro i hpl _
    simp only [plainFs, beq_iff_eq] at hpl
    refine ⟨fun _ => .undef, fun j v hj hv => ?_, trivial⟩
    have := (List.getElem?_eq_some_iff.1 hv).1
    omega
  | cons q fs ih =>
    obtain ⟨off, t⟩ := q
    intro i hpl hx
    simp only [plainFs, Bool.and_eq_true, beq_iff_eq] at hpl
    obtain ⟨⟨rfl, hpt⟩, hpl⟩ := hpl
    cases hti : Θ.get t with
    | none => rw [hti] at hpl; cases hpl
    | some ti =>
      rw [hti] at hpl
      simp only at hpl
      obtain ⟨x, hx0⟩ := hx off t (by simp)
      rw [cellsOf_ty hty hti] at hx0
      obtain ⟨hl1, f1, h1, r1⟩ := hp t ti hpt hti _ _ hx0
      obtain ⟨f2, h2, r2⟩ := ih (off + ti.size) hpl (fun o t' hm => hx o t' (by simp [hm]))
      have hzl := (rowTy hty hti).zlen
      refine ⟨fun j => if j < off + ti.size then f1 (j - off) else f2 j, fun j v hj hv => ?_, ?_⟩
      · show DenG (old w) w (if j < off + ti.size then f1 (j - off) else f2 j) v
        split
        · rename_i hlt
          refine h1 (j - off) v ?_
          rw [List.getElem?_take, if_pos (by omega), List.getElem?_drop, show off + (j - off) = j by omega]
          exact hv
        · exact h2 j v (by omega) hv
      · simp only [fsCk, hti]
        rw [rng_app]
        refine ⟨rng_congr (fun i hi => ?_) r1, ?_⟩
        · have := span_L ti.zero
          simp only [Nat.zero_add]
          rw [if_pos (by omega), show off + i - off = i by omega]
        · refine rng_congr (fun i hi => ?_) (hzl ▸ r2)
          rw [if_neg (by omega)]
theorem reads_ty (hty : tyOk P Θ = true) : ∀ (n : Nat) (t : TypeId) (ti : TI), plainTy Θ n t = true → Θ.get t = some ti → ∀ (fuel : Nat) (cs : List Value) (x : DataW H × List MemPlace),
    DataW.trod enc P w 0 (fun _ => true) true fuel t cs = some x → Reads w ti cs := by
  intro n
  induction n with
  | zero => intro t ti h; cases h
  | succ n ih =>
    intro t ti hpl hti fuel cs x hx
    have hrow := rowTy hty hti
    simp only [plainTy, hti] at hpl
    split at hpl
    · rename_i k sz by' k' z he
      injection he with he
      subst he
      have : k = k' := of_decide_eq_true hpl
      subst this
      obtain ⟨m, rfl, _, hwf⟩ := DataW.trod_int hrow.int_ hx
      have hz := hrow.zlen
      refine ⟨by simpa using hz, fun _ => .int k m, fun j v hv => ?_, ⟨⟨m, rfl, hwf⟩, trivial⟩⟩
      have hj : j = 0 := by have := (List.getElem?_eq_some_iff.1 hv).1; simp at this; omega
      subst hj
      simp at hv
      subst hv
      exact .int _ _
    · rename_i sz by' b he
      injection he with he
      subst he
      obtain ⟨m, rfl, _⟩ := DataW.trod_bool hrow.bool_ hx
      have hz := hrow.zlen
      refine ⟨by simpa using hz, fun _ => .bool m, fun j v hv => ?_, ⟨⟨m, rfl⟩, trivial⟩⟩
      have hj : j = 0 := by have := (List.getElem?_eq_some_iff.1 hv).1; simp at this; omega
      subst hj
      simp at hv
      subst hv
      exact .bool _
    · rename_i sz by' b he
      injection he with he
      subst he
      obtain ⟨m, rfl, _, hle⟩ := DataW.trod_string hrow.str_ hx
      have hz := hrow.zlen
      refine ⟨by simpa using hz, fun _ => .str m, fun j v hv => ?_, ⟨⟨m, rfl, hle⟩, trivial⟩⟩
      have hj : j = 0 := by have := (List.getElem?_eq_some_iff.1 hv).1; simp at this; omega
      subst hj
      simp at hv
      subst hv
      exact .str _
    · rename_i m e sz by' zero he
      injection he with he
      subst he
      cases hte : Θ.get e with
      | none => rw [hte] at hpl; cases hpl
      | some te =>
        rw [hte] at hpl
        simp only [Bool.and_eq_true] at hpl
        obtain ⟨hpf, hc⟩ := hpl
        have hc := ckEq_eq hc
        have hcell := cellsOf_ty hty hte
        obtain ⟨xs, m', rfl, _, hcl, hxl, hfl⟩ := DataW.trod_array hrow.arr_ hx
        have hcs : cs.length = sz := by rw [hcl, cellsOf_ty hty hti]
        have hmem : ∀ (m i off : Nat) (t' : TypeId), (off, t') ∈ arrFs e te.size i m → t' = e ∧ ∃ k, k < m ∧ off = (i + k) * te.size := by
          intro m
          induction m with
          | zero => intro i off t' h; simp [arrFs] at h
          | succ m ih =>
            intro i off t' h
            simp only [arrFs, List.mem_cons, Prod.mk.injEq] at h
            rcases h with ⟨h1, h2⟩ | h
            · exact ⟨h2, 0, by omega, by rw [h1]; rfl⟩
            · obtain ⟨h1, k, h2, h3⟩ := ih _ _ _ h
              exact ⟨h1, k + 1, by omega, by rw [h3]; congr 1; omega⟩
        obtain ⟨f, h1, h2⟩ := reads_fields (enc := enc) (p := plainTy Θ n) (m := m') hty hcs (fun t' ti' hp' ht' cs' x' hx' => ih t' ti' hp' ht' _ _ _ hx') (arrFs e te.size 0 m) 0 hpf (fun off t' hm => by
          obtain ⟨rfl, k, hk, rfl⟩ := hmem m 0 off t' hm
          refine ⟨xs[k]'(by omega), ?_⟩
          have := hfl k hk
          rw [hcell] at this ⊢
          rw [Nat.zero_add, this, List.getElem?_eq_getElem (by omega)])
        refine ⟨hcs, f, fun j v hv => h1 j v (Nat.zero_le _) hv, ?_⟩
        simp only [hc]
        exact h2
    · rename_i e sz by' c size z cl he
      injection he with he
      subst he
      rw [Bool.and_eq_true] at hpl
      obtain ⟨hpe, hpl⟩ := hpl
      cases hte : Θ.get e with
      | none => rw [hte] at hpl; cases hpl
      | some te =>
        rw [hte] at hpl
        simp only [Bool.and_eq_true, beq_iff_eq] at hpl
        obtain ⟨⟨⟨hc, rfl⟩, hsz⟩, hpos⟩ := hpl
        rw [Nat.blt_eq] at hpos
        have hc := ckEq_eq hc
        subst hc
        have hz := hrow.zlen
        have hcell := cellsOf_ty hty hte
        have hck : ckOf (SV.sl .nil (ckL te.zero) te.size z cl) = .sl (ckL te.zero) := by simp only [ckOf]; rw [← hsz]; simp
        rcases Deep.open_slice hrow.slice_ hx with ⟨rfl, _⟩ | ⟨a, len, cap, m, n', D, Pl, rfl, _, hl, hmx, hm, _, hel⟩
        · refine ⟨by simpa using hz, fun _ => .sl .any (ckL te.zero) te.size 0 (fun _ _ => .undef), fun j v hv => ?_, ?_⟩
          · have hj : j = 0 := by have := (List.getElem?_eq_some_iff.1 hv).1; simp at this; omega
            subst hj
            simp at hv
            subst hv
            exact .sl _ _ _ _ _ _ (fun _ _ => Go.undef) (Nat.le_refl _) (fun i j hi => by omega) (fun h => by omega) (fun ad ha i j hi => by omega) (fun i j hi => by omega)
          · simp only [ckL, hck]
            exact ⟨⟨0, _, by rw [← hsz], by simp, fun i hi => by omega⟩, trivial⟩
        · have hm : m = cap := by simpa using hm
          subst hm
          have hall : ∀ i, i < len → ∃ q : List Value × (Nat → SV), w.cells? 0 (a.add (i * te.size)) te.size = some q.1 ∧ (∀ j v, q.1[j]? = some v → DenG (old w) w (q.2 j) v) ∧ rng (ckL te.zero) q.2 0 := fun i hi => by
            obtain ⟨cs', h1, h2⟩ := hel i (by omega)
            rw [hcell] at h1
            obtain ⟨_, f, h3, h4⟩ := ih e te hpe hte _ _ _ h2
            exact ⟨(cs', f), h1, h3, h4⟩
          obtain ⟨Q, hQ⟩ := Deep.choose_lt hall
          refine ⟨by simpa using hz, fun _ => .sl .any (ckL te.zero) te.size len (fun i => (Q i).2), fun j v hv => ?_, ?_⟩
          · have hj : j = 0 := by have := (List.getElem?_eq_some_iff.1 hv).1; simp at this; omega
            subst hj
            simp at hv
            subst hv
            have hcells : ∀ i j, i < len → j < te.size → w.cell? (a.add (i * te.size + j)) = some ((Q i).1.getD j Go.undef) := fun i j hi hj => by
              obtain ⟨_, h2, h3⟩ := World.cells?_some (hQ i hi).1
              have := h3 j hj
              rw [Deep.add_add] at this
              rw [this]
              simp [h2, hj]
            refine .sl _ _ _ _ _ _ (fun i j => (Q i).1.getD j Go.undef) hl (fun i j hi hj => ?_) (fun hn => ⟨a, rfl, ?_⟩) (fun ad ha i j hi hj => ?_) (fun i j hi hj => ?_)
            · have := rng_ck (i := j) (hQ i hi).2.2
              rwa [Nat.zero_add] at this
            · have := block_lt (hcells 0 0 hn hpos)
              rwa [add_block] at this
            · injection ha with ha
              subst ha
              exact hcells i j hi hj
            · obtain ⟨_, h2, _⟩ := World.cells?_some (hQ i hi).1
              refine (hQ i hi).2.1 j _ ?_
              simp [h2, hj]
          · simp only [ckL, hck]
            exact ⟨⟨len, _, by rw [← hsz], by omega, fun i hi => (hQ i hi).2.2⟩, trivial⟩
    · rename_i fs sz by' zero he
      injection he with he
      subst he
      rw [Bool.and_eq_true] at hpl
      obtain ⟨hpf, hc⟩ := hpl
      have hc := ckEq_eq hc
      obtain ⟨fields, hd, hfs, _⟩ := hrow.struct_
      obtain ⟨xs, m, rfl, _, hcl, hxl, hfl⟩ := DataW.trod_struct hd hx
      have hcs : cs.length = sz := by rw [hcl, cellsOf_ty hty hti]
      obtain ⟨f, h1, h2⟩ := reads_fields (enc := enc) (p := plainTy Θ n) hty hcs (fun t' ti' hp' ht' cs' x' hx' => ih t' ti' hp' ht' _ _ _ hx') fs 0 hpf (fun off t' hm => by
        rw [← hfs, List.mem_map] at hm
        obtain ⟨fd, hfd, he⟩ := hm
        injection he with h3 h4
        subst h3 h4
        obtain ⟨i, hi, hii⟩ := List.mem_iff_getElem.1 hfd
        have hi' : i < fields.size := by simpa using hi
        have hg : fields[i]? = some fd := by rw [Array.getElem?_eq_getElem hi']; simp [← hii]
        refine ⟨xs[i]'(by omega), ?_⟩
        rw [hfl i fd hg, List.getElem?_eq_getElem (by omega)])
      refine ⟨hcs, f, fun j v hv => h1 j v (Nat.zero_le _) hv, ?_⟩
      simp only [hc]
      exact h2
    · cases hpl
def argOf (ti : TI) (f : Nat → SV) : SV := bif isAgg ti.d then .agg (tabN f 0 ti.size) else f 0
def argsOf (Θ : Tys) : List TypeId → List (Nat → SV) → List SV
  | t :: ts, f :: fs => (match Θ.get t with | some ti => argOf ti f | Option.none => .undef) :: argsOf Θ ts fs
  | _, _ => []
def RngA (Θ : Tys) : List TypeId → List (Nat → SV) → Prop
  | t :: ts, f :: fs => (∀ ti, Θ.get t = some ti → rng (ckL ti.zero) f 0) ∧ RngA Θ ts fs
  | [], [] => True
  | _, _ => False
theorem tabN_get (f : Nat → SV) (i n j : Nat) (hj : j < n) : (tabN f i n)[j]? = some (f (i + j)) := by
  induction n generalizing i j with
  | zero => omega
  | succ n ih =>
    cases j with
    | zero => simp [tabN]
    | succ j =>
      simp only [tabN, List.getElem?_cons_succ]
      rw [ih (i + 1) j (by omega), show i + 1 + j = i + (j + 1) by omega]
theorem tabN_len (f : Nat → SV) (i n : Nat) : (tabN f i n).length = n := by
  induction n generalizing i with
  | zero => rfl
  | succ n ih => simp [tabN, ih]
def Cx.start (w : World) : Cx := ⟨fun _ => 0, fun _ => {}, fun _ => Go.undef, fun _ => Option.none, fun _ => False, old w, w⟩
theorem start_ok (w : World) (hg : Gls (old w) w) : HeapOk (Cx.start w) where
  gls := hg
  lt := fun id e h => (by cases h)
  ents := fun id e h => (by cases h)
  inj := fun id id' e e' k h => (by cases h)
  zlt := fun k hk => hk
  zno := fun k _ id e h => (by cases h)
theorem arg_den (hty : tyOk P Θ = true) {t : TypeId} {ti : TI} (ht : Θ.get t = some ti) {base : Nat} {v : Value} (hok : Value.okWide P w .any base t v) (hr : Reads w ti v.cells.toList) :
    ∃ f, Den (Cx.start w) (argOf ti f) v ∧ rng (ckL ti.zero) f 0 := by
  obtain ⟨hlen, f, hf, hrng⟩ := hr
  refine ⟨f, ?_, hrng⟩
  have hrow := rowTy hty ht
  obtain ⟨d, hd, hdesc, _⟩ := hrow.desc
  unfold argOf
  unfold Value.okWide at hok
  rw [hd] at hok
  cases hagg : isAgg ti.d with
  | true =>
    have hv : ∃ cs, v = .agg cs := by
      cases htd : ti.d <;> rw [htd] at hagg hdesc <;> simp [isAgg] at hagg <;> cases d <;> simp [descEq] at hdesc <;> obtain ⟨cs, h, _⟩ := hok <;> exact ⟨cs, h⟩
    obtain ⟨cs, rfl⟩ := hv
    simp only [cond_true]
    have hc : (Value.agg cs).cells = cs := rfl
    rw [hc] at hlen hf
    have := Den.agg (c := Cx.start w) (tabN f 0 ti.size) cs.toList (by rw [tabN_len]; exact hlen.symm) (fun i s v hs hv => by
      have hi : i < ti.size := by have := (List.getElem?_eq_some_iff.1 hs).1; rwa [tabN_len] at this
      rw [tabN_get f 0 _ _ hi] at hs
      injection hs with hs
      subst hs
      rw [Nat.zero_add]
      exact .g _ _ (hf i v hv))
    simpa using this
  | false =>
    simp only [cond_false]
    have hc : v.cells.toList = [v] := by
      cases v with
      | agg cs =>
        exfalso
        cases htd : ti.d <;> rw [htd] at hagg hdesc <;> simp [isAgg] at hagg <;> cases d <;> simp [descEq] at hdesc
        all_goals simp [Cell.okWide, Cell.ok, hd] at hok
      | _ => rfl
    refine .g _ _ (hf 0 v ?_)
    rw [hc]
    rfl
theorem lawArgs_den (hty : tyOk P Θ = true) {base : Nat} : ∀ (ts : List TypeId) (vs : List Value) (ds : List (DataW H)) (ps : List MemPlace), (ts.all fun t => plainTy Θ 8 t && (Θ.get t).isSome) = true →
    (∀ (j : Nat) t v, ts[j]? = some t → vs[j]? = some v → Value.okWide P w .any base t v) → DataW.TrodAll enc P w 0 (fun _ => true) true ts vs ds ps →
    ∃ fs, RngA Θ ts fs ∧ DenL (Cx.start w) (argsOf Θ ts fs) vs := by
  intro ts
  induction ts with
  | nil =>
    intro vs ds ps _ _ h
    obtain ⟨rfl, _, _⟩ := trodAll_nil h
    exact ⟨[], trivial, rfl, fun i s v h => by simp [argsOf] at h⟩
  | cons t ts ih =>
    intro vs ds ps hpl hok h
    obtain ⟨v, vs', d, ds', p, q, rfl, _, _, ⟨fuel, h0⟩, h1⟩ := trodAll_cons h
    simp only [List.all_cons, Bool.and_eq_true] at hpl
    obtain ⟨⟨hp, hsome⟩, hpl⟩ := hpl
    obtain ⟨ti, hti⟩ := Option.isSome_iff_exists.1 hsome
    obtain ⟨f, hf, hr⟩ := arg_den hty hti (hok 0 t v rfl rfl) (reads_ty hty 8 t ti hp hti fuel _ _ h0)
    obtain ⟨fs, hfs, hl, hds⟩ := ih vs' ds' q (by simpa using hpl) (fun j t' v' a b => hok (j + 1) t' v' a b) h1
    refine ⟨f :: fs, ⟨fun ti' h' => ?_, hfs⟩, by simp [argsOf, hl], fun i s v' hs hv => ?_⟩
    · rw [hti] at h'; injection h' with h'; subst h'; exact hr
    · cases i with
      | zero =>
        simp only [argsOf, hti, List.getElem?_cons_zero] at hs hv
        injection hs with hs
        injection hv with hv
        subst hs hv
        exact hf
      | succ i => exact hds i s v' (by simpa [argsOf] using hs) (by simpa using hv)
theorem law_below (hty : tyOk P Θ = true) {f : FuncId} {ts : List TypeId} (hpl : (ts.all fun t => plainTy Θ 8 t && (Θ.get t).isSome) = true)
    (hfn : ∀ fs, RngA Θ ts fs → ∃ T', FnOk P f (argsOf Θ ts fs) [] 0 (.bool true) T') {base : Nat} {vs : List Value} {ds : List (DataW H)} {ps : List MemPlace}
    (hg : Gls (old w) w) (hok : ∀ (j : Nat) t v, ts[j]? = some t → vs[j]? = some v → Value.okWide P w .any base t v) (h : DataW.TrodAll enc P w 0 (fun _ => true) true ts vs ds ps) :
    Calls P f vs.toArray w fun e w' => e = .returned (.bool true) ∧ Below w.heap.size w w' := by
  obtain ⟨fs, hr, hd⟩ := lawArgs_den hty ts vs ds ps hpl hok h
  obtain ⟨T', _, hF⟩ := hfn fs hr
  refine (hF (Cx.start w) vs (fun _ => rfl) (fun id => ⟨fun h => h.elim, fun h => absurd h (Nat.not_lt_zero _)⟩) (start_ok w hg) hd).mono ?_
  rintro e w' ⟨v, c', rfl, rfl, _, _, hv, ht⟩
  rw [hv.bool_inv]
  exact ⟨rfl, ht.os, ht.tape, ht.output, ht.size, fun k hk => ht.keep k hk (fun id e h => by cases h)⟩
theorem trodAll_carry {w' : World} {spare : Nat → Bool} : ∀ {ts : List TypeId} {vs : List Value} {ds : List (DataW H)} {ps : List MemPlace}, DataW.TrodAll enc P w 0 spare true ts vs ds ps → (∀ p ∈ ps, w.sameAt w' p) →
    DataW.TrodAll enc P w' 0 spare true ts vs ds ps
  | [], [], [], _, h, _ => h
  | _ :: _, _ :: _, _ :: _, _, ⟨p, q, ⟨n, h1⟩, h2, e⟩, hs => ⟨p, q, ⟨n, DataW.trod_carry n _ _ _ h1 (fun x hx => hs x (by rw [e]; exact List.mem_append_left _ hx))⟩, trodAll_carry h2 (fun x hx => hs x (by rw [e]; exact List.mem_append_right _ hx)), e⟩
  | [], [], _ :: _, _, h, _ => h.elim
  | [], _ :: _, _, _, h, _ => h.elim
  | _ :: _, [], _, _, h, _ => h.elim
  | _ :: _, _ :: _, [], _, h, _ => h.elim
structure ProgOk (P : Program) : Prop where
  laid : laidOutB P = true
  maps : mapsRowed P = true
  full : ((List.range P.types.size).all fun t => match P.underlying t with | some (.slice e) => decide (0 < P.cellsOf e) | _ => true) = true
theorem law_post (hP : ProgOk P) {fn : Func} {s : ChangeSpec} {fresh handsOn again : Bool} {W W' : World} {args : Array Value} {ds gs : List (DataW H)} {before : List MemPlace} {tb : TypeId}
    (hvars : s.vars = []) (hparams : ∀ t ∈ fn.params.toList, t < P.types.size) (hres : fn.resultTypes = #[tb]) (htb : P.underlying tb = some .bool)
    (hfn : ds.length = fn.params.toList.length → s.fn H (ds ++ []) = { results := [.lit (.bool true)], args := ds, vars := [] })
    (hW : DataW.Whole enc P fn.params.toList s.vars false W args.toList ds gs before) (hb : Below W.heap.size W W') :
    s.post enc P fn false fresh handsOn again W args (.bool true) W' := by
  have hW' := hW
  obtain ⟨p, q, hA, hV, rfl, hz, _⟩ := hW'
  rw [hvars] at hV
  obtain ⟨rfl, rfl⟩ := trodVars_none hV
  have hfn := hfn (trodAll_length hA).2
  have hlt : ∀ x ∈ p, x.block < W.heap.size := fun x hx => hW.lt x (by simp [hx])
  have K := kids_rows hP.laid hP.maps
  have hsl := slices_full_of P hP.full
  have hargs : ∀ sp : Nat → Bool, (∀ x ∈ p, sp x.block = true) → DataW.TrodAll enc P W' 0 sp true fn.params.toList args.toList ds p := fun sp hsp =>
    trodAll_carry (DataW.TrodAll.respare K (fun t e => hsl t e) hparams hA hsp) (fun x hx => hb.same (hlt x hx))
  have hresT : ∀ (b : Nat) (sp : Nat → Bool) (hd : Bool), DataW.TrodAll enc P W' b sp hd fn.resultTypes.toList ((Value.bool true).resultList fn.resultTypes.size) [.lit (.bool true)] [] := fun b sp hd => by
    rw [hres]
    exact ⟨[], [], RowKit.shut_bool htb _, rfl, rfl⟩
  have hold : ∀ x ∈ p, (fun b => decide (b < W.heap.size)) x.block = true := fun x hx => by simpa using hlt x hx
  have e : s.fn H (ds ++ []) = { results := [.lit (.bool true)], args := ds, vars := [] } := hfn
  refine ⟨ds, [], p ++ [], [], p, [], hW, ?_, ?_, ?_, World.keptBut_mono (fun x hx => ⟨hx, ?_⟩) (hb.frame (· ∈ p ++ [])), fun _ => ?_⟩
  · rw [e]; exact hresT _ _ _
  · rw [e]; exact hargs _ hold
  · rw [hvars, e]; rfl
  · simp only [List.append_nil] at hx
    exact Or.inr (by simpa using hx)
  · refine ⟨RowKit.ok_one hres rfl (RowKit.okWide_bool_mk htb _), _, [], ([] ++ p) ++ [], ⟨[] ++ p, [], trodAll_append (hargs _ (fun _ _ => rfl)) (hresT _ _ _), by rw [hvars]; rfl, rfl, ?_, ?_⟩, ?_⟩
    · intro b off hx
      have hin : MemPlace.cell b off ∈ p := by simpa using hx
      rw [hb.frozen (hlt _ hin)]
      exact hz b off (by simp [hin])
    · intro ha; cases ha
    · intro x hx _
      simpa using hx
end
end Go.Sx
