import Derived.Test.YtlphgonhenegoaaSxCod
import Derived.Test.YtlphgonhenegoaaSxFast
namespace Go.Sx
variable {dfs : List Deferred}
noncomputable section
def w64 (n : Int) : Int := IntKind.wrap .i64 n
theorem lock_ex {α : Type} (a : α) : ∃ b : α, b = a := ⟨a, rfl⟩
def lock {α : Type} (a : α) : α := Classical.choose (lock_ex a)
theorem lock_eq {α : Type} (a : α) : lock a = a := Classical.choose_spec (lock_ex a)
structure Re where
  ok : SV → Bool
  re : SV → SV
def Re.Ok (r : Re) : Prop := ∀ (c : Cx) (s : SV) (v : Value), r.ok s = true → Den c s v → Den c (r.re s) v
def zipOk : List Re → List SV → Nat → Bool
  | [], _, _ => true
  | r :: rs, ss, i => r.ok (lget ss i) && zipOk rs ss (i + 1)
def zipRe : List Re → List SV → Nat → List SV
  | [], _, _ => []
  | r :: rs, ss, i => r.re (lget ss i) :: zipRe rs ss (i + 1)
theorem zipRe_len (rs : List Re) (ss : List SV) (i : Nat) : (zipRe rs ss i).length = rs.length := by
  induction rs generalizing i with
  | nil => rfl
  | cons r rs ih => simp [zipRe, ih]
theorem zip_get {rs : List Re} {ss : List SV} {i j : Nat} {s : SV} (h : (zipRe rs ss i)[j]? = some s) : ∃ r, rs[j]? = some r ∧ s = r.re (lget ss (i + j)) := by
  induction rs generalizing i j with
  | nil => simp [zipRe] at h
  | cons r rs ih =>
    cases j with
    | zero => simp only [zipRe, List.getElem?_cons_zero] at h; injection h with h; exact ⟨r, rfl, h.symm⟩
    | succ j =>
      simp only [zipRe, List.getElem?_cons_succ] at h
      obtain ⟨r', h1, h2⟩ := ih h
      exact ⟨r', by simpa using h1, by rw [h2, show i + 1 + j = i + (j + 1) by omega]⟩
theorem zip_ok {rs : List Re} {ss : List SV} {i j : Nat} {r : Re} (h : zipOk rs ss i = true) (hr : rs[j]? = some r) : r.ok (lget ss (i + j)) = true := by
  induction rs generalizing i j with
  | nil => simp at hr
  | cons r' rs ih =>
    simp only [zipOk, Bool.and_eq_true] at h
    cases j with
    | zero => simp only [List.getElem?_cons_zero] at hr; injection hr with hr; subst hr; exact h.1
    | succ j =>
      have := ih h.2 (by simpa using hr)
      rwa [show i + 1 + j = i + (j + 1) by omega] at this
theorem zip_den {rs : List Re} (hrs : ∀ r ∈ rs, r.Ok) {ss : List SV} (hok : zipOk rs ss 0 = true) (hl : ss.length = rs.length) {c : Cx} {vs : List Value} (hvl : ss.length = vs.length)
    (hd : ∀ (i : Nat) (s : SV) (v : Value), ss[i]? = some s → vs[i]? = some v → Den c s v) : ∀ (i : Nat) (s : SV) (v : Value), (zipRe rs ss 0)[i]? = some s → vs[i]? = some v → Den c s v := by
  intro i s v hs hv
  obtain ⟨r, h1, rfl⟩ := zip_get hs
  have hi : i < ss.length := by have := (List.getElem?_eq_some_iff.1 h1).1; omega
  rw [Nat.zero_add]
  have := zip_ok hok h1
  rw [Nat.zero_add] at this
  exact hrs r (List.mem_of_getElem? h1) c _ v this (hd i _ v (lget_lt hi) hv)
def toCs : SV → List SV
  | .agg cs => cs
  | .tup cs => cs
  | .func _ _ cs => cs
  | _ => []
def toE : SV → Nat → SV
  | .eptr _ f => f
  | _ => fun _ => .undef
def rDrop : Re := ⟨fun _ => true, fun _ => .undef⟩
theorem rDrop_ok : rDrop.Ok := fun _ _ _ _ _ => .und _
def rInt (k : IntKind) : Re := ⟨fun s => ckOk (.int k) s, fun s => .int k (toI s)⟩
theorem rInt_ok (k : IntKind) : (rInt k).Ok := fun c s v h hd => by
  cases s <;> simp [rInt, ckOk] at h
  subst h
  exact hd
def rBool : Re := ⟨fun s => ckOk .bool s, fun s => .bool (toB s)⟩
theorem rBool_ok : rBool.Ok := fun c s v h hd => by
  cases s <;> simp [rBool, ckOk] at h
  exact hd
def rNilI : Re := ⟨fun s => match s with | .sl .nil _ _ _ _ => true | _ => false, fun _ => .sl .nil (.cons (.int .i64) .nil) 1 0 (fun _ _ => .undef)⟩
theorem rNilI_ok : rNilI.Ok := fun c s v h hd => by
  cases s with
  | sl k fl size n cl =>
    cases k <;> simp [rNilI] at h
    obtain ⟨_, rfl⟩ := hd.slnil_inv
    exact .g _ _ (.slnil _ _ _)
  | _ => simp [rNilI] at h
def rPtr (g off : Nat) : Re := ⟨fun s => match s with | .ptr g' off' => g' == g && off' == off | _ => false, fun _ => .ptr g off⟩
theorem rPtr_ok (g off : Nat) : (rPtr g off).Ok := fun c s v h hd => by
  cases s <;> simp [rPtr] at h
  obtain ⟨rfl, rfl⟩ := h
  exact hd
def rRow (r : Nat) : Re := ⟨fun s => match s with | .row r' => r' == r | _ => false, fun _ => .row r⟩
theorem rRow_ok (r : Nat) : (rRow r).Ok := fun c s v h hd => by
  cases s <;> simp [rRow] at h
  subst h
  exact hd
def rSl {α : Type} (C : Cod α) : Re := ⟨fun s => ckOk (.sl C.sg) s, fun s => slC C (lstC C s)⟩
theorem rSl_ok {α : Type} {C : Cod α} (hC : C.Ok) : (rSl C).Ok := fun c s v h hd => by
  have hg : groundOk s = true := by cases s <;> simp [rSl, ckOk] at h <;> rfl
  exact .g _ _ (den_slC hC h (hd.ground hg))
def rEptr {α : Type} (C : Cod α) : Re := ⟨fun s => match s with | .eptr m f => m == C.size && ckAll C.sg f C.size | _ => false, fun s => .eptr C.size (lget (C.enc (C.dec (toE s))))⟩
theorem rEptr_ok {α : Type} {C : Cod α} (hC : C.Ok) : (rEptr C).Ok := fun c s v h hd => by
  cases s <;> simp [rEptr] at h
  obtain ⟨rfl, h⟩ := h
  exact den_eptr hC h hd
def rAgg {α : Type} (C : Cod α) : Re := ⟨fun s => match s with | .agg cs => cs.length == C.size && ckAll C.sg (lget cs) C.size && cs.all groundOk | _ => false, fun s => .agg (C.enc (C.dec (lget (toCs s))))⟩
theorem rAgg_ok {α : Type} {C : Cod α} (hC : C.Ok) (hlen : ∀ a, (C.enc a).length = C.size) : (rAgg C).Ok := fun c s v h hd => by
  cases s <;> simp only [rAgg, Bool.and_eq_true, beq_iff_eq, Bool.false_eq_true] at h
  exact den_agg hC hlen h.1.1 h.1.2 h.2 hd
def rTup (rs : List Re) : Re := ⟨fun s => match s with | .tup cs => cs.length == rs.length && zipOk rs cs 0 | _ => false, fun s => .tup (zipRe rs (toCs s) 0)⟩
theorem rTup_ok {rs : List Re} (hrs : ∀ r ∈ rs, r.Ok) : (rTup rs).Ok := fun c s v h hd => by
  cases s <;> simp only [rTup, Bool.and_eq_true, beq_iff_eq, Bool.false_eq_true] at h
  obtain ⟨vs, rfl, hvl, hds⟩ := hd.tup_inv
  exact .tup _ _ (by rw [zipRe_len, ← h.1, hvl]) (zip_den hrs h.2 h.1 hvl hds)
def rFunc (f : FuncId) (k : Nat) (rs : List Re) : Re := ⟨fun s => match s with | .func f' k' cs => f' == f && (k' == k && (cs.length == rs.length && zipOk rs cs 0)) | _ => false, fun s => .func f k (zipRe rs (toCs s) 0)⟩
theorem rFunc_ok (f : FuncId) (k : Nat) {rs : List Re} (hrs : ∀ r ∈ rs, r.Ok) : (rFunc f k rs).Ok := fun c s v h hd => by
  cases s <;> simp only [rFunc, Bool.and_eq_true, beq_iff_eq, Bool.false_eq_true] at h
  obtain ⟨rfl, rfl, h1, h2⟩ := h
  obtain ⟨vs, rfl, hy, hvl, hds⟩ := hd.func_inv
  exact .func _ _ _ _ (by rw [zipRe_len, ← h1, hvl]) hy (zip_den hrs h2 h1 hvl hds)
structure ERe where
  ok : Ent → Bool
  re : Ent → Ent
structure ERe.Ok (r : ERe) : Prop where
  shape : ∀ e, r.ok e = true → Sx.shape (r.re e) = Sx.shape e
  ent : ∀ (c : Cx) id e, r.ok e = true → EntOk c id e → EntOk c id (r.re e)
def entCs : Ent → List SV
  | .blk cs => cs
  | _ => []
def entN : Ent → Nat
  | .row _ _ _ n _ => n
  | _ => 0
def entC : Ent → Nat → Nat → SV
  | .row _ _ _ _ c => c
  | _ => fun _ _ => .undef
def entNl : Ent → Bool
  | .row nl _ _ _ _ => nl
  | _ => false
def rowE {α : Type} (C : Cod α) (nl : Bool) (a : Arr α) : Ent := .row nl C.sg C.size a.n (C.cell a.f)
def eRow {α : Type} (C : Cod α) : ERe := ⟨fun e => match e with | .row _ fl size _ _ => ckEq fl C.sg && size == C.size | _ => false, fun e => rowE C (entNl e) (lst C (entN e) (entC e))⟩
theorem eRow_ok {α : Type} {C : Cod α} (hC : C.Ok) : (eRow C).Ok where
  shape := fun e h => by
    cases e with
    | blk cs => simp [eRow] at h
    | mp k hs gt => simp [eRow] at h
    | fm => simp [eRow] at h
    | fx => simp [eRow] at h
    | lp => simp [eRow] at h
    | mx => simp [eRow] at h
    | row nl fl size n c =>
      simp only [eRow, Bool.and_eq_true, beq_iff_eq] at h
      simp [eRow, rowE, Sx.shape, entNl, entN, lst, h.2]
  ent := fun c id e h he => by
    cases e with
    | blk cs => simp [eRow] at h
    | mp k hs gt => simp [eRow] at h
    | fm => simp [eRow] at h
    | fx => simp [eRow] at h
    | lp => simp [eRow] at h
    | mx => simp [eRow] at h
    | row nl fl size n cl =>
      simp only [eRow, Bool.and_eq_true, beq_iff_eq] at h
      obtain ⟨h1, rfl⟩ := h
      have h1 := ckEq_eq h1
      subst h1
      obtain ⟨hck, hcase⟩ := he
      simp only [eRow, rowE, entNl, entN, entC, EntOk, lst]
      refine ⟨fun i j _ hj => hC.ck _ j hj, ?_⟩
      rcases hcase with hcase | ⟨h1, cap, arr, e, h2, h3, h4, h5, h6⟩
      · exact .inl hcase
      · refine .inr ⟨h1, cap, arr, e, h2, h3, h4, h5, fun i j hi hj => ?_⟩
        obtain ⟨v, hv, hd⟩ := h6 i j hi hj
        refine ⟨v, hv, ?_⟩
        exact hC.ok (cl i) (fun j hj => hck i j hi hj) _ _ j v hj hd
def eBlk (rs : List Re) : ERe := ⟨fun e => match e with | .blk cs => cs.length == rs.length && zipOk rs cs 0 | _ => false, fun e => .blk (zipRe rs (entCs e) 0)⟩
theorem eBlk_ok {rs : List Re} (hrs : ∀ r ∈ rs, r.Ok) : (eBlk rs).Ok where
  shape := fun e h => by
    cases e with
    | row => simp [eBlk] at h
    | mp k hs gt => simp [eBlk] at h
    | fm => simp [eBlk] at h
    | fx => simp [eBlk] at h
    | lp => simp [eBlk] at h
    | mx => simp [eBlk] at h
    | blk cs =>
      simp only [eBlk, Bool.and_eq_true, beq_iff_eq] at h
      simp [eBlk, Sx.shape, zipRe_len, entCs, h.1]
  ent := fun c id e h he => by
    cases e with
    | row => simp [eBlk] at h
    | mp k hs gt => simp [eBlk] at h
    | fm => simp [eBlk] at h
    | fx => simp [eBlk] at h
    | lp => simp [eBlk] at h
    | mx => simp [eBlk] at h
    | blk cs =>
      simp only [eBlk, Bool.and_eq_true, beq_iff_eq] at h
      obtain ⟨arr, e, h1, h2, h3⟩ := he
      refine ⟨arr, e, h1, by simp only [entCs]; rw [zipRe_len, ← h.1, h2], fun i s v hs hv => ?_⟩
      have hi : i < cs.length := by have := (Array.getElem?_eq_some_iff.1 hv).1; omega
      refine ⟨?_, (h3 i _ v (lget_lt hi) hv).2⟩
      refine zip_den hrs h.2 h.1 (vs := arr.toList) (by simp [h2]) (fun i s v hs hv => (h3 i s v hs (by simpa using hv)).1) i s v hs (by simpa using hv)
def eBlkC {α : Type} (C : Cod α) : ERe := ⟨fun e => match e with | .blk cs => cs.length == C.size && ckAll C.sg (lget cs) C.size && cs.all groundOk | _ => false, fun e => .blk (C.enc (C.dec (lget (entCs e))))⟩
theorem eBlkC_ok {α : Type} {C : Cod α} (hC : C.Ok) (hlen : ∀ a, (C.enc a).length = C.size) : (eBlkC C).Ok where
  shape := fun e h => by
    cases e with
    | row => simp [eBlkC] at h
    | mp k hs gt => simp [eBlkC] at h
    | fm => simp [eBlkC] at h
    | fx => simp [eBlkC] at h
    | lp => simp [eBlkC] at h
    | mx => simp [eBlkC] at h
    | blk cs =>
      simp only [eBlkC, Bool.and_eq_true, beq_iff_eq] at h
      simp [eBlkC, Sx.shape, hlen, h.1.1]
  ent := fun c id e h he => by
    cases e with
    | row => simp [eBlkC] at h
    | mp k hs gt => simp [eBlkC] at h
    | fm => simp [eBlkC] at h
    | fx => simp [eBlkC] at h
    | lp => simp [eBlkC] at h
    | mx => simp [eBlkC] at h
    | blk cs =>
      simp only [eBlkC, Bool.and_eq_true, beq_iff_eq] at h
      obtain ⟨⟨hl, hck⟩, hg⟩ := h
      obtain ⟨arr, e, h1, h2, h3⟩ := he
      refine ⟨arr, e, h1, by simp only [entCs]; rw [hlen, ← hl, h2], fun i s v hs hv => ?_⟩
      simp only [entCs] at hs
      have hi : i < C.size := by have := (List.getElem?_eq_some_iff.1 hs).1; rwa [hlen] at this
      obtain ⟨h4, h5⟩ := h3 i _ v (lget_lt (show i < cs.length by omega)) hv
      have h6 := h4.ground (List.all_eq_true.1 hg _ (List.mem_of_getElem? (lget_lt (show i < cs.length by omega))))
      have h7 := hC.ok (lget cs) (fun j hj => ckAll_at hck hj) _ _ i v hi h6
      have : lget (C.enc (C.dec (lget cs))) i = s := by simp [lget, hs]
      rw [this] at h7
      exact ⟨.g _ _ h7, h5⟩
def entFh : Ent → Int → Bool
  | .fm _ _ _ hs _ _ _ => hs
  | _ => noHs
def entFl : Ent → Int → Nat
  | .fm _ _ _ _ ln _ _ => ln
  | _ => noLn
def entFg : Ent → Int → Nat → Nat → SV
  | .fm _ _ _ _ _ gt _ => gt
  | _ => fun _ _ _ => .undef
structure Fm (α : Type) where
  has : Int → Bool
  at_ : Int → Arr α
def fmL {α : Type} (m : Fm α) : Int → Nat := fun z => (m.at_ z).n
def fmG {α : Type} (C : Cod α) (m : Fm α) : Int → Nat → Nat → SV := fun z => C.cell (m.at_ z).f
def fmE {α : Type} (ik : IntKind) (C : Cod α) (m : Fm α) : Ent := .fm ik C.sg C.size m.has (fmL m) (fmG C m) Option.none
def fmD {α : Type} (C : Cod α) (hs : Int → Bool) (ln : Int → Nat) (gt : Int → Nat → Nat → SV) : Fm α := ⟨hs, fun z => lst C (ln z) (gt z)⟩
def eFm {α : Type} (ik : IntKind) (C : Cod α) : ERe :=
  ⟨fun e => match e with | .fm ik' fl size _ _ _ Option.none => decide (ik' = ik) && (ckEq fl C.sg && size == C.size) | _ => false, fun e => fmE ik C (fmD C (entFh e) (entFl e) (entFg e))⟩
theorem eFm_ok {α : Type} {ik : IntKind} {C : Cod α} (hC : C.Ok) : (eFm ik C).Ok where
  shape := fun e h => by
    cases e with
    | fm => rfl
    | _ => simp [eFm] at h
  ent := fun c id e h he => by
    cases e with
    | fm ik' fl size hs ln gt hole =>
      cases hole with
      | some z => simp [eFm] at h
      | none =>
        simp only [eFm, Bool.and_eq_true, beq_iff_eq, decide_eq_true_eq] at h
        obtain ⟨rfl, h1, rfl⟩ := h
        have h1 := ckEq_eq h1
        subst h1
        obtain ⟨h0, es, clock, X, h2, h3, h4⟩ := he
        refine ⟨h0, es, clock, X, h2, h3, ?_⟩
        simp only [fmD, entFh, entFl, entFg, fmL, fmG]
        exact { born := h4.born, stamps := h4.stamps, apart := h4.apart, own := h4.own, all := h4.all, none := h4.none
                val := fun e he z hk hh => by
                  obtain ⟨cap, arr, ety, v1, v2, v3, v4, v5, v6, v7⟩ := h4.val e he z hk hh
                  have hz : hs z = true := by
                    obtain ⟨z', hk', hz'⟩ := h4.own e he
                    rw [hk] at hk'
                    injection hk' with _ hk'
                    exact hk' ▸ hz'
                  refine ⟨cap, arr, ety, v1, v2, v3, v4, v5, v6, fun i j hi hj => ?_⟩
                  obtain ⟨v, hv, hd⟩ := v7 i j hi hj
                  exact ⟨v, hv, hC.ok (gt z i) (fun j hj => h4.ck z hz hh i j hi hj) _ _ j v hj hd⟩
                ck := fun z _ _ i j _ hj => hC.ck _ j hj
                inj := h4.inj }
    | _ => simp [eFm] at h
def mxD (n : Nat) (ln : Nat → Nat) (gt : Nat → Nat → Int) : Arr (Arr Int) := ⟨n, fun i => ⟨ln i, gt i⟩⟩
def entAt (t : Tab) (k : Nat) : Ent := (t.getD k (0, .blk [])).2
def entsOk : List (Nat × ERe) → Tab → Bool
  | [], [] => true
  | (i, r) :: l, (j, e) :: t => i == j && r.ok e && entsOk l t
  | _, _ => false
def tabRe : List (Nat × ERe) → Tab → Nat → Tab
  | [], _, _ => []
  | (i, r) :: l, t, k => (i, r.re (entAt t k)) :: tabRe l t (k + 1)
theorem tabRe_cons (l : List (Nat × ERe)) (p : Nat × Ent) (t : Tab) (k : Nat) : tabRe l (p :: t) (k + 1) = tabRe l t k := by
  induction l generalizing k with
  | nil => rfl
  | cons q l ih =>
    obtain ⟨i, r⟩ := q
    simp only [tabRe, ih]
    congr 1
theorem tabRe_get {l : List (Nat × ERe)} {t : Tab} (h : entsOk l t = true) (id : Nat) :
    (tget t id = Option.none ∧ tget (tabRe l t 0) id = Option.none) ∨ ∃ r e, r ∈ l.map (·.2) ∧ r.ok e = true ∧ tget t id = some e ∧ tget (tabRe l t 0) id = some (r.re e) := by
  induction l generalizing t with
  | nil =>
    cases t with
    | nil => exact .inl ⟨rfl, rfl⟩
    | cons p t => simp [entsOk] at h
  | cons q l ih =>
    obtain ⟨i, r⟩ := q
    cases t with
    | nil => simp [entsOk] at h
    | cons p t =>
      obtain ⟨j, e⟩ := p
      simp only [entsOk, Bool.and_eq_true, beq_iff_eq] at h
      obtain ⟨⟨rfl, h1⟩, h2⟩ := h
      simp only [tabRe, tabRe_cons, tget]
      cases hb : i == id with
      | true => exact .inr ⟨r, e, by simp, h1, rfl, rfl⟩
      | false =>
        simp only [cond_false]
        rcases ih h2 with h3 | ⟨r', e', h3, h4⟩
        · exact .inl h3
        · exact .inr ⟨r', e', by simp only [List.map_cons, List.mem_cons]; exact .inr h3, h4⟩
theorem allNil : ∀ r ∈ ([] : List Re), r.Ok := fun _ h => by cases h
theorem allCons {r : Re} {l : List Re} (h : r.Ok) (t : ∀ r ∈ l, r.Ok) : ∀ r' ∈ r :: l, r'.Ok := fun r' hr => by
  rcases List.mem_cons.1 hr with rfl | hr
  · exact h
  · exact t r' hr
def dr (n : Nat) (l : List Re) : List Re := match n with
  | 0 => l
  | n + 1 => rDrop :: dr n l
theorem drCons (n : Nat) {l : List Re} (t : ∀ r ∈ l, r.Ok) : ∀ r' ∈ dr n l, r'.Ok := by
  induction n with
  | zero => exact t
  | succ n ih => exact allCons rDrop_ok ih
def un (n : Nat) (l : List SV) : List SV := match n with
  | 0 => l
  | n + 1 => .undef :: un n l
theorem eNil : ∀ r ∈ ([] : List (Nat × ERe)).map (·.2), r.Ok := fun _ h => by cases h
theorem eCons {i : Nat} {r : ERe} {l : List (Nat × ERe)} (h : r.Ok) (t : ∀ r ∈ l.map (·.2), r.Ok) : ∀ r' ∈ ((i, r) :: l).map (·.2), r'.Ok := fun r' hr => by
  rcases List.mem_cons.1 hr with rfl | hr
  · exact h
  · exact t r' hr
structure Sp where
  vals : List Re
  ents : List (Nat × ERe)
structure Sp.Ok (sp : Sp) : Prop where
  vals : ∀ r ∈ sp.vals, r.Ok
  ents : ∀ r ∈ sp.ents.map (·.2), r.Ok
def Sp.ok (sp : Sp) (vs : List SV) (t : Tab) : Bool := vs.length == sp.vals.length && zipOk sp.vals vs 0 && entsOk sp.ents t
def Sp.vs (sp : Sp) (vs : List SV) : List SV := zipRe sp.vals vs 0
def Sp.tab (sp : Sp) (t : Tab) : Tab := tabRe sp.ents t 0
theorem ow_shape {c : Cx} {id k : Nat} {e e' : Ent} (hs : Sx.shape e' = Sx.shape e) (h : c.ow id e' k) : c.ow id e k := by
  rcases h with ⟨h1, h2⟩ | ⟨h1, h2⟩
  · refine .inl ⟨?_, h2⟩
    cases e <;> cases e' <;> simp [Sx.shape] at hs <;> simp_all [has]
  · refine .inr ⟨?_, h2⟩
    cases e <;> cases e' <;> simp [Sx.shape] at hs <;> simp_all [fam]
theorem EntOk.move {c c' : Cx} (h : Trans c c') (ho : HeapOk c) (hb : c'.b = c.b) (hx : c'.o = c.o) (hu : c'.u = c.u) (hw : c'.w = c.w) {id : Nat} {e : Ent} (he : EntOk c id e) : EntOk c' id e := by
  cases e with
  | blk cs =>
    obtain ⟨arr, e, h1, h2, h3⟩ := he
    exact ⟨arr, e, by rw [hb, hw]; exact h1, h2, fun i s v hs hv => ⟨(h3 i s v hs hv).1.trans h ho, (h3 i s v hs hv).2⟩⟩
  | row nl fl size n cl =>
    obtain ⟨h1, h2⟩ := he
    refine ⟨h1, ?_⟩
    rcases h2 with ⟨a1, a2, a3⟩ | ⟨a1, cap, arr, e, a2, a3, a4, a5, a6⟩
    · exact .inl ⟨a1, a2, by rw [hu]; exact a3⟩
    · refine .inr ⟨a1, cap, arr, e, by rw [hu, hb]; exact a2, by rw [hb, hw]; exact a3, a4, a5, fun i j hi hj => ?_⟩
      obtain ⟨v, hv, hd⟩ := a6 i j hi hj
      exact ⟨v, hv, hd.trans h ho⟩
  | mp k hs gt =>
    obtain ⟨es, clock, h1, h2, h3⟩ := he
    exact ⟨es, clock, by rw [hu, hb]; exact h1, by rw [hb, hw]; exact h2, h3⟩
  | fm ik fl size hs ln gt hole =>
    obtain ⟨h0, es, clock, X, h1, h2, h3⟩ := he
    refine ⟨fun k hk => by rw [hw]; exact h0 k (by rw [← hx]; exact hk), es, clock, X, by rw [hu, hb]; exact h1, by rw [hb, hw]; exact h2, ?_⟩
    rw [hb, hx]
    exact h3.mono (fun s v hd => hd.trans h ho) fun k _ => by rw [hw]
  | fx v bs =>
    obtain ⟨h0, h1, h2⟩ := he
    exact ⟨fun k hk => by rw [hw]; exact h0 k (by rw [← hx]; exact hk), by rw [hu]; exact h1, fun p hp => by rw [hx, hw]; exact h2 p hp⟩
  | lp n =>
    obtain ⟨h0, h1⟩ := he
    refine ⟨fun k hk => by rw [hw]; exact h0 k (by rw [← hx]; exact hk), ?_⟩
    rw [hu, hx]
    exact h1.mono fun k hk => by rw [hw]
  | mx ik n ln gt =>
    obtain ⟨h0, hor⟩ := he
    refine ⟨fun k hk => by rw [hw]; exact h0 k (by rw [← hx]; exact hk), ?_⟩
    rcases hor with ⟨rfl, h1⟩ | ⟨hn, cap, arr, e, h1, h2, h3, h4, h5⟩
    · exact .inl ⟨rfl, by rw [hu]; exact h1⟩
    · refine .inr ⟨hn, cap, arr, e, by rw [hu, hb]; exact h1, by rw [hb, hw]; exact h2, h3, h4, ?_⟩
      rw [hb, hx]
      exact h5.mono rfl rfl (fun _ h => h) fun k _ => by rw [hw]
theorem Sp.Ok.weak {sp : Sp} (h : sp.Ok) {vs : List SV} {t : Tab} (hok : sp.ok vs t = true) {c : Cx} (hen : ∀ id, c.en id = tget t id) (ho : HeapOk c) :
    ∃ c' : Cx, c'.w = c.w ∧ c'.K = c.K ∧ HeapOk c' ∧ (∀ id, c'.en id = tget (sp.tab t) id) ∧ Trans c c' ∧ ∀ ds, DenL c vs ds → DenL c' (sp.vs vs) ds := by
  simp only [Sp.ok, Bool.and_eq_true, beq_iff_eq] at hok
  obtain ⟨⟨hl, hz⟩, he⟩ := hok
  have hget := tabRe_get he
  have htr : Trans c ⟨c.b, c.o, c.u, tget (sp.tab t), c.K, c.Z, c.w⟩ := by
    refine ⟨rfl, rfl, rfl, Nat.le_refl _, fun _ h => h, fun _ h => h, fun _ h => .inl h, fun _ _ _ => rfl, fun id e' h' => ?_, fun id e' k h' hh => ?_⟩
    · rcases hget id with ⟨_, h2⟩ | ⟨r, e, h1, h2, h3, h4⟩
      · have h' : tget (tabRe sp.ents t 0) id = some e' := h'
        rw [h2] at h'; cases h'
      · have h' : tget (tabRe sp.ents t 0) id = some e' := h'
        rw [h4] at h'
        injection h' with h'
        subst h'
        exact .inl ⟨e, by rw [hen, h3], rfl, rfl, (h.ents r h1).shape e h2, rfl⟩
    · rcases hget id with ⟨_, h2⟩ | ⟨r, e, h1, h2, h3, h4⟩
      · have h' : tget (tabRe sp.ents t 0) id = some e' := h'
        rw [h2] at h'; cases h'
      · have h' : tget (tabRe sp.ents t 0) id = some e' := h'
        rw [h4] at h'
        injection h' with h'
        subst h'
        exact .inr ⟨id, e, by rw [hen, h3], ow_shape (c := c) ((h.ents r h1).shape e h2) hh⟩
  refine ⟨⟨c.b, c.o, c.u, tget (sp.tab t), c.K, c.Z, c.w⟩, rfl, rfl, ?_, fun _ => rfl, htr, fun ds hd => ?_⟩
  · have hback : ∀ id e', tget (sp.tab t) id = some e' → ∃ r e, r ∈ sp.ents.map (·.2) ∧ r.ok e = true ∧ c.en id = some e ∧ e' = r.re e ∧ ∀ k, c.ow id e' k → c.ow id e k := fun id e' h' => by
      rcases hget id with ⟨_, h2⟩ | ⟨r, e, h1, h2, h3, h4⟩
      · have h' : tget (tabRe sp.ents t 0) id = some e' := h'
        rw [h2] at h'; cases h'
      · have h' : tget (tabRe sp.ents t 0) id = some e' := h'
        rw [h4] at h'
        injection h' with h'
        refine ⟨r, e, h1, h2, by rw [hen, h3], h'.symm, fun k hk => ?_⟩
        have hs := (h.ents r h1).shape e h2
        rw [h'] at hs
        exact ow_shape hs hk
    refine ⟨fun id e' h' => ?_, fun id e' h' => ?_, fun id id' e e' k h1 h2 h3 h4 => ?_, ho.zlt, fun k hk id e' h' hh => ?_, htr.gls ho⟩
    · obtain ⟨r, e, _, _, h3, _⟩ := hback id e' h'
      exact ho.lt id e h3
    · obtain ⟨r, e, h1, h2, h3, rfl, _⟩ := hback id e' h'
      exact ((h.ents r h1).ent c id e h2 (ho.ents id e h3)).move htr ho rfl rfl rfl rfl
    · obtain ⟨r, e1, _, _, a3, _, a4⟩ := hback id e h1
      obtain ⟨r', e2, _, _, b3, _, b4⟩ := hback id' e' h2
      exact ho.inj id id' e1 e2 k a3 b3 (a4 k h3) (b4 k h4)
    · obtain ⟨r, e, _, _, h3, _, h4⟩ := hback id e' h'
      exact ho.zno k hk id e h3 (h4 k hh)
  · refine ⟨by rw [Sp.vs, zipRe_len, ← hl]; exact hd.1, ?_⟩
    exact zip_den h.vals hz hl hd.1 fun i s v hs hv => (hd.2 i s v hs hv).trans htr ho
theorem FnOk.args {P : Program} {f : FuncId} {sp : Sp} (h : sp.Ok) {args : List SV} {T : Tab} {base : Nat} {res : SV} {T' : Tab} (hok : sp.ok args T = true) (hf : FnOk P f (sp.vs args) (sp.tab T) base res T') : FnOk P f args T base res T' := by
  refine ⟨hf.1, fun c vs hen hK ho hd => ?_⟩
  obtain ⟨c', h1, h2, h3, h4, h5, h6⟩ := h.weak hok hen ho
  have := hf.2 c' vs h4 (fun id => by rw [h2]; exact hK id) h3 (h6 vs hd)
  rw [h1] at this
  refine this.mono ?_
  rintro e w' ⟨v, c2, q1, q2, q3, q4, q5, q6⟩
  exact ⟨v, c2, q1, q2, q3, q4, q5, h5.trans q6⟩
theorem FnOk.res {P : Program} {f : FuncId} {sp : Sp} (h : sp.Ok) {args : List SV} {T : Tab} {base : Nat} {res : SV} {T' : Tab} (hok : sp.ok [res] T' = true) (hf : FnOk P f args T base res T') : FnOk P f args T base (lget (sp.vs [res]) 0) (sp.tab T') := by
  refine ⟨hf.1, fun c vs hen hK ho hd => ?_⟩
  refine (hf.2 c vs hen hK ho hd).mono ?_
  rintro e w' ⟨v, c2, q1, q2, q3, q4, q5, q6⟩
  obtain ⟨c', h1, h2, h3, h4, h5, h6⟩ := h.weak hok q3 q4
  have h7 := h6 [v] ⟨rfl, fun i s v' hs hv => by
    cases i with
    | zero => simp at hs hv; subst hs hv; exact q5
    | succ i => simp at hs⟩
  have hl : (sp.vs [res]).length = 1 := h7.1
  exact ⟨v, c', q1, h1.trans q2, h4, h3, h7.2 0 _ v (lget_lt (by omega)) rfl, q6.trans h5⟩
section
variable {R : Type} {r : R}
structure LS where
  keep : List Nat
  sp : Sp
  nx : Nat
def LS.re (L : LS) (S0 : St) : St := ⟨L.sp.vs S0.tmps, L.sp.tab S0.tab, L.nx⟩
def LS.raw (base : Nat) (L : LS) (S : St) (k : St → Option R) : Option R :=
  normF base L.keep S fun S0 => bif L.sp.ok S0.tmps S0.tab && Nat.ble S0.nx L.nx then k S0 else Option.none
def LS.run (base : Nat) (L : LS) (S : St) (k : St → Option R) : Option R := L.raw base S fun S0 => k (L.re S0)
theorem LS.raw_ok {base : Nat} {L : LS} (hL : L.sp.Ok) {S : St} {k : St → Option R} (h : L.raw base S k = some r) :
    ∃ S0, k S0 = some r ∧ ∀ {dfs : List Deferred} (c0 c : Cx) (a : Act), (∀ id, c0.K id → id < base) → Rel dfs c S a → Trans c0 c → ∃ c', Rel dfs c' (L.re S0) a ∧ Trans c0 c' ∧ c'.w = c.w := by
  unfold LS.raw at h
  rw [normF_eq] at h
  obtain ⟨S0, h0, p0⟩ := norm_ok h
  cases hok : L.sp.ok S0.tmps S0.tab && Nat.ble S0.nx L.nx <;> rw [hok] at h0 <;> simp only [cond_true, cond_false, reduceCtorEq] at h0
  simp only [Bool.and_eq_true] at hok
  refine ⟨_, h0, fun c0 c a hK hr ht => ?_⟩
  obtain ⟨c1, r1, t1, w1⟩ := p0 c0 c a hK hr ht
  obtain ⟨c2, q1, q2, q3, q4, q5, q6⟩ := hL.weak hok.1 r1.en r1.ho
  have hlen : S0.tmps.length = a.tmps.size := r1.len
  have hd := q6 a.tmps.toList ⟨by rw [hlen]; simp, fun i s v hs hv => by
    have := r1.sl i
    rw [lget_some hs] at this
    have hv' : a.tmps.getD i Go.undef = v := by
      simp only [Array.getElem?_toList] at hv
      simp [hv]
    rw [hv'] at this
    exact this⟩
  refine ⟨c2, ⟨q3, q4, fun id hid => ?_, r1.defers, by simpa [LS.re] using hd.1, fun s => ?_⟩, t1.trans q5, q1.trans w1⟩
  · rw [q2] at hid
    have := r1.K id hid
    have h2 : S0.nx ≤ L.nx := by simpa using hok.2
    show id < L.nx
    omega
  · rcases Nat.lt_or_ge s (L.sp.vs S0.tmps).length with hlt | hge
    · have hlt2 : s < a.tmps.size := by have := hd.1; simp at this; omega
      exact hd.2 s _ (a.tmps.getD s Go.undef) (lget_lt hlt) (by simp [hlt2])
    · have : lget (L.sp.vs S0.tmps) s = .undef := by simp [lget, hge]
      show Den c2 (lget (L.sp.vs S0.tmps) s) _
      rw [this]
      exact .und _
theorem LS.run_ok {base : Nat} {L : LS} (hL : L.sp.Ok) {S : St} {k : St → Option R} (h : L.run base S k = some r) :
    ∃ S0, k S0 = some r ∧ ∀ {dfs : List Deferred} (c0 c : Cx) (a : Act), (∀ id, c0.K id → id < base) → Rel dfs c S a → Trans c0 c → ∃ c', Rel dfs c' S0 a ∧ Trans c0 c' ∧ c'.w = c.w := by
  obtain ⟨S0, h1, h2⟩ := LS.raw_ok hL h
  exact ⟨_, h1, h2⟩
def xfind : List (Option Nat × LS) → Option Nat → Option LS
  | [], _ => Option.none
  | (i, l) :: xs, j => bif i == j then some l else xfind xs j
def exitK (base : Nat) (xs : List (Option Nat × LS)) (e : Exit) (S : St) (k : Exit → St → Option R) : Option R :=
  match e with
  | .exit j => (match xfind xs (some j) with | some L => L.run base S (k (.exit j)) | Option.none => Option.none)
  | .ret => (match xfind xs Option.none with | some L => L.run base S (k .ret) | Option.none => Option.none)
  | _ => Option.none
structure LoopSp where
  head : LS
  exits : List (Option Nat × LS)
structure LoopSp.Ok (L : LoopSp) : Prop where
  head : L.head.sp.Ok
  exits : ∀ p ∈ L.exits, p.2.sp.Ok
theorem xfind_mem {xs : List (Option Nat × LS)} {j : Option Nat} {L : LS} (h : xfind xs j = some L) : ∃ p ∈ xs, p.2 = L := by
  induction xs with
  | nil => cases h
  | cons p xs ih =>
    obtain ⟨i, l⟩ := p
    simp only [xfind] at h
    cases hb : i == j <;> rw [hb] at h <;> simp only [cond_true, cond_false] at h
    · obtain ⟨p, h1, h2⟩ := ih h
      exact ⟨p, by simp [h1], h2⟩
    · injection h with h
      exact ⟨(i, l), by simp, h⟩
theorem exitK_ok {base : Nat} {xs : List (Option Nat × LS)} (hxs : ∀ p ∈ xs, p.2.sp.Ok) {e : Exit} {S : St} {k : Exit → St → Option R} (h : exitK base xs e S k = some r) :
    ∃ S0, k e S0 = some r ∧ ∀ {dfs : List Deferred} (c0 c : Cx) (a : Act), (∀ id, c0.K id → id < base) → Rel dfs c S a → Trans c0 c → ∃ c', Rel dfs c' S0 a ∧ Trans c0 c' ∧ c'.w = c.w := by
  cases e <;> simp only [exitK, reduceCtorEq] at h
  · rename_i j
    cases hx : xfind xs (some j) <;> rw [hx] at h <;> simp only [reduceCtorEq] at h
    obtain ⟨p, h1, rfl⟩ := xfind_mem hx
    exact LS.run_ok (hxs p h1) h
  · cases hx : xfind xs Option.none <;> rw [hx] at h <;> simp only [reduceCtorEq] at h
    obtain ⟨p, h1, rfl⟩ := xfind_mem hx
    exact LS.run_ok (hxs p h1) h
theorem xNil : ∀ p ∈ ([] : List (Option Nat × LS)), p.2.sp.Ok := fun _ h => by cases h
theorem xCons {i : Option Nat} {L : LS} {l : List (Option Nat × LS)} (h : L.sp.Ok) (t : ∀ p ∈ l, p.2.sp.Ok) : ∀ p ∈ (i, L) :: l, p.2.sp.Ok := fun p hp => by
  rcases List.mem_cons.1 hp with rfl | hp
  · exact h
  · exact t p hp
abbrev Jn (R : Type) := Code → Option (St → (Exit → St → Option R) → Option R)
def noJn : Jn R := fun _ => Option.none
def codeJ (Θ : Tys) (cal : Cal R) (lp : Lp R) (jn : Jn R) : Code → St → (Exit → St → Option R) → Option R
  | .skip, S, k => k .normal S
  | .region _ ops draw, S, k => rowsF S.tab S.nx fun t nx => opsF Θ cal ops.toList ops.toList ⟨S.tmps, t, nx⟩ [] fun S' infos => bif draw then (bif indep ops.toList infos.reverse then k .normal S' else Option.none) else k .normal S'
  | .seq a b, S, k => codeJ Θ cal lp jn a S fun e S' => match e with | .normal => (match jn b with | some j => j S' k | Option.none => codeJ Θ cal lp jn b S' k) | e => k e S'
  | .cond c a b, S, k => (match ev Θ 0 (lget S.tmps) c with
    | .bool x => bif x then refineF S c true fun S' => codeJ Θ cal lp jn a S' k else refineF S c false fun S' => codeJ Θ cal lp jn b S' k
    | _ => Option.none)
  | .block id body, S, k => codeJ Θ cal lp jn body S fun e S' => match e with | .exit j => (bif j == id then k .normal S' else k (.exit j) S') | e => k e S'
  | .loop body, S, k => lp body S k
  | .exit id, S, k => k (.exit id) S
  | .label _, S, k => k .normal S
  | .ret, S, k => k .ret S
  | _, _, _ => Option.none
def allLoops : Code → List Code
  | .seq a b => allLoops a ++ allLoops b
  | .cond _ a b => allLoops a ++ allLoops b
  | .block _ a => allLoops a
  | .loop a => a :: allLoops a
  | _ => []
def allJoins (fl : Code → Bool) : Code → List Code
  | .seq a b => allJoins fl a ++ ((bif fl b then [b] else []) ++ allJoins fl b)
  | .cond _ a b => allJoins fl a ++ allJoins fl b
  | .block _ a => allJoins fl a
  | .loop a => allJoins fl a
  | _ => []
def isJn (jn : Jn R) (b : Code) : Bool := match jn b with | some _ => true | Option.none => false
def LpOn (P : Program) (base : Nat) (G : Code → Prop) (lp : Lp R) : Prop :=
  ∀ body S k r, G body → codeOk body = true → lp body S k = some r → ∃ e S', k e S' = some r ∧ CodeSem P base (.loop body) S e S'
def JnOn (P : Program) (base : Nat) (G : Code → Prop) (jn : Jn R) : Prop :=
  ∀ b j S k r, G b → codeOk b = true → jn b = some j → j S k = some r → ∃ e S', k e S' = some r ∧ CodeSem P base b S e S'
theorem codeJ_ok {P : Program} {Θ : Tys} {cal : Cal R} (hty : tyOk P Θ = true) (hm : P.follows .mixedOrders = true) (hcal : CalOk P cal) {base : Nat} {lp : Lp R} {Gl : Code → Prop} (hlp : LpOn P base Gl lp) {jn : Jn R} {Gj : Code → Prop} (hjn : JnOn P base Gj jn) : ∀ (code : Code) (S : St) (k : Exit → St → Option R), codeOk code = true → (∀ b ∈ allLoops code, Gl b) → (∀ b ∈ allJoins (isJn jn) code, Gj b) → codeJ Θ cal lp jn code S k = some r →
    ∃ e S', k e S' = some r ∧ CodeSem P base code S e S' := by
  have hno : LpOk P base (fun _ _ _ => Option.none : Lp R) := fun _ _ _ _ _ h => by cases h
  intro code
  induction code with
  | skip =>
    intro S k _ _ _ h
    exact ⟨_, _, h, fun c0 c a Q _ hr ht hq => wpA_skip (hq c a hr ht)⟩
  | region id ops draw =>
    intro S k hok _ _ h
    refine code_ok hty hm hcal hno (.region id ops draw) S k hok ?_
    rw [← codeF_eq]
    exact h
  | seq x y ihx ihy =>
    intro S k hok hl hj h
    simp only [codeOk, Bool.and_eq_true] at hok
    simp only [codeJ] at h
    obtain ⟨e, S1, h1, p1⟩ := ihx S _ hok.1 (fun b hb => hl b (by simp [allLoops, hb])) (fun b hb => hj b (by simp [allJoins, hb])) h
    have oth : ∀ e, e ≠ .normal → k e S1 = some r → CodeSem P base x S e S1 → ∃ e S', k e S' = some r ∧ CodeSem P base (.seq x y) S e S' := by
      intro e hne h1 p1
      refine ⟨e, S1, h1, fun c0 c a Q hK hr ht hq => wpA_seq (p1 c0 c a _ hK hr ht fun c' a' hr' ht' => ?_)⟩
      cases e with
      | normal => exact absurd rfl hne
      | _ => exact hq c' a' hr' ht'
    cases e with
    | normal =>
      have hy : ∃ e S', k e S' = some r ∧ CodeSem P base y S1 e S' := by
        simp only at h1
        cases hjy : jn y with
        | none =>
          rw [hjy] at h1
          exact ihy S1 k hok.2 (fun b hb => hl b (by simp [allLoops, hb])) (fun b hb => hj b (by simp [allJoins, hb])) h1
        | some j =>
          rw [hjy] at h1
          exact hjn y j S1 k r (hj y (by simp [allJoins, isJn, hjy])) hok.2 hjy h1
      obtain ⟨e2, S2, h2, p2⟩ := hy
      exact ⟨e2, S2, h2, fun c0 c a Q hK hr ht hq => wpA_seq (p1 c0 c a _ hK hr ht fun c' a' hr' ht' => p2 c0 c' a' Q hK hr' ht' hq)⟩
    | exit j => exact oth _ (by simp) h1 p1
    | goto j => exact oth _ (by simp) h1 p1
    | ret => exact oth _ (by simp) h1 p1
    | panic ch => exact oth _ (by simp) h1 p1
    | outgrown => exact oth _ (by simp) h1 p1
  | cond x y z ihy ihz =>
    intro S k hok hl hj h
    simp only [codeOk, Bool.and_eq_true] at hok
    simp only [codeJ] at h
    cases hb : ev Θ 0 (lget S.tmps) x <;> rw [hb] at h <;> simp only [reduceCtorEq] at h
    rename_i b
    have hev : ∀ {dfs : List Deferred} (c : Cx) (a : Act), Rel dfs c S a → a.eval x = .bool b := fun c a hr => by
      have := ev_den (Θ := Θ) (t := 0) (c := c) (a := a) (sv := lget S.tmps) x hr.ho.gls fun s _ => hr.sl s
      rw [hb] at this
      exact this.bool_inv
    cases b with
    | true =>
      simp only [cond_true, refineF_eq] at h
      rw [refine_eq hb] at h
      obtain ⟨e, S1, h1, p1⟩ := ihy S k hok.1 (fun b hb => hl b (by simp [allLoops, hb])) (fun b hb => hj b (by simp [allJoins, hb])) h
      exact ⟨e, S1, h1, fun c0 c a Q hK hr ht hq => wpA_cond (t := true) (hev c a hr) (p1 c0 c a Q hK hr ht hq)⟩
    | false =>
      simp only [cond_false, refineF_eq] at h
      rw [refine_eq hb] at h
      obtain ⟨e, S1, h1, p1⟩ := ihz S k hok.2 (fun b hb => hl b (by simp [allLoops, hb])) (fun b hb => hj b (by simp [allJoins, hb])) h
      exact ⟨e, S1, h1, fun c0 c a Q hK hr ht hq => wpA_cond (t := false) (hev c a hr) (p1 c0 c a Q hK hr ht hq)⟩
  | block id x ih =>
    intro S k hok hl hj h
    simp only [codeJ] at h
    obtain ⟨e, S1, h1, p1⟩ := ih S _ hok (fun b hb => hl b (by simpa [allLoops] using hb)) (fun b hb => hj b (by simpa [allJoins] using hb)) h
    cases e with
    | exit j =>
      simp only at h1
      cases hj : j == id <;> rw [hj] at h1 <;> simp only [cond_true, cond_false] at h1
      · have hj : ¬ j = id := by simpa using hj
        exact ⟨_, S1, h1, fun c0 c a Q hK hr ht hq => wpA_block (p1 c0 c a _ hK hr ht fun c' a' hr' ht' => by simp only [Exit.inBlock, if_neg hj]; exact hq c' a' hr' ht')⟩
      · have hj : j = id := by simpa using hj
        exact ⟨_, S1, h1, fun c0 c a Q hK hr ht hq => wpA_block (p1 c0 c a _ hK hr ht fun c' a' hr' ht' => by simp only [Exit.inBlock, if_pos hj]; exact hq c' a' hr' ht')⟩
    | normal => exact ⟨_, S1, h1, fun c0 c a Q hK hr ht hq => wpA_block (p1 c0 c a _ hK hr ht fun c' a' hr' ht' => hq c' a' hr' ht')⟩
    | goto j => exact ⟨_, S1, h1, fun c0 c a Q hK hr ht hq => wpA_block (p1 c0 c a _ hK hr ht fun c' a' hr' ht' => hq c' a' hr' ht')⟩
    | ret => exact ⟨_, S1, h1, fun c0 c a Q hK hr ht hq => wpA_block (p1 c0 c a _ hK hr ht fun c' a' hr' ht' => hq c' a' hr' ht')⟩
    | panic ch => exact ⟨_, S1, h1, fun c0 c a Q hK hr ht hq => wpA_block (p1 c0 c a _ hK hr ht fun c' a' hr' ht' => hq c' a' hr' ht')⟩
    | outgrown => exact ⟨_, S1, h1, fun c0 c a Q hK hr ht hq => wpA_block (p1 c0 c a _ hK hr ht fun c' a' hr' ht' => hq c' a' hr' ht')⟩
  | loop x ih =>
    intro S k hok hl _ h
    exact hlp x S k r (hl x (by simp [allLoops])) hok h
  | exit id =>
    intro S k _ _ _ h
    exact ⟨_, _, h, fun c0 c a Q _ hr ht hq => wpA_exit (hq c a hr ht)⟩
  | label l =>
    intro S k _ _ _ h
    exact ⟨_, _, h, fun c0 c a Q _ hr ht hq => wpA_label (hq c a hr ht)⟩
  | ret =>
    intro S k _ _ _ h
    exact ⟨_, _, h, fun c0 c a Q _ hr ht hq => wpA_ret (hq c a hr ht)⟩
  | goto l => intro S k _ _ _ h; simp [codeJ] at h
  | scope x ih => intro S k _ _ _ h; simp [codeJ] at h
  | rangeFunc f ps x y ih1 ih2 => intro S k _ _ _ h; simp [codeJ] at h
  | refuse why => intro S k _ _ _ h; simp [codeJ] at h
def loopM (Θ : Tys) (cal : Cal R) (lp : Lp R) (jn : Jn R) (base : Nat) (L : LoopSp) (body : Code) : Nat → St → (Exit → St → Option R) → Option R
  | 0, _, _ => Option.none
  | n + 1, S, k => codeJ Θ cal lp jn body S fun e S' => match e with
      | .normal => L.head.run base S' fun S0 => loopM Θ cal lp jn base L body n S0 k
      | e => exitK base L.exits e S' k
theorem loopM_ok {P : Program} {Θ : Tys} {cal : Cal R} (hty : tyOk P Θ = true) (hm : P.follows .mixedOrders = true) (hcal : CalOk P cal) {base : Nat} {lp : Lp R} {G : Code → Prop} (hlp : LpOn P base G lp) {jn : Jn R} {Gj : Code → Prop} (hjn : JnOn P base Gj jn) {L : LoopSp} (hL : L.Ok) {body : Code} (hok : codeOk body = true) (hG : ∀ b ∈ allLoops body, G b) (hGj : ∀ b ∈ allJoins (isJn jn) body, Gj b) :
    ∀ (n : Nat) (S : St) (k : Exit → St → Option R), loopM Θ cal lp jn base L body n S k = some r → ∃ e S', k e S' = some r ∧ RoundSem P base n body S e S' := by
  intro n
  induction n with
  | zero => intro S k h; cases h
  | succ n ih =>
    intro S k h
    simp only [loopM] at h
    obtain ⟨e, S1, h1, p1⟩ := codeJ_ok hty hm hcal hlp hjn body S _ hok hG hGj h
    have key : ∀ e, (e ≠ .normal) → exitK base L.exits e S1 k = some r → CodeSem P base body S e S1 → ∃ e S', k e S' = some r ∧ RoundSem P base (n + 1) body S e S' := by
      intro e hne he p1
      obtain ⟨S2, h2, p2⟩ := exitK_ok hL.exits he
      refine ⟨e, S2, h2, fun c0 c a Q hK hr ht hq => ?_⟩
      refine roundsA_succ ?_
      refine p1 c0 c a _ hK hr ht fun c' a' hr' ht' => ?_
      obtain ⟨c3, r3, t3, w3⟩ := p2 c0 c' a' hK hr' ht'
      have := hq c3 a' r3 t3
      rw [w3] at this
      cases e with
      | normal => exact absurd rfl hne
      | _ => exact this
    cases e with
    | normal =>
      obtain ⟨S2, h2, p2⟩ := LS.run_ok hL.head h1
      obtain ⟨e3, S3, h3, p3⟩ := ih S2 k h2
      refine ⟨e3, S3, h3, fun c0 c a Q hK hr ht hq => ?_⟩
      refine roundsA_succ ?_
      refine p1 c0 c a _ hK hr ht fun c' a' hr' ht' => ?_
      obtain ⟨c3, r3, t3, w3⟩ := p2 c0 c' a' hK hr' ht'
      have := p3 c0 c3 a' Q hK r3 t3 hq
      rw [w3] at this
      exact this
    | exit j => exact key _ (by simp) h1 p1
    | goto j => exact key _ (by simp) h1 p1
    | ret => exact key _ (by simp) h1 p1
    | panic ch => exact key _ (by simp) h1 p1
    | outgrown => exact key _ (by simp) h1 p1
def exitJ (base : Nat) (xs : List (Option Nat × LS)) (e : Exit) (S : St) (k : Exit → St → Option R) : Option R :=
  match e with
  | .normal => (match xfind xs (some 1000000) with | some L => L.run base S (k .normal) | Option.none => Option.none)
  | e => exitK base xs e S k
theorem exitJ_ok {base : Nat} {xs : List (Option Nat × LS)} (hxs : ∀ p ∈ xs, p.2.sp.Ok) {e : Exit} {S : St} {k : Exit → St → Option R} (h : exitJ base xs e S k = some r) :
    ∃ S0, k e S0 = some r ∧ ∀ {dfs : List Deferred} (c0 c : Cx) (a : Act), (∀ id, c0.K id → id < base) → Rel dfs c S a → Trans c0 c → ∃ c', Rel dfs c' S0 a ∧ Trans c0 c' ∧ c'.w = c.w := by
  cases e with
  | normal =>
    simp only [exitJ] at h
    cases hx : xfind xs (some 1000000) <;> rw [hx] at h <;> simp only [reduceCtorEq] at h
    obtain ⟨p, h1, rfl⟩ := xfind_mem hx
    exact LS.run_ok (hxs p h1) h
  | _ => exact exitK_ok hxs h
def joinM (Θ : Tys) (cal : Cal R) (lp : Lp R) (jn : Jn R) (base : Nat) (L : LoopSp) (b : Code) (S : St) (k : Exit → St → Option R) : Option R :=
  codeJ Θ cal lp jn b S fun e S' => exitJ base L.exits e S' k
def LpKey (E : Env) (f : FuncId) (base : Nat) (lp : Lp R) (key : Nat) : Prop := LpOn E.P base (fun b => b = bodyAt E f key) lp
theorem lpOn_keys {E : Env} {f : FuncId} {base : Nat} {lp : Lp R} {keys : List Nat} (h : ∀ key ∈ keys, LpKey E f base lp key) : LpOn E.P base (fun b => b ∈ keys.map (bodyAt E f)) lp := by
  intro body S k r hG hok hr
  obtain ⟨key, h1, h2⟩ := List.mem_map.1 hG
  exact h key h1 body S k r h2.symm hok hr
theorem kNil {E : Env} {f : FuncId} {base : Nat} {lp : Lp R} : ∀ key ∈ ([] : List Nat), LpKey E f base lp key := fun _ h => by cases h
theorem kCons {E : Env} {f : FuncId} {base : Nat} {lp : Lp R} {key : Nat} {l : List Nat} (h : LpKey E f base lp key) (t : ∀ key ∈ l, LpKey E f base lp key) : ∀ k ∈ key :: l, LpKey E f base lp k := fun k hk => by
  rcases List.mem_cons.1 hk with rfl | hk
  · exact h
  · exact t k hk
theorem lpKey_none {E : Env} {f : FuncId} {base : Nat} {lp : Lp R} {key : Nat} (h : ∀ S k, lp (bodyAt E f key) S k = Option.none) : LpKey E f base lp key := by
  intro body S k r hb _ hr
  subst hb
  rw [h] at hr
  cases hr
def szOf : Code → Nat
  | .seq a b => szOf a + szOf b + 1
  | .cond _ a b => szOf a + szOf b + 1
  | .block _ a => szOf a + 1
  | .loop a => szOf a + 1
  | _ => 1
def isJ (key sz : Nat) (b : Code) : Bool := (match keyOf b with | some k => k == key | Option.none => false) && szOf b == sz
def findJ (key sz : Nat) : Code → Option Code
  | .seq a b => (match findJ key sz a with | some c => some c | Option.none => bif isJ key sz b then some b else findJ key sz b)
  | .cond _ a b => (match findJ key sz a with | some c => some c | Option.none => findJ key sz b)
  | .block _ a => findJ key sz a
  | .loop a => findJ key sz a
  | .rangeFunc _ _ _ a => findJ key sz a
  | _ => Option.none
def joinAt (E : Env) (f : FuncId) (p : Nat × Nat) : Code := (findJ p.1 p.2 (codeOf E f)).getD .skip
def JnKey (E : Env) (f : FuncId) (base : Nat) (jn : Jn R) (p : Nat × Nat) : Prop := JnOn E.P base (fun b => b = joinAt E f p) jn
theorem jnOn_keys {E : Env} {f : FuncId} {base : Nat} {jn : Jn R} {ps : List (Nat × Nat)} (h : ∀ p ∈ ps, JnKey E f base jn p) : JnOn E.P base (fun b => b ∈ ps.map (joinAt E f)) jn := by
  intro b j S k r hG hok hj hr
  obtain ⟨p, h1, h2⟩ := List.mem_map.1 hG
  exact h p h1 b j S k r h2.symm hok hj hr
theorem jNil {E : Env} {f : FuncId} {base : Nat} {jn : Jn R} : ∀ p ∈ ([] : List (Nat × Nat)), JnKey E f base jn p := fun _ h => by cases h
theorem jCons {E : Env} {f : FuncId} {base : Nat} {jn : Jn R} {p : Nat × Nat} {l : List (Nat × Nat)} (h : JnKey E f base jn p) (t : ∀ p ∈ l, JnKey E f base jn p) : ∀ q ∈ p :: l, JnKey E f base jn q := fun q hq => by
  rcases List.mem_cons.1 hq with rfl | hq
  · exact h
  · exact t q hq
theorem lpKey_of {E : Env} (hE : EnvOk E) {cal : Cal R} (hcal : CalOk E.P cal) {f : FuncId} {base : Nat} {lp : Lp R} {jn : Jn R} {key : Nat} {L : LoopSp} (hL : L.Ok) (inner : List Nat) (hin : ∀ key ∈ inner, LpKey E f base lp key)
    (hloops : allLoops (bodyAt E f key) = inner.map (bodyAt E f)) (injs : List (Nat × Nat)) (hinj : ∀ p ∈ injs, JnKey E f base jn p) (hjoins : allJoins (isJn jn) (bodyAt E f key) = injs.map (joinAt E f)) (n : Nat) {lp' : Lp R}
    (heq : ∀ S k, lp' (bodyAt E f key) S k = L.head.raw base S fun S0 => loopM E.Θ cal lp jn base L (bodyAt E f key) n (L.head.re S0) k) : LpKey E f base lp' key := by
  intro body S k r hb hok h
  subst hb
  rw [heq] at h
  obtain ⟨S0, h1, p1⟩ := LS.raw_ok hL.head h
  obtain ⟨e, S2, h2, p2⟩ := loopM_ok hE.ty hE.mixed hcal (lpOn_keys hin) (jnOn_keys hinj) hL hok (fun b hb => by rw [hloops] at hb; exact hb) (fun b hb => by rw [hjoins] at hb; exact hb) n _ _ h1
  refine ⟨e, S2, h2, fun c0 c a Q hK hr ht hq => ?_⟩
  obtain ⟨c3, r3, t3, w3⟩ := p1 c0 c a hK hr ht
  have := wpA_loop_rounds n (p2 c0 c3 a Q hK r3 t3 hq)
  rw [w3] at this
  exact this
theorem jnKey_of {E : Env} (hE : EnvOk E) {cal : Cal R} (hcal : CalOk E.P cal) {f : FuncId} {base : Nat} {lp : Lp R} {jn : Jn R} {p : Nat × Nat} {L : LoopSp} (hL : L.Ok) (inner : List Nat) (hin : ∀ key ∈ inner, LpKey E f base lp key)
    (hloops : allLoops (joinAt E f p) = inner.map (bodyAt E f)) (injs : List (Nat × Nat)) (hinj : ∀ p ∈ injs, JnKey E f base jn p) (hjoins : allJoins (isJn jn) (joinAt E f p) = injs.map (joinAt E f)) (g : St → (Exit → St → Option R) → Option R)
    (hg : jn (joinAt E f p) = some g) (heq : ∀ S k, g S k = L.head.raw base S fun S0 => joinM E.Θ cal lp jn base L (joinAt E f p) (L.head.re S0) k) : JnKey E f base jn p := by
  intro b j S k r hb hok hj h
  subst hb
  rw [hg] at hj
  injection hj with hj
  subst hj
  rw [heq] at h
  obtain ⟨S0, h1, p1⟩ := LS.raw_ok hL.head h
  unfold joinM at h1
  obtain ⟨e, S1, h2, p2⟩ := codeJ_ok hE.ty hE.mixed hcal (lpOn_keys hin) (jnOn_keys hinj) _ _ _ hok (fun b hb => by rw [hloops] at hb; exact hb) (fun b hb => by rw [hjoins] at hb; exact hb) h1
  obtain ⟨S2, h3, p3⟩ := exitJ_ok hL.exits h2
  refine ⟨e, S2, h3, fun c0 c a Q hK hr ht hq => ?_⟩
  obtain ⟨c3, r3, t3, w3⟩ := p1 c0 c a hK hr ht
  rw [← w3]
  refine p2 c0 c3 a _ hK r3 t3 fun c' a' hr' ht' => ?_
  obtain ⟨c4, r4, t4, w4⟩ := p3 c0 c' a' hK hr' ht'
  have := hq c4 a' r4 t4
  rw [w4] at this
  exact this
theorem jnKey_hand {E : Env} {f : FuncId} {base : Nat} {jn : Jn R} {p : Nat × Nat} {L : LS} (hL : L.sp.Ok) (g : St → (Exit → St → Option R) → Option R) (hg : jn (joinAt E f p) = some g) (go : St → (Exit → St → Option R) → Option R)
    (heq : ∀ S k, g S k = L.raw base S fun S0 => go S0 k) (hgo : ∀ S0 k r, go S0 k = some r → ∃ e S', k e S' = some r ∧ CodeSem E.P base (joinAt E f p) (L.re S0) e S') : JnKey E f base jn p := by
  intro b j S k r hb _ hj h
  subst hb
  rw [hg] at hj
  injection hj with hj
  subst hj
  rw [heq] at h
  obtain ⟨S0, h1, p1⟩ := LS.raw_ok hL h
  obtain ⟨e, S', h2, p2⟩ := hgo S0 k r h1
  refine ⟨e, S', h2, fun c0 c a Q hK hr ht hq => ?_⟩
  obtain ⟨c3, r3, t3, w3⟩ := p1 c0 c a hK hr ht
  rw [← w3]
  exact p2 c0 c3 a Q hK r3 t3 hq
def fnM (E : Env) (cal : Cal R) (lp : Lp R) (jn : Jn R) (f : FuncId) (args : List SV) (T : Tab) (base : Nat) (k : SV × Tab → Option R) : Option R :=
  match E.P.funcs[f]? with
  | some fn => (match fn.body with
    | some body => bif Nat.ble args.length fn.ntmps && Nat.blt f yK then
        f1L (args ++ List.replicate (fn.ntmps - args.length) .undef) fun tmps =>
        codeJ E.Θ cal lp jn body ⟨tmps, T, base⟩ fun e S =>
          (match e with
          | .ret => finF (!(E.nr f), E.bs f) E.Θ base fn.results.toList S k
          | .normal => finF (!(E.nr f), E.bs f) E.Θ base fn.results.toList S k
          | _ => Option.none)
      else Option.none
    | Option.none => Option.none)
  | Option.none => Option.none
theorem fnM_ok {E : Env} (hE : EnvOk E) {cal : Cal R} (hcal : CalOk E.P cal) {f : FuncId} {lp : Lp R} {jn : Jn R} {base : Nat} {keys : List Nat} (hlp : ∀ key ∈ keys, LpKey E f base lp key) (hloops : allLoops (codeOf E f) = keys.map (bodyAt E f))
    {js : List (Nat × Nat)} (hjn : ∀ p ∈ js, JnKey E f base jn p) (hjoins : allJoins (isJn jn) (codeOf E f) = js.map (joinAt E f)) {args : List SV} {T : Tab} {kf : SV × Tab → Option R} (h : fnM E cal lp jn f args T base kf = some r) :
    ∃ res T', FnOk E.P f args T base res T' ∧ kf (res, T') = some r := by
  unfold fnM at h
  simp only [f1L_eq, finF_eq] at h
  cases hf : E.P.funcs[f]? with
  | none => rw [hf] at h; cases h
  | some fn =>
    rw [hf] at h
    simp only at h
    cases hb : fn.body with
    | none => rw [hb] at h; cases h
    | some body =>
      rw [hb] at h
      simp only at h
      have hc : codeOf E f = body := by simp [codeOf, hf, hb]
      rw [hc] at hloops hjoins
      cases hle : (Nat.ble args.length fn.ntmps && Nat.blt f yK) <;> rw [hle] at h <;> simp only [cond_true, cond_false, reduceCtorEq] at h
      have hlt : f < yK := by simp only [Bool.and_eq_true, Nat.blt_eq] at hle; exact hle.2
      have hmem : fn ∈ E.P.funcs.toList := by
        have := Array.mem_of_getElem? hf
        simpa using this
      obtain ⟨e, S', h1, p1⟩ := codeJ_ok hE.ty hE.mixed hcal (lpOn_keys hlp) (jnOn_keys hjn) body _ _ (hE.codes fn hmem body hb) (fun b hb => by rw [hloops] at hb; exact hb) (fun b hb => by rw [hjoins] at hb; exact hb) h
      exact fn_end hE hf hb hlt hmem h1 p1
def resK (sp : Sp) (kf : SV × Tab → Option R) : SV × Tab → Option R := fun p => bif sp.ok [p.1] p.2 then kf (lget (sp.vs [p.1]) 0, sp.tab p.2) else Option.none
theorem resK_ok {P : Program} {f : FuncId} {args : List SV} {T : Tab} {base : Nat} {sp : Sp} (hsp : sp.Ok) {kf : SV × Tab → Option R} (h : ∃ res T', FnOk P f args T base res T' ∧ resK sp kf (res, T') = some r) : ∃ res T', FnOk P f args T base res T' ∧ kf (res, T') = some r := by
  obtain ⟨res, T', h1, h2⟩ := h
  unfold resK at h2
  cases hok : sp.ok [res] T' <;> rw [hok] at h2 <;> simp only [cond_true, cond_false, reduceCtorEq] at h2
  exact ⟨_, _, h1.res hsp hok, h2⟩
def callM (cal : Cal R) (f : FuncId) (base : Nat) (sp : Sp) (m : List SV → Tab → (SV × Tab → Option R) → Option R) : Cal R :=
  ⟨cal.ro, cal.own, fun g args T b kf => bif g == f && b == base && sp.ok args T then m args T kf else cal.run g args T b kf⟩
theorem callM_rec {E : Env} (hE : EnvOk E) {cal cal' : Cal R} (hcal : CalOk E.P cal) (hcal' : CalOk E.P cal') {f : FuncId} {lp : Lp R} {jn : Jn R} {base : Nat} {keys : List Nat} (hlp : ∀ key ∈ keys, LpKey E f base lp key) (hloops : allLoops (codeOf E f) = keys.map (bodyAt E f))
    {js : List (Nat × Nat)} (hjn : ∀ p ∈ js, JnKey E f base jn p) (hjoins : allJoins (isJn jn) (codeOf E f) = js.map (joinAt E f)) {sp rs : Sp} (hsp : sp.Ok) (hrs : rs.Ok) {m : List SV → Tab → (SV × Tab → Option R) → Option R}
    (hm : ∀ args T kf, m args T kf = fnM E cal' lp jn f (sp.vs args) (sp.tab T) base (resK rs kf)) : CalOk E.P (callM cal f base sp m) := by
  intro g args T b kf r h
  simp only [callM] at h
  cases hc : (g == f && b == base && sp.ok args T) <;> rw [hc] at h <;> simp only [cond_true, cond_false] at h
  · exact hcal g args T b kf r h
  · simp only [Bool.and_eq_true, beq_iff_eq] at hc
    obtain ⟨⟨rfl, rfl⟩, hok⟩ := hc
    rw [hm] at h
    obtain ⟨res, T', h1, h2⟩ := resK_ok hrs (fnM_ok hE hcal' hlp hloops hjn hjoins h)
    exact ⟨res, T', .inl (h1.args hsp hok), h2⟩
theorem callM_eq {P : Program} {cal : Cal R} {f : FuncId} {base : Nat} {sp : Sp} {m m' : List SV → Tab → (SV × Tab → Option R) → Option R} (h : ∀ args T kf, m args T kf = m' args T kf) (hok : CalOk P (callM cal f base sp m')) : CalOk P (callM cal f base sp m) := by
  have : m = m' := funext fun a => funext fun T => funext fun k => h a T k
  rw [this]; exact hok
theorem callM_none {P : Program} {cal : Cal R} (hcal : CalOk P cal) {f : FuncId} {base : Nat} {sp : Sp} {m : List SV → Tab → (SV × Tab → Option R) → Option R} (hm : ∀ args T kf, m args T kf = Option.none) : CalOk P (callM cal f base sp m) := by
  intro g args T b kf r h
  simp only [callM] at h
  cases hc : (g == f && b == base && sp.ok args T) <;> rw [hc] at h <;> simp only [cond_true, cond_false] at h
  · exact hcal g args T b kf r h
  · rw [hm] at h; cases h
theorem callM_ok {E : Env} (hE : EnvOk E) {cal : Cal R} (hcal : CalOk E.P cal) {f : FuncId} {lp : Lp R} {jn : Jn R} {base : Nat} {keys : List Nat} (hlp : ∀ key ∈ keys, LpKey E f base lp key) (hloops : allLoops (codeOf E f) = keys.map (bodyAt E f))
    {js : List (Nat × Nat)} (hjn : ∀ p ∈ js, JnKey E f base jn p) (hjoins : allJoins (isJn jn) (codeOf E f) = js.map (joinAt E f)) {sp rs : Sp} (hsp : sp.Ok) (hrs : rs.Ok) {m : List SV → Tab → (SV × Tab → Option R) → Option R}
    (hm : ∀ args T kf, m args T kf = fnM E cal lp jn f (sp.vs args) (sp.tab T) base (resK rs kf)) : CalOk E.P (callM cal f base sp m) :=
  callM_rec hE hcal hcal hlp hloops hjn hjoins hsp hrs hm
def noCal (E : Env) : Cal R := ⟨E.ro, E.own, fun _ _ _ _ _ => Option.none⟩
theorem noCal_ok (E : Env) : CalOk E.P (noCal (R := R) E) := fun _ _ _ _ _ _ h => by cases h
end
end
end Go.Sx
