import Derived.Test.YtlikcijophbkbaaSxM
import Derived.Test.YtlikcijophbkbaaSxArith
namespace Go.Sx
noncomputable section
def i64 (n : Int) : Prop := -9223372036854775808 ≤ n ∧ n < 9223372036854775808
theorem rng_i64 {f : Nat → SV} {j : Nat} (h : rng (.int .i64) f j) : i64 (toI (f j)) := by
  obtain ⟨n, h1, h2⟩ := h
  rw [h1]
  exact wf_i64 h2
theorem rng_sl {α : Type} {C : Cod α} {P : α → Prop} (hP : ∀ g, rng C.sg g 0 → P (C.dec g)) {f : Nat → SV} {j : Nat} (h : rng (.sl C.sg) f j) : (lstC C (f j)).n ≤ maxLen ∧ ∀ i, i < (lstC C (f j)).n → P ((lstC C (f j)).f i) := by
  obtain ⟨n, cell, h1, h2, h3⟩ := h
  rw [h1]
  exact ⟨h2, fun i hi => hP _ (h3 i hi)⟩
theorem ckAll_of {c : CK} {f : Nat → SV} {n : Nat} (h : ∀ j, j < n → ckOk (ckAt c j) (f j) = true) : ckAll c f n = true := by
  induction n with
  | zero => rfl
  | succ n ih => simp only [ckAll, h n (by omega), ih (fun j hj => h j (by omega)), Bool.and_self]
def ckGround : CK → Bool
  | .cons (.int _) l => ckGround l
  | .cons .bool l => ckGround l
  | .cons (.sl _) l => ckGround l
  | .nil => true
  | _ => false
theorem rng_ground {c : CK} (hc : ckGround c = true) {f : Nat → SV} {j : Nat} (h : rng c f j) : ∀ i, i < ckLen c → groundOk (f (j + i)) = true ∧ ckOk (ckAt c i) (f (j + i)) = true := by
  induction c generalizing j with
  | cons a l _ ih =>
    obtain ⟨h1, h2⟩ := h
    have hl : ckGround l = true := by cases a <;> simp [ckGround] at hc <;> exact hc
    intro i hi
    cases i with
    | zero =>
      simp only [Nat.add_zero, ckAt]
      cases a <;> simp [ckGround] at hc
      · obtain ⟨n, h3, _⟩ := h1; rw [h3]; exact ⟨rfl, by simp [ckOk]⟩
      · obtain ⟨b, h3⟩ := h1; rw [h3]; exact ⟨rfl, rfl⟩
      · obtain ⟨n, cell, h3, _⟩ := h1; rw [h3]; exact ⟨rfl, by simp [ckOk, ckEq_refl]⟩
    | succ i =>
      have := ih hl h2 i (by simp [ckLen] at hi; omega)
      rw [show j + 1 + i = j + (i + 1) by omega] at this
      exact this
  | nil => intro i hi; simp [ckLen] at hi
  | _ => simp [ckGround] at hc
theorem lget_tabN (f : Nat → SV) (n j : Nat) (hj : j < n) : lget (tabN f 0 n) j = f j := by
  have := tabN_get f 0 n j hj
  simp [lget, this]
theorem arg_agg {α : Type} {C : Cod α} (hC : C.Ok) (hg : ckGround C.sg = true) {ti : TI} (hd : isAgg ti.d = true) (hs : ti.size = C.size) (hz : ckL ti.zero = C.sg) {P : α → Prop} (hP : ∀ g, rng C.sg g 0 → P (C.dec g)) {f : Nat → SV} (h : rng (ckL ti.zero) f 0) :
    (rAgg C).ok (argOf ti f) = true ∧ P (C.dec (lget (toCs (argOf ti f)))) := by
  rw [hz] at h
  have hgr := rng_ground hg h
  rw [hC.slen] at hgr
  simp only [Nat.zero_add] at hgr
  have e : argOf ti f = .agg (tabN f 0 C.size) := by simp only [argOf, hd, hs, cond_true]
  rw [e]
  refine ⟨?_, hP _ (rng_congr (fun i hi => ?_) h)⟩
  · simp only [rAgg, Bool.and_eq_true, beq_iff_eq]
    refine ⟨⟨tabN_len _ _ _, ckAll_of fun j hj => by rw [lget_tabN _ _ _ hj]; exact (hgr j hj).2⟩, List.all_eq_true.2 fun s hs => ?_⟩
    obtain ⟨j, hj, rfl⟩ := List.mem_iff_getElem.1 hs
    rw [tabN_len] at hj
    have := tabN_get f 0 _ _ hj
    rw [List.getElem?_eq_getElem (by rw [tabN_len]; exact hj)] at this
    injection this with this
    rw [this, Nat.zero_add]
    exact (hgr j hj).1
  · have hsp : ckSpan C.sg ≤ C.size := by
      have := span_L ti.zero
      have h2 := len_L ti.zero
      rw [hz] at this h2
      rw [hC.slen] at h2
      omega
    simp only [toCs, Nat.zero_add]
    rw [lget_tabN _ _ _ (by omega)]
def okK : SV × Tab → Option Unit := fun p => match p.1 with
  | .bool true => some ()
  | _ => Option.none
theorem law_of {P : Program} {cal : Cal Unit} (hcal : CalOk P cal) {f : FuncId} {args : List SV} (h : cal.run f args [] 0 okK = some ()) : ∃ T', FnOk P f args [] 0 (.bool true) T' := by
  obtain ⟨res, T', h1, h2⟩ := hcal f args [] 0 okK () h
  refine ⟨T', ?_⟩
  unfold okK at h2
  split at h2
  · rename_i h3
    simp only at h3
    rw [h3] at h1
    exact h1
  · cases h2
theorem callM_run {R : Type} {cal : Cal R} {f : FuncId} {base : Nat} {sp : Sp} {m : List SV → Tab → (SV × Tab → Option R) → Option R} {args : List SV} {T : Tab} (h : sp.ok args T = true) (kf : SV × Tab → Option R) : (callM cal f base sp m).run f args T base kf = m args T kf := by
  simp [callM, h]
theorem w64_eq {n : Int} (h1 : -9223372036854775808 ≤ n) (h2 : n < 9223372036854775808) : w64 n = n := w64_id h1 h2
structure Arr.Is {α : Type} (a : Arr α) (n : Nat) (g : Nat → α) : Prop where
  len : a.n = n
  get : ∀ i, i < n → a.f i = g i
theorem Arr.Is.push {α : Type} {C : Cod α} (hC : ∀ x, C.dec (lget (C.enc x)) = x) {a : Arr α} {n : Nat} {g : Nat → α} (h : a.Is n g) {z e : List SV} (he : C.dec (lget e) = g n) :
    (lst C (a.n + 1) (catC a.n (Cod.cell C a.f) (litC z [e]))).Is (n + 1) g where
  len := by simp [lst, h.len]
  get := fun i hi => by
    simp only [lst]
    by_cases hlt : i < n
    · have : (fun j => catC a.n (Cod.cell C a.f) (litC z [e]) i j) = lget (C.enc (a.f i)) := by
        funext j
        have : Nat.blt i a.n = true := by rw [Nat.blt_eq, h.len]; exact hlt
        simp only [catC, this, cond_true, Cod.cell]
      show C.dec (fun j => catC a.n (Cod.cell C a.f) (litC z [e]) i j) = g i
      rw [this, hC, h.get i hlt]
    · have hi : i = n := by omega
      subst hi
      have : (fun j => catC a.n (Cod.cell C a.f) (litC z [e]) i j) = lget e := by
        funext j
        have h1 : Nat.blt i i = false := by
          cases hb : Nat.blt i i
          · rfl
          · rw [Nat.blt_eq] at hb; omega
        simp only [catC, litC, h.len, Nat.sub_self, h1, cond_false]
        rfl
      show C.dec (fun j => catC a.n (Cod.cell C a.f) (litC z [e]) i j) = g i
      rw [this, he]
theorem Arr.Is.zero {α : Type} {C : Cod α} {c : Nat → Nat → SV} {g : Nat → α} : (lst C 0 c).Is 0 g := ⟨rfl, fun i hi => by omega⟩
theorem room_of {n : Nat} (h : n ≤ 1073741824) : room n = true := by simpa [room] using h
end
end Go.Sx
