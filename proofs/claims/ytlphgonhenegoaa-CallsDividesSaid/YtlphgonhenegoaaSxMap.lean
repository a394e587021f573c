import Derived.Test.YtlphgonhenegoaaSxOps7
namespace Go.Sx
theorem mkV_inj {c : CK} {ag : Bool} (h1 : ag = false → ckLen c = 1) {xs ys : List SV} (hx : keyCells c xs = true) (hy : keyCells c ys = true) (h : mkV ag (xs.map kval) = mkV ag (ys.map kval)) : xs = ys := by
  refine kvals_inj hx hy ?_
  cases ag with
  | true => simpa [mkV] using h
  | false =>
    have l1 := keyCells_len hx
    have l2 := keyCells_len hy
    rw [h1 rfl] at l1 l2
    obtain ⟨a, rfl⟩ := List.length_eq_one_iff.1 l1
    obtain ⟨b, rfl⟩ := List.length_eq_one_iff.1 l2
    simpa [mkV] using h
theorem MapOk.none {k : MK} (h : flatL k.fv = true) : MapOk k noH (noG k.fv) [] where
  own := fun e he => by cases he
  apart := .nil
  get := fun kc hk => by
    obtain ⟨h1, h2⟩ := flat_zeros h
    refine ⟨_, h1, fun j s hs => ?_, .inl ⟨rfl, rfl⟩⟩
    have hj : j < ckLen k.fv := by rw [← keyCells_len h1]; exact (List.getElem?_eq_some_iff.1 hs).1
    rw [h2 j hj] at hs
    injection hs
theorem MapOk.one {k : MK} {hs : List SV → Bool} {gt : List SV → Nat → SV} {es : List MapEntry} (h : MapOk k hs gt es) {e e' : MapEntry} (he : e ∈ es) (he' : e' ∈ es) (hk : e.key = e'.key) : e = e' := by
  have := h.apart
  clear h
  induction es with
  | nil => cases he
  | cons a l ih =>
    obtain ⟨h1, h2⟩ := List.pairwise_cons.1 this
    rcases List.mem_cons.1 he with rfl | he1 <;> rcases List.mem_cons.1 he' with rfl | he1'
    · rfl
    · exact absurd hk (h1 _ he1')
    · exact absurd hk.symm (h1 _ he1)
    · exact ih he1 he1' h2
theorem MapOk.put {k : MK} {hs : List SV → Bool} {gt : List SV → Nat → SV} {es es' : List MapEntry} (h : MapOk k hs gt es) (h1 : k.ka = false → ckLen k.fk = 1) {xs vs : List SV} (hx : keyCells k.fk xs = true) (hv : keyCells k.fv vs = true)
    (hin : ∀ e ∈ es', e ∈ es ∨ e.key = mkV k.ka (xs.map kval)) (hap : es'.Pairwise (fun a b => a.key ≠ b.key)) (hold : ∀ e ∈ es, e.key ≠ mkV k.ka (xs.map kval) → e ∈ es')
    (hnew : ∃ e ∈ es', e.key = mkV k.ka (xs.map kval) ∧ e.val = mkV k.va (vs.map kval)) : MapOk k (putH xs hs) (putG xs vs gt) es' where
  own := fun e he => by
    rcases hin e he with h2 | h2
    · obtain ⟨kc, q1, q2, q3⟩ := h.own e h2
      exact ⟨kc, q1, q2, by simp [putH, q3]⟩
    · exact ⟨xs, hx, h2, by simp [putH, (keyEq_iff hx hx).2 rfl]⟩
  apart := hap
  get := fun kc hk => by
    by_cases he : kc = xs
    · subst he
      have hb := (keyEq_iff hk hk).2 rfl
      obtain ⟨e, q1, q2, q3⟩ := hnew
      exact ⟨vs, hv, fun j s hs => by simp [putG, hb, lget_some hs], .inr ⟨by simp [putH, hb], e, q1, q2, q3⟩⟩
    · have hb : keyEq kc xs = false := by
        cases hb : keyEq kc xs with
        | false => rfl
        | true => exact absurd ((keyEq_iff hk hx).1 hb) he
      obtain ⟨vc, q1, q2, q3⟩ := h.get kc hk
      refine ⟨vc, q1, fun j s hs => by simp [putG, hb, q2 j s hs], ?_⟩
      rcases q3 with ⟨a1, a2⟩ | ⟨a1, e, a2, a3, a4⟩
      · exact .inl ⟨by simp [putH, hb, a1], a2⟩
      · refine .inr ⟨by simp [putH, a1], e, hold e a2 fun hke => he ?_, a3, a4⟩
        exact mkV_inj h1 hk hx (a3.symm.trans hke)
theorem Mem.setObj {c : Cx} {id : Nat} {e : Ent} (he : c.en id = some e) (hh : has e = true) (o : Obj) : Mem c (fun k => k = c.b id) { c.w with heap := c.w.heap.setIfInBounds (c.b id) o } :=
  ⟨rfl, rfl, rfl, by simp, fun k _ ht => by
    have : c.b id ≠ k := fun h => ht h.symm
    simp [this], fun k hk => ⟨id, e, he, hk ▸ ow_b hh⟩⟩
section
variable {P : Program} {Θ : Tys} {R : Type} {sv : Nat → SV} {en : Nat → Option Ent} {nx : Nat} {r : R} {kf : Delta → Option R} {o : Oper}
theorem planM_ok (hty : tyOk P Θ = true) (h : planM Θ o sv en nx kf = some r) : ∃ δ, kf δ = some r ∧ Local P o sv en nx δ := by
  cases h
end
end Go.Sx
