import Derived.Test.YtlphgonhenegoaaSxM
import Derived.Test.YtlphgonhenegoaaSxArith
namespace Go.Sx
noncomputable section
def i64 (n : Int) : Prop := -9223372036854775808 ≤ n ∧ n < 9223372036854775808
theorem rng_i64 {f : Nat → SV} {j : Nat} (h : rng (.int .i64) f j) : i64 (toI (f j)) := by
  obtain ⟨n, h1, h2⟩ := h
  rw [h1]
  exact wf_i64 h2
theorem rng_sl {α : Type} {C : Cod α} {P : α → Prop} (hP : ∀ g, rng C.sg g 0 → P (C.dec g)) {f : Nat → SV} {j : Nat} (h : rng (.sl C.sg) f j) : (lstC C (f j)).n ≤ maxLen ∧ ∀ i, i < (lstC C (f j)).n → P ((lstC C (f j)).f i) := by
  obtain ⟨n, cell, h1, h2, h3⟩ := h
  rw [h1]
  exact ⟨h2, fun i hi => hP _ (h3 i hi)⟩
theorem arg_int {ti : TI} {z : Int} (hd : isAgg ti.d = false) (hz : ti.zero = [.int .i64 z]) {f : Nat → SV} (h : rng (ckL ti.zero) f 0) : (rInt .i64).ok (argOf ti f) = true ∧ i64 (toI (argOf ti f)) := by
  rw [hz] at h
  have e : argOf ti f = f 0 := by simp only [argOf, hd, cond_false]
  rw [e]
  obtain ⟨⟨n, h1, h2⟩, _⟩ := h
  rw [h1]
  exact ⟨by simp [rInt, ckOk], wf_i64 h2⟩
def okK : SV × Tab → Option Unit := fun p => match p.1 with
  | .bool true => some ()
  | _ => Option.none
theorem law_of {P : Program} {cal : Cal Unit} (hcal : CalOk P cal) {f : FuncId} {args : List SV} (h : cal.run f args [] 0 okK = some ()) (hlt : Nat.blt f yK = true := by rfl) : ∃ T', FnOk P f args [] 0 (.bool true) T' := by
  obtain ⟨res, T', h1, h2⟩ := hcal f args [] 0 okK () h
  have h1 := h1.resolve_right fun hy => absurd hy.1 (Nat.not_le_of_lt (by simpa using hlt))
  refine ⟨T', ?_⟩
  unfold okK at h2
  split at h2
  · rename_i h3
    simp only at h3
    rw [h3] at h1
    exact h1
  · cases h2
theorem callM_run {R : Type} {cal : Cal R} {f : FuncId} {base : Nat} {sp : Sp} {m : List SV → Tab → (SV × Tab → Option R) → Option R} {args : List SV} {T : Tab} (h : sp.ok args T = true) (kf : SV × Tab → Option R) : (callM cal f base sp m).run f args T base kf = m args T kf := by
  simp [callM, h]
theorem w64_eq {n : Int} (h1 : -9223372036854775808 ≤ n) (h2 : n < 9223372036854775808) : w64 n = n := w64_id h1 h2
structure Arr.Is {α : Type} (a : Arr α) (n : Nat) (g : Nat → α) : Prop where
  len : a.n = n
  get : ∀ i, i < n → a.f i = g i
theorem Arr.Is.push {α : Type} {C : Cod α} (hC : ∀ x, C.dec (lget (C.enc x)) = x) {a : Arr α} {n : Nat} {g : Nat → α} (h : a.Is n g) {z e : List SV} (he : C.dec (lget e) = g n) :
    (lst C (a.n + 1) (catC a.n (Cod.cell C a.f) (litC z [e]))).Is (n + 1) g where
  len := by simp [lst, h.len]
  get := fun i hi => by
    simp only [lst]
    by_cases hlt : i < n
    · have : (fun j => catC a.n (Cod.cell C a.f) (litC z [e]) i j) = lget (C.enc (a.f i)) := by
        funext j
        have : Nat.blt i a.n = true := by rw [Nat.blt_eq, h.len]; exact hlt
        simp only [catC, this, cond_true, Cod.cell]
      show C.dec (fun j => catC a.n (Cod.cell C a.f) (litC z [e]) i j) = g i
      rw [this, hC, h.get i hlt]
    · have hi : i = n := by omega
      subst hi
      have : (fun j => catC a.n (Cod.cell C a.f) (litC z [e]) i j) = lget e := by
        funext j
        have h1 : Nat.blt i i = false := by
          cases hb : Nat.blt i i
          · rfl
          · rw [Nat.blt_eq] at hb; omega
        simp only [catC, litC, h.len, Nat.sub_self, h1, cond_false]
        rfl
      show C.dec (fun j => catC a.n (Cod.cell C a.f) (litC z [e]) i j) = g i
      rw [this, he]
theorem Arr.Is.push_int {a : Arr Int} {n : Nat} {g : Nat → Int} (h : a.Is n g) {z : List SV} {v : Int} (hv : v = g n) :
    (lst intC (a.n + 1) (catC a.n (Cod.cell intC a.f) (litC z [[.int .i64 v]]))).Is (n + 1) g := h.push (fun _ => rfl) hv
theorem Arr.Is.zero {α : Type} {C : Cod α} {c : Nat → Nat → SV} {g : Nat → α} : (lst C 0 c).Is 0 g := ⟨rfl, fun i hi => by omega⟩
theorem room_of {n : Nat} (h : n ≤ 1073741824) : room n = true := by simpa [room] using h
end
end Go.Sx
