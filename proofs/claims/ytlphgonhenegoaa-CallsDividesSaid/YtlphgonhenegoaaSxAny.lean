import Derived.Test.YtlphgonhenegoaaSxReg
namespace Go.Sx
def putF (len : Nat) (sv : Nat → SV) (dst : Option Tmp) (v : SV) : Nat → SV := fun s => if dst = some s ∧ s < len then v else sv s
def svD (D : Nat → Bool) (len : Nat) : List (Oper × Delta) → Nat → (Nat → SV) → Nat → SV
  | [], _, sv => sv
  | (o, δ) :: l, i, sv => svD D len l (i + 1) (if D i then putF len sv o.dst δ.v else sv)
def enD (D : Nat → Bool) : List (Oper × Delta) → Nat → (Nat → Option Ent) → Nat → Option Ent
  | [], _, en => en
  | (_, δ) :: l, i, en => enD D l (i + 1) (if D i then upd en δ.upd else en)
theorem svD_congr {D D' : Nat → Bool} {len : Nat} {s : Nat} : ∀ (l : List (Oper × Delta)) (i : Nat) (sv sv' : Nat → SV), sv s = sv' s →
    (∀ j o δ, l[j]? = some (o, δ) → o.dst = some s → D (i + j) = D' (i + j)) → svD D len l i sv s = svD D' len l i sv' s := by
  intro l
  induction l with
  | nil => intro i sv sv' h _; exact h
  | cons p l ih =>
    obtain ⟨o, δ⟩ := p
    intro i sv sv' h hc
    simp only [svD]
    refine ih (i + 1) _ _ ?_ fun j o' δ' hj hd => by have := hc (j + 1) o' δ' (by simpa using hj) hd; rwa [show i + (j + 1) = i + 1 + j by omega] at this
    by_cases hd : o.dst = some s
    · have := hc 0 o δ rfl hd
      simp only [Nat.add_zero] at this
      rw [this]
      cases D' i <;> simp [putF, hd, h]
    · have e1 : ∀ (sv : Nat → SV) (b : Bool), (if b = true then putF len sv o.dst δ.v else sv) s = sv s := by
        intro sv b
        cases b <;> simp [putF, hd]
      rw [e1, e1]
      exact h
theorem svD_last {D : Nat → Bool} {len : Nat} {s : Nat} : ∀ (l : List (Oper × Delta)) (i k : Nat) (sv : Nat → SV) (o : Oper) (δ : Delta), l[k]? = some (o, δ) → o.dst = some s → s < len → D (i + k) = true →
    (∀ j o' δ', k < j → l[j]? = some (o', δ') → o'.dst = some s → D (i + j) = false) → svD D len l i sv s = δ.v := by
  intro l
  induction l with
  | nil => intro i k sv o δ h; simp at h
  | cons p l ih =>
    obtain ⟨o0, δ0⟩ := p
    intro i k sv o δ h hd hs hD hlast
    cases k with
    | zero =>
      simp at h
      obtain ⟨rfl, rfl⟩ := h
      simp only [svD]
      simp only [Nat.add_zero] at hD
      rw [hD]
      have : svD D len l (i + 1) (putF len sv o0.dst δ0.v) s = svD (fun _ => false) len l (i + 1) (putF len sv o0.dst δ0.v) s := by
        refine svD_congr l (i + 1) _ _ rfl fun j o' δ' hj hd' => ?_
        have := hlast (j + 1) o' δ' (by omega) (by simpa using hj) hd'
        rwa [show i + (j + 1) = i + 1 + j by omega] at this
      simp only [if_true]
      rw [this]
      have key : ∀ (l : List (Oper × Delta)) (i : Nat) (sv : Nat → SV), svD (fun _ => false) len l i sv = sv := by
        intro l
        induction l with
        | nil => intro i sv; rfl
        | cons p l ih => obtain ⟨o, δ⟩ := p; intro i sv; simp only [svD]; exact ih _ _
      rw [key]
      simp [putF, hd, hs]
    | succ k =>
      simp only [svD]
      refine ih (i + 1) k _ o δ (by simpa using h) hd hs (by rwa [show i + 1 + k = i + (k + 1) by omega]) fun j o' δ' hj hl hd' => ?_
      have := hlast (j + 1) o' δ' (by omega) (by simpa using hl) hd'
      rwa [show i + (j + 1) = i + 1 + j by omega] at this
theorem upd_key {en en' : Nat → Option Ent} : ∀ (us : List (Nat × Option Ent)) (id : Nat), id ∈ us.map (·.1) → upd en us id = upd en' us id := by
  intro us
  induction us generalizing en en' with
  | nil => intro id h; simp at h
  | cons p us ih =>
    obtain ⟨i, e⟩ := p
    intro id h
    simp only [upd]
    by_cases h1 : id ∈ us.map (·.1)
    · exact ih id h1
    · simp only [List.map_cons, List.mem_cons] at h
      rcases h with rfl | h
      · rw [upd_miss _ _ _ h1, upd_miss _ _ _ h1]
        simp
      · exact absurd h h1
theorem enD_congr {D D' : Nat → Bool} {id : Nat} : ∀ (l : List (Oper × Delta)) (i : Nat) (en en' : Nat → Option Ent), en id = en' id →
    (∀ j o δ, l[j]? = some (o, δ) → id ∈ δ.upd.map (·.1) → D (i + j) = D' (i + j)) → enD D l i en id = enD D' l i en' id := by
  intro l
  induction l with
  | nil => intro i en en' h _; exact h
  | cons p l ih =>
    obtain ⟨o, δ⟩ := p
    intro i en en' h hc
    simp only [enD]
    refine ih (i + 1) _ _ ?_ fun j o' δ' hj hd => by have := hc (j + 1) o' δ' (by simpa using hj) hd; rwa [show i + (j + 1) = i + 1 + j by omega] at this
    by_cases hd : id ∈ δ.upd.map (·.1)
    · have := hc 0 o δ rfl hd
      simp only [Nat.add_zero] at this
      rw [this]
      cases D' i
      · exact h
      · exact upd_congr _ _ h
    · have e1 : ∀ (en : Nat → Option Ent) (b : Bool), (if b = true then upd en δ.upd else en) id = en id := by
        intro en b
        cases b
        · rfl
        · exact upd_miss _ _ _ hd
      rw [e1, e1]
      exact h
theorem enD_last {D : Nat → Bool} {id : Nat} {en0 : Nat → Option Ent} : ∀ (l : List (Oper × Delta)) (i k : Nat) (en : Nat → Option Ent) (o : Oper) (δ : Delta), l[k]? = some (o, δ) → id ∈ δ.upd.map (·.1) → D (i + k) = true →
    (∀ j o' δ', k < j → l[j]? = some (o', δ') → id ∈ δ'.upd.map (·.1) → D (i + j) = false) → enD D l i en id = upd en0 δ.upd id := by
  intro l
  induction l with
  | nil => intro i k en o δ h; simp at h
  | cons p l ih =>
    obtain ⟨o0, δ0⟩ := p
    intro i k en o δ h hd hD hlast
    cases k with
    | zero =>
      simp at h
      obtain ⟨rfl, rfl⟩ := h
      simp only [enD]
      simp only [Nat.add_zero] at hD
      rw [hD]
      have : enD D l (i + 1) (upd en δ0.upd) id = enD (fun _ => false) l (i + 1) (upd en δ0.upd) id := by
        refine enD_congr l (i + 1) _ _ rfl fun j o' δ' hj hd' => ?_
        have := hlast (j + 1) o' δ' (by omega) (by simpa using hj) hd'
        rwa [show i + (j + 1) = i + 1 + j by omega] at this
      simp only [if_true]
      rw [this]
      have key : ∀ (l : List (Oper × Delta)) (i : Nat) (en : Nat → Option Ent), enD (fun _ => false) l i en = en := by
        intro l
        induction l with
        | nil => intro i en; rfl
        | cons p l ih => obtain ⟨o, δ⟩ := p; intro i en; simp only [enD]; exact ih _ _
      rw [key]
      exact upd_key _ _ hd
    | succ k =>
      simp only [enD]
      refine ih (i + 1) k _ o δ (by simpa using h) hd (by rwa [show i + 1 + k = i + (k + 1) by omega]) fun j o' δ' hj hl hd' => ?_
      have := hlast (j + 1) o' δ' (by omega) (by simpa using hl) hd'
      rwa [show i + (j + 1) = i + 1 + j by omega] at this
def upto (k : Nat) : Nat → Bool := fun j => decide (j < k)
theorem trace_at {P : Program} {all : List Oper} {S' : St} : ∀ (l : List (Oper × Delta)) (i : Nat) (S : St) (sv : Nat → SV) (en : Nat → Option Ent), Trace P all l S S' → (∀ s, lget S.tmps s = sv s) → (∀ id, tget S.tab id = en id) →
    (∀ k o δ, l[k]? = some (o, δ) → ∃ Sk, Good P all o δ Sk ∧ Sk.tmps.length = S.tmps.length ∧ (∀ s, lget Sk.tmps s = svD (upto (i + k)) S.tmps.length l i sv s) ∧ (∀ id, tget Sk.tab id = enD (upto (i + k)) l i en id) ∧ S.nx ≤ Sk.nx ∧ δ.nx ≤ S'.nx ∧
      (infosOf l S)[k]? = some (δ.rd, δ.upd.map (·.1), Sk.nx) ∧
      (∀ k' o' δ', k' < k → l[k']? = some (o', δ') → δ'.nx ≤ Sk.nx)) ∧
    S'.tmps.length = S.tmps.length ∧ (∀ s, lget S'.tmps s = svD (fun _ => true) S.tmps.length l i sv s) ∧ (∀ id, tget S'.tab id = enD (fun _ => true) l i en id) ∧ S.nx ≤ S'.nx ∧ (infosOf l S).length = l.length := by
  intro l
  induction l with
  | nil =>
    intro i S sv en h hs he
    have h : S = S' := h
    subst h
    exact ⟨fun k o δ hk => by simp at hk, rfl, hs, he, Nat.le_refl _, rfl⟩
  | cons p l ih =>
    obtain ⟨o, δ⟩ := p
    intro i S sv en h hs he
    obtain ⟨hg, ht⟩ := h
    have hle : S.nx ≤ δ.nx := by
      rcases hg with ⟨_, ⟨hids, _⟩, _⟩ | ⟨_, rfl⟩
      · exact hids.le
      · exact Nat.le_refl _
    have hs1 : ∀ s, lget (putD S o.dst δ).tmps s = putF S.tmps.length sv o.dst δ.v s := fun s => by rw [lget_putD, hs]; rfl
    have he1 : ∀ id, tget (putD S o.dst δ).tab id = upd en δ.upd id := fun id => by
      show tget (tupd S.tab δ.upd) id = _
      rw [tget_tupd]
      exact upd_congr _ _ (he id)
    obtain ⟨ih1, ih2, ih3, ih4, ih5, ih6⟩ := ih (i + 1) _ _ _ ht hs1 he1
    have hl1 := len_putD S o.dst δ
    rw [hl1] at ih1 ih2 ih3
    have hnx1 : (putD S o.dst δ).nx = δ.nx := rfl
    have none_upto : ∀ (l : List (Oper × Delta)) (i : Nat) (sv : Nat → SV) (en : Nat → Option Ent) (k : Nat), k ≤ i → svD (upto k) S.tmps.length l i sv = sv ∧ enD (upto k) l i en = en := by
      intro l
      induction l with
      | nil => intro i sv en k _; exact ⟨rfl, rfl⟩
      | cons p l ih =>
        obtain ⟨o, δ⟩ := p
        intro i sv en k hk
        have hf : upto k i = false := by simp [upto]; omega
        simp only [svD, enD, hf]
        exact ih (i + 1) _ _ k (by omega)
    refine ⟨fun k o' δ' hk => ?_, ih2, ?_, ?_, Nat.le_trans hle ih5, by simp [infosOf, ih6]⟩
    · cases k with
      | zero =>
        simp at hk
        obtain ⟨rfl, rfl⟩ := hk
        obtain ⟨e1, e2⟩ := none_upto ((o, δ) :: l) i sv en i (Nat.le_refl _)
        exact ⟨S, hg, rfl, fun s => by rw [Nat.add_zero, e1]; exact hs s, fun id => by rw [Nat.add_zero, e2]; exact he id, Nat.le_refl _, by rw [← hnx1]; exact ih5, by simp [infosOf], fun k' _ _ hk' => by omega⟩
      | succ k =>
        obtain ⟨Sk, g1, g2, g3, g4, g5, g6, g7, g8⟩ := ih1 k o' δ' (by simpa using hk)
        have hi : upto (i + (k + 1)) i = true := by simp [upto]
        have e : i + 1 + k = i + (k + 1) := by omega
        rw [e] at g3 g4
        refine ⟨Sk, g1, g2, fun s => by simp only [svD, hi]; exact g3 s, fun id => by simp only [enD, hi]; exact g4 id, Nat.le_trans hle g5, g6, by simpa [infosOf] using g7, fun k' o2 δ2 hk' hl2 => ?_⟩
        cases k' with
        | zero =>
          simp at hl2
          obtain ⟨rfl, rfl⟩ := hl2
          exact g5
        | succ k' => exact g8 k' o2 δ2 (by omega) (by simpa using hl2)
    · intro s
      simp only [svD]
      exact ih3 s
    · intro id
      simp only [enD]
      exact ih4 id
end Go.Sx
