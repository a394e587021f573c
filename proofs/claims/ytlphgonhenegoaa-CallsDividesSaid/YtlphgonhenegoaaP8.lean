import Derived.Test.YtlphgonhenegoaaQ1
set_option linter.unusedVariables false
set_option linter.unusedSimpArgs false
set_option maxHeartbeats 0
set_option maxRecDepth 100000
namespace Go.Proofs.Ytlphgonhenegoaa
open Go.Sx
section
theorem wbit : ∀ z : Nat, z < 6 → ∀ s : Nat, s < 64 → wBit (s : Int) (z : Int) = s.testBit z := by decide +kernel
structure Pend (c : Cn) (l : Arr api_Press) (p : Nat → Bool) (t nx i : Nat) : Prop where
  lt : i < nx
  ok : p i = true
  late : t ≤ pA l i + wt c l p i
structure MI (c : Cn) (l : Arr api_Press) (p : Nat → Bool) (t nx : Nat) (m : Fm Int) : Prop where
  key : ∀ z, m.has z = true → ∃ i : Nat, Pend c l p t nx i ∧ z = (pG l i : Int)
  mem : ∀ z j, j < (m.at_ z).n → ∃ i : Nat, (m.at_ z).f j = (i : Int) ∧ Pend c l p t nx i ∧ z = (pG l i : Int)
  cov : ∀ i, Pend c l p t nx i → m.has (pG l i : Int) = true ∧ ∃ j, j < (m.at_ (pG l i : Int)).n ∧ (m.at_ (pG l i : Int)).f j = (i : Int)
  len : ∀ z, (m.at_ z).n ≤ nx
theorem MI.zero {c : Cn} {l : Arr api_Press} {p : Nat → Bool} : MI c l p 0 0 (fmD intC noHs noLn (noGt [SV.int IntKind.i64 (0 : Int)])) :=
  ⟨fun z h => by simp [fmD, noHs] at h, fun z j h => by simp [fmD, noLn, lst] at h, fun i h => absurd h.lt (Nat.not_lt_zero _), fun z => by simp [fmD, noLn, lst]⟩
theorem MI.skip {c : Cn} {l : Arr api_Press} {p : Nat → Bool} {t k : Nat} {m : Fm Int} (h : MI c l p t k m) (hp : p k = false) : MI c l p t (k + 1) m := by
  have up : ∀ i, Pend c l p t k i → Pend c l p t (k + 1) i := fun i g => ⟨Nat.lt_succ_of_lt g.lt, g.ok, g.late⟩
  have dn : ∀ i, Pend c l p t (k + 1) i → Pend c l p t k i := fun i g => ⟨by
    have := g.lt
    have : i ≠ k := fun e => by have := g.ok; rw [e, hp] at this; cases this
    omega, g.ok, g.late⟩
  exact ⟨fun z hz => by obtain ⟨i, a, b⟩ := h.key z hz; exact ⟨i, up i a, b⟩, fun z j hj => by obtain ⟨i, a, b, d⟩ := h.mem z j hj; exact ⟨i, a, up i b, d⟩, fun i hi => h.cov i (dn i hi), fun z => Nat.le_succ_of_le (h.len z)⟩
theorem MI.push {c : Cn} {l : Arr api_Press} {p : Nat → Bool} {t k : Nat} {m : Fm Int} (h : MI c l p t k m) (hk : k < l.n) (hp : p k = true) (hat : pA l k = t) (hG : (l.f k).Floor = (pG l k : Int)) :
    MI c l p t (k + 1) (fmD intC (fHs (api_Press.Floor (Arr.f l k)) (Fm.has m)) (fLn (api_Press.Floor (Arr.f l k)) (fmL m (api_Press.Floor (Arr.f l k)) + (1 : Nat)) (fmL m)) (fGt (api_Press.Floor (Arr.f l k)) (catC (fmL m (api_Press.Floor (Arr.f l k))) (fmG intC m (api_Press.Floor (Arr.f l k))) (litC [SV.int IntKind.i64 (0 : Int)] [[SV.int IntKind.i64 (k : Int)]])) (fmG intC m))) := by
  have up : ∀ i, Pend c l p t k i → Pend c l p t (k + 1) i := fun i g => ⟨Nat.lt_succ_of_lt g.lt, g.ok, g.late⟩
  have new : Pend c l p t (k + 1) k := ⟨Nat.lt_succ_self _, hp, by omega⟩
  rw [hG]
  generalize hz : ((pG l k : Nat) : Int) = z
  have a1 : ∀ y, (fmD intC (fHs z (Fm.has m)) (fLn z (fmL m z + (1 : Nat)) (fmL m)) (fGt z (catC (fmL m z) (fmG intC m z) (litC [SV.int IntKind.i64 (0 : Int)] [[SV.int IntKind.i64 (k : Int)]])) (fmG intC m))).at_ y = if y = z then pushI (m.at_ z) (k : Int) else m.at_ y := fun y => by
    by_cases hy : y = z
    · subst hy
      simp only [fmD, fLn, fGt, BEq.rfl, cond_true, if_true]
      rfl
    · have hb : (y == z) = false := by simp [hy]
      simp only [fmD, fLn, fGt, hb, cond_false, if_neg hy]
      rfl
  have a2 : ∀ y, (fmD intC (fHs z (Fm.has m)) (fLn z (fmL m z + (1 : Nat)) (fmL m)) (fGt z (catC (fmL m z) (fmG intC m z) (litC [SV.int IntKind.i64 (0 : Int)] [[SV.int IntKind.i64 (k : Int)]])) (fmG intC m))).has y = (y == z || m.has y) := fun y => rfl
  obtain ⟨b1, b2, b3⟩ := push_is (m.at_ z) (k : Int)
  refine ⟨fun y hy => ?_, fun y j hj => ?_, fun i hi => ?_, fun y => ?_⟩
  · rw [a2, Bool.or_eq_true, beq_iff_eq] at hy
    rcases hy with rfl | hy
    · exact ⟨k, new, hz.symm⟩
    · obtain ⟨i, g1, g2⟩ := h.key y hy
      exact ⟨i, up i g1, g2⟩
  · rw [a1] at hj ⊢
    by_cases hy : y = z
    · subst hy
      rw [if_pos rfl, b1] at hj
      rw [if_pos rfl]
      by_cases hjn : j = (m.at_ y).n
      · exact ⟨k, by rw [hjn, b3], new, hz.symm⟩
      · obtain ⟨i, g1, g2, g3⟩ := h.mem y j (by omega)
        exact ⟨i, by rw [b2 j (by omega)]; exact g1, up i g2, g3⟩
    · rw [if_neg hy] at hj ⊢
      obtain ⟨i, g1, g2, g3⟩ := h.mem y j hj
      exact ⟨i, g1, up i g2, g3⟩
  · rw [a2, a1]
    by_cases hik : i = k
    · subst hik
      rw [if_pos hz]
      refine ⟨by simp [hz], (m.at_ z).n, by rw [b1]; omega, b3⟩
    · have hi' : Pend c l p t k i := ⟨by have := hi.lt; omega, hi.ok, hi.late⟩
      obtain ⟨g1, j, g2, g3⟩ := h.cov i hi'
      refine ⟨by rw [g1, Bool.or_true], j, ?_⟩
      by_cases hy : ((pG l i : Nat) : Int) = z
      · rw [if_pos hy, b1]
        rw [hy] at g2 g3
        exact ⟨by omega, by rw [b2 j g2]; exact g3⟩
      · rw [if_neg hy]
        exact ⟨g2, g3⟩
  · rw [a1]
    split
    · rw [b1]
      have := h.len z
      omega
    · have := h.len y
      omega
structure WI (c : Cn) (l : Arr api_Press) (p : Nat → Bool) (t : Nat) (w : Arr Int) : Prop where
  n : w.n = l.n
  f : ∀ i, i < l.n → w.f i = if p i = true ∧ pA l i + wt c l p i < t then (wt c l p i : Int) else 0
theorem WI.zero {c : Cn} {l : Arr api_Press} {p : Nat → Bool} : WI c l p 0 (lst intC (Int.toNat (l.n : Int)) (zeroC [SV.int IntKind.i64 (0 : Int)])) := ⟨by simp [lst], fun i hi => by
  rw [if_neg (by omega)]
  rfl⟩
structure WE (c : Cn) (l : Arr api_Press) (p : Nat → Bool) (w : Arr Int) : Prop where
  n : w.n = l.n
  f : ∀ i, i < l.n → w.f i = if p i = true then (wt c l p i : Int) else 0
theorem WE.of {c : Cn} (hc : c.Ok) {l : Arr api_Press} {p : Nat → Bool} (hl : VQ c l p) {t k : Nat} {w : Arr Int} (hk : k = l.n) (h4 : ∀ i, i < k → pA l i < t) (hW : (st c l p t).W = 0) (hw : WI c l p t w) : WE c l p w := by
  refine ⟨hw.n, fun i hi => ?_⟩
  rw [hw.f i hi]
  by_cases hp : p i = true
  · have h5 := hc.h5
    have hg := (hl.pgp hi hp).2
    have : pA l i + wt c l p i < t := Classical.byContradiction fun hn => by
      have := (wants_iff hc hl p t (f := pG l i) (by omega)).2 ⟨i, hi, hp, rfl, h4 i (by omega), by omega⟩
      rw [hW] at this
      simp at this
    rw [if_pos ⟨hp, this⟩, if_pos hp]
  · rw [if_neg (fun g => hp g.1), if_neg hp]
theorem wants_late {c : Cn} (hc : c.Ok) {l : Arr api_Press} {p : Nat → Bool} (hl : VQ c l p) (_p : Nat → Bool) {t : Nat} (ht : 590 ≤ t) : (st c l p t).W = 0 := Classical.byContradiction fun hn => by
  obtain ⟨f, h1, h2⟩ := zero_bits _ (st_ok hc hl p t).w6 hn
  obtain ⟨i, a1, a2, a3, a4, a5⟩ := (wants_iff hc hl p t h1).1 h2
  have := (hl.pa a1).2
  have := (wt_ok hc hl a1 a2).le
  omega
theorem round_eq {R : Type} {l : Arr api_Press} {t s : Int} {nl : Bool} {w : Arr Int} {m : Fm Int} {k : Arr Int → Fm Int → Option R} (h : wCond l s w m) : waitsRound l t s nl w m k = k (wNew l t s w m) (mNew s m) := by
  unfold waitsRound
  rw [if_pos h]
open Classical in
theorem round_inv {c : Cn} (hc : c.Ok) {l : Arr api_Press} {p : Nat → Bool} (hl : VQ c l p) {t k' : Nat} {m : Fm Int} {w : Arr Int} (hlt : ∀ i, i < k' → pA l i ≤ t) (h6 : ∀ i, k' ≤ i → i < l.n → t < pA l i) (hk : k' ≤ l.n) (hm : MI c l p t k' m) (hw : WI c l p t w) :
    wCond l (sv c l p t) w m ∧ MI c l p (t + 1) k' (mNew (sv c l p t) m) ∧ WI c l p (t + 1) (wNew l t (sv c l p t) w m) := by
  have h5 := hc.h5
  have hs := sv_lt hc hl p t
  have hn := hl.n
  have g6 : ∀ i, i < k' → p i = true → pG l i < 6 := fun i hi hp => by have := (hl.pgp (show i < l.n by omega) hp).2; omega
  have bit : ∀ i, i < k' → p i = true → wBit (sv c l p t) (pG l i : Int) = (sv c l p t).testBit (pG l i) := fun i hi hp => wbit _ (g6 i hi hp) _ hs
  -- who is served now
  have hit : ∀ i, Pend c l p t k' i → ((sv c l p t).testBit (pG l i) = true ↔ pA l i + wt c l p i = t) := fun i hi => by
    have hil : i < l.n := Nat.lt_of_lt_of_le hi.lt hk
    have w1 := wt_ok hc hl hil hi.ok
    have hA := hlt i hi.lt
    constructor
    · intro hb
      refine Classical.byContradiction fun hne => ?_
      have := w1.no (t - pA l i) (by have := hi.late; omega)
      rw [show pA l i + (t - pA l i) = t by omega, hb] at this
      cases this
    · intro he
      have := w1.hit
      rwa [he] at this
  refine ⟨fun z hz => ?_, ⟨fun z hz => ?_, fun z j hj => ?_, fun i hi => ?_, fun z => ?_⟩, ⟨hw.n, fun i hi => ?_⟩⟩
  · obtain ⟨i, hi, rfl⟩ := hm.key z hz
    refine ⟨by omega, by have := hm.len (pG l i : Int); omega, fun _ j hj => ?_⟩
    obtain ⟨i', e1, e2, _⟩ := hm.mem _ j hj
    rw [e1, hw.n]
    have := e2.lt
    omega
  · simp only [mNew, Bool.and_eq_true, Bool.not_eq_true'] at hz
    obtain ⟨i, hi, rfl⟩ := hm.key z hz.1
    refine ⟨i, ⟨hi.lt, hi.ok, ?_⟩, rfl⟩
    have h2 := hz.2
    rw [bit i hi.lt hi.ok] at h2
    have : pA l i + wt c l p i ≠ t := fun e => by rw [(hit i hi).2 e] at h2; cases h2
    have := hi.late
    omega
  · simp only [mNew] at hj ⊢
    cases hb : wBit (sv c l p t) z with
    | true => rw [hb] at hj; simp at hj
    | false =>
      rw [hb] at hj
      simp only [cond_false] at hj ⊢
      obtain ⟨i, e1, hi, rfl⟩ := hm.mem z j hj
      refine ⟨i, e1, ⟨hi.lt, hi.ok, ?_⟩, rfl⟩
      rw [bit i hi.lt hi.ok] at hb
      have : pA l i + wt c l p i ≠ t := fun e => by rw [(hit i hi).2 e] at hb; cases hb
      have := hi.late
      omega
  · have hi' : Pend c l p t k' i := ⟨hi.lt, hi.ok, by have := hi.late; omega⟩
    obtain ⟨e1, j, e2, e3⟩ := hm.cov i hi'
    have hb : wBit (sv c l p t) (pG l i : Int) = false := by
      rw [bit i hi.lt hi.ok]
      cases h : (sv c l p t).testBit (pG l i) with
      | false => rfl
      | true =>
        have := (hit i hi').1 h
        have := hi.late
        omega
    exact ⟨by simp [mNew, e1, hb], j, by simpa [mNew, hb] using e2, by simpa [mNew, hb] using e3⟩
  · simp only [mNew]
    cases wBit (sv c l p t) z with
    | true => exact Nat.zero_le _
    | false => exact hm.len z
  · have hA := (hl.pa hi)
    have hwh : wHit m (sv c l p t) i ↔ p i = true ∧ pA l i + wt c l p i = t := by
      constructor
      · rintro ⟨z, j, a1, a2, a3, a4⟩
        obtain ⟨i', e1, e2, rfl⟩ := hm.mem z j a3
        have : i' = i := by rw [e1] at a4; omega
        subst this
        rw [bit i' e2.lt e2.ok] at a2
        exact ⟨e2.ok, (hit i' e2).1 a2⟩
      · rintro ⟨hp, he⟩
        have hik : i < k' := Classical.byContradiction fun hn => by have := h6 i (by omega) hi; omega
        have hpd : Pend c l p t k' i := ⟨hik, hp, by omega⟩
        obtain ⟨e1, j, e2, e3⟩ := hm.cov i hpd
        exact ⟨_, j, e1, by rw [bit i hik hp]; exact (hit i hpd).2 he, e2, e3⟩
    show (if wHit m (sv c l p t) i then wVal l t i else w.f i) = _
    by_cases hh : wHit m (sv c l p t) i
    · obtain ⟨hp, he⟩ := hwh.1 hh
      rw [if_pos hh, if_pos ⟨hp, by omega⟩]
      unfold wVal
      have w7 := (wt_ok hc hl hi hp).le
      rw [hA.1, w64_eq (by omega) (by omega)]
      omega
    · rw [if_neg hh, hw.f i hi]
      refine ite_congr (propext ⟨fun g => ⟨g.1, by omega⟩, fun g => ⟨g.1, ?_⟩⟩) (fun _ => rfl) (fun _ => rfl)
      have : pA l i + wt c l p i ≠ t := fun e => hh (hwh.2 ⟨g.1, e⟩)
      omega
theorem want1 (N : Nat) (k : Nat) {R : Type} (f : Bool → Option R) : calls_Waits_1 N (k : Int) f = f (allP k) := by
  rw [calls_Waits_1_def]
  rfl
def ofS (sh : Arr Int) (ii : Int) : Nat → Bool := fun k => sh.f k == ii
end
namespace W
section
variable {N : Nat} {c : Cn} {l : Arr api_Press}
theorem l9 (N : Nat) (hc : c.Ok) (hl : VQ c l allP) (t : Nat) (nl : Bool) (w : Arr Int) (cg : calls_cage) (k0 : Nat) : ∀ (q k n : Nat) (m : Fm Int) (nb : Bool) (now : Arr Int), k + q = l.n → q < n → k0 ≤ k → now.n + k0 ≤ k → MI c l allP t k m → Now c now (fun f => ∃ i, k0 ≤ i ∧ i < k ∧ allP i = true ∧ pG l i = f) → (∀ i, k0 ≤ i → i < k → pA l i = t) → (∀ i, k0 ≤ i → i < l.n → t ≤ pA l i) →
    ∃ (k' : Nat) (m' : Fm Int) (nb' : Bool) (now' : Arr Int), k ≤ k' ∧ k' ≤ l.n ∧ now'.n + k0 ≤ k' ∧ MI c l allP t k' m' ∧ Now c now' (fun f => ∃ i, k0 ≤ i ∧ i < k' ∧ allP i = true ∧ pG l i = f) ∧ (∀ i, k0 ≤ i → i < k' → pA l i = t) ∧ (∀ i, k' ≤ i → i < l.n → t < pA l i) ∧
      ∀ {R : Type} (k2 : Int → Fm Int → Bool → Arr Int → Option R), calls_waits_l9 N n l (k : Int) (t : Int) nl w m cg nb now k2 = k2 (k' : Int) m' nb' now' := by
  intro q
  induction q with
  | zero =>
    intro k n m nb now h1 h2 h3 h3' hm h4 h5 h6
    obtain ⟨n, rfl⟩ : ∃ m, n = m + 1 := ⟨n - 1, by omega⟩
    refine ⟨k, m, nb, now, by omega, by omega, h3', hm, h4, h5, fun i hi hi' => by omega, fun {R} k2 => ?_⟩
    unfold calls_waits_l9 calls_waits_b9
    rw [ltF (show l.n ≤ k by omega), cond_false]
  | succ q ih =>
    intro k n m nb now h1 h2 h3 h3' hm h4 h5 h6
    obtain ⟨n, rfl⟩ : ∃ m, n = m + 1 := ⟨n - 1, by omega⟩
    have hk : k < l.n := by omega
    have hln := hl.n
    have hA : (l.f k).At = (pA l k : Int) := (hl.pa hk).1
    have e0 : decide ((k : Int) < (l.n : Int)) = true := ltT hk
    have e1 : (decide ((0 : Int) ≤ (k : Int)) && decide ((k : Int) < (l.n : Int))) = true := by rw [nat_nonneg, e0]; rfl
    by_cases hat : pA l k = t
    · have e3 : ((pA l k : Int) == (t : Int)) = true := by simp [hat]
      cases hp : allP k with
      | true =>
        have hG : (l.f k).Floor = (pG l k : Int) := (hl.pgp hk hp).1
        have hnow := h4.push hG (hl.pgp hk hp).2
        have hps := push_is now (l.f k).Floor
        obtain ⟨k', m', nb', now', a1, a2, a3, am, a4, a5, a6, a7⟩ := ih (k + 1) n _ false (pushI now (l.f k).Floor) (by omega) (by omega) (by omega) (by rw [hps.1]; omega) (hm.push hk hp hat hG) (by
          refine ⟨hnow.g, fun f => (hnow.b f).trans ⟨?_, ?_⟩⟩
          · rintro (⟨i, b1, b2, b3⟩ | rfl)
            · exact ⟨i, b1, by omega, b3⟩
            · exact ⟨k, by omega, by omega, hp, rfl⟩
          · rintro ⟨i, b1, b2, b3, b4⟩
            by_cases e : i = k
            · subst e; exact .inr b4.symm
            · exact .inl ⟨i, b1, by omega, b3, b4⟩) (fun i b1 b2 => by
          by_cases e : i = k
          · subst e; exact hat
          · exact h5 i b1 (by omega)) h6
        refine ⟨k', m', nb', now', by omega, a2, a3, am, a4, a5, a6, fun {R} k2 => ?_⟩
        unfold calls_waits_l9 calls_waits_b9
        have e4 : room (now.n + 1) = true := room_of (by omega)
        have e5 : room (fmL m (l.f k).Floor + 1) = true := room_of (by have := hm.len (l.f k).Floor; show (m.at_ _).n + 1 ≤ _; omega)
        rw [e0, cond_true, nat_nonneg, Bool.and_self, cond_true]
        simp only [Int.toNat_natCast]
        rw [hA, e3, cond_true, want1, hp, cond_true, cond_true, cond_true, e5, cond_true, decide_eq_true True.intro, cond_true, cond_true, e4, cond_true, w64_succ (show k < 1000000000000 by omega)]
        exact a7 k2
      | false =>
        obtain ⟨k', m', nb', now', a1, a2, a3, am, a4, a5, a6, a7⟩ := ih (k + 1) n m nb now (by omega) (by omega) (by omega) (by omega) (hm.skip hp) (by
          refine ⟨h4.g, fun f => (h4.b f).trans ⟨?_, ?_⟩⟩
          · rintro ⟨i, b1, b2, b3⟩
            exact ⟨i, b1, by omega, b3⟩
          · rintro ⟨i, b1, b2, b3, b4⟩
            by_cases e : i = k
            · subst e; rw [hp] at b3; cases b3
            · exact ⟨i, b1, by omega, b3, b4⟩) (fun i b1 b2 => by
          by_cases e : i = k
          · subst e; exact hat
          · exact h5 i b1 (by omega)) h6
        refine ⟨k', m', nb', now', by omega, a2, a3, am, a4, a5, a6, fun {R} k2 => ?_⟩
        unfold calls_waits_l9 calls_waits_b9
        rw [e0, cond_true, nat_nonneg, Bool.and_self, cond_true]
        simp only [Int.toNat_natCast]
        rw [hA, e3, cond_true, want1, hp, cond_false, w64_succ (show k < 1000000000000 by omega)]
        exact a7 k2
    · refine ⟨k, m, nb, now, by omega, by omega, h3', hm, h4, h5, fun i hi hi' => ?_, fun {R} k2 => ?_⟩
      · have := h6 k (by omega) hk
        have := hl.pm hi hi'
        omega
      · unfold calls_waits_l9 calls_waits_b9
        have e3 : ((pA l k : Int) == (t : Int)) = false := by
          rw [beq_eq_false_iff_ne]
          omega
        rw [e0, cond_true, nat_nonneg, Bool.and_self, cond_true]
        simp only [Int.toNat_natCast]
        rw [hA, e3, cond_false]
theorem l6 {N : Nat} (hN : 2000 < N) (hc : c.Ok) (hl : VQ c l allP) (nl : Bool) : ∀ (q t n k : Nat) (w : Arr Int) (m : Fm Int), t + q = 600 → q < n → k ≤ l.n → (∀ i, i < k → pA l i < t) → (∀ i, k ≤ i → i < l.n → t ≤ pA l i) → MI c l allP t k m → WI c l allP t w →
    ∃ w' : Arr Int, WE c l allP w' ∧ ∀ {R : Type} (k0 : Arr Int → Option R), calls_waits_l6 N n l (k : Int) (t : Int) nl w m ⟨c.car, (st c l allP t).ride⟩ k0 = k0 w' := by
  intro q
  induction q with
  | zero =>
    intro t n k w m h1 h2 h3 h4 h5 hm hw
    obtain ⟨n, rfl⟩ : ∃ m, n = m + 1 := ⟨n - 1, by omega⟩
    have hk : k = l.n := Classical.byContradiction fun hne => by
      have h6 : k < l.n := by omega
      have := h5 k (Nat.le_refl _) h6
      have := (hl.pa h6).2
      omega
    have hW := wants_late hc hl allP (t := t) (by omega)
    refine ⟨w, WE.of hc hl hk h4 hW hw, fun {R} k0 => ?_⟩
    unfold calls_waits_l6 calls_waits_b6
    have e1 : (api_Ride.Wants (calls_cage.Ride ⟨c.car, (st c l allP t).ride⟩) != (0 : Int)) = false := by
      show ((((st c l allP t).W : Nat) : Int) != 0) = false
      rw [nez, hW]
      rfl
    rw [ltF (show l.n ≤ k by omega), cond_false, e1, cond_false]
  | succ q ih =>
    intro t n k w m h1 h2 h3 h4 h5 hm hw
    obtain ⟨n, rfl⟩ : ∃ m, n = m + 1 := ⟨n - 1, by omega⟩
    have hln := hl.n
    obtain ⟨k', m', nb', now', a1, a2, a3, am, a4, a5, a6, a7⟩ := l9 N hc hl t nl w ⟨c.car, (st c l allP t).ride⟩ k (l.n - k) k N m true (lst intC (0 : Nat) (zeroC [SV.int IntKind.i64 (0 : Int)])) (by omega) (by omega) (Nat.le_refl _) (by simp [lst]) hm
      (by
        have := Now.nil c (zeroC [SV.int IntKind.i64 (0 : Int)])
        exact ⟨this.g, fun f => (this.b f).trans ⟨fun h => h.elim, fun ⟨i, b1, b2, _⟩ => by omega⟩⟩) (fun i b1 b2 => by omega) h5
    have hset := Now.set hc hl (p := allP) h4 a5 a6 a2 a4
    have hlt : ∀ i, i < k' → pA l i ≤ t := fun i hi => by
      rcases Nat.lt_or_ge i k with g | g
      · have := h4 i g; omega
      · have := a5 i g hi; omega
    obtain ⟨r1, r2, r3⟩ := round_inv hc hl hlt a6 a2 am hw
    obtain ⟨w', g1, g2⟩ := ih (t + 1) n k' (wNew l t (sv c l allP t) w m') (mNew (sv c l allP t) m') (by omega) (by omega) a2 (fun i hi => by have := hlt i hi; omega) (fun i hi hi' => by have := a6 i hi hi'; omega) r2 r3
    have go : ∀ {R : Type} (k0 : Arr Int → Option R), (calls_waits_l9 N N l (k : Int) (t : Int) nl w m ⟨c.car, (st c l allP t).ride⟩ true (lst intC (0 : Nat) (zeroC [SV.int IntKind.i64 (0 : Int)])) (fun r203 r204 r205 r206 =>
     calls_cage_tick N r206 ⟨c.car, (st c l allP t).ride⟩ (fun r207 r208 =>
     calls_waits_j0 N l r203 (t : Int) r207 nl w r204 r208 (fun r209 r210 =>
      calls_waits_l6 N n l r203 (w64 ((t : Int) + (1 : Int))) nl r209 r210 r208 k0)))) = k0 w' := fun {R} k0 => by
      refine (a7 _).trans ?_
      rw [tick_eq hc (st_ok hc hl allP t) a4.g (by omega) (by omega), hset, calls_waits_j0_def]
      unfold calls_waits_j0_m
      refine (round_eq r1).trans ?_
      rw [w64_succ (show t < 1000000000000 by omega)]
      exact g2 k0
    by_cases hkn : k < l.n
    · refine ⟨w', g1, fun {R} k0 => ?_⟩
      unfold calls_waits_l6 calls_waits_b6
      rw [ltT hkn, cond_true]
      exact go k0
    · by_cases hW : (st c l allP t).W = 0
      · refine ⟨w, WE.of hc hl (by omega) h4 hW hw, fun {R} k0 => ?_⟩
        unfold calls_waits_l6 calls_waits_b6
        have e1 : (api_Ride.Wants (calls_cage.Ride ⟨c.car, (st c l allP t).ride⟩) != (0 : Int)) = false := by
          show ((((st c l allP t).W : Nat) : Int) != 0) = false
          rw [nez, hW]
          rfl
        rw [ltF (show l.n ≤ k by omega), cond_false, e1, cond_false]
      · refine ⟨w', g1, fun {R} k0 => ?_⟩
        unfold calls_waits_l6 calls_waits_b6
        have e1 : (api_Ride.Wants (calls_cage.Ride ⟨c.car, (st c l allP t).ride⟩) != (0 : Int)) = true := by
          show ((((st c l allP t).W : Nat) : Int) != 0) = true
          rw [nez]
          simpa using hW
        rw [ltF (show l.n ≤ k by omega), cond_false, e1, cond_true]
        exact go k0
theorem eq {N : Nat} (hN : 2000 < N) (hc : c.Ok) (hl : VQ c l allP) : ∃ w' : Arr Int, WE c l allP w' ∧ ∀ {R : Type} (k : Bool → Arr Int → Option R), calls_waits N c.car l k = k false w' := by
  obtain ⟨w', g1, g2⟩ := l6 hN hc hl false 600 0 N 0 (lst intC (Int.toNat (l.n : Int)) (zeroC [SV.int IntKind.i64 (0 : Int)])) (fmD intC noHs noLn (noGt [SV.int IntKind.i64 (0 : Int)])) (by omega) (by omega) (Nat.zero_le _) (fun i hi => by omega) (fun i _ _ => Nat.zero_le _) MI.zero WI.zero
  refine ⟨w', g1, fun {R} k => ?_⟩
  rw [calls_waits_def]
  unfold calls_waits_m
  have hln := hl.n
  have e1 : decide ((l.n : Int) ≤ (l.n : Int)) = true := by simp
  have e2 : decide ((l.n : Int) ≤ 1073741824) = true := by simp; omega
  rw [e1, e2, Bool.and_self, cond_true, calls_begin_def]
  exact g2 fun r => k false r
end
end W
namespace W_v2
section
variable {N : Nat} {c : Cn} {l : Arr api_Press} {sh : Arr Int} {ii : Int}
end
end W_v2
end Go.Proofs.Ytlphgonhenegoaa
