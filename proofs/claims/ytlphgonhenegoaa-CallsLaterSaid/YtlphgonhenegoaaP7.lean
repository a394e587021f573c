import Derived.Test.YtlphgonhenegoaaP6
set_option linter.unusedVariables false
set_option linter.unusedSimpArgs false
set_option maxHeartbeats 0
set_option maxRecDepth 100000
namespace Go.Proofs.Ytlphgonhenegoaa
open Go.Sx
section
theorem setA_congr {a b : Arr Int} {n : Nat} (h : ∀ i, i < n → a.f i = b.f i) : setA a n = setA b n := by
  induction n with
  | zero => rfl
  | succ n ih => simp only [setA, ih fun i hi => h i (by omega), h n (by omega)]
structure Now (c : Cn) (now : Arr Int) (S : Nat → Prop) : Prop where
  g : ∀ j, j < now.n → 0 ≤ now.f j ∧ (c.L : Int) ≤ now.f j ∧ now.f j ≤ (c.H : Int)
  b : ∀ f, (setA now now.n).testBit f = true ↔ S f
def pushI (now : Arr Int) (v : Int) : Arr Int := lst intC (now.n + 1) (catC now.n (Cod.cell intC now.f) (litC [SV.int IntKind.i64 (0 : Int)] [[SV.int IntKind.i64 v]]))
theorem push_is (now : Arr Int) (v : Int) : (pushI now v).n = now.n + 1 ∧ (∀ j, j < now.n → (pushI now v).f j = now.f j) ∧ (pushI now v).f now.n = v := by
  have h := Arr.Is.push_int (a := now) (n := now.n) (g := fun j => if j < now.n then now.f j else v) ⟨rfl, fun i hi => by simp [hi]⟩ (z := [SV.int IntKind.i64 (0 : Int)]) (v := v) (by simp)
  exact ⟨h.1, fun j hj => (h.2 j (by omega)).trans (by simp [hj]), (h.2 now.n (by omega)).trans (by simp)⟩
theorem Now.push {c : Cn} {now : Arr Int} {S : Nat → Prop} (h : Now c now S) {v : Int} {g : Nat} (hv : v = (g : Int)) (hg : c.L ≤ g ∧ g ≤ c.H) : Now c (pushI now v) (fun f => S f ∨ f = g) := by
  subst hv
  obtain ⟨h1, h2, h3⟩ := push_is now (g : Int)
  refine ⟨fun j hj => ?_, fun f => ?_⟩
  · rw [h1] at hj
    by_cases hjn : j = now.n
    · rw [hjn, h3]; omega
    · rw [h2 j (by omega)]; exact h.g j (by omega)
  · rw [h1]
    simp only [setA, h3, Int.toNat_natCast]
    rw [setA_congr (fun i hi => h2 i hi), Nat.testBit_or, Bool.or_eq_true, h.b f, pow_bit, decide_eq_true_eq]
    exact or_congr_right eq_comm
theorem Now.nil (c : Cn) (f : Nat → Nat → SV) : Now c (lst intC 0 f) (fun _ => False) := ⟨fun j hj => by simp [lst] at hj, fun f => by simp [lst, setA]⟩
theorem Now.set {c : Cn} (hc : c.Ok) {l : Arr api_Press} (hl : VL c l) {p : Nat → Bool} {t k k' : Nat} {now : Arr Int} (hk : ∀ i, i < k → pA l i < t) (h1 : ∀ i, k ≤ i → i < k' → pA l i = t) (h2 : ∀ i, k' ≤ i → i < l.n → t < pA l i) (hk' : k' ≤ l.n)
    (h : Now c now fun f => ∃ i, k ≤ i ∧ i < k' ∧ p i = true ∧ pG l i = f) : setA now now.n = pP l p t := by
  refine Nat.eq_of_testBit_eq fun f => ?_
  have : (setA now now.n).testBit f = true ↔ (pP l p t).testBit f = true := by
    rw [h.b f]
    unfold pP
    rw [pset_bit]
    constructor
    · rintro ⟨i, a1, a2, a3, a4⟩
      exact ⟨i, by omega, h1 i a1 a2, a3, a4⟩
    · rintro ⟨i, a1, a2, a3, a4⟩
      refine ⟨i, ?_, ?_, a3, a4⟩
      · rcases Nat.lt_or_ge i k with g | g
        · have := hk i g; omega
        · exact g
      · rcases Nat.lt_or_ge i k' with g | g
        · exact g
        · have := h2 i g a1; omega
  cases h3 : (setA now now.n).testBit f <;> cases h4 : (pP l p t).testBit f <;> simp_all
def sub (l : Arr api_Press) (k : Nat) : Arr api_Press := ⟨l.n - k, fun i => l.f (k + i)⟩
theorem sub_zero (l : Arr api_Press) : sub l 0 = l := by simp [sub]
theorem sub_step (l : Arr api_Press) (k : Nat) : (lst api_PressC (Int.toNat (((sub l k).n : Nat) : Int) - Int.toNat (1 : Int)) fun (i j : Nat) => Cod.cell api_PressC (sub l k).f (Int.toNat (1 : Int) + i) j) = sub l (k + 1) := by
  have e1 : Int.toNat (((sub l k).n : Nat) : Int) - Int.toNat (1 : Int) = l.n - (k + 1) := by simp [sub]; omega
  rw [e1]
  show (⟨l.n - (k + 1), fun i => l.f (k + (1 + i))⟩ : Arr api_Press) = ⟨l.n - (k + 1), fun i => l.f (k + 1 + i)⟩
  congr 1
  funext i
  rw [Nat.add_assoc]
theorem play_l12 (N : Nat) {c : Cn} (hc : c.Ok) {l : Arr api_Press} (hl : VL c l) (t T t0 : Nat) (b : Bool) (rd : Arr api_Ride) (cg : calls_cage) (k0 : Nat) : ∀ (q k n : Nat) (nb : Bool) (now : Arr Int), k + q = l.n → q < n → k0 ≤ k → now.n + k0 = k → Now c now (fun f => ∃ i, k0 ≤ i ∧ i < k ∧ true = true ∧ pG l i = f) → (∀ i, k0 ≤ i → i < k → pA l i = t) → (∀ i, k0 ≤ i → i < l.n → t ≤ pA l i) →
    ∃ (k' : Nat) (nb' : Bool) (now' : Arr Int), k ≤ k' ∧ k' ≤ l.n ∧ now'.n + k0 = k' ∧ Now c now' (fun f => ∃ i, k0 ≤ i ∧ i < k' ∧ true = true ∧ pG l i = f) ∧ (∀ i, k0 ≤ i → i < k' → pA l i = t) ∧ (∀ i, k' ≤ i → i < l.n → t < pA l i) ∧
      ∀ {R : Type} (k2 : Arr api_Press → Bool → Arr Int → Option R), calls_Play_l12 N n (sub l k) (t : Int) (T : Int) (t0 : Int) b rd cg nb now k2 = k2 (sub l k') nb' now' := by
  intro q
  induction q with
  | zero =>
    intro k n nb now h1 h2 h3 h3' h4 h5 h6
    obtain ⟨n, rfl⟩ : ∃ m, n = m + 1 := ⟨n - 1, by omega⟩
    refine ⟨k, nb, now, by omega, by omega, h3', h4, h5, fun i hi hi' => by omega, fun {R} k2 => ?_⟩
    unfold calls_Play_l12 calls_Play_b12
    have : decide ((((sub l k).n : Nat) : Int) > 0) = false := by simp [sub]; omega
    rw [this, cond_false]
  | succ q ih =>
    intro k n nb now h1 h2 h3 h3' h4 h5 h6
    obtain ⟨n, rfl⟩ : ∃ m, n = m + 1 := ⟨n - 1, by omega⟩
    have hk : k < l.n := by omega
    have e1 : decide ((((sub l k).n : Nat) : Int) > 0) = true := by simp [sub]; omega
    have e2 : decide ((0 : Int) < (((sub l k).n : Nat) : Int)) = true := e1
    have hA : (api_Press.At ((sub l k).f (Int.toNat (0 : Int)))) = (pA l k : Int) := by
      show (l.f (k + 0)).At = _
      exact (hl.pa hk).1
    have hG : (api_Press.Floor ((sub l k).f (Int.toNat (0 : Int)))) = (pG l k : Int) := by
      show (l.f (k + 0)).Floor = _
      exact (hl.pg hk).1
    by_cases hat : pA l k = t
    · have hnow := h4.push (hG) (hl.pg hk).2
      have hp := push_is now (api_Press.Floor ((sub l k).f (Int.toNat (0 : Int))))
      obtain ⟨k', nb', now', a1, a2, a3, a4, a5, a6, a7⟩ := ih (k + 1) n false (pushI now (api_Press.Floor ((sub l k).f (Int.toNat (0 : Int))))) (by omega) (by omega) (by omega) (by rw [hp.1]; omega) (by
          refine ⟨hnow.g, fun f => (hnow.b f).trans ⟨?_, ?_⟩⟩
          · rintro (⟨i, b1, b2, b3⟩ | rfl)
            · exact ⟨i, b1, by omega, b3⟩
            · exact ⟨k, by omega, by omega, rfl, rfl⟩
          · rintro ⟨i, b1, b2, b3, b4⟩
            by_cases e : i = k
            · subst e; exact .inr b4.symm
            · exact .inl ⟨i, b1, by omega, b3, b4⟩) (fun i b1 b2 => by
          by_cases e : i = k
          · subst e; exact hat
          · exact h5 i b1 (by omega)) h6
      refine ⟨k', nb', now', by omega, a2, a3, a4, a5, a6, fun {R} k2 => ?_⟩
      unfold calls_Play_l12 calls_Play_b12
      have e3 : ((pA l k : Int) == (t : Int)) = true := by simp [hat]
      have e4 : room (now.n + 1) = true := room_of (by have := hl.n; omega)
      have e5 : decide ((1 : Int) ≤ (((sub l k).n : Nat) : Int)) = true := decide_eq_true (show (1 : Int) ≤ ((l.n - k : Nat) : Int) by omega)
      have e6 : decide ((((sub l k).n : Nat) : Int) ≤ (((sub l k).n : Nat) : Int)) = true := by simp
      rw [e1, cond_true, cond_true, hA, e3, cond_true, cond_true, e4, cond_true, e5, e6, Bool.and_self, cond_true, sub_step]
      exact a7 k2
    · refine ⟨k, nb, now, by omega, by omega, h3', h4, h5, fun i hi hi' => ?_, fun {R} k2 => ?_⟩
      · have := h6 k (by omega) hk
        have := hl.pm hi hi'
        omega
      · unfold calls_Play_l12 calls_Play_b12
        have e3 : ((pA l k : Int) == (t : Int)) = false := by
          rw [beq_eq_false_iff_ne]
          omega
        rw [e1, cond_true, cond_true, hA, e3, cond_false]
def allP : Nat → Bool := fun _ => true
def rideAt (c : Cn) (l : Arr api_Press) (t : Nat) : api_Ride := (st c l allP (t + 1)).ride
theorem ride_dec (x : api_Ride) : api_RideC.dec (lget (api_RideC.enc x)) = x := rfl
theorem play_l9 {N : Nat} (hN : 2000 < N) {c : Cn} (hc : c.Ok) {l : Arr api_Press} (hl : VL c l) (T : Nat) (hT : T ≤ 1000) : ∀ (q t n k : Nat) (b : Bool) (rd : Arr api_Ride), t + q = T → q < n → k ≤ l.n → (∀ i, i < k → pA l i < t) → (∀ i, k ≤ i → i < l.n → t ≤ pA l i) → rd.Is t (rideAt c l) →
    ∃ (b' : Bool) (rd' : Arr api_Ride), rd'.Is T (rideAt c l) ∧ ∀ {R : Type} (k0 : Bool → Arr api_Ride → Option R), calls_Play_l9 N n (sub l k) (T : Int) (t : Int) b rd ⟨c.car, (st c l allP t).ride⟩ k0 = k0 b' rd' := by
  intro q
  induction q with
  | zero =>
    intro t n k b rd h1 h2 h3 h4 h5 h6
    obtain ⟨n, rfl⟩ : ∃ m, n = m + 1 := ⟨n - 1, by omega⟩
    have : t = T := by omega
    subst this
    refine ⟨b, rd, h6, fun {R} k0 => ?_⟩
    unfold calls_Play_l9 calls_Play_b9
    rw [ltF (Nat.le_refl t), cond_false]
  | succ q ih =>
    intro t n k b rd h1 h2 h3 h4 h5 h6
    obtain ⟨n, rfl⟩ : ∃ m, n = m + 1 := ⟨n - 1, by omega⟩
    obtain ⟨k', nb', now', a1, a2, a3, a4, a5, a6, a7⟩ := play_l12 N hc hl t T t b rd ⟨c.car, (st c l allP t).ride⟩ k (l.n - k) k N true (lst intC (0 : Nat) (zeroC [SV.int IntKind.i64 (0 : Int)])) (by omega) (by have := hl.n; omega) (Nat.le_refl _) (by simp [lst])
      (by
        have := Now.nil c (zeroC [SV.int IntKind.i64 (0 : Int)])
        exact ⟨this.g, fun f => (this.b f).trans ⟨fun h => h.elim, fun ⟨i, b1, b2, _⟩ => by omega⟩⟩) (fun i b1 b2 => by omega) h5
    have hset := Now.set hc hl (p := allP) h4 a5 a6 a2 a4
    have hn : now'.n ≤ 1000 := by have := hl.n; omega
    obtain ⟨b', rd', g1, g2⟩ := ih (t + 1) n k' false (lst api_RideC (rd.n + 1) (catC rd.n (Cod.cell api_RideC rd.f) (litC [SV.int IntKind.i64 (0 : Int), SV.bool false, SV.bool false, SV.int IntKind.i64 (0 : Int), SV.int IntKind.i64 (0 : Int), SV.int IntKind.i64 (0 : Int)] [api_RideC.enc (rideAt c l t)])))
      (by omega) (by omega) a2 (fun i hi => by
        rcases Nat.lt_or_ge i k with g | g
        · have := h4 i g; omega
        · have := a5 i g hi; omega) (fun i hi hi' => by have := a6 i hi hi'; omega) (h6.push ride_dec (ride_dec _))
    refine ⟨b', rd', g1, fun {R} k0 => ?_⟩
    unfold calls_Play_l9 calls_Play_b9
    rw [ltT (show t < T by omega), cond_true]
    refine (a7 _).trans ?_
    rw [tick_eq hc (st_ok hc hl allP t) a4.g hn (by omega), hset]
    have e4 : room (rd.n + 1) = true := room_of (by have := h6.1; omega)
    rw [e4, cond_true, w64_succ (show t < 1000000000000 by omega)]
    exact g2 k0
theorem play_eq {N : Nat} (hN : 2000 < N) {c : Cn} (hc : c.Ok) {l : Arr api_Press} (hl : VL c l) {T : Nat} (hT : T ≤ 1000) :
    ∃ (b' : Bool) (rd' : Arr api_Ride), rd'.Is T (rideAt c l) ∧ ∀ {R : Type} (k : Int → Bool → Arr api_Ride → Option R), calls_Play N c.car l (T : Int) k = k 0 b' rd' := by
  obtain ⟨b', rd', g1, g2⟩ := play_l9 hN hc hl T hT T 0 N 0 true (lst api_RideC (0 : Nat) (zeroC [SV.int IntKind.i64 (0 : Int), SV.bool false, SV.bool false, SV.int IntKind.i64 (0 : Int), SV.int IntKind.i64 (0 : Int), SV.int IntKind.i64 (0 : Int)])) (by omega) (by omega) (Nat.zero_le _) (fun i hi => by omega) (fun i _ _ => Nat.zero_le _) .zero
  refine ⟨b', rd', g1, fun {R} k => ?_⟩
  rw [calls_Play_def]
  unfold calls_Play_m
  rw [check_eq (by omega) _ (by have := hl.n; omega), err_ok hc hl]
  have e0 : ((0 : Int) != 0) = false := rfl
  rw [e0, cond_false, in_eq, decide_eq_true (show (0 : Int) ≤ (T : Int) ∧ (T : Int) ≤ 1000 by omega), Bool.not_true, cond_false, calls_begin_def]
  have := g2 (fun r240 r241 => k (0 : Int) r240 r241)
  rw [sub_zero] at this
  exact this
end
end Go.Proofs.Ytlphgonhenegoaa
