import Derived.Test.YtlphgonhenegoaaPG
set_option linter.unusedVariables false
set_option linter.unusedSimpArgs false
set_option maxHeartbeats 0
set_option maxRecDepth 100000
namespace Go.Proofs.Ytlphgonhenegoaa
open Go.Sx
section
def cand (c : Cn) (f : Nat) (r : Rd) (P : Nat) : Nat := bif (servR r P).testBit f then 0 else pot c (tickR c.M c.S r P) f
theorem cand_up {c : Cn} (hc : c.Ok) {r : Rd} (h : Ok c r) {f : Nat} (hf : f < 6) {P : Nat} (hP : Fl c P) (hb : P.testBit f = true) : cand c f r P ≤ worstN c f := by
  unfold cand
  cases hs : (servR r P).testBit f with
  | true => exact Nat.zero_le _
  | false =>
    rw [cond_false]
    refine pot_worst hc (tick_ok hc h hP) ?_
    rw [(tick_bit hc h hP hf).1, hs, hb, Bool.or_true]
    rfl
theorem worst_l6 {N : Nat} (hN : 2000 < N) {c : Cn} (hc : c.Ok) {l : Arr newelref07_knot} (hl : Cls c l) {f : Nat} (hf : f < 6) {out : Arr Int} (hn : out.n = 65536) (hout : ∀ r, has l r → r.W.testBit f = true → out.f (codeN r) = ((pot c r f : Nat) : Int)) {i : Nat} (hi : i < l.n) : ∀ (q p n : Nat) (m a w : Int), p + q = 2 ^ (c.H + 1) → q < n → m ≤ (worstN c f : Int) → (∀ P, P < p → Fl c P → P.testBit f = true → (Kn l i).W.testBit f = false → ((cand c f (Kn l i) P : Nat) : Int) ≤ m) →
    ∃ (m' a' w' : Int), m ≤ m' ∧ m' ≤ (worstN c f : Int) ∧ (∀ P, Fl c P → P.testBit f = true → (Kn l i).W.testBit f = false → ((cand c f (Kn l i) P : Nat) : Int) ≤ m') ∧ ∀ {R : Type} (k : Int → Int → Int → Option R), newelref07_worst_l6 N n l out (f : Int) m a w (i : Int) (p : Int) c.car k = k m' a' w' := by
  have h5 := hc.h5
  have hLH : c.L ≤ c.H := Nat.le_trans hc.ls hc.sh
  obtain ⟨g1, g2, g3, _⟩ := hi_w c.H (by omega)
  have g1' : decide (IntKind.wrap IntKind.u64 (w64 (api_Car.High c.car + (1 : Int))) < (0 : Int)) = false := g1
  have g2' : w64 ((1 : Int) * (2 : Int) ^ min (Int.toNat (IntKind.wrap IntKind.u64 (w64 (api_Car.High c.car + (1 : Int))))) (IntKind.bits IntKind.i64)) = ((2 ^ (c.H + 1) : Nat) : Int) := g2
  have g4' : decide (IntKind.wrap IntKind.u64 (api_Car.Low c.car) < (0 : Int)) = false := lo_w c.L (by omega)
  have h0 := (hl.lk.ok i hi).2
  have hx := (hl.lk.ok i hi).1
  have ei : (decide ((0 : Int) ≤ (i : Int)) && decide ((i : Int) < (l.n : Int))) = true := by rw [nat_nonneg, ltT hi]; rfl
  intro q
  induction q with
  | zero =>
    intro p n m a w h1 h2 hm hP
    obtain ⟨n, rfl⟩ : ∃ m, n = m + 1 := ⟨n - 1, by omega⟩
    refine ⟨m, a, w, Int.le_refl _, hm, fun P hF => hP P (by have := (fl_lt hc hF).1; omega) hF, fun {R} k => ?_⟩
    unfold newelref07_worst_l6 newelref07_worst_b6
    rw [g1', cond_false, g2', ltF (show 2 ^ (c.H + 1) ≤ p by omega), cond_false]
  | succ q ih =>
    intro p n m a w h1 h2 hm hP
    obtain ⟨n, rfl⟩ : ∃ m, n = m + 1 := ⟨n - 1, by omega⟩
    have hp : p < 2 ^ (c.H + 1) := by omega
    have hmm := (mask_w c.L (by omega) c.H (by omega) p (by omega)).1 hp
    have hm' : (w64 (↑(BitVec.toNat (BitVec.ofInt (IntKind.bits IntKind.i64) (p : Int) &&& BitVec.ofInt (IntKind.bits IntKind.i64) (w64 (w64 ((1 : Int) * (2 : Int) ^ min (Int.toNat (IntKind.wrap IntKind.u64 (api_Car.Low c.car))) (IntKind.bits IntKind.i64)) - (1 : Int))))) : Int) != (0 : Int)) = !maskB c.L c.H p := hmm
    -- nothing new is looked at
    have skip : (Fl c p → p.testBit f = true → (Kn l i).W.testBit f = false → ((cand c f (Kn l i) p : Nat) : Int) ≤ m) → ∃ (m' a' w' : Int), m ≤ m' ∧ m' ≤ (worstN c f : Int) ∧ (∀ P, Fl c P → P.testBit f = true → (Kn l i).W.testBit f = false → ((cand c f (Kn l i) P : Nat) : Int) ≤ m') ∧ ∀ {R : Type} (k : Int → Int → Int → Option R), newelref07_worst_l6 N n l out (f : Int) m a w (i : Int) ((p + 1 : Nat) : Int) c.car k = k m' a' w' := fun hs =>
      ih (p + 1) n m a w (by omega) (by omega) hm fun P hlt hF hb hw => by
        by_cases e : P = p
        · subst e; exact hs hF hb hw
        · exact hP P (by omega) hF hb hw
    cases hmb : maskB c.L c.H p with
    | false =>
      obtain ⟨m', a', w', k1, k2, k3, k4⟩ := skip (fun hF _ _ => by
        have := (fl_lt hc hF).2
        rw [hmb] at this; cases this)
      refine ⟨m', a', w', k1, k2, k3, fun {R} k => ?_⟩
      unfold newelref07_worst_l6 newelref07_worst_b6
      rw [g1', cond_false, g2', ltT hp, cond_true, g4', cond_false, hm', hmb, Bool.not_false, cond_true, w64_succ (show p < 1000000000000 by omega)]
      exact k4 k
    | true =>
      have hp64 : p < 64 := by omega
      have hF : Fl c p := ⟨hp64, (maskB_iff (W := p) hp64).1 hmb⟩
      cases hb : p.testBit f with
      | false =>
        obtain ⟨m', a', w', k1, k2, k3, k4⟩ := skip (fun _ h _ => by rw [hb] at h; cases h)
        refine ⟨m', a', w', k1, k2, k3, fun {R} k => ?_⟩
        unfold newelref07_worst_l6 newelref07_worst_b6
        rw [g1', cond_false, g2', ltT hp, cond_true, g4', cond_false, hm', hmb, Bool.not_true, cond_false, wrapU f (by omega), natF, cond_false, bit0 f hf p hp64, hb, Bool.not_false, cond_true, w64_succ (show p < 1000000000000 by omega)]
        exact k4 k
      | true =>
        cases hw : (Kn l i).W.testBit f with
        | true =>
          obtain ⟨m', a', w', k1, k2, k3, k4⟩ := skip (fun _ _ h => by rw [hw] at h; cases h)
          refine ⟨m', a', w', k1, k2, fun P q1 q2 q3 => k3 P q1 q2 (hw.trans q3), fun {R} k => ?_⟩
          unfold newelref07_worst_l6 newelref07_worst_b6
          rw [g1', cond_false, g2', ltT hp, cond_true, g4', cond_false, hm', hmb, Bool.not_true, cond_false, wrapU f (by omega), natF, cond_false, bit0 f hf p hp64, hb, Bool.not_true, cond_false, ei, cond_true]
          simp only [Int.toNat_natCast]
          rw [hx, wanted_eq N h0.w6 hf, hw, cond_true, w64_succ (show p < 1000000000000 by omega)]
          exact k4 k
        | false =>
          have hr' := tick_ok hc h0 hF
          have hsz := hr'.sz hc
          have hcl := codeN_lt hsz
          have ec : (decide ((0 : Int) ≤ ((codeN (tickR c.M c.S (Kn l i) p) : Nat) : Int)) && decide (((codeN (tickR c.M c.S (Kn l i) p) : Nat) : Int) < (out.n : Int))) = true := by rw [nat_nonneg, hn, ltT hcl]; rfl
          have hcu := cand_up hc h0 hf hF hb
          -- the state behind the look
          have go : ∀ (m1 a1 w1 : Int), m ≤ m1 → m1 ≤ (worstN c f : Int) → ((cand c f (Kn l i) p : Nat) : Int) ≤ m1 → ∃ (m' a' w' : Int), m ≤ m' ∧ m' ≤ (worstN c f : Int) ∧ (∀ P, Fl c P → P.testBit f = true → (Kn l i).W.testBit f = false → ((cand c f (Kn l i) P : Nat) : Int) ≤ m') ∧ ∀ {R : Type} (k : Int → Int → Int → Option R), newelref07_worst_l6 N n l out (f : Int) m1 a1 w1 (i : Int) ((p + 1 : Nat) : Int) c.car k = k m' a' w' := fun m1 a1 w1 q1 q2 q3 => by
            obtain ⟨m', a', w', k1, k2, k3, k4⟩ := ih (p + 1) n m1 a1 w1 (by omega) (by omega) q2 (fun P hlt hF' hb' hw' => by
              by_cases e : P = p
              · subst e; exact q3
              · exact Int.le_trans (hP P (by omega) hF' hb' hw') q1)
            exact ⟨m', a', w', Int.le_trans q1 k1, k2, k3, k4⟩
          have front : ∀ {R : Type} (k : Int → Int → Int → Option R), newelref07_worst_l6 N (n + 1) l out (f : Int) m a w (i : Int) (p : Int) c.car k = (bif !(servR (Kn l i) p).testBit f then
              (bif decide (out.f (codeN (tickR c.M c.S (Kn l i) p)) > m) then newelref07_worst_l6 N n l out (f : Int) (out.f (codeN (tickR c.M c.S (Kn l i) p))) (i : Int) (p : Int) (i : Int) ((p + 1 : Nat) : Int) c.car k else newelref07_worst_l6 N n l out (f : Int) m a w (i : Int) ((p + 1 : Nat) : Int) c.car k)
              else (bif decide ((0 : Int) > m) then newelref07_worst_l6 N n l out (f : Int) (0 : Int) (i : Int) (p : Int) (i : Int) ((p + 1 : Nat) : Int) c.car k else newelref07_worst_l6 N n l out (f : Int) m a w (i : Int) ((p + 1 : Nat) : Int) c.car k)) := fun {R} k => by
            conv => lhs; unfold newelref07_worst_l6 newelref07_worst_b6
            rw [g1', cond_false, g2', ltT hp, cond_true, g4', cond_false, hm', hmb, Bool.not_true, cond_false, wrapU f (by omega), natF, cond_false, bit0 f hf p hp64, hb, Bool.not_true, cond_false, ei, cond_true]
            simp only [Int.toNat_natCast]
            rw [hx, wanted_eq N h0.w6 hf, hw, cond_false, cond_true, refTick (by omega) hc h0 hF, cond_false]
            rw [show (w64 (↑(BitVec.toNat (BitVec.ofInt (IntKind.bits IntKind.i64) (Int.fdiv ((servR (Kn l i) p : Nat) : Int) ((2 : Int) ^ min f (IntKind.bits IntKind.i64))) &&& BitVec.ofInt (IntKind.bits IntKind.i64) (1 : Int))) : Int) == (0 : Int)) = !(servR (Kn l i) p).testBit f from bit0 f hf _ (serv_lt hc h0 hF), code_eq N hsz, ec, cond_true, w64_succ (show p < 1000000000000 by omega)]
            rfl
          cases hs : (servR (Kn l i) p).testBit f with
          | true =>
            have hcd : cand c f (Kn l i) p = 0 := by unfold cand; rw [hs]; rfl
            by_cases h0m : (0 : Int) > m
            · obtain ⟨m', a', w', k1, k2, k3, k4⟩ := go 0 (i : Int) (p : Int) (by omega) (by omega) (by rw [hcd]; exact Int.le_refl _)
              refine ⟨m', a', w', k1, k2, fun P q1 q2 q3 => k3 P q1 q2 (hw.trans q3), fun {R} k => ?_⟩
              rw [front, hs, Bool.not_true, cond_false, decide_eq_true h0m, cond_true]
              exact k4 k
            · obtain ⟨m', a', w', k1, k2, k3, k4⟩ := go m a w (Int.le_refl _) hm (by rw [hcd]; omega)
              refine ⟨m', a', w', k1, k2, fun P q1 q2 q3 => k3 P q1 q2 (hw.trans q3), fun {R} k => ?_⟩
              rw [front, hs, Bool.not_true, cond_false, decide_eq_false h0m, cond_false]
              exact k4 k
          | false =>
            have hcd : cand c f (Kn l i) p = pot c (tickR c.M c.S (Kn l i) p) f := by unfold cand; rw [hs]; rfl
            have hwt : (tickR c.M c.S (Kn l i) p).W.testBit f = true := by
              rw [(tick_bit hc h0 hF hf).1, hs, hb, Bool.or_true]
              rfl
            have ho := hout _ (hl.next _ ⟨i, hi, rfl⟩ p hF) hwt
            rw [← hcd] at ho
            by_cases h0m : out.f (codeN (tickR c.M c.S (Kn l i) p)) > m
            · obtain ⟨m', a', w', k1, k2, k3, k4⟩ := go (out.f (codeN (tickR c.M c.S (Kn l i) p))) (i : Int) (p : Int) (by omega) (by rw [ho]; omega) (by rw [ho]; exact Int.le_refl _)
              refine ⟨m', a', w', k1, k2, fun P q1 q2 q3 => k3 P q1 q2 (hw.trans q3), fun {R} k => ?_⟩
              rw [front, hs, Bool.not_false, cond_true, decide_eq_true h0m, cond_true]
              exact k4 k
            · obtain ⟨m', a', w', k1, k2, k3, k4⟩ := go m a w (Int.le_refl _) hm (by rw [← ho]; omega)
              refine ⟨m', a', w', k1, k2, fun P q1 q2 q3 => k3 P q1 q2 (hw.trans q3), fun {R} k => ?_⟩
              rw [front, hs, Bool.not_false, cond_true, decide_eq_false h0m, cond_false]
              exact k4 k
theorem worst_l3 {N : Nat} (hN : 70000 < N) {c : Cn} (hc : c.Ok) {l : Arr newelref07_knot} (hl : Cls c l) {f : Nat} (hf : f < 6) {out : Arr Int} (hn : out.n = 65536) (hout : ∀ r, has l r → r.W.testBit f = true → out.f (codeN r) = ((pot c r f : Nat) : Int)) : ∀ (q i n : Nat) (m a w : Int), i + q = l.n → q < n → m ≤ (worstN c f : Int) → (∀ j, j < i → ∀ P, Fl c P → P.testBit f = true → (Kn l j).W.testBit f = false → ((cand c f (Kn l j) P : Nat) : Int) ≤ m) →
    ∃ (m' a' w' : Int), m' ≤ (worstN c f : Int) ∧ (∀ r, has l r → ∀ P, Fl c P → P.testBit f = true → r.W.testBit f = false → ((cand c f r P : Nat) : Int) ≤ m') ∧ ∀ {R : Type} (k : Int → Int → Int → Option R), newelref07_worst_l3 N n l out (f : Int) m a w (i : Int) c.car k = k m' a' w' := by
  intro q
  induction q with
  | zero =>
    intro i n m a w h1 h2 hm hP
    obtain ⟨n, rfl⟩ : ∃ m, n = m + 1 := ⟨n - 1, by omega⟩
    refine ⟨m, a, w, hm, fun r ⟨j, j1, j2⟩ => by rw [← j2]; exact hP j (by omega), fun {R} k => ?_⟩
    unfold newelref07_worst_l3 newelref07_worst_b3
    rw [ltF (show l.n ≤ i by omega), cond_false]
  | succ q ih =>
    intro i n m a w h1 h2 hm hP
    obtain ⟨n, rfl⟩ : ∃ m, n = m + 1 := ⟨n - 1, by omega⟩
    have hln := hl.lk.n
    have h64 : 2 ^ (c.H + 1) ≤ 64 := by have := hc.h5; exact (hi_w c.H (by omega)).2.2.1
    obtain ⟨m1, a1, w1, k1, k2, k3, k4⟩ := worst_l6 (show 2000 < N by omega) hc hl hf hn hout (show i < l.n by omega) (2 ^ (c.H + 1)) 0 N m a w (by omega) (by omega) hm (fun P hP => by omega)
    obtain ⟨m2, a2, w2, f1, f2, f3⟩ := ih (i + 1) n m1 a1 w1 (by omega) (by omega) k2 (fun j hj P hF hb hw => by
      by_cases e : j = i
      · subst e; exact k3 P hF hb hw
      · exact Int.le_trans (hP j (by omega) P hF hb hw) k1)
    refine ⟨m2, a2, w2, f1, f2, fun {R} k => ?_⟩
    unfold newelref07_worst_l3 newelref07_worst_b3
    rw [ltT (show i < l.n by omega), cond_true]
    refine (k4 _).trans ?_
    rw [w64_succ (show i < 1000000000000 by omega)]
    exact f3 k
def endF (c : Cn) (f : Nat) : Nat := if f - c.L ≤ c.H - f then c.H else c.L
def chkS (c : Cn) (f : Nat) (r : Rd) : Bool := !r.W.testBit f && (cand c f r (2 ^ f ||| 2 ^ endF c f) == worstN c f)
def findS (c : Cn) (f : Nat) : Nat → Rd → Bool
  | 0, r => chkS c f r
  | n + 1, r => chkS c f r || findS c f n (tickR c.M c.S r 0)
theorem findS_all0 : ((List.range 4).all fun L => (List.range 4).all fun H => (List.range 4).all fun s => (List.range 4).all fun M => (List.range 4).all fun S => (List.range 4).all fun f => !cG L H s M S f || (chkS ⟨L, H, s, M, S⟩ f (beg ⟨L, H, s, M, S⟩) || findS ⟨L, H, s, M, S⟩ f 40 (tickR M S (beg ⟨L, H, s, M, S⟩) (2 ^ f)))) = true := by decide +kernel
theorem findS_ok {c : Cn} {l : Arr newelref07_knot} (hl : Cls c l) {f : Nat} : ∀ (n : Nat) (r : Rd), has l r → findS c f n r = true → ∃ s, has l s ∧ chkS c f s = true := by
  intro n
  induction n with
  | zero => intro r hr h; exact ⟨r, hr, h⟩
  | succ n ih =>
    intro r hr h
    unfold findS at h
    rw [Bool.or_eq_true] at h
    rcases h with h | h
    · exact ⟨r, hr, h⟩
    · exact ih _ (hl.next r hr 0 ⟨by decide, fun i hi => by simp at hi⟩) h
theorem some_worst {c : Cn} (hc : c.Ok) (hs : Sm c) {l : Arr newelref07_knot} (hl : Rch c (beg c) l) {f : Nat} (hf : c.L ≤ f ∧ f ≤ c.H) : ∃ r, has l r ∧ ∃ P, Fl c P ∧ P.testBit f = true ∧ r.W.testBit f = false ∧ cand c f r P = worstN c f := by
  have g1 := hs.h
  have g2 := hs.q
  have := hc.ls
  have := hc.sh
  have := hc.m1
  have := hc.s1
  have h0 := findS_all0
  simp only [List.all_eq_true, List.mem_range] at h0
  have h := h0 c.L (by omega) c.H (by omega) c.s (by omega) c.M (by omega) c.S (by omega) f (by omega)
  have hg : cG c.L c.H c.s c.M c.S f = true := decide_eq_true (by omega)
  rw [hg, Bool.not_true, Bool.false_or, Bool.or_eq_true] at h
  have hF : ∀ e, c.L ≤ e → e ≤ c.H → Fl c (2 ^ e) := fun e h1 h2 => ⟨pow_lt (by omega), fun i hi => by rw [pow_bit, decide_eq_true_eq] at hi; omega⟩
  have hE : c.L ≤ endF c f ∧ endF c f ≤ c.H := by unfold endF; split <;> omega
  have key : ∃ s, has l s ∧ chkS c f s = true := by
    rcases h with h | h
    · exact ⟨_, hl.first, h⟩
    · exact findS_ok hl.cls 40 _ (hl.next _ hl.first _ (hF f hf.1 hf.2)) h
  obtain ⟨s, s1, s2⟩ := key
  unfold chkS at s2
  simp only [Bool.and_eq_true, Bool.not_eq_true', beq_iff_eq] at s2
  refine ⟨s, s1, 2 ^ f ||| 2 ^ endF c f, ⟨or_lt (hF f hf.1 hf.2).lt (hF _ hE.1 hE.2).lt, fun i hi => ?_⟩, ?_, s2.1, s2.2⟩
  · rw [Nat.testBit_or, Bool.or_eq_true, pow_bit, pow_bit, decide_eq_true_eq, decide_eq_true_eq] at hi
    omega
  · rw [Nat.testBit_or, pow_bit, decide_eq_true rfl, Bool.true_or]
theorem checkFloor_eq (N : Nat) (c : api_Car) (f : Int) {R : Type} (k : Int → Option R) : newelref07_checkFloor N c f k = k (servesE c f) := by
  rw [newelref07_checkFloor_def]
  unfold newelref07_checkFloor_m servesE
  rw [refCar, from_eq]
  by_cases h : VC c
  · rw [if_pos h, if_pos h]
    by_cases h2 : c.Low ≤ f ∧ f ≤ c.High
    · rw [decide_eq_true h2, if_pos h2]; rfl
    · rw [decide_eq_false h2, if_neg h2]; rfl
  · rw [if_neg h, if_neg h]; rfl
theorem refWorst_err (N : Nat) {c : api_Car} {f : Int} (h : servesE c f ≠ 0) {R : Type} (k : Int → Int → Option R) : newelref07_Worst N c f k = k 0 (servesE c f) := by
  rw [newelref07_Worst_def]
  unfold newelref07_Worst_m
  rw [checkFloor_eq]
  have e0 : (servesE c f != 0) = true := by simpa using h
  rw [e0, cond_true]
theorem refWorst_eq {N : Nat} (hN : 70000 < N) {c : Cn} (hc : c.Ok) (hs : Sm c) {f : Nat} (hf : c.L ≤ f ∧ f ≤ c.H) {R : Type} (k : Int → Int → Option R) : newelref07_Worst N c.car (f : Int) k = k ((worstN c f : Nat) : Int) 0 := by
  have h5 := hc.h5
  rw [newelref07_Worst_def]
  unfold newelref07_Worst_m
  have e0 : ((0 : Int) != 0) = false := rfl
  rw [checkFloor_eq, servesE_ok hc hf, e0, cond_false, newelref07_Begin_def]
  obtain ⟨b, l, k1, k2⟩ := reach_eq hN hc (beg_ok hc)
  refine (k2 _).trans ?_
  obtain ⟨out, o1, o2, o3⟩ := bounds_eq hN hc k1.cls hf
  refine (o3 _).trans ?_
  rw [newelref07_worst_def]
  unfold newelref07_worst_m
  obtain ⟨m, a, w, w1, w2, w3⟩ := worst_l3 hN hc k1.cls (show f < 6 by omega) o1 o2 l.n 0 N (-1) 0 0 (by omega) (by have := k1.lk.n; omega) (by omega) (fun j hj => by omega)
  refine (w3 _).trans ?_
  obtain ⟨r, r1, P, p1, p2, p3, p4⟩ := some_worst hc hs k1 hf
  have := w2 r r1 P p1 p2 p3
  rw [p4] at this
  rw [show m = ((worstN c f : Nat) : Int) by omega]
open Classical in
theorem refBound_eq {N : Nat} (hN : 70000 < N) {c : Cn} (hc : c.Ok) {r : Rd} (h : Ok c r) {f : Nat} (hw : r.W.testBit f = true) {R : Type} (k : Int → Int → Option R) : newelref07_Bound N c.car r.ride (f : Int) k = k ((pot c r f : Nat) : Int) 0 := by
  have h5 := hc.h5
  have hf := h.w f hw
  have hsz := h.sz hc
  have hcl := codeN_lt hsz
  rw [newelref07_Bound_def]
  unfold newelref07_Bound_m
  have e0 : ((0 : Int) != 0) = false := rfl
  rw [refCar, if_pos hc.vc, e0, cond_false, from_eq, decide_eq_true (show (c.car.Low ≤ (f : Int) ∧ (f : Int) ≤ c.car.High) by show ((c.L : Nat) : Int) ≤ _ ∧ _ ≤ ((c.H : Nat) : Int); omega), Bool.not_true, cond_false, refRight (by omega) hc]
  rw [decide_eq_true h.right, Bool.not_true, cond_false, wanted_eq N h.w6 (by omega), hw, Bool.not_true, cond_false]
  obtain ⟨b, l, k1, k2⟩ := reach_eq hN hc h
  refine (k2 _).trans ?_
  obtain ⟨out, o1, o2, o3⟩ := bounds_eq hN hc k1.cls hf
  refine (o3 _).trans ?_
  have ec : (decide ((0 : Int) ≤ ((codeN r : Nat) : Int)) && decide (((codeN r : Nat) : Int) < (out.n : Int))) = true := by rw [nat_nonneg, o1, ltT hcl]; rfl
  rw [code_eq N hsz, ec, cond_true, Int.toNat_natCast, o2 r k1.first hw]
end
end Go.Proofs.Ytlphgonhenegoaa
