import Derived.Test.YtlphgonhenegoaaPF
set_option linter.unusedVariables false
set_option linter.unusedSimpArgs false
set_option maxHeartbeats 0
set_option maxRecDepth 100000
namespace Go.Proofs.Ytlphgonhenegoaa
open Go.Sx
section
theorem mx_nat (a b : Nat) : mxI (a : Int) (b : Int) = ((max a b : Nat) : Int) := by
  unfold mxI
  split <;> omega
theorem all_w : ∀ L : Nat, L < 6 → ∀ H : Nat, H < 6 → 2 ^ (H + 1) - 2 ^ L < 64 ∧ ∀ i : Nat, i < 6 → ((L ≤ i ∧ i ≤ H) ↔ (2 ^ (H + 1) - 2 ^ L).testBit i = true) ∨ H < L := by decide +kernel
def allN (c : Cn) : Nat := 2 ^ (c.H + 1) - 2 ^ c.L
theorem allN_ok {c : Cn} (hc : c.Ok) : All c (allN c) := by
  have h5 := hc.h5
  have hLH : c.L ≤ c.H := Nat.le_trans hc.ls hc.sh
  obtain ⟨h1, h2⟩ := all_w c.L (by omega) c.H (by omega)
  refine ⟨⟨h1, fun i hi => ?_⟩, fun i a b => ?_⟩
  · exact ((h2 i (bit_lt h1 hi)).resolve_right (by omega)).2 hi
  · exact ((h2 i (by omega)).resolve_right (by omega)).1 ⟨a, b⟩
def val (c : Cn) (f : Nat) (o : Nat → Nat) (r : Rd) (P : Nat) : Nat := bif (servR r P).testBit f then 1 else 1 + o (codeN (tickR c.M c.S r P))
structure Cls (c : Cn) (l : Arr newelref07_knot) : Prop where
  lk : LK c l
  next : ∀ s, has l s → ∀ P, Fl c P → has l (tickR c.M c.S s P)
theorem Rch.cls {c : Cn} {r : Rd} {l : Arr newelref07_knot} (h : Rch c r l) : Cls c l := ⟨h.lk, h.next⟩
theorem Cls.ok {c : Cn} {l : Arr newelref07_knot} (h : Cls c l) {r : Rd} (hr : has l r) : Ok c r := by
  obtain ⟨j, j1, j2⟩ := hr
  rw [← j2]
  exact (h.lk.ok j j1).2
structure OI (c : Cn) (l : Arr newelref07_knot) (f : Nat) (o : Nat → Nat) (k : Nat) : Prop where
  up : ∀ r, has l r → r.W.testBit f = true → o (codeN r) ≤ pot c r f
  lo : ∀ r, has l r → r.W.testBit f = true → min k (pot c r f) ≤ o (codeN r)
theorem val_up {c : Cn} (hc : c.Ok) {l : Arr newelref07_knot} (hl : Cls c l) {f : Nat} {o : Nat → Nat} {k : Nat} (hO : OI c l f o k) {r : Rd} (hr : has l r) (hw : r.W.testBit f = true) {P : Nat} (hP : Fl c P) : val c f o r P ≤ pot c r f := by
  have s := step hc (hl.ok hr) hw hP
  have one := s.one
  unfold val
  rw [s.srv]
  by_cases h1 : pot c r f = 1
  · rw [decide_eq_true h1, cond_true]; omega
  · obtain ⟨g1, g2, _⟩ := s.go h1
    have := hO.up _ (hl.next r hr P hP) g1
    rw [decide_eq_false h1, cond_false]
    omega
theorem val_lo {c : Cn} (hc : c.Ok) {l : Arr newelref07_knot} (hl : Cls c l) {f : Nat} {o : Nat → Nat} {k : Nat} (hO : OI c l f o k) {r : Rd} (hr : has l r) (hw : r.W.testBit f = true) : min (k + 1) (pot c r f) ≤ val c f o r (allN c) := by
  have hA := allN_ok hc
  have s := step hc (hl.ok hr) hw hA.1
  unfold val
  rw [s.srv]
  by_cases h1 : pot c r f = 1
  · rw [decide_eq_true h1, cond_true]; omega
  · obtain ⟨g1, g2, g3⟩ := s.go h1
    have := g3 hA
    have := hO.lo _ (hl.next r hr _ hA.1) g1
    rw [decide_eq_false h1, cond_false]
    omega
theorem bounds_l11 {N : Nat} (hN : 2000 < N) {c : Cn} (hc : c.Ok) {l : Arr newelref07_knot} (hl : Cls c l) {f : Nat} (hf : f < 6) (b0 b1 : Bool) {i : Nat} (hi : i < l.n) {o : Nat → Nat} (ho : ∀ v, o v ≤ 1000) {out : Arr Int} (hout : out.Is 65536 (fun v => (o v : Int))) : ∀ (q p n m : Nat), p + q = 2 ^ (c.H + 1) → q < n → m ≤ 2000 → (∀ P, P < p → Fl c P → val c f o (Kn l i) P ≤ m) → (∀ B, (∀ P, Fl c P → val c f o (Kn l i) P ≤ B) → m ≤ B) →
    ∃ m' : Nat, (∀ P, Fl c P → val c f o (Kn l i) P ≤ m') ∧ (∀ B, (∀ P, Fl c P → val c f o (Kn l i) P ≤ B) → m' ≤ B) ∧ ∀ {R : Type} (k : Int → Option R), newelref07_bounds_l11 N n l (f : Int) b0 (i : Int) (m : Int) (p : Int) c.car b1 out k = k (m' : Int) := by
  have h5 := hc.h5
  have hLH : c.L ≤ c.H := Nat.le_trans hc.ls hc.sh
  obtain ⟨g1, g2, g3, _⟩ := hi_w c.H (by omega)
  have g1' : decide (IntKind.wrap IntKind.u64 (w64 (api_Car.High c.car + (1 : Int))) < (0 : Int)) = false := g1
  have g2' : w64 ((1 : Int) * (2 : Int) ^ min (Int.toNat (IntKind.wrap IntKind.u64 (w64 (api_Car.High c.car + (1 : Int))))) (IntKind.bits IntKind.i64)) = ((2 ^ (c.H + 1) : Nat) : Int) := g2
  have g4' : decide (IntKind.wrap IntKind.u64 (api_Car.Low c.car) < (0 : Int)) = false := lo_w c.L (by omega)
  have h0 := (hl.lk.ok i hi).2
  have hx := (hl.lk.ok i hi).1
  intro q
  induction q with
  | zero =>
    intro p n m h1 h2 hm hP hB
    obtain ⟨n, rfl⟩ : ∃ m, n = m + 1 := ⟨n - 1, by omega⟩
    refine ⟨m, fun P hF => hP P (by have := (fl_lt hc hF).1; omega) hF, hB, fun {R} k => ?_⟩
    unfold newelref07_bounds_l11 newelref07_bounds_b11
    rw [g1', cond_false, g2', ltF (show 2 ^ (c.H + 1) ≤ p by omega), cond_false]
  | succ q ih =>
    intro p n m h1 h2 hm hP hB
    obtain ⟨n, rfl⟩ : ∃ m, n = m + 1 := ⟨n - 1, by omega⟩
    have hp : p < 2 ^ (c.H + 1) := by omega
    have hmm := (mask_w c.L (by omega) c.H (by omega) p (by omega)).1 hp
    have hm' : (w64 (↑(BitVec.toNat (BitVec.ofInt (IntKind.bits IntKind.i64) (p : Int) &&& BitVec.ofInt (IntKind.bits IntKind.i64) (w64 (w64 ((1 : Int) * (2 : Int) ^ min (Int.toNat (IntKind.wrap IntKind.u64 (api_Car.Low c.car))) (IntKind.bits IntKind.i64)) - (1 : Int))))) : Int) != (0 : Int)) = !maskB c.L c.H p := hmm
    cases hmb : maskB c.L c.H p with
    | false =>
      obtain ⟨m', k1, k2, k3⟩ := ih (p + 1) n m (by omega) (by omega) hm (fun P hlt hF => by
        by_cases e : P = p
        · subst e
          have := (fl_lt hc hF).2
          rw [hmb] at this; cases this
        · exact hP P (by omega) hF) hB
      refine ⟨m', k1, k2, fun {R} k => ?_⟩
      unfold newelref07_bounds_l11 newelref07_bounds_b11
      rw [g1', cond_false, g2', ltT hp, cond_true, g4', cond_false, hm', hmb, Bool.not_false, cond_true, w64_succ (show p < 1000000000000 by omega)]
      exact k3 k
    | true =>
      have hF : Fl c p := ⟨by omega, (maskB_iff (W := p) (by omega)).1 hmb⟩
      have hr' := tick_ok hc h0 hF
      have hsz := hr'.sz hc
      have hcl := codeN_lt hsz
      have hov := ho (codeN (tickR c.M c.S (Kn l i) p))
      have hv : val c f o (Kn l i) p ≤ 1001 := by unfold val; cases (servR (Kn l i) p).testBit f <;> simp only [cond_true, cond_false] <;> omega
      have ei : (decide ((0 : Int) ≤ (i : Int)) && decide ((i : Int) < (l.n : Int))) = true := by rw [nat_nonneg, ltT hi]; rfl
      have ec : (decide ((0 : Int) ≤ ((codeN (tickR c.M c.S (Kn l i) p) : Nat) : Int)) && decide (((codeN (tickR c.M c.S (Kn l i) p) : Nat) : Int) < (out.n : Int))) = true := by rw [nat_nonneg, hout.1, ltT hcl]; rfl
      obtain ⟨m', k1, k2, k3⟩ := ih (p + 1) n (max m (val c f o (Kn l i) p)) (by omega) (by omega) (by omega) (fun P hlt hF' => by
        by_cases e : P = p
        · subst e; omega
        · have := hP P (by omega) hF'
          omega) (fun B hB' => by
        have := hB B hB'
        have := hB' p hF
        omega)
      refine ⟨m', k1, k2, fun {R} k => ?_⟩
      conv => lhs; unfold newelref07_bounds_l11 newelref07_bounds_b11
      rw [g1', cond_false, g2', ltT hp, cond_true, g4', cond_false, hm', hmb, Bool.not_true, cond_false, ei, cond_true]
      simp only [Int.toNat_natCast]
      rw [hx, refTick (by omega) hc h0 hF, wrapU f (by omega), natF, cond_false, bitq f hf _ (serv_lt hc h0 hF), w64_succ (show p < 1000000000000 by omega)]
      have hval : val c f o (Kn l i) p = bif (servR (Kn l i) p).testBit f then 1 else 1 + o (codeN (tickR c.M c.S (Kn l i) p)) := rfl
      cases hs : (servR (Kn l i) p).testBit f with
      | true =>
        rw [hs, cond_true] at hval
        rw [cond_true, show mxI (m : Int) (1 : Int) = ((max m 1 : Nat) : Int) from mx_nat m 1]
        rw [hval] at k3
        exact k3 k
      | false =>
        rw [hs, cond_false] at hval
        rw [cond_false, code_eq N hsz, ec, cond_true, Int.toNat_natCast, hout.2 _ hcl, show w64 ((1 : Int) + (o (codeN (tickR c.M c.S (Kn l i) p)) : Int)) = ((1 + o (codeN (tickR c.M c.S (Kn l i) p)) : Nat) : Int) by rw [w64_eq (by omega) (by omega)]; omega, mx_nat]
        rw [hval] at k3
        exact k3 k
def Fix (c : Cn) (l : Arr newelref07_knot) (f : Nat) (o : Nat → Nat) : Prop := ∀ r, has l r → r.W.testBit f = true → ∀ P, Fl c P → val c f o r P ≤ o (codeN r)
theorem bounds_l6 {N : Nat} (hN : 2000 < N) {c : Cn} (hc : c.Ok) {l : Arr newelref07_knot} (hl : Cls c l) {f : Nat} (hf : c.L ≤ f ∧ f ≤ c.H) (b1 : Bool) (kk : Nat) : ∀ (q i n : Nat) (o : Nat → Nat) (out : Arr Int) (more : Bool), i + q = l.n → q < n → (∀ v, o v ≤ 1000) → out.Is 65536 (fun v => (o v : Int)) → OI c l f o kk →
      (∀ j, j < i → (Kn l j).W.testBit f = true → min (kk + 1) (pot c (Kn l j) f) ≤ o (codeN (Kn l j))) → (more = false → ∀ j, j < i → (Kn l j).W.testBit f = true → ∀ P, Fl c P → val c f o (Kn l j) P ≤ o (codeN (Kn l j))) → (77 ≤ kk → more = false) →
    ∃ (o' : Nat → Nat) (out' : Arr Int) (more' : Bool), (∀ v, o' v ≤ 1000) ∧ out'.Is 65536 (fun v => (o' v : Int)) ∧ OI c l f o' (kk + 1) ∧ (more' = false → Fix c l f o') ∧ (77 ≤ kk → more' = false) ∧ ∀ {R : Type} (k : Bool → Arr Int → Option R), newelref07_bounds_l6 N n l (f : Int) more (i : Int) c.car b1 out k = k more' out' := by
  have h5 := hc.h5
  intro q
  induction q with
  | zero =>
    intro i n o out more h1 h2 ho hout hO hlo hfix hst
    obtain ⟨n, rfl⟩ : ∃ m, n = m + 1 := ⟨n - 1, by omega⟩
    refine ⟨o, out, more, ho, hout, ⟨hO.up, fun r ⟨j, j1, j2⟩ hw => ?_⟩, fun hm r ⟨j, j1, j2⟩ hw P hP => ?_, hst, fun {R} k => ?_⟩
    · rw [← j2] at hw ⊢
      exact hlo j (by omega) hw
    · rw [← j2] at hw ⊢
      exact hfix hm j (by omega) hw P hP
    · unfold newelref07_bounds_l6 newelref07_bounds_b6
      rw [ltF (show l.n ≤ i by omega), cond_false]
  | succ q ih =>
    intro i n o out more h1 h2 ho hout hO hlo hfix hst
    obtain ⟨n, rfl⟩ : ∃ m, n = m + 1 := ⟨n - 1, by omega⟩
    have hln := hl.lk.n
    have hi : i < l.n := by omega
    have h0 := (hl.lk.ok i hi).2
    have hx := (hl.lk.ok i hi).1
    have hsz := h0.sz hc
    have hcl := codeN_lt hsz
    have ei : (decide ((0 : Int) ≤ (i : Int)) && decide ((i : Int) < (l.n : Int))) = true := by rw [nat_nonneg, ltT hi]; rfl
    have ec : (decide ((0 : Int) ≤ ((codeN (Kn l i) : Nat) : Int)) && decide (((codeN (Kn l i) : Nat) : Int) < (out.n : Int))) = true := by rw [nat_nonneg, hout.1, ltT hcl]; rfl
    have hhas : has l (Kn l i) := ⟨i, hi, rfl⟩
    cases hw : (Kn l i).W.testBit f with
    | false =>
      obtain ⟨o', out', more', k1, k2, k3, k4, k5, k6⟩ := ih (i + 1) n o out more (by omega) (by omega) ho hout hO (fun j hj hwj => by
        by_cases e : j = i
        · subst e; rw [hw] at hwj; cases hwj
        · exact hlo j (by omega) hwj) (fun hm j hj hwj => by
        by_cases e : j = i
        · subst e; rw [hw] at hwj; cases hwj
        · exact hfix hm j (by omega) hwj) hst
      refine ⟨o', out', more', k1, k2, k3, k4, k5, fun {R} k => ?_⟩
      unfold newelref07_bounds_l6 newelref07_bounds_b6
      rw [ltT hi, cond_true, nat_nonneg, Bool.true_and, cond_true, Int.toNat_natCast, hx, wanted_eq N h0.w6 (by omega), hw, Bool.not_false, cond_true, w64_succ (show i < 1000000000000 by omega)]
      exact k6 k
    | true =>
      have h64 : 2 ^ (c.H + 1) ≤ 64 := (hi_w c.H (by omega)).2.2.1
      obtain ⟨m, m1, m2, m3⟩ := bounds_l11 hN hc hl (show f < 6 by omega) more b1 hi ho hout (2 ^ (c.H + 1)) 0 N 0 (by omega) (by omega) (by omega) (fun P hP => by omega) (fun B hB => Nat.zero_le _)
      have hmp : m ≤ pot c (Kn l i) f := m2 _ fun P hP => val_up hc hl hO hhas hw hP
      have hml : min (kk + 1) (pot c (Kn l i) f) ≤ m := Nat.le_trans (val_lo hc hl hO hhas hw) (m1 _ (allN_ok hc).1)
      have hp77 := pot_le hc h0 hf.2
      have hgt : ∀ a b : Nat, decide ((a : Int) > (b : Int)) = decide (b < a) := gtN
      by_cases hgtm : o (codeN (Kn l i)) < m
      · -- raised
        have hod : ∀ v, (if v = codeN (Kn l i) then m else o v) ≤ 1000 := fun v => by split; omega; exact ho v
        have hsame : ∀ r, has l r → codeN r = codeN (Kn l i) → r = Kn l i := fun r hr e => codeN_inj ((hl.ok hr).sz hc) hsz e
        have hO' : OI c l f (fun v => if v = codeN (Kn l i) then m else o v) kk := by
          refine ⟨fun r hr hwr => ?_, fun r hr hwr => ?_⟩
          · show (if codeN r = codeN (Kn l i) then m else o (codeN r)) ≤ _
            by_cases e : codeN r = codeN (Kn l i)
            · rw [if_pos e, hsame r hr e]; exact hmp
            · rw [if_neg e]; exact hO.up r hr hwr
          · show _ ≤ (if codeN r = codeN (Kn l i) then m else o (codeN r))
            have := hO.lo r hr hwr
            by_cases e : codeN r = codeN (Kn l i)
            · rw [if_pos e]
              rw [e] at this
              omega
            · rw [if_neg e]; exact this
        obtain ⟨o', out', more', k1, k2, k3, k4, k5, k6⟩ := ih (i + 1) n (fun v => if v = codeN (Kn l i) then m else o v) (lst intC (Arr.n out) (setCs (codeN (Kn l i)) (0 : Nat) (Cod.cell intC (Arr.f out)) [SV.int IntKind.i64 (m : Int)])) true (by omega) (by omega) hod ⟨hout.1, fun v hv => by
            rw [set_f]
            by_cases e : v = codeN (Kn l i)
            · rw [if_pos e]; simp [e]
            · rw [if_neg e, hout.2 v hv]; simp [e]⟩ hO' (fun j hj hwj => by
            show _ ≤ (if codeN (Kn l j) = codeN (Kn l i) then m else o (codeN (Kn l j)))
            by_cases e : codeN (Kn l j) = codeN (Kn l i)
            · rw [if_pos e, hsame _ ⟨j, by omega, rfl⟩ e]; exact hml
            · rw [if_neg e]
              exact hlo j (by have : j ≠ i := fun h => e (by rw [h]); omega) hwj) (fun h => by cases h) (fun h77 => by
            exfalso
            have := hO.lo _ hhas hw
            omega)
        refine ⟨o', out', more', k1, k2, k3, k4, k5, fun {R} k => ?_⟩
        unfold newelref07_bounds_l6 newelref07_bounds_b6
        rw [ltT hi, cond_true, nat_nonneg, Bool.true_and, cond_true, Int.toNat_natCast, hx, wanted_eq N h0.w6 (by omega), hw, Bool.not_true, cond_false]
        refine (m3 _).trans ?_
        rw [cond_true, code_eq N hsz, ec, cond_true, Int.toNat_natCast, hout.2 _ hcl, hgt, decide_eq_true hgtm, cond_true, cond_true, code_eq N hsz, ec, cond_true, w64_succ (show i < 1000000000000 by omega)]
        exact k6 k
      · obtain ⟨o', out', more', k1, k2, k3, k4, k5, k6⟩ := ih (i + 1) n o out more (by omega) (by omega) ho hout hO (fun j hj hwj => by
          by_cases e : j = i
          · subst e; omega
          · exact hlo j (by omega) hwj) (fun hm j hj hwj P hP => by
          by_cases e : j = i
          · subst e
            have := m1 P hP
            omega
          · exact hfix hm j (by omega) hwj P hP) hst
        refine ⟨o', out', more', k1, k2, k3, k4, k5, fun {R} k => ?_⟩
        unfold newelref07_bounds_l6 newelref07_bounds_b6
        rw [ltT hi, cond_true, nat_nonneg, Bool.true_and, cond_true, Int.toNat_natCast, hx, wanted_eq N h0.w6 (by omega), hw, Bool.not_true, cond_false]
        refine (m3 _).trans ?_
        rw [cond_true, code_eq N hsz, ec, cond_true, Int.toNat_natCast, hout.2 _ hcl, hgt, decide_eq_false hgtm, cond_false, w64_succ (show i < 1000000000000 by omega)]
        exact k6 k
theorem bounds_l3 {N : Nat} (hN : 70000 < N) {c : Cn} (hc : c.Ok) {l : Arr newelref07_knot} (hl : Cls c l) {f : Nat} (hf : c.L ≤ f ∧ f ≤ c.H) (b1 : Bool) : ∀ (q kk n : Nat) (o : Nat → Nat) (out : Arr Int) (more : Bool), kk + q = 80 → q < n → (∀ v, o v ≤ 1000) → out.Is 65536 (fun v => (o v : Int)) → OI c l f o kk → (more = false → Fix c l f o) → (78 ≤ kk → more = false) →
    ∃ (o' : Nat → Nat) (out' : Arr Int), (∀ v, o' v ≤ 1000) ∧ out'.Is 65536 (fun v => (o' v : Int)) ∧ OI c l f o' 0 ∧ Fix c l f o' ∧ ∀ {R : Type} (k : Arr Int → Option R), newelref07_bounds_l3 N n l (f : Int) more c.car b1 out k = k out' := by
  intro q
  induction q with
  | zero =>
    intro kk n o out more h1 h2 ho hout hO hfix hst
    obtain ⟨n, rfl⟩ : ∃ m, n = m + 1 := ⟨n - 1, by omega⟩
    have hm := hst (by omega)
    subst hm
    refine ⟨o, out, ho, hout, ⟨hO.up, fun _ _ _ => by omega⟩, hfix rfl, fun {R} k => ?_⟩
    unfold newelref07_bounds_l3 newelref07_bounds_b3
    rfl
  | succ q ih =>
    intro kk n o out more h1 h2 ho hout hO hfix hst
    obtain ⟨n, rfl⟩ : ∃ m, n = m + 1 := ⟨n - 1, by omega⟩
    cases more with
    | false =>
      refine ⟨o, out, ho, hout, ⟨hO.up, fun _ _ _ => by omega⟩, hfix rfl, fun {R} k => ?_⟩
      unfold newelref07_bounds_l3 newelref07_bounds_b3
      rfl
    | true =>
      have hln := hl.lk.n
      obtain ⟨o1, out1, more1, k1, k2, k3, k4, k5, k6⟩ := bounds_l6 (show 2000 < N by omega) hc hl hf b1 kk l.n 0 N o out false (by omega) (by omega) ho hout hO (fun j hj => by omega) (fun _ j hj => by omega) (fun _ => rfl)
      obtain ⟨o2, out2, f1, f2, f3, f4, f5⟩ := ih (kk + 1) n o1 out1 more1 (by omega) (by omega) k1 k2 k3 k4 (fun h => k5 (by omega))
      refine ⟨o2, out2, f1, f2, f3, f4, fun {R} k => ?_⟩
      unfold newelref07_bounds_l3 newelref07_bounds_b3
      rw [cond_true]
      refine (k6 _).trans ?_
      exact f5 k
theorem bounds_eq {N : Nat} (hN : 70000 < N) {c : Cn} (hc : c.Ok) {l : Arr newelref07_knot} (hl : Cls c l) {f : Nat} (hf : c.L ≤ f ∧ f ≤ c.H) :
    ∃ (out : Arr Int), out.n = 65536 ∧ (∀ r, has l r → r.W.testBit f = true → out.f (codeN r) = ((pot c r f : Nat) : Int)) ∧ ∀ {R : Type} (k : Bool → Arr Int → Option R), newelref07_bounds N c.car l (f : Int) k = k false out := by
  have hz : (lst intC (65536 : Nat) (zeroC [SV.int IntKind.i64 (0 : Int)])).Is 65536 (fun v => (((fun _ => 0 : Nat → Nat) v : Nat) : Int)) := ⟨rfl, fun v hv => rfl⟩
  obtain ⟨o, out, k1, k2, k3, k4, k5⟩ := bounds_l3 hN hc hl hf false 80 0 N (fun _ => 0) _ true (by omega) (by omega) (fun _ => Nat.zero_le _) hz ⟨fun _ _ _ => Nat.zero_le _, fun _ _ _ => by omega⟩ (fun h => by cases h) (fun h => by omega)
  have lo : ∀ (m : Nat) (r : Rd), has l r → r.W.testBit f = true → pot c r f ≤ m → pot c r f ≤ o (codeN r) := by
    intro m
    induction m with
    | zero => intro r _ _ h; omega
    | succ m ih =>
      intro r hr hw hp
      have hA := allN_ok hc
      have s := step hc (hl.ok hr) hw hA.1
      have hv := k4 r hr hw _ hA.1
      unfold val at hv
      rw [s.srv] at hv
      by_cases h1 : pot c r f = 1
      · rw [decide_eq_true h1, cond_true] at hv; omega
      · obtain ⟨g1, g2, g3⟩ := s.go h1
        have e := g3 hA
        rw [decide_eq_false h1, cond_false] at hv
        have := ih _ (hl.next r hr _ hA.1) g1 (by omega)
        omega
  refine ⟨out, k2.1, fun r hr hw => ?_, fun {R} k => ?_⟩
  · rw [k2.2 _ (codeN_lt ((hl.ok hr).sz hc))]
    have := lo _ r hr hw (Nat.le_refl _)
    have := k3.up r hr hw
    omega
  · rw [newelref07_bounds_def]
    unfold newelref07_bounds_m
    exact k5 _
end
end Go.Proofs.Ytlphgonhenegoaa
