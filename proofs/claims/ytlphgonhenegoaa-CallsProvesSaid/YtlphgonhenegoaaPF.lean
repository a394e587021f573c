import Derived.Test.YtlphgonhenegoaaQ6
set_option linter.unusedVariables false
set_option linter.unusedSimpArgs false
set_option maxHeartbeats 0
set_option maxRecDepth 100000
namespace Go.Proofs.Ytlphgonhenegoaa
open Go.Sx
section
def rdOf (x : api_Ride) : Rd := ⟨x.Floor.toNat, x.Up, x.Stood, x.Doing.toNat, x.Left.toNat, x.Wants.toNat⟩
theorem rdOf_ride (r : Rd) : rdOf r.ride = r := by
  cases r
  simp [rdOf, Rd.ride]
def codeN (r : Rd) : Nat := (((r.F + (bif r.up then 8 else 0) + (bif r.stood then 16 else 0)) * 4 + r.doing) * 8 + r.left) * 64 + r.W
structure Sz (r : Rd) : Prop where
  f : r.F < 8
  d : r.doing < 4
  l : r.left < 8
  w : r.W < 64
theorem Ok.sz {c : Cn} (hc : c.Ok) {r : Rd} (h : Ok c r) : Sz r := by
  have h5 := hc.h5
  have m3 := hc.m3
  have s4 := hc.s4
  have hd := h.d
  refine ⟨by have := h.f; omega, by omega, ?_, h.w6⟩
  rcases (show r.doing = 0 ∨ r.doing = 1 ∨ r.doing = 2 by omega) with e | e | e
  · have := (h.d0 e).1; omega
  · have := (h.d1 e).1; omega
  · have := (h.d2 e).1; omega
theorem codeN_lt {r : Rd} (h : Sz r) : codeN r < 65536 := by
  obtain ⟨h1, h2, h3, h4⟩ := h
  unfold codeN
  cases r.up <;> cases r.stood <;> simp only [cond_true, cond_false] <;> omega
theorem codeN_inj {r s : Rd} (h : Sz r) (g : Sz s) (e : codeN r = codeN s) : r = s := by
  obtain ⟨h1, h2, h3, h4⟩ := h
  obtain ⟨g1, g2, g3, g4⟩ := g
  obtain ⟨F, u, sd, d, l, W⟩ := r
  obtain ⟨F', u', sd', d', l', W'⟩ := s
  simp only at h1 h2 h3 h4 g1 g2 g3 g4
  unfold codeN at e
  simp only at e
  cases u <;> cases u' <;> cases sd <;> cases sd' <;> simp only [cond_true, cond_false] at e <;> first | (exfalso; omega) | (simp only [Rd.mk.injEq, true_and]; omega)
theorem code_eq (N : Nat) {r : Rd} (h : Sz r) {R : Type} (k : Int → Option R) : newelref07_code N r.ride k = k ((codeN r : Nat) : Int) := by
  obtain ⟨h1, h2, h3, h4⟩ := h
  obtain ⟨F, u, sd, d, l, W⟩ := r
  simp only at h1 h2 h3 h4
  rw [newelref07_code_def]
  unfold newelref07_code_m
  cases u <;> cases sd
  · show k (w64 (w64 (w64 (w64 (w64 (w64 ((F : Int) * 4) + (d : Int)) * 8) + (l : Int)) * 64) + (W : Int))) = _
    congr 1
    simp only [codeN, cond_false]
    rw [w64_eq (n := (F : Int) * 4) (by omega) (by omega), w64_eq (n := (F : Int) * 4 + (d : Int)) (by omega) (by omega), w64_eq (n := ((F : Int) * 4 + (d : Int)) * 8) (by omega) (by omega), w64_eq (n := ((F : Int) * 4 + (d : Int)) * 8 + (l : Int)) (by omega) (by omega), w64_eq (n := (((F : Int) * 4 + (d : Int)) * 8 + (l : Int)) * 64) (by omega) (by omega), w64_eq (by omega) (by omega)]
    omega
  · show k (w64 (w64 (w64 (w64 (w64 (w64 (w64 ((F : Int) + 16) * 4) + (d : Int)) * 8) + (l : Int)) * 64) + (W : Int))) = _
    congr 1
    simp only [codeN, cond_false, cond_true]
    rw [w64_eq (n := (F : Int) + 16) (by omega) (by omega), w64_eq (n := ((F : Int) + 16) * 4) (by omega) (by omega), w64_eq (n := ((F : Int) + 16) * 4 + (d : Int)) (by omega) (by omega), w64_eq (n := (((F : Int) + 16) * 4 + (d : Int)) * 8) (by omega) (by omega), w64_eq (n := (((F : Int) + 16) * 4 + (d : Int)) * 8 + (l : Int)) (by omega) (by omega), w64_eq (n := ((((F : Int) + 16) * 4 + (d : Int)) * 8 + (l : Int)) * 64) (by omega) (by omega), w64_eq (by omega) (by omega)]
    omega
  · show k (w64 (w64 (w64 (w64 (w64 (w64 (w64 ((F : Int) + 8) * 4) + (d : Int)) * 8) + (l : Int)) * 64) + (W : Int))) = _
    congr 1
    simp only [codeN, cond_false, cond_true]
    rw [w64_eq (n := (F : Int) + 8) (by omega) (by omega), w64_eq (n := ((F : Int) + 8) * 4) (by omega) (by omega), w64_eq (n := ((F : Int) + 8) * 4 + (d : Int)) (by omega) (by omega), w64_eq (n := (((F : Int) + 8) * 4 + (d : Int)) * 8) (by omega) (by omega), w64_eq (n := (((F : Int) + 8) * 4 + (d : Int)) * 8 + (l : Int)) (by omega) (by omega), w64_eq (n := ((((F : Int) + 8) * 4 + (d : Int)) * 8 + (l : Int)) * 64) (by omega) (by omega), w64_eq (by omega) (by omega)]
    omega
  · show k (w64 (w64 (w64 (w64 (w64 (w64 (w64 (w64 ((F : Int) + 8) + 16) * 4) + (d : Int)) * 8) + (l : Int)) * 64) + (W : Int))) = _
    congr 1
    simp only [codeN, cond_true]
    rw [w64_eq (n := (F : Int) + 8) (by omega) (by omega), w64_eq (n := (F : Int) + 8 + 16) (by omega) (by omega), w64_eq (n := ((F : Int) + 8 + 16) * 4) (by omega) (by omega), w64_eq (n := ((F : Int) + 8 + 16) * 4 + (d : Int)) (by omega) (by omega), w64_eq (n := (((F : Int) + 8 + 16) * 4 + (d : Int)) * 8) (by omega) (by omega), w64_eq (n := (((F : Int) + 8 + 16) * 4 + (d : Int)) * 8 + (l : Int)) (by omega) (by omega), w64_eq (n := ((((F : Int) + 8 + 16) * 4 + (d : Int)) * 8 + (l : Int)) * 64) (by omega) (by omega), w64_eq (by omega) (by omega)]
    omega
theorem knot_dec (x : newelref07_knot) : newelref07_knotC.dec (lget (newelref07_knotC.enc x)) = x := rfl
theorem setB_f (a : Nat → Bool) (c m : Nat) (v : Bool) (x : Nat) : (lst boolC c (setCs m 0 (Cod.cell boolC a) [SV.bool v])).f x = if x = m then v else a x := by
  show toB (setCs m 0 (Cod.cell boolC a) [SV.bool v] x 0) = _
  by_cases h : x = m
  · subst h
    simp [setCs, setC, toB]
  · have e0 : (x == m) = false := by simpa using h
    show toB (setC m 0 (Cod.cell boolC a) (SV.bool v) x 0) = _
    simp only [setC, e0, Bool.false_and, cond_false]
    rw [if_neg h]
    rfl
theorem cntB_set {b b' : Nat → Bool} {v : Nat} (hv : b v = false) (h : ∀ x, b' x = if x = v then true else b x) : ∀ n, cntB b' n = cntB b n + (if v < n then 1 else 0) := by
  intro n
  induction n with
  | zero => rfl
  | succ n ih =>
    show cntB b' n + _ = cntB b n + _ + _
    rw [ih, h n]
    by_cases e : n = v
    · subst e
      rw [if_pos rfl, hv, if_neg (Nat.lt_irrefl _), if_pos (Nat.lt_succ_self _)]
      rfl
    · rw [if_neg e]
      by_cases g : v < n
      · rw [if_pos g, if_pos (by omega)]; omega
      · rw [if_neg g, if_neg (by omega)]; omega
abbrev Kn (l : Arr newelref07_knot) (j : Nat) : Rd := rdOf (l.f j).f_ride
def has (l : Arr newelref07_knot) (r : Rd) : Prop := ∃ j, j < l.n ∧ Kn l j = r
structure LK (c : Cn) (l : Arr newelref07_knot) : Prop where
  ok : ∀ j, j < l.n → (l.f j).f_ride = (Kn l j).ride ∧ Ok c (Kn l j)
  n : l.n ≤ 65536
structure BI (c : Cn) (l : Arr newelref07_knot) (S : Arr Bool) : Prop where
  lk : LK c l
  sn : S.n = 65536
  s : ∀ v, v < 65536 → (S.f v = true ↔ ∃ j, j < l.n ∧ codeN (Kn l j) = v)
  ct : cntB (fun v => S.f v) 65536 = l.n
theorem fl_lt {c : Cn} (hc : c.Ok) {P : Nat} (hP : Fl c P) : P < 2 ^ (c.H + 1) ∧ maskB c.L c.H P = true := by
  have h5 := hc.h5
  have hLH : c.L ≤ c.H := Nat.le_trans hc.ls hc.sh
  have hm := (maskB_iff hP.lt).2 hP.b
  refine ⟨Classical.byContradiction fun hn => ?_, hm⟩
  have := (mask_w c.L (by omega) c.H (by omega) P hP.lt).2 hn
  rw [hm] at this
  cases this
theorem reach_l8 {N : Nat} (hN : 2000 < N) {c : Cn} (hc : c.Ok) (b0 : Bool) {i : Nat} {r0 : Rd} (h0 : Ok c r0) : ∀ (q p n : Nat) (S : Arr Bool) (b : Bool) (l : Arr newelref07_knot), p + q = 2 ^ (c.H + 1) → q < n → i < l.n → Kn l i = r0 → BI c l S → (∀ P, P < p → Fl c P → has l (tickR c.M c.S r0 P)) →
    ∃ (S' : Arr Bool) (b' : Bool) (l' : Arr newelref07_knot), BI c l' S' ∧ l.n ≤ l'.n ∧ (∀ j, j < l.n → Kn l' j = Kn l j) ∧ (∀ P, Fl c P → has l' (tickR c.M c.S r0 P)) ∧ ∀ {R : Type} (k : Arr Bool → Bool → Arr newelref07_knot → Option R), newelref07_reach_l8 N n (i : Int) (p : Int) c.car b0 S b l k = k S' b' l' := by
  have h5 := hc.h5
  have hLH : c.L ≤ c.H := Nat.le_trans hc.ls hc.sh
  obtain ⟨g1, g2, g3, _⟩ := hi_w c.H (by omega)
  have g1' : decide (IntKind.wrap IntKind.u64 (w64 (api_Car.High c.car + (1 : Int))) < (0 : Int)) = false := g1
  have g2' : w64 ((1 : Int) * (2 : Int) ^ min (Int.toNat (IntKind.wrap IntKind.u64 (w64 (api_Car.High c.car + (1 : Int))))) (IntKind.bits IntKind.i64)) = ((2 ^ (c.H + 1) : Nat) : Int) := g2
  have g4' : decide (IntKind.wrap IntKind.u64 (api_Car.Low c.car) < (0 : Int)) = false := lo_w c.L (by omega)
  intro q
  induction q with
  | zero =>
    intro p n S b l h1 h2 hi hr hI hP
    obtain ⟨n, rfl⟩ : ∃ m, n = m + 1 := ⟨n - 1, by omega⟩
    refine ⟨S, b, l, hI, Nat.le_refl _, fun _ _ => rfl, fun P hF => hP P (by have := (fl_lt hc hF).1; omega) hF, fun {R} k => ?_⟩
    unfold newelref07_reach_l8 newelref07_reach_b8
    rw [g1', cond_false, g2', ltF (show 2 ^ (c.H + 1) ≤ p by omega), cond_false]
  | succ q ih =>
    intro p n S b l h1 h2 hi hr hI hP
    obtain ⟨n, rfl⟩ : ∃ m, n = m + 1 := ⟨n - 1, by omega⟩
    have hp : p < 2 ^ (c.H + 1) := by omega
    have hm := (mask_w c.L (by omega) c.H (by omega) p (by omega)).1 hp
    have hm' : (w64 (↑(BitVec.toNat (BitVec.ofInt (IntKind.bits IntKind.i64) (p : Int) &&& BitVec.ofInt (IntKind.bits IntKind.i64) (w64 (w64 ((1 : Int) * (2 : Int) ^ min (Int.toNat (IntKind.wrap IntKind.u64 (api_Car.Low c.car))) (IntKind.bits IntKind.i64)) - (1 : Int))))) : Int) != (0 : Int)) = !maskB c.L c.H p := hm
    cases hmb : maskB c.L c.H p with
    | false =>
      obtain ⟨S', b', l', k1, k2, k3, k4, k5⟩ := ih (p + 1) n S b l (by omega) (by omega) hi hr hI (fun P hlt hF => by
        by_cases e : P = p
        · subst e
          have := (fl_lt hc hF).2
          rw [hmb] at this; cases this
        · exact hP P (by omega) hF)
      refine ⟨S', b', l', k1, k2, k3, k4, fun {R} k => ?_⟩
      unfold newelref07_reach_l8 newelref07_reach_b8
      rw [g1', cond_false, g2', ltT hp, cond_true, g4', cond_false, hm', hmb, Bool.not_false, cond_true, w64_succ (show p < 1000000000000 by omega)]
      exact k5 k
    | true =>
      have hF : Fl c p := ⟨by omega, (maskB_iff (W := p) (by omega)).1 hmb⟩
      have hr' := tick_ok hc h0 hF
      have hsz := hr'.sz hc
      have hcl := codeN_lt hsz
      have hx : (l.f i).f_ride = r0.ride := by rw [(hI.lk.ok i hi).1, hr]
      have ei : (decide ((0 : Int) ≤ (i : Int)) && decide ((i : Int) < (l.n : Int))) = true := by rw [nat_nonneg, ltT hi]; rfl
      have ec : (decide ((0 : Int) ≤ ((codeN (tickR c.M c.S r0 p) : Nat) : Int)) && decide (((codeN (tickR c.M c.S r0 p) : Nat) : Int) < (S.n : Int))) = true := by rw [nat_nonneg, hI.sn, ltT hcl]; rfl
      have front : ∀ {R : Type} (k : Arr Bool → Bool → Arr newelref07_knot → Option R), newelref07_reach_l8 N (n + 1) (i : Int) (p : Int) c.car b0 S b l k = (bif !S.f (codeN (tickR c.M c.S r0 p)) then
         (bif room (Arr.n l + (1 : Nat)) then
           newelref07_reach_l8 N n (i : Int) ((p + 1 : Nat) : Int) c.car b0 (lst boolC (Arr.n S) (setCs (codeN (tickR c.M c.S r0 p)) (0 : Nat) (Cod.cell boolC (Arr.f S)) [SV.bool true])) false (lst newelref07_knotC (Arr.n l + (1 : Nat)) (catC (Arr.n l) (Cod.cell newelref07_knotC (Arr.f l)) (litC [SV.int IntKind.i64 (0 : Int), SV.bool false, SV.bool false, SV.int IntKind.i64 (0 : Int), SV.int IntKind.i64 (0 : Int), SV.int IntKind.i64 (0 : Int), SV.int IntKind.i64 (0 : Int), SV.int IntKind.i64 (0 : Int)] [newelref07_knotC.enc ⟨(tickR c.M c.S r0 p).ride, (i : Int), (p : Int)⟩]))) k
          else none) else newelref07_reach_l8 N n (i : Int) ((p + 1 : Nat) : Int) c.car b0 S b l k) := fun {R} k => by
        conv => lhs; unfold newelref07_reach_l8 newelref07_reach_b8
        rw [g1', cond_false, g2', ltT hp, cond_true, g4', cond_false, hm', hmb, Bool.not_true, cond_false, ei, cond_true]
        simp only [Int.toNat_natCast]
        rw [hx, refTick (by omega) hc h0 hF, code_eq N hsz, ec, cond_true, code_eq N hsz, ec, cond_true, w64_succ (show p < 1000000000000 by omega)]
        rfl
      cases hs : S.f (codeN (tickR c.M c.S r0 p)) with
      | true =>
        obtain ⟨S', b', l', k1, k2, k3, k4, k5⟩ := ih (p + 1) n S b l (by omega) (by omega) hi hr hI (fun P hlt hF' => by
          by_cases e : P = p
          · subst e
            obtain ⟨j, j1, j2⟩ := (hI.s _ hcl).1 hs
            exact ⟨j, j1, codeN_inj ((hI.lk.ok j j1).2.sz hc) hsz j2⟩
          · exact hP P (by omega) hF')
        refine ⟨S', b', l', k1, k2, k3, k4, fun {R} k => ?_⟩
        rw [front, hs, Bool.not_true, cond_false]
        exact k5 k
      | false =>
        have hpush := Arr.Is.push (C := newelref07_knotC) knot_dec (a := l) (n := l.n) (g := fun j => if j < l.n then l.f j else ⟨(tickR c.M c.S r0 p).ride, (i : Int), (p : Int)⟩) ⟨rfl, fun i hi => by simp [hi]⟩ (z := [SV.int IntKind.i64 (0 : Int), SV.bool false, SV.bool false, SV.int IntKind.i64 (0 : Int), SV.int IntKind.i64 (0 : Int), SV.int IntKind.i64 (0 : Int), SV.int IntKind.i64 (0 : Int), SV.int IntKind.i64 (0 : Int)]) (e := newelref07_knotC.enc ⟨(tickR c.M c.S r0 p).ride, (i : Int), (p : Int)⟩) (by simp; rfl)
        generalize hl' : (lst newelref07_knotC (Arr.n l + (1 : Nat)) (catC (Arr.n l) (Cod.cell newelref07_knotC (Arr.f l)) (litC [SV.int IntKind.i64 (0 : Int), SV.bool false, SV.bool false, SV.int IntKind.i64 (0 : Int), SV.int IntKind.i64 (0 : Int), SV.int IntKind.i64 (0 : Int), SV.int IntKind.i64 (0 : Int), SV.int IntKind.i64 (0 : Int)] [newelref07_knotC.enc ⟨(tickR c.M c.S r0 p).ride, (i : Int), (p : Int)⟩]))) = l1 at hpush front
        have hn1 : l1.n = l.n + 1 := hpush.1
        have hold : ∀ j, j < l.n → l1.f j = l.f j := fun j hj => (hpush.2 j (by omega)).trans (by simp [hj])
        have hkold : ∀ j, j < l.n → Kn l1 j = Kn l j := fun j hj => by unfold Kn; rw [hold j hj]
        have hnew : l1.f l.n = ⟨(tickR c.M c.S r0 p).ride, (i : Int), (p : Int)⟩ := (hpush.2 l.n (by omega)).trans (by simp)
        have hknew : Kn l1 l.n = tickR c.M c.S r0 p := by unfold Kn; rw [hnew]; exact rdOf_ride _
        have hSf : ∀ x, (lst boolC (Arr.n S) (setCs (codeN (tickR c.M c.S r0 p)) (0 : Nat) (Cod.cell boolC (Arr.f S)) [SV.bool true])).f x = if x = codeN (tickR c.M c.S r0 p) then true else S.f x := fun x => setB_f S.f S.n _ true x
        have hct := cntB_set hs hSf 65536
        rw [if_pos hcl, hI.ct] at hct
        have hcn := cntB_n (fun v => (lst boolC (Arr.n S) (setCs (codeN (tickR c.M c.S r0 p)) (0 : Nat) (Cod.cell boolC (Arr.f S)) [SV.bool true])).f v) 65536
        rw [show cntB (fun v => (lst boolC (Arr.n S) (setCs (codeN (tickR c.M c.S r0 p)) (0 : Nat) (Cod.cell boolC (Arr.f S)) [SV.bool true])).f v) 65536 = l.n + 1 from hct] at hcn
        have hI' : BI c l1 (lst boolC (Arr.n S) (setCs (codeN (tickR c.M c.S r0 p)) (0 : Nat) (Cod.cell boolC (Arr.f S)) [SV.bool true])) := by
          refine ⟨⟨fun j hj => ?_, by omega⟩, hI.sn, fun v hv => ?_, hct.trans hn1.symm⟩
          · by_cases e : j < l.n
            · rw [hold j e, hkold j e]; exact hI.lk.ok j e
            · have : j = l.n := by omega
              subst this
              rw [hnew, hknew]
              exact ⟨rfl, hr'⟩
          · rw [hSf]
            by_cases e : v = codeN (tickR c.M c.S r0 p)
            · rw [if_pos e]
              exact ⟨fun _ => ⟨l.n, by omega, by rw [hknew]; exact e.symm⟩, fun _ => rfl⟩
            · rw [if_neg e, hI.s v hv]
              constructor
              · rintro ⟨j, j1, j2⟩
                exact ⟨j, by omega, by rw [hkold j j1]; exact j2⟩
              · rintro ⟨j, j1, j2⟩
                by_cases e2 : j < l.n
                · exact ⟨j, e2, by rw [← hkold j e2]; exact j2⟩
                · have : j = l.n := by omega
                  subst this
                  rw [hknew] at j2
                  exact absurd j2.symm e
        obtain ⟨S', b', l', k1, k2, k3, k4, k5⟩ := ih (p + 1) n _ false l1 (by omega) (by omega) (by omega) (by rw [hkold i hi]; exact hr) hI' (fun P hlt hF' => by
          by_cases e : P = p
          · subst e
            exact ⟨l.n, by omega, hknew⟩
          · obtain ⟨j, j1, j2⟩ := hP P (by omega) hF'
            exact ⟨j, by omega, by rw [hkold j j1]; exact j2⟩)
        refine ⟨S', b', l', k1, by omega, fun j hj => by rw [k3 j (by omega), hkold j hj], k4, fun {R} k => ?_⟩
        rw [front, hs, Bool.not_false, cond_true, room_of (by omega), cond_true]
        exact k5 k
theorem reach_l5 {N : Nat} (hN : 70000 < N) {c : Cn} (hc : c.Ok) (b0 : Bool) : ∀ (q i n : Nat) (S : Arr Bool) (b : Bool) (l : Arr newelref07_knot), i + q = 65536 → q < n → i ≤ l.n → BI c l S → (∀ j, j < i → ∀ P, Fl c P → has l (tickR c.M c.S (Kn l j) P)) →
    ∃ (b' : Bool) (l' : Arr newelref07_knot), LK c l' ∧ l.n ≤ l'.n ∧ (∀ j, j < l.n → Kn l' j = Kn l j) ∧ (∀ j, j < l'.n → ∀ P, Fl c P → has l' (tickR c.M c.S (Kn l' j) P)) ∧ ∀ {R : Type} (k : Bool → Arr newelref07_knot → Option R), newelref07_reach_l5 N n (i : Int) c.car b0 S b l k = k b' l' := by
  intro q
  induction q with
  | zero =>
    intro i n S b l h1 h2 hi hI hP
    obtain ⟨n, rfl⟩ : ∃ m, n = m + 1 := ⟨n - 1, by omega⟩
    have hn := hI.lk.n
    refine ⟨b, l, hI.lk, Nat.le_refl _, fun _ _ => rfl, fun j hj => hP j (by omega), fun {R} k => ?_⟩
    unfold newelref07_reach_l5 newelref07_reach_b5
    rw [ltF (show l.n ≤ i by omega), cond_false]
  | succ q ih =>
    intro i n S b l h1 h2 hi hI hP
    obtain ⟨n, rfl⟩ : ∃ m, n = m + 1 := ⟨n - 1, by omega⟩
    by_cases hil : i < l.n
    · have h64 : 2 ^ (c.H + 1) ≤ 64 := by have := hc.h5; exact (hi_w c.H (by omega)).2.2.1
      obtain ⟨S', b', l', k1, k2, k3, k4, k5⟩ := reach_l8 (show 2000 < N by omega) hc b0 (hI.lk.ok i hil).2 (2 ^ (c.H + 1)) 0 N S b l (by omega) (by omega) hil rfl hI (fun P hP => by omega)
      have ext : ∀ r, has l r → has l' r := fun r ⟨j, j1, j2⟩ => ⟨j, by omega, by rw [k3 j j1]; exact j2⟩
      obtain ⟨b2, l2, f1, f2, f3, f4, f5⟩ := ih (i + 1) n S' b' l' (by omega) (by omega) (by omega) k1 (fun j hj P hF => by
        rw [k3 j (by omega)]
        by_cases e : j = i
        · subst e; exact k4 P hF
        · exact ext _ (hP j (by omega) P hF))
      refine ⟨b2, l2, f1, by omega, fun j hj => by rw [f3 j (by omega), k3 j hj], f4, fun {R} k => ?_⟩
      unfold newelref07_reach_l5 newelref07_reach_b5
      rw [ltT hil, cond_true]
      refine (k5 _).trans ?_
      rw [w64_succ (show i < 1000000000000 by omega)]
      exact f5 k
    · refine ⟨b, l, hI.lk, Nat.le_refl _, fun _ _ => rfl, fun j hj => hP j (by omega), fun {R} k => ?_⟩
      unfold newelref07_reach_l5 newelref07_reach_b5
      rw [ltF (show l.n ≤ i by omega), cond_false]
structure Rch (c : Cn) (r : Rd) (l : Arr newelref07_knot) : Prop where
  lk : LK c l
  first : has l r
  next : ∀ s, has l s → ∀ P, Fl c P → has l (tickR c.M c.S s P)
theorem reach_eq {N : Nat} (hN : 70000 < N) {c : Cn} (hc : c.Ok) {r : Rd} (h : Ok c r) : ∃ (b : Bool) (l : Arr newelref07_knot), Rch c r l ∧ ∀ {R : Type} (k : Bool → Arr newelref07_knot → Option R), newelref07_reach N c.car r.ride k = k b l := by
  have hsz := h.sz hc
  have hcl := codeN_lt hsz
  have e1 : (decide ((0 : Int) ≤ ((codeN r : Nat) : Int)) && decide (((codeN r : Nat) : Int) < (↑(Int.toNat (65536 : Int)) : Int))) = true := by
    rw [nat_nonneg, Bool.true_and, show Int.toNat (65536 : Int) = 65536 from by decide]
    exact ltT hcl
  have hK0 : Kn (lst newelref07_knotC (1 : Nat) (litC [SV.int IntKind.i64 (0 : Int), SV.bool false, SV.bool false, SV.int IntKind.i64 (0 : Int), SV.int IntKind.i64 (0 : Int), SV.int IntKind.i64 (0 : Int), SV.int IntKind.i64 (0 : Int), SV.int IntKind.i64 (0 : Int)] [newelref07_knotC.enc ⟨r.ride, -1, 0⟩])) 0 = r := rdOf_ride r
  have hL : LK c (lst newelref07_knotC (1 : Nat) (litC [SV.int IntKind.i64 (0 : Int), SV.bool false, SV.bool false, SV.int IntKind.i64 (0 : Int), SV.int IntKind.i64 (0 : Int), SV.int IntKind.i64 (0 : Int), SV.int IntKind.i64 (0 : Int), SV.int IntKind.i64 (0 : Int)] [newelref07_knotC.enc ⟨r.ride, -1, 0⟩])) := ⟨fun j hj => by
    have : j = 0 := by have : j < 1 := hj; omega
    subst this
    rw [hK0]
    exact ⟨rfl, h⟩, by show 1 ≤ 65536; decide⟩
  have hSf : ∀ x, (lst boolC 65536 (setCs (codeN r) (0 : Nat) (zeroC [SV.bool false]) [SV.bool true])).f x = if x = codeN r then true else false := fun x => setB_f (fun _ => false) 65536 (codeN r) true x
  have hct := cntB_set (b := fun _ => false) (v := codeN r) rfl hSf 65536
  rw [if_pos hcl, cntB_zero.2 (fun _ _ => rfl)] at hct
  have hI : BI c (lst newelref07_knotC (1 : Nat) (litC [SV.int IntKind.i64 (0 : Int), SV.bool false, SV.bool false, SV.int IntKind.i64 (0 : Int), SV.int IntKind.i64 (0 : Int), SV.int IntKind.i64 (0 : Int), SV.int IntKind.i64 (0 : Int), SV.int IntKind.i64 (0 : Int)] [newelref07_knotC.enc ⟨r.ride, -1, 0⟩])) (lst boolC 65536 (setCs (codeN r) (0 : Nat) (zeroC [SV.bool false]) [SV.bool true])) := by
    refine ⟨hL, rfl, fun v hv => ?_, hct⟩
    rw [hSf]
    by_cases e : v = codeN r
    · rw [if_pos e]
      exact ⟨fun _ => ⟨0, Nat.zero_lt_one, by rw [hK0]; exact e.symm⟩, fun _ => rfl⟩
    · rw [if_neg e]
      constructor
      · intro h; cases h
      · rintro ⟨j, j1, j2⟩
        have : j = 0 := by have : j < 1 := j1; omega
        subst this
        rw [hK0] at j2
        exact absurd j2.symm e
  obtain ⟨b, l, k1, k2, k3, k4, k5⟩ := reach_l5 hN hc false 65536 0 N _ false _ (by omega) (by omega) (Nat.zero_le _) hI (fun j hj => by omega)
  refine ⟨b, l, ⟨k1, ⟨0, Nat.lt_of_lt_of_le Nat.zero_lt_one k2, (k3 0 Nat.zero_lt_one).trans hK0⟩, fun s ⟨j, j1, j2⟩ P hF => by rw [← j2]; exact k4 j j1 P hF⟩, fun {R} k => ?_⟩
  rw [newelref07_reach_def]
  unfold newelref07_reach_m
  rw [code_eq N hsz, e1, cond_true]
  exact k5 _
end
end Go.Proofs.Ytlphgonhenegoaa
