/-
  Stations: how far it is, the way, the machines that are needed.
-/
import Derived.Test.YtpillmoddoccfabWyP3
set_option linter.unusedVariables false
set_option linter.unusedSimpArgs false
set_option linter.unusedSectionVars false
set_option maxHeartbeats 0
set_option maxRecDepth 100000
namespace Go.Proofs.Ytpillmoddoccfab
namespace Wy
open Go.Sx
open Classical
noncomputable section
variable {R : Type}

def openP (o : Nat) (help : Bool) (p : api_Passage) : Prop := p.Kind = 1 ∨ (p.Kind = 4 ∧ o.testBit p.Machine.toNat = false) ∨ (p.Kind = 5 ∧ help = true)
def oth (o : Nat) (help : Bool) (p : api_Passage) (u : Int) : Int := if openP o help p then (if p.A = u then p.B else if p.B = u then p.A else -1) else -1
def mpOf (s : api_Station) (o : Nat) (help : Bool) : Mp := ⟨s.Places.toNat, s.Passages.n, fun i u => oth o help (s.Passages.f i) (u : Int), fun i => (s.Passages.f i).Ticks⟩
theorem mpOk {s : api_Station} (v : VS s) (o : Nat) (help : Bool) : (mpOf s o help).Ok where
  p := by have := v.p; show s.Places.toNat ≤ 10; omega
  o := fun i u hi hu => by
    have h := v.pass i hi
    have hu' : (u : Int) < s.Places := by have : u < s.Places.toNat := hu; omega
    have hp := v.p
    have h1 := h.a
    have h2 := h.b
    have h3 := h.ab
    show oth o help (s.Passages.f i) (u : Int) < (s.Places.toNat : Int) ∧ oth o help (s.Passages.f i) (u : Int) ≠ (u : Int)
    unfold oth
    split
    · split
      · rename_i e; constructor <;> omega
      · split
        · rename_i e; constructor <;> omega
        · constructor <;> omega
    · constructor <;> omega
  t := fun i hi => (v.pass i hi).t

theorem other_eq (N : Nat) {s : api_Station} {P : Int} {o : Nat} (ho : o < 4096) (help : Bool) {p : api_Passage} (h : passP P p) (u : Int) (k : Int → Option R) :
    ways_level_other N ⟨s, (o : Int), help⟩ p u k = k (oth o help p u) := by
  rw [ways_level_other_def]
  unfold ways_level_other_m oth openP
  have hA : ∀ (x : Int), (p.A == x) = decide (p.A = x) := fun x => by by_cases e : p.A = x <;> simp [e]
  have hB : ∀ (x : Int), (p.B == x) = decide (p.B = x) := fun x => by by_cases e : p.B = x <;> simp [e]
  have two : ∀ (kk : Int → Option R), (bif p.A == u then kk p.B else bif p.B == u then kk p.A else kk (-1)) = kk (if p.A = u then p.B else if p.B = u then p.A else -1) := fun kk => by
    rw [hA, hB]
    by_cases e : p.A = u
    · simp [e]
    · by_cases e2 : p.B = u
      · simp [e, e2]
      · simp [e, e2]
  simp only [two]
  rcases h.k with ⟨h1 | h1 | h1, h2, h3⟩ | ⟨h1, h2, h3⟩ | ⟨h1, h2, h3⟩
  · simp [h1]
  · simp [h1]
  · cases help <;> simp [h1]
  · simp [h1]
  · have hb : (w64 (↑(BitVec.toNat (BitVec.ofInt (IntKind.bits IntKind.i64) (Int.fdiv (o : Int) ((2 : Int) ^ min (Int.toNat p.Machine) (IntKind.bits IntKind.i64))) &&& BitVec.ofInt (IntKind.bits IntKind.i64) (1 : Int))) : Int) == (0 : Int)) = !(o.testBit p.Machine.toNat) := by
      have := bit64_eq0 (a := (o : Int)) (by omega) (by omega) (i := p.Machine.toNat) (by omega)
      rw [Int.toNat_natCast] at this
      exact this
    have c1 : ¬ (p.Machine < 0) := by omega
    have k1 : (p.Kind == 1) = false := by rw [h1]; rfl
    have k4 : (p.Kind == 4) = true := by rw [h1]; rfl
    have k5 : (p.Kind == 5) = false := by rw [h1]; rfl
    simp only [k1, k4, k5, cond_true, cond_false, c1, decide_false, hb]
    cases o.testBit p.Machine.toNat <;> simp [h1]

theorem set_arr (c : Nat) (a : Nat → Int) (m : Nat) (x : Int) : lst intC c (setCs m 0 (Cod.cell intC a) [SV.int IntKind.i64 x]) = ⟨c, ud a m x⟩ := by
  show (⟨c, fun i => intC.dec (setCs m 0 (Cod.cell intC a) [SV.int IntKind.i64 x] i)⟩ : Arr Int) = ⟨c, ud a m x⟩
  congr 1
  funext j
  unfold ud
  by_cases e : j = m
  · subst e
    rw [if_pos rfl]
    simp [setCs, setC, intC, toI]
  · have e0 : (j == m) = false := by simpa using e
    rw [if_neg e]
    show intC.dec (fun k => setC m 0 (Cod.cell intC a) (SV.int IntKind.i64 x) j k) = a j
    simp only [setC, e0, Bool.false_and, cond_false]
    rfl

section
variable {s : api_Station} (v : VS s) {o : Nat} (ho : o < 4096) (help : Bool) {to : Nat} (ht : to < s.Places.toNat)
include v ho ht

theorem far_l15 (N : Nat) (x y : Int) (nl : Bool) {u : Nat} (hu : u < s.Places.toNat) (k6 : Bool → Arr Int → Option R) : ∀ (q i n : Nat) (st : Bool × (Nat → Int)), i + q = s.Passages.n → q < n → Inv (mpOf s o help) to st.2 →
    ways_level_far_l15 N n st.1 (u : Int) x y s.Passages (s.Passages.n : Int) (i : Int) ⟨s, (o : Int), help⟩ nl ⟨s.Places.toNat, st.2⟩ k6 = k6 (row (mpOf s o help) u q i st).1 ⟨s.Places.toNat, (row (mpOf s o help) u q i st).2⟩ := by
  intro q
  induction q with
  | zero =>
    intro i n st h1 h2 h3
    obtain ⟨n, rfl⟩ : ∃ m, n = m + 1 := ⟨n - 1, by omega⟩
    unfold ways_level_far_l15 ways_level_far_b15
    simp only [ltF (show s.Passages.n ≤ i by omega), cond_false]
    rfl
  | succ q ih =>
    intro i n st h1 h2 h3
    obtain ⟨n, rfl⟩ : ∃ m, n = m + 1 := ⟨n - 1, by omega⟩
    have hn := v.n
    have ok := mpOk v o help
    have hi : i < s.Passages.n := by omega
    have inv1 := one_inv ok ht (u := u) (i := i) hu hi h3
    have ih' := ih (i + 1) n (one (mpOf s o help) u i st) (by omega) (by omega) inv1.1
    have ho1 := ok.o i u hi hu
    have hT := ok.t i hi
    have hou : (mpOf s o help).o i u = oth o help (s.Passages.f i) (u : Int) := rfl
    have hTu : (mpOf s o help).T i = (s.Passages.f i).Ticks := rfl
    unfold ways_level_far_l15 ways_level_far_b15
    simp only [ltT hi, nat_nonneg, Bool.and_self, cond_true, Int.toNat_natCast, w64_succ (show i < 1000000000000 by omega), other_eq N ho help (v.pass i hi), ltT hu, row]
    rw [hou] at ho1
    rw [hTu] at hT
    generalize hw : oth o help (s.Passages.f i) (u : Int) = w at *
    have hone : one (mpOf s o help) u i st = if 0 ≤ w ∧ 0 ≤ st.2 w.toNat ∧ (st.2 u < 0 ∨ st.2 w.toNat + (s.Passages.f i).Ticks < st.2 u) then (true, ud st.2 u (st.2 w.toNat + (s.Passages.f i).Ticks)) else st := by
      unfold one can
      rw [hou, hTu]
      congr
    by_cases c1 : w < 0
    · simp only [c1, decide_true, cond_true]
      rw [hone, if_neg (by omega)] at ih' ⊢
      exact ih'
    have hwP : w.toNat < s.Places.toNat := by
      have : w < (s.Places.toNat : Int) := ho1.1
      omega
    have c2 : (decide (0 ≤ w) && decide (w < ((s.Places.toNat : Nat) : Int))) = true := by
      have : w < (s.Places.toNat : Int) := ho1.1
      simp; omega
    simp only [c1, decide_false, cond_false, c2, cond_true]
    by_cases c3 : st.2 w.toNat < 0
    · simp only [c3, decide_true, cond_true]
      rw [hone, if_neg (by omega)] at ih' ⊢
      exact ih'
    have hb := h3.b200 ok ht hwP
    have hs : w64 (st.2 w.toNat + (s.Passages.f i).Ticks) = st.2 w.toNat + (s.Passages.f i).Ticks := w64_eq (by omega) (by omega)
    simp only [c3, decide_false, cond_false, hs]
    by_cases c4 : st.2 u < 0
    · simp only [c4, decide_true, cond_true, set_arr]
      rw [hone, if_pos ⟨by omega, by omega, .inl c4⟩] at ih' ⊢
      exact ih'
    · simp only [c4, decide_false, cond_false]
      by_cases c5 : st.2 w.toNat + (s.Passages.f i).Ticks < st.2 u
      · simp only [c5, decide_true, cond_true, set_arr]
        rw [hone, if_pos ⟨by omega, by omega, .inr c5⟩] at ih' ⊢
        exact ih'
      · simp only [c5, decide_false, cond_false]
        rw [hone, if_neg (by rintro ⟨_, _, h | h⟩ <;> omega)] at ih' ⊢
        exact ih'

theorem far_l12 (N : Nat) (hN : 100 ≤ N) (nl : Bool) (k4 : Bool → Arr Int → Option R) : ∀ (q u n : Nat) (st : Bool × (Nat → Int)), u + q = s.Places.toNat → q < n → Inv (mpOf s o help) to st.2 →
    ways_level_far_l12 N n st.1 s.Places (u : Int) ⟨s, (o : Int), help⟩ nl ⟨s.Places.toNat, st.2⟩ k4 = k4 (rnd (mpOf s o help) q u st).1 ⟨s.Places.toNat, (rnd (mpOf s o help) q u st).2⟩ := by
  intro q
  induction q with
  | zero =>
    intro u n st h1 h2 h3
    obtain ⟨n, rfl⟩ : ∃ m, n = m + 1 := ⟨n - 1, by omega⟩
    unfold ways_level_far_l12 ways_level_far_b12
    have c : ¬ ((u : Int) < s.Places) := by omega
    simp only [c, decide_false, cond_false]
    rfl
  | succ q ih =>
    intro u n st h1 h2 h3
    obtain ⟨n, rfl⟩ : ∃ m, n = m + 1 := ⟨n - 1, by omega⟩
    have hn := v.n
    have hp := v.p
    have ok := mpOk v o help
    have hu : u < s.Places.toNat := by omega
    have inv1 := row_inv ok ht (u := u) hu s.Passages.n 0 st (by show 0 + s.Passages.n = s.Passages.n; omega) h3
    have ih' := ih (u + 1) n (row (mpOf s o help) u s.Passages.n 0 st) (by omega) (by omega) inv1.1
    have hmn : (mpOf s o help).n = s.Passages.n := rfl
    unfold ways_level_far_l12 ways_level_far_b12
    have c : (u : Int) < s.Places := by omega
    simp only [c, decide_true, cond_true, w64_succ (show u < 1000000000000 by omega), rnd, hmn]
    exact (far_l15 v ho help ht N _ _ nl hu _ s.Passages.n 0 N st (by omega) (by omega) h3).trans ih'

theorem far_l9 (N : Nat) (hN : 100 ≤ N) (nl : Bool) : ∀ (q n : Nat) (d : Nat → Int), pot (mpOf s o help) d ≤ q → q + 1 < n → Inv (mpOf s o help) to d →
    ∃ d', Fin (mpOf s o help) to d' ∧ ∀ (k2 : Arr Int → Option R), ways_level_far_l9 N n true ⟨s, (o : Int), help⟩ nl ⟨s.Places.toNat, d⟩ k2 = k2 ⟨s.Places.toNat, d'⟩ := by
  intro q
  induction q with
  | zero =>
    intro n d h1 h2 h3
    obtain ⟨n, rfl⟩ : ∃ m, n = m + 2 := ⟨n - 2, by omega⟩
    have ok := mpOk v o help
    obtain ⟨a1, a2, a3, a4, a5⟩ := rnd_inv ok ht s.Places.toNat 0 (false, d) (by show 0 + s.Places.toNat = s.Places.toNat; omega) h3
    have hl := fun (k4 : Bool → Arr Int → Option R) => far_l12 v ho help ht N hN nl k4 s.Places.toNat 0 N (false, d) (by omega) (by have := v.p; omega) h3
    cases hf : (rnd (mpOf s o help) s.Places.toNat 0 (false, d)).1
    · obtain ⟨b1, b2⟩ := a5 hf
      refine ⟨d, ⟨h3, fun x hx j hj => b2 x (Nat.zero_le _) hx j hj⟩, fun k2 => ?_⟩
      unfold ways_level_far_l9 ways_level_far_b9
      refine (hl _).trans ?_
      rw [b1]
      unfold ways_level_far_l9 ways_level_far_b9
      rfl
    · rcases a4 hf with e | e
      · cases e
      · have := pot_ge ok ht (d := (rnd (mpOf s o help) s.Places.toNat 0 (false, d)).2)
        have e : pot (mpOf s o help) (rnd (mpOf s o help) s.Places.toNat 0 (false, d)).2 < pot (mpOf s o help) d := e
        omega
  | succ q ih =>
    intro n d h1 h2 h3
    obtain ⟨n, rfl⟩ : ∃ m, n = m + 1 := ⟨n - 1, by omega⟩
    have ok := mpOk v o help
    obtain ⟨a1, a2, a3, a4, a5⟩ := rnd_inv ok ht s.Places.toNat 0 (false, d) (by show 0 + s.Places.toNat = s.Places.toNat; omega) h3
    have hl := fun (k4 : Bool → Arr Int → Option R) => far_l12 v ho help ht N hN nl k4 s.Places.toNat 0 N (false, d) (by omega) (by have := v.p; omega) h3
    cases hf : (rnd (mpOf s o help) s.Places.toNat 0 (false, d)).1
    · obtain ⟨b1, b2⟩ := a5 hf
      refine ⟨d, ⟨h3, fun x hx j hj => b2 x (Nat.zero_le _) hx j hj⟩, fun k2 => ?_⟩
      obtain ⟨n, rfl⟩ : ∃ m, n = m + 1 := ⟨n - 1, by omega⟩
      unfold ways_level_far_l9 ways_level_far_b9
      refine (hl _).trans ?_
      rw [b1]
      unfold ways_level_far_l9 ways_level_far_b9
      rfl
    · rcases a4 hf with e | e
      · cases e
      · have e : pot (mpOf s o help) (rnd (mpOf s o help) s.Places.toNat 0 (false, d)).2 < pot (mpOf s o help) d := e
        obtain ⟨d', f1, f2⟩ := ih n _ (by omega) (by omega) a1
        refine ⟨d', f1, fun k2 => ?_⟩
        unfold ways_level_far_l9 ways_level_far_b9
        refine (hl _).trans ?_
        rw [hf]
        exact f2 k2
omit ho ht in
theorem far_l3 (N : Nat) (tt : Int) (nl : Bool) : ∀ (q i n : Nat) (d : Nat → Int), i + q = s.Places.toNat → q < n → (∀ j, j < i → d j = -1) →
    ∃ d' : Nat → Int, (∀ j, j < s.Places.toNat → d' j = -1) ∧ ∀ k0 : Arr Int → Option R, ways_level_far_l3 N n tt ((s.Places.toNat : Nat) : Int) (i : Int) ⟨s, (o : Int), help⟩ nl ⟨s.Places.toNat, d⟩ k0 = k0 ⟨s.Places.toNat, d'⟩ := by
  intro q
  induction q with
  | zero =>
    intro i n d h1 h2 h3
    obtain ⟨n, rfl⟩ : ∃ m, n = m + 1 := ⟨n - 1, by omega⟩
    refine ⟨d, fun j hj => h3 j (by omega), fun k0 => ?_⟩
    unfold ways_level_far_l3 ways_level_far_b3
    simp only [ltF (show s.Places.toNat ≤ i by omega), cond_false]
  | succ q ih =>
    intro i n d h1 h2 h3
    obtain ⟨n, rfl⟩ : ∃ m, n = m + 1 := ⟨n - 1, by omega⟩
    have hp := v.p
    obtain ⟨d', f1, f2⟩ := ih (i + 1) n (ud d i (-1)) (by omega) (by omega) (fun j hj => by
      by_cases e : j = i
      · subst e; exact ud_at _ _ _
      · rw [ud_ne e]; exact h3 j (by omega))
    refine ⟨d', f1, fun k0 => ?_⟩
    unfold ways_level_far_l3 ways_level_far_b3
    simp only [ltT (show i < s.Places.toNat by omega), nat_nonneg, Bool.and_self, cond_true, Int.toNat_natCast, w64_succ (show i < 1000000000000 by omega), set_arr]
    exact f2 k0
end

theorem Inv.congr {m : Mp} {to : Nat} (ht : to < m.P) {d d' : Nat → Int} (ho : ∀ i u, i < m.n → u < m.P → m.o i u < m.P) (h : ∀ j, j < m.P → d j = d' j) (hi : Inv m to d) : Inv m to d' := by
  have hc : cnt m d' = cnt m d := sm_congr fun j hj => by rw [h j hj]
  refine ⟨by rw [← h to ht]; exact hi.z, fun u hu => by rw [← h u hu, hc]; exact hi.b u hu, fun u hu h0 => ?_, fun u hu => by rw [← h u hu]; exact hi.neg u hu⟩
  rw [← h u hu] at h0
  rcases hi.w u hu h0 with e | ⟨i, w1, w2, w3, w4⟩
  · exact .inl e
  · have := ho i u w1 hu
    exact .inr ⟨i, w1, w2, by rw [← h _ (by omega)]; exact w3, by rw [← h _ (by omega), ← h u hu]; exact w4⟩

/-- How far it is from each place: found. -/
theorem far_eq {N : Nat} (hN : 20000 ≤ N) {s : api_Station} (v : VS s) {o : Nat} (ho : o < 4096) (help : Bool) {to : Int} (ht : 0 ≤ to ∧ to < s.Places) :
    ∃ d, Fin (mpOf s o help) to.toNat d ∧ ∀ (k : Bool → Arr Int → Option R), ways_level_far N ⟨s, (o : Int), help⟩ to k = k false ⟨s.Places.toNat, d⟩ := by
  have hp := v.p
  have ok := mpOk v o help
  have htn : to.toNat < s.Places.toNat := by omega
  obtain ⟨d0, f1, f2⟩ := far_l3 (R := R) v (o := o) help N to false s.Places.toNat 0 N (fun _ => 0) (by omega) (by omega) (fun j hj => by omega)
  have hinv : Inv (mpOf s o help) to.toNat (ud d0 to.toNat 0) := by
    refine Inv.congr (m := mpOf s o help) htn (fun i u hi hu => (ok.o i u hi hu).1) (fun j hj => ?_) (start_inv (m := mpOf s o help) htn)
    have hj' : j < s.Places.toNat := hj
    by_cases e : j = to.toNat
    · subst e; unfold start; rw [ud_at, ud_at]
    · unfold start; rw [ud_ne e, ud_ne e, f1 j hj']
  have hpot := pot_le ok htn hinv
  obtain ⟨d, g1, g2⟩ := far_l9 (R := R) v ho help htn N (by omega) false 10000 N (ud d0 to.toNat 0) (by omega) (by omega) hinv
  refine ⟨d, g1, fun k => ?_⟩
  rw [ways_level_far_def]
  unfold ways_level_far_m
  have c1 : (decide ((0 : Int) ≤ s.Places) && decide (s.Places ≤ s.Places) && decide (s.Places ≤ (1073741824 : Int))) = true := by simp; omega
  have e0 : (lst intC (Int.toNat s.Places) (zeroC [SV.int IntKind.i64 (0 : Int)])) = ⟨s.Places.toNat, fun _ => 0⟩ := rfl
  simp only [c1, cond_true, e0]
  refine (f2 _).trans ?_
  have c2 : (decide ((0 : Int) ≤ to) && decide (to < ((s.Places.toNat : Nat) : Int))) = true := by simp; omega
  simp only [c2, cond_true, set_arr]
  exact g2 _

/-! ### The way -/
/-- A passage by which one comes nearer. -/
def good (s : api_Station) (o : Nat) (help : Bool) (d : Nat → Int) (u i : Nat) : Prop := 0 ≤ oth o help (s.Passages.f i) (u : Int) ∧ 0 ≤ d (oth o help (s.Passages.f i) (u : Int)).toNat ∧ d (oth o help (s.Passages.f i) (u : Int)).toNat + (s.Passages.f i).Ticks = d u

section
variable {s : api_Station} (v : VS s) {o : Nat} (ho : o < 4096) (help : Bool) {to : Nat} (ht : to < s.Places.toNat) {d : Nat → Int} (hd : Fin (mpOf s o help) to d)
include v ho ht hd

theorem way_l11 (N : Nat) (x y : Int) (b1 b2 : Bool) {u : Nat} (hu : u < s.Places.toNat) {w : Arr Int} (hw : w.n ≤ 1000) : ∀ (q i n : Nat), i + q = s.Passages.n → q < n → (∃ j, i ≤ j ∧ j < s.Passages.n ∧ good s o help d u j) →
    ∃ (x' : Nat) (w' : Arr Int), x' < s.Places.toNat ∧ 0 ≤ d x' ∧ d x' < d u ∧ w'.n = w.n + 1 ∧ ∀ (k2 : Int → Bool → Arr Int → Option R), ways_Way_l11 N n x y (u : Int) s.Passages (s.Passages.n : Int) (i : Int) s b1 w ⟨s, (o : Int), help⟩ b2 ⟨s.Places.toNat, d⟩ k2 = k2 (x' : Int) false w' := by
  intro q
  induction q with
  | zero => intro i n h1 h2 ⟨j, h3, h4, _⟩; omega
  | succ q ih =>
    intro i n h1 h2 h3
    obtain ⟨n, rfl⟩ : ∃ m, n = m + 1 := ⟨n - 1, by omega⟩
    have hn := v.n
    have ok := mpOk v o help
    have hi : i < s.Passages.n := by omega
    have ho1 : oth o help (s.Passages.f i) (u : Int) < (s.Places.toNat : Int) ∧ oth o help (s.Passages.f i) (u : Int) ≠ (u : Int) := ok.o i u hi hu
    have hT : 1 ≤ (s.Passages.f i).Ticks ∧ (s.Passages.f i).Ticks ≤ 20 := ok.t i hi
    by_cases hg : good s o help d u i
    · obtain ⟨g1, g2, g3⟩ := hg
      have hwP : (oth o help (s.Passages.f i) (u : Int)).toNat < s.Places.toNat := by omega
      have hb := hd.inv.b200 ok ht hwP
      have hr : room (w.n + 1) = true := room_of (by omega)
      refine ⟨(oth o help (s.Passages.f i) (u : Int)).toNat, lst intC (w.n + 1) (catC w.n (Cod.cell intC w.f) (litC [SV.int IntKind.i64 (0 : Int)] [[SV.int IntKind.i64 (i : Int)]])), hwP, g2, by omega, rfl, fun k2 => ?_⟩
      · unfold ways_Way_l11 ways_Way_b11
        have hs : w64 (d (oth o help (s.Passages.f i) (u : Int)).toNat + (s.Passages.f i).Ticks) = d u := by rw [← g3]; exact w64_eq (by omega) (by omega)
        have c1 : (oth o help (s.Passages.f i) (u : Int)) ≥ 0 := g1
        have hlt : decide (oth o help (s.Passages.f i) (u : Int) < ((s.Places.toNat : Nat) : Int)) = true := by simp; omega
        have c3 : d (oth o help (s.Passages.f i) (u : Int)).toNat ≥ 0 := g2
        have hcast : (((oth o help (s.Passages.f i) (u : Int)).toNat : Nat) : Int) = oth o help (s.Passages.f i) (u : Int) := by omega
        simp only [ltT hi, nat_nonneg, Bool.and_self, cond_true, Int.toNat_natCast, other_eq N ho help (v.pass i hi), c1, decide_true, hlt, c3, ltT hu, hs, BEq.rfl, hr, hcast]
    · have h3' : ∃ j, i + 1 ≤ j ∧ j < s.Passages.n ∧ good s o help d u j := by
        obtain ⟨j, a, b, c⟩ := h3
        refine ⟨j, ?_, b, c⟩
        rcases Nat.lt_or_ge i j with e | e
        · exact e
        · have : j = i := by omega
          subst this
          exact absurd c hg
      obtain ⟨x', w', a1, a2, a3, a4, a5⟩ := ih (i + 1) n (by omega) (by omega) h3'
      refine ⟨x', w', a1, a2, a3, a4, fun k2 => ?_⟩
      unfold ways_Way_l11 ways_Way_b11
      simp only [ltT hi, nat_nonneg, Bool.and_self, cond_true, Int.toNat_natCast, w64_succ (show i < 1000000000000 by omega), other_eq N ho help (v.pass i hi), ltT hu]
      by_cases c1 : oth o help (s.Passages.f i) (u : Int) ≥ 0
      case neg => simp only [c1, decide_false, cond_false]; exact a5 k2
      have hwP : (oth o help (s.Passages.f i) (u : Int)).toNat < s.Places.toNat := by omega
      have hlt : decide (oth o help (s.Passages.f i) (u : Int) < ((s.Places.toNat : Nat) : Int)) = true := by simp; omega
      simp only [c1, decide_true, cond_true, hlt, Bool.and_self]
      by_cases c3 : d (oth o help (s.Passages.f i) (u : Int)).toNat ≥ 0
      case neg => simp only [c3, decide_false, cond_false]; exact a5 k2
      have hb := hd.inv.b200 ok ht hwP
      have hs : w64 (d (oth o help (s.Passages.f i) (u : Int)).toNat + (s.Passages.f i).Ticks) = d (oth o help (s.Passages.f i) (u : Int)).toNat + (s.Passages.f i).Ticks := w64_eq (by omega) (by omega)
      have c4 : (d (oth o help (s.Passages.f i) (u : Int)).toNat + (s.Passages.f i).Ticks == d u) = false := by
        have : ¬ (d (oth o help (s.Passages.f i) (u : Int)).toNat + (s.Passages.f i).Ticks = d u) := fun e => hg ⟨c1, c3, e⟩
        simpa using this
      simp only [c3, decide_true, cond_true, hs, c4, cond_false]
      exact a5 k2

theorem way_l9 (N : Nat) (hN : 100 ≤ N) (x : Int) (b2 : Bool) : ∀ (q n u : Nat) (b1 : Bool) (w : Arr Int), u < s.Places.toNat → 0 ≤ d u → d u ≤ q → q < n → w.n + q ≤ 1000 →
    ∃ (b' : Bool) (w' : Arr Int), ∀ (k0 : Bool → Arr Int → Option R), ways_Way_l9 N n x (to : Int) (u : Int) s b1 w ⟨s, (o : Int), help⟩ b2 ⟨s.Places.toNat, d⟩ k0 = k0 b' w' := by
  intro q
  induction q with
  | zero =>
    intro n u b1 w h1 h2 h3 h4 h5
    obtain ⟨n, rfl⟩ : ∃ m, n = m + 1 := ⟨n - 1, by omega⟩
    have hu : u = to := by
      rcases hd.inv.w u h1 h2 with e | ⟨i, w1, w2, w3, w4⟩
      · exact e
      · have := ((mpOk v o help).t i w1).1
        omega
    refine ⟨b1, w, fun k0 => ?_⟩
    unfold ways_Way_l9 ways_Way_b9
    rw [hu]
    simp only [bne_self_eq_false, cond_false]
  | succ q ih =>
    intro n u b1 w h1 h2 h3 h4 h5
    obtain ⟨n, rfl⟩ : ∃ m, n = m + 1 := ⟨n - 1, by omega⟩
    by_cases hu : u = to
    · refine ⟨b1, w, fun k0 => ?_⟩
      unfold ways_Way_l9 ways_Way_b9
      rw [hu]
      simp only [bne_self_eq_false, cond_false]
    · have hex : ∃ j, 0 ≤ j ∧ j < s.Passages.n ∧ good s o help d u j := by
        rcases hd.inv.w u h1 h2 with e | ⟨i, w1, w2, w3, w4⟩
        · exact absurd e hu
        · have := hd.le (v := u) (j := i) h1 w1 w2 w3
          refine ⟨i, Nat.zero_le _, w1, w2, w3, ?_⟩
          have h6 : d ((mpOf s o help).o i u).toNat + (mpOf s o help).T i = d u := by omega
          exact h6
      have hn := v.n
      obtain ⟨x', w', a1, a2, a3, a4, a5⟩ := way_l11 (R := R) v ho help ht hd N x (to : Int) b1 b2 h1 (w := w) (by omega) s.Passages.n 0 N (by omega) (by omega) hex
      obtain ⟨b'', w'', r1⟩ := ih n x' false w' a1 a2 (by omega) (by omega) (by omega)
      refine ⟨b'', w'', fun k0 => ?_⟩
      unfold ways_Way_l9 ways_Way_b9
      have hne : ((u : Int) != (to : Int)) = true := by simp; omega
      simp only [hne, cond_true]
      exact (a5 _).trans (r1 k0)
end

theorem way_eq {N : Nat} (hN : 20000 ≤ N) {s : api_Station} (v : VS s) {o : Nat} (ho : o < 4096) (help : Bool) {a b : Int} (ha : 0 ≤ a ∧ a < s.Places) (hb : 0 ≤ b ∧ b < s.Places) :
    ∃ d, Fin (mpOf s o help) b.toNat d ∧ ∃ (l : Bool) (w : Arr Int), ∀ (k : Int → Int → Bool → Arr Int → Option R), ways_Way N s (o : Int) help a b k = if d a.toNat < 0 then k 0 3 true (lst intC 0 (zeroC [SV.int IntKind.i64 0])) else k (d a.toNat) 0 l w := by
  obtain ⟨d, f1, f2⟩ := far_eq (R := R) hN v ho help hb
  have hp := v.p
  have ok := mpOk v o help
  have hbn : b.toNat < s.Places.toNat := by omega
  have han : a.toNat < s.Places.toNat := by omega
  have hca : ((a.toNat : Nat) : Int) = a := by omega
  have hcb : ((b.toNat : Nat) : Int) = b := by omega
  have c2 : (decide ((0 : Int) ≤ a) && decide (a < ((s.Places.toNat : Nat) : Int))) = true := by simp; omega
  by_cases h0 : d a.toNat < 0
  · refine ⟨d, f1, true, lst intC 0 (zeroC [SV.int IntKind.i64 0]), fun k => ?_⟩
    rw [ways_Way_def]
    unfold ways_Way_m
    simp only [asked_ok (show 200 ≤ N by omega) v ho ha hb, bne_self_eq_false, cond_false, f2, c2, cond_true, h0, decide_true, if_true]
  · have hb2 := f1.inv.b200 ok hbn han
    obtain ⟨l, w, g⟩ := way_l9 (R := R) v ho help hbn f1 N (by omega) a false 180 N a.toNat true (lst intC 0 (zeroC [SV.int IntKind.i64 0])) han (by omega) (by omega) (by omega) (by show 0 + 180 ≤ 1000; omega)
    rw [hca, hcb] at g
    refine ⟨d, f1, l, w, fun k => ?_⟩
    rw [ways_Way_def]
    unfold ways_Way_m
    simp only [asked_ok (show 200 ≤ N by omega) v ho ha hb, bne_self_eq_false, cond_false, f2, c2, cond_true, h0, decide_false, if_false]
    refine (g _).trans ?_
    simp only [c2, cond_true]

theorem joined_eq {N : Nat} (hN : 20000 ≤ N) {s : api_Station} (v : VS s) {o : Nat} (ho : o < 4096) (help : Bool) {a b : Int} (ha : 0 ≤ a ∧ a < s.Places) (hb : 0 ≤ b ∧ b < s.Places) :
    ∃ d, Fin (mpOf s o help) b.toNat d ∧ ∀ (k : Bool → Option R), ways_level_joined N ⟨s, (o : Int), help⟩ a b k = k (decide (d a.toNat ≥ 0)) := by
  obtain ⟨d, f1, f2⟩ := far_eq (R := R) hN v ho help hb
  have hp := v.p
  have c2 : (decide ((0 : Int) ≤ a) && decide (a < ((s.Places.toNat : Nat) : Int))) = true := by simp; omega
  refine ⟨d, f1, fun k => ?_⟩
  rw [ways_level_joined_def]
  unfold ways_level_joined_m
  simp only [f2, c2, cond_true]

theorem or_pow {o m : Nat} (ho : o < 4096) (hm : m < 12) : w64 (↑(BitVec.toNat (BitVec.ofInt (IntKind.bits IntKind.i64) (o : Int) ||| BitVec.ofInt (IntKind.bits IntKind.i64) (w64 ((1 : Int) * (2 : Int) ^ min m (IntKind.bits IntKind.i64))))) : Int) = ((o ||| 2 ^ m : Nat) : Int) := by
  have hp : 2 ^ m < 2 ^ 12 := Nat.pow_lt_pow_right (by omega) hm
  have h1 : w64 ((1 : Int) * (2 : Int) ^ min m (IntKind.bits IntKind.i64)) = ((2 ^ m : Nat) : Int) := by
    have : min m (IntKind.bits IntKind.i64) = m := by show min m 64 = m; omega
    rw [this, Int.one_mul, w64_eq]
    · simp
    · have : (0 : Int) ≤ 2 ^ m := Int.pow_nonneg (by omega)
      omega
    · have : ((2 ^ m : Nat) : Int) < 9223372036854775808 := by omega
      simpa using this
  rw [h1]
  have ho2 : (o ||| 2 ^ m) < 4096 := Nat.or_lt_two_pow (n := 12) (by omega) hp
  rw [BitVec.toNat_or, ofInt_nat (by omega), ofInt_nat (by omega)]
  exact w64_eq (by omega) (by omega)

/-- The numbers in a list are of machines that are not out. -/
def needP (o : Nat) (w : Arr Int) (m : Nat) : Prop := w.n ≤ m ∧ ∀ j, j < w.n → 0 ≤ w.f j ∧ w.f j < 12 ∧ o.testBit (w.f j).toNat = false

theorem need_l8 {N : Nat} (hN : 20000 ≤ N) {s : api_Station} (v : VS s) {o : Nat} (ho : o < 4096) (help : Bool) {a b : Int} (ha : 0 ≤ a ∧ a < s.Places) (hb : 0 ≤ b ∧ b < s.Places) : ∀ (q m n : Nat) (l : Bool) (w : Arr Int), m + q = 12 → q < n → needP o w m →
    ∃ (l' : Bool) (w' : Arr Int), needP o w' 12 ∧ ∀ (k0 : Bool → Arr Int → Option R), ways_Needed_l8 N n (o : Int) help a b (m : Int) s l w k0 = k0 l' w' := by
  intro q
  induction q with
  | zero =>
    intro m n l w h1 h2 h3
    obtain ⟨n, rfl⟩ : ∃ m, n = m + 1 := ⟨n - 1, by omega⟩
    have : m = 12 := by omega
    subst this
    refine ⟨l, w, h3, fun k0 => ?_⟩
    unfold ways_Needed_l8 ways_Needed_b8
    have c : ¬ (((12 : Nat) : Int) < 12) := by omega
    simp only [c, decide_false, cond_false]
  | succ q ih =>
    intro m n l w h1 h2 h3
    obtain ⟨n, rfl⟩ : ∃ m, n = m + 1 := ⟨n - 1, by omega⟩
    have c : ((m : Int) < 12) := by omega
    have c0 : ¬ ((m : Int) < 0) := by omega
    have hbit : (w64 (↑(BitVec.toNat (BitVec.ofInt (IntKind.bits IntKind.i64) (Int.fdiv (o : Int) ((2 : Int) ^ min m (IntKind.bits IntKind.i64))) &&& BitVec.ofInt (IntKind.bits IntKind.i64) (1 : Int))) : Int) == (0 : Int)) = !(o.testBit m) := by
      have := bit64_eq0 (a := (o : Int)) (by omega) (by omega) (i := m) (by omega)
      rw [Int.toNat_natCast] at this
      exact this
    by_cases hm : o.testBit m = true
    · obtain ⟨l', w', g1, g2⟩ := ih (m + 1) n l w (by omega) (by omega) ⟨by have := h3.1; omega, h3.2⟩
      refine ⟨l', w', g1, fun k0 => ?_⟩
      unfold ways_Needed_l8 ways_Needed_b8
      simp only [c, decide_true, cond_true, c0, decide_false, cond_false, Int.toNat_natCast, hbit, hm, Bool.not_true, w64_succ (show m < 1000000000000 by omega)]
      exact g2 k0
    · have hmf : o.testBit m = false := by simpa using hm
      have ho2 : (o ||| 2 ^ m) < 4096 := by
        have : 2 ^ m < 2 ^ 12 := Nat.pow_lt_pow_right (by omega) (by omega)
        exact Nat.or_lt_two_pow (n := 12) (by omega) this
      have hor : w64 (↑(BitVec.toNat (BitVec.ofInt (IntKind.bits IntKind.i64) (o : Int) ||| BitVec.ofInt (IntKind.bits IntKind.i64) (w64 ((1 : Int) * (2 : Int) ^ min m (IntKind.bits IntKind.i64))))) : Int) = ((o ||| 2 ^ m : Nat) : Int) := by
        exact or_pow ho (by omega)
      obtain ⟨d, f1, f2⟩ := joined_eq (R := R) hN v ho2 help ha hb
      have hr : room (w.n + 1) = true := room_of (by have := h3.1; omega)
      by_cases hj : d a.toNat ≥ 0
      · obtain ⟨l', w', g1, g2⟩ := ih (m + 1) n l w (by omega) (by omega) ⟨by have := h3.1; omega, h3.2⟩
        refine ⟨l', w', g1, fun k0 => ?_⟩
        unfold ways_Needed_l8 ways_Needed_b8
        simp only [c, decide_true, cond_true, c0, decide_false, cond_false, Int.toNat_natCast, hbit, hmf, Bool.not_false, hor, f2, hj, Bool.not_true, w64_succ (show m < 1000000000000 by omega)]
        exact g2 k0
      · have hpu : (lst intC (w.n + 1) (catC w.n (Cod.cell intC w.f) (litC [SV.int IntKind.i64 (0 : Int)] [[SV.int IntKind.i64 (m : Int)]]))).Is (w.n + 1) (fun q => if q < w.n then w.f q else (m : Int)) :=
          Arr.Is.push_int (g := fun q => if q < w.n then w.f q else (m : Int)) ⟨rfl, fun q hq => by simp [hq]⟩ (by simp)
        obtain ⟨l', w', g1, g2⟩ := ih (m + 1) n false _ (by omega) (by omega) (show needP o (lst intC (w.n + 1) (catC w.n (Cod.cell intC w.f) (litC [SV.int IntKind.i64 (0 : Int)] [[SV.int IntKind.i64 (m : Int)]]))) (m + 1) from ⟨by rw [hpu.len]; have := h3.1; omega, fun j hj => by
          rw [hpu.len] at hj
          rw [hpu.get j hj]
          by_cases e : j < w.n
          · simp only [e, if_true]; exact h3.2 j e
          · simp only [e, if_false, Int.toNat_natCast]; exact ⟨by omega, by omega, hmf⟩⟩)
        refine ⟨l', w', g1, fun k0 => ?_⟩
        unfold ways_Needed_l8 ways_Needed_b8
        simp only [c, decide_true, cond_true, c0, decide_false, cond_false, Int.toNat_natCast, hbit, hmf, Bool.not_false, hor, f2, hj, hr, w64_succ (show m < 1000000000000 by omega)]
        exact g2 k0

theorem needed_eq {N : Nat} (hN : 20000 ≤ N) {s : api_Station} (v : VS s) {o : Nat} (ho : o < 4096) (help : Bool) {a b : Int} (ha : 0 ≤ a ∧ a < s.Places) (hb : 0 ≤ b ∧ b < s.Places) :
    ∃ d, Fin (mpOf s o help) b.toNat d ∧ ∃ (l : Bool) (w : Arr Int), needP o w 12 ∧ ∀ (k : Int → Bool → Arr Int → Option R), ways_Needed N s (o : Int) help a b k = k (if d a.toNat < 0 then 3 else 0) l w := by
  obtain ⟨d, f1, f2⟩ := joined_eq (R := R) hN v ho help ha hb
  by_cases h0 : d a.toNat < 0
  · refine ⟨d, f1, true, lst intC 0 (zeroC [SV.int IntKind.i64 0]), ⟨Nat.zero_le _, fun j hj => absurd hj (Nat.not_lt_zero j)⟩, fun k => ?_⟩
    rw [ways_Needed_def]
    unfold ways_Needed_m
    have h1 : ¬ (d a.toNat ≥ 0) := by omega
    simp only [asked_ok (show 200 ≤ N by omega) v ho ha hb, bne_self_eq_false, cond_false, f2, h1, decide_false, Bool.not_false, cond_true, if_pos h0]
  · obtain ⟨l, w, g1, g2⟩ := need_l8 (R := R) hN v ho help ha hb 12 0 N true (lst intC 0 (zeroC [SV.int IntKind.i64 0])) (by omega) (by omega) ⟨Nat.zero_le _, fun j hj => absurd hj (Nat.not_lt_zero j)⟩
    refine ⟨d, f1, l, w, g1, fun k => ?_⟩
    rw [ways_Needed_def]
    unfold ways_Needed_m
    have h1 : d a.toNat ≥ 0 := by omega
    simp only [asked_ok (show 200 ≤ N by omega) v ho ha hb, bne_self_eq_false, cond_false, f2, h1, decide_true, Bool.not_true, if_neg h0]
    exact g2 _
end
end Wy
end Go.Proofs.Ytpillmoddoccfab
