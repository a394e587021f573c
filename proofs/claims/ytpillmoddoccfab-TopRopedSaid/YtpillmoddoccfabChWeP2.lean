/-
  The chain's spans: forth, back, and the first use that may be too late.
-/
import Derived.Test.YtpillmoddoccfabChWeP1
import Derived.Test.YtpillmoddoccfabSxMath
set_option linter.unusedVariables false
set_option linter.unusedSimpArgs false
set_option maxHeartbeats 0
namespace Go.Proofs.Ytpillmoddoccfab
namespace Ch
open Go.Sx
section
variable {R : Type}
def meetS (s x : api_Span) : api_Span := ⟨if x.Low > s.Low then x.Low else s.Low, if x.High < s.High then x.High else s.High⟩
def inS (w : Int) (s : api_Span) : Prop := s.Low ≤ w ∧ w ≤ s.High
def subS (s x : api_Span) : Prop := x.Low ≤ s.Low ∧ s.High ≤ x.High
theorem subS_refl (s : api_Span) : subS s s := ⟨Int.le_refl _, Int.le_refl _⟩
theorem meet_in {w : Int} {s x : api_Span} (h1 : inS w s) (h2 : inS w x) : inS w (meetS s x) := by
  unfold inS meetS at *
  constructor <;> (simp only; split <;> omega)
theorem meet_low {s x : api_Span} : s.Low ≤ (meetS s x).Low ∧ (meetS s x).High ≤ s.High := by
  unfold meetS
  constructor <;> (simp only; split <;> omega)
theorem meet_sub {s x s' x' : api_Span} (h1 : subS s s') (h2 : subS x x') : subS (meetS s x) (meetS s' x') := by
  unfold subS meetS at *
  constructor <;> (simp only; split <;> split <;> omega)
theorem meet_sub1 {s x s' : api_Span} (h1 : subS s s') : subS (meetS s x) s' := by
  unfold subS meetS at *
  constructor <;> (simp only; split <;> omega)
theorem meet_eq (N : Nat) (s x : api_Span) (k : api_Span → Bool → Option R) : chain_meet N s x k = k (meetS s x) (decide ((meetS s x).Low ≤ (meetS s x).High)) := by rw [chain_meet_def]; rfl
theorem grown_eq (N : Nat) {p : api_Part} (hp : VP p) {l : Arr api_Use} {i : Nat} (hu : useP p l i) (k : api_Span → Option R) : chain_grown N p (l.f i) k = k ⟨gL p l i, gH p l i⟩ := by
  rw [chain_grown_def]
  unfold chain_grown_m
  obtain ⟨g1, g2, g3⟩ := g_bounds hp hu
  have hc := hu.c
  have c0 : (decide ((0 : Int) ≤ (l.f i).Class) && decide ((l.f i).Class < (p.Rates.n : Int))) = true := by simp; omega
  simp only [c0, cond_true]
  rw [w64_eq (n := (l.f i).Turns * (p.Rates.f (l.f i).Class.toNat).Low) (by unfold gL at g1; omega) (by unfold gL at g2; omega),
    w64_eq (n := (l.f i).Turns * (p.Rates.f (l.f i).Class.toNat).High) (by unfold gH at g2; omega) (by unfold gH at g3; omega)]
  rfl

def gS (p : api_Part) (l : Arr api_Use) (i : Nat) (s : api_Span) : api_Span := ⟨s.Low + gL p l i, s.High + gH p l i⟩
def fS (p : api_Part) (l : Arr api_Use) : Nat → api_Span
  | 0 => ⟨0, 0⟩
  | i + 1 => bif (l.f i).Measured then meetS (gS p l i (fS p l i)) (l.f i).Says else gS p l i (fS p l i)
def bk (p : api_Part) (l : Arr api_Use) (n : Nat) : Nat → api_Span
  | 0 => fS p l n
  | d + 1 => meetS (fS p l (n - 1 - d)) ⟨(bk p l n d).Low - gH p l (n - 1 - d), (bk p l n d).High - gL p l (n - 1 - d)⟩

theorem fS_in {p : api_Part} {l : Arr api_Use} {w : Nat → Int} (h : ∀ j, j < l.n → histP p l w j) : ∀ i, i ≤ l.n → inS (wB w i) (fS p l i) := by
  intro i
  induction i with
  | zero => intro _; exact ⟨Int.le_refl _, Int.le_refl _⟩
  | succ i ih =>
    intro hi
    obtain ⟨i1, i2⟩ := ih (by omega)
    obtain ⟨⟨h1, h2⟩, h3⟩ := h i (by omega)
    have hg : inS (w i) (gS p l i (fS p l i)) := ⟨by show (fS p l i).Low + _ ≤ _; omega, by show _ ≤ (fS p l i).High + _; omega⟩
    show inS (w i) (bif (l.f i).Measured then meetS (gS p l i (fS p l i)) (l.f i).Says else gS p l i (fS p l i))
    cases hm : (l.f i).Measured with
    | false => exact hg
    | true => exact meet_in hg (h3 hm)

theorem fS_bd {p : api_Part} (hp : VP p) {l : Arr api_Use} (hl : VU p l) : ∀ i, i ≤ l.n → 0 ≤ (fS p l i).Low ∧ (fS p l i).High ≤ i * 1000000000000 := by
  intro i
  induction i with
  | zero => intro _; exact ⟨Int.le_refl _, by show (0 : Int) ≤ _; simp⟩
  | succ i ih =>
    intro hi
    obtain ⟨i1, i2⟩ := ih (by omega)
    obtain ⟨g1, g2, g3⟩ := g_bounds hp (hl.u i (by omega))
    have hg : 0 ≤ (gS p l i (fS p l i)).Low ∧ (gS p l i (fS p l i)).High ≤ ((i + 1 : Nat) : Int) * 1000000000000 := ⟨by show 0 ≤ (fS p l i).Low + _; omega, by show (fS p l i).High + _ ≤ _; push_cast; omega⟩
    show 0 ≤ (bif (l.f i).Measured then meetS (gS p l i (fS p l i)) (l.f i).Says else gS p l i (fS p l i)).Low ∧ (bif (l.f i).Measured then meetS (gS p l i (fS p l i)) (l.f i).Says else gS p l i (fS p l i)).High ≤ _
    cases hm : (l.f i).Measured with
    | false => exact hg
    | true =>
      have := @meet_low (gS p l i (fS p l i)) (l.f i).Says
      exact ⟨by show 0 ≤ (meetS _ _).Low; omega, by show (meetS _ _).High ≤ _; omega⟩

/-- A narrower history. -/
structure Sub (m l : Arr api_Use) : Prop where
  n : m.n = l.n
  t : ∀ i, (m.f i).Turns = (l.f i).Turns
  c : ∀ i, (m.f i).Class = (l.f i).Class
  d : ∀ i, (m.f i).Day = (l.f i).Day
  s : ∀ i, (l.f i).Measured = true → (m.f i).Measured = true ∧ (m.f i).Says = (l.f i).Says

theorem Sub.gL {m l : Arr api_Use} (h : Sub m l) (p : api_Part) (i : Nat) : gL p m i = gL p l i := by
  unfold Ch.gL; rw [h.t, h.c]
theorem Sub.gH {m l : Arr api_Use} (h : Sub m l) (p : api_Part) (i : Nat) : gH p m i = gH p l i := by
  unfold Ch.gH; rw [h.t, h.c]
theorem fS_sub {m l : Arr api_Use} (h : Sub m l) (p : api_Part) : ∀ i, subS (fS p m i) (fS p l i) := by
  intro i
  induction i with
  | zero => exact subS_refl _
  | succ i ih =>
    have hg : subS (gS p m i (fS p m i)) (gS p l i (fS p l i)) := by
      obtain ⟨a, b⟩ := ih
      refine ⟨?_, ?_⟩
      · show (fS p l i).Low + gL p l i ≤ (fS p m i).Low + gL p m i; rw [h.gL]; omega
      · show (fS p m i).High + gH p m i ≤ (fS p l i).High + gH p l i; rw [h.gH]; omega
    show subS (bif (m.f i).Measured then meetS (gS p m i (fS p m i)) (m.f i).Says else gS p m i (fS p m i)) (bif (l.f i).Measured then meetS (gS p l i (fS p l i)) (l.f i).Says else gS p l i (fS p l i))
    cases hm : (l.f i).Measured with
    | true =>
      obtain ⟨a, b⟩ := h.s i hm
      rw [a, b]
      exact meet_sub hg (subS_refl _)
    | false =>
      cases hm2 : (m.f i).Measured with
      | true => exact meet_sub1 hg
      | false => exact hg
theorem bk_sub {m l : Arr api_Use} (h : Sub m l) (p : api_Part) (n : Nat) : ∀ d, subS (bk p m n d) (bk p l n d) := by
  intro d
  induction d with
  | zero => exact fS_sub h p n
  | succ d ih =>
    refine meet_sub (fS_sub h p _) ?_
    obtain ⟨a, b⟩ := ih
    refine ⟨?_, ?_⟩
    · show (bk p l n d).Low - gH p l _ ≤ (bk p m n d).Low - gH p m _; rw [h.gH]; omega
    · show (bk p m n d).High - gL p m _ ≤ (bk p l n d).High - gL p l _; rw [h.gL]; omega

theorem bk_bd {p : api_Part} (hp : VP p) {l : Arr api_Use} (hl : VU p l) : ∀ d, 0 ≤ (bk p l l.n d).Low ∧ (bk p l l.n d).High ≤ 40000000000000 := by
  have hn := hl.n
  intro d
  cases d with
  | zero => have := fS_bd hp hl l.n (Nat.le_refl _); exact ⟨this.1, by show (fS p l l.n).High ≤ _; omega⟩
  | succ d =>
    have := fS_bd hp hl (l.n - 1 - d) (by omega)
    have g := @meet_low (fS p l (l.n - 1 - d)) ⟨(bk p l l.n d).Low - gH p l (l.n - 1 - d), (bk p l l.n d).High - gL p l (l.n - 1 - d)⟩
    exact ⟨by show 0 ≤ (meetS _ _).Low; omega, by show (meetS _ _).High ≤ _; omega⟩

theorem bk_in {p : api_Part} {l : Arr api_Use} {w : Nat → Int} (h : ∀ j, j < l.n → histP p l w j) : ∀ d, d < l.n → inS (w (l.n - 1 - d)) (bk p l l.n d) := by
  intro d
  induction d with
  | zero =>
    intro hd
    have := fS_in h l.n (Nat.le_refl _)
    obtain ⟨n, hn⟩ : ∃ n, l.n = n + 1 := ⟨l.n - 1, by omega⟩
    rw [hn] at this ⊢
    exact this
  | succ d ih =>
    intro hd
    obtain ⟨i1, i2⟩ := ih (by omega)
    have hf := fS_in h (l.n - 1 - d) (by omega)
    obtain ⟨⟨h1, h2⟩, h3⟩ := h (l.n - 1 - d) (by omega)
    obtain ⟨m, hm⟩ : ∃ m, l.n - 1 - d = m + 1 := ⟨l.n - 1 - d - 1, by omega⟩
    have hm2 : l.n - 1 - (d + 1) = m := by omega
    have hw : wB w (l.n - 1 - d) = w m := by rw [hm]; rfl
    rw [hw] at hf h1 h2
    rw [hm2]
    refine meet_in hf ⟨?_, ?_⟩
    · show (bk p l l.n d).Low - gH p l (l.n - 1 - d) ≤ w m; omega
    · show w m ≤ (bk p l l.n d).High - gL p l (l.n - 1 - d); omega

/-! ### The loops -/
theorem push_span {a : Arr api_Span} {n : Nat} {g : Nat → api_Span} (h : a.Is n g) {L H : Int} (he : (⟨L, H⟩ : api_Span) = g n) :
    (lst api_SpanC (Arr.n a + (1 : Nat)) (catC (Arr.n a) (Cod.cell api_SpanC (Arr.f a)) (litC [SV.int IntKind.i64 (0 : Int), SV.int IntKind.i64 (0 : Int)] [[SV.int IntKind.i64 L, SV.int IntKind.i64 H]]))).Is (n + 1) g :=
  Arr.Is.push (C := api_SpanC) (fun x => rfl) h he
theorem set_span {a : Arr api_Span} {m : Nat} {L H : Int} (j : Nat) : (lst api_SpanC a.n (setCs m 0 (Cod.cell api_SpanC a.f) [SV.int IntKind.i64 L, SV.int IntKind.i64 H])).f j = if j = m then ⟨L, H⟩ else a.f j := by
  by_cases e : j = m
  · subst e
    rw [if_pos rfl]
    simp [lst, setCs, setC, api_SpanC, toI]
  · have e0 : (j == m) = false := by simpa using e
    rw [if_neg e]
    show api_SpanC.dec (fun k => setC m 1 (setC m 0 (Cod.cell api_SpanC a.f) (SV.int IntKind.i64 L)) (SV.int IntKind.i64 H) j k) = a.f j
    simp only [setC, e0, Bool.false_and, cond_false]
    rfl

theorem forth_l3 (N : Nat) {p : api_Part} (hp : VP p) {l : Arr api_Use} (hl : VU p l) {w : Nat → Int} (h : ∀ j, j < l.n → histP p l w j) : ∀ (r i n : Nat) (b : Bool) (a : Arr api_Span), i + r = l.n → r < n → a.Is i (fun j => fS p l (j + 1)) →
    ∃ (b' : Bool) (a' : Arr api_Span), a'.Is l.n (fun j => fS p l (j + 1)) ∧ ∀ {R : Type} (kr : Int → Bool → Arr api_Span → Option R) (k0 : Bool → Arr api_Span → Option R),
      chain_forth_l3 N n l l (l.n : Int) (i : Int) p b a (fS p l i) kr k0 = k0 b' a' := by
  have hln := hl.n
  intro r
  induction r with
  | zero =>
    intro i n b a h1 h2 h3
    obtain ⟨n, rfl⟩ : ∃ m, n = m + 1 := ⟨n - 1, by omega⟩
    obtain rfl : i = l.n := by omega
    refine ⟨b, a, h3, fun kr k0 => ?_⟩
    unfold chain_forth_l3 chain_forth_b3
    simp only [ltF (Nat.le_refl l.n), cond_false]
  | succ r ih =>
    intro i n b a h1 h2 h3
    obtain ⟨n, rfl⟩ : ∃ m, n = m + 1 := ⟨n - 1, by omega⟩
    have hi : i < l.n := by omega
    have hu := hl.u i hi
    obtain ⟨g1, g2, g3⟩ := g_bounds hp hu
    obtain ⟨f1, f2⟩ := fS_bd hp hl i (by omega)
    obtain ⟨f3, f4⟩ := fS_in h i (by omega)
    have e1 : w64 ((fS p l i).Low + gL p l i) = (fS p l i).Low + gL p l i := w64_eq (by omega) (by omega)
    have e2 : w64 ((fS p l i).High + gH p l i) = (fS p l i).High + gH p l i := w64_eq (by omega) (by omega)
    have hin := fS_in h (i + 1) (by omega)
    have hroom : room (a.n + 1) = true := room_of (by have := h3.1; omega)
    cases hm : (l.f i).Measured with
    | true =>
      have hf : fS p l (i + 1) = meetS ⟨(fS p l i).Low + gL p l i, (fS p l i).High + gH p l i⟩ (l.f i).Says := by
        show (bif (l.f i).Measured then _ else _) = _
        rw [hm]; rfl
      obtain ⟨b', a', k1, k2⟩ := ih (i + 1) n false _ (by omega) (by omega) (push_span h3 (L := (fS p l (i + 1)).Low) (H := (fS p l (i + 1)).High) rfl)
      refine ⟨b', a', k1, fun kr k0 => ?_⟩
      unfold chain_forth_l3 chain_forth_b3
      have c1 : (fS p l (i + 1)).Low ≤ (fS p l (i + 1)).High := Int.le_trans hin.1 hin.2
      simp only [ltT hi, nat_nonneg, Bool.and_self, cond_true, Int.toNat_natCast, w64_succ (show i < 1000000000000 by omega), grown_eq N hp hu, hm, meet_eq, e1, e2, ← hf, c1, decide_true, Bool.not_true, cond_false, hroom]
      exact k2 kr k0
    | false =>
      have hf : fS p l (i + 1) = ⟨(fS p l i).Low + gL p l i, (fS p l i).High + gH p l i⟩ := by
        show (bif (l.f i).Measured then _ else _) = _
        rw [hm]; rfl
      obtain ⟨b', a', k1, k2⟩ := ih (i + 1) n false _ (by omega) (by omega) (push_span h3 (L := (fS p l i).Low + gL p l i) (H := (fS p l i).High + gH p l i) hf.symm)
      refine ⟨b', a', k1, fun kr k0 => ?_⟩
      unfold chain_forth_l3 chain_forth_b3
      simp only [ltT hi, nat_nonneg, Bool.and_self, cond_true, Int.toNat_natCast, w64_succ (show i < 1000000000000 by omega), grown_eq N hp hu, hm, e1, e2, cond_false, hroom]
      rw [← hf]
      exact k2 kr k0

theorem forth_eq {N : Nat} (hN : 100 ≤ N) {p : api_Part} (hp : VP p) {l : Arr api_Use} (hl : VU p l) {w : Nat → Int} (h : ∀ j, j < l.n → histP p l w j) :
    ∃ (b : Bool) (a : Arr api_Span), a.Is l.n (fun j => fS p l (j + 1)) ∧ ∀ {R : Type} (k : Int → Bool → Arr api_Span → Option R), chain_forth N p l k = k (l.n : Int) b a := by
  have hln := hl.n
  obtain ⟨b, a, h1, h2⟩ := forth_l3 N hp hl h l.n 0 N true (lst api_SpanC (0 : Nat) (zeroC [SV.int IntKind.i64 (0 : Int), SV.int IntKind.i64 (0 : Int)])) (by omega) (by omega) Arr.Is.zero
  refine ⟨b, a, h1, fun k => ?_⟩
  rw [chain_forth_def]
  unfold chain_forth_m
  exact h2 _ _

theorem worn_l5 (N : Nat) {p : api_Part} (hp : VP p) {l : Arr api_Use} (hl : VU p l) : ∀ (m n : Nat) (b : Bool) (a : Arr api_Span), m + 1 ≤ l.n → m < n → a.Is l.n (fun j => if m ≤ j then bk p l l.n (l.n - 1 - j) else fS p l (j + 1)) → (∀ d, d < l.n → (bk p l l.n d).Low ≤ (bk p l l.n d).High) →
    ∃ a' : Arr api_Span, a'.Is l.n (fun j => bk p l l.n (l.n - 1 - j)) ∧ ∀ {R : Type} (k0 : Arr api_Span → Option R), chain_worn_l5 N n l ((m : Int) - 1) p b a k0 = k0 a' := by
  have hln := hl.n
  intro m
  induction m with
  | zero =>
    intro n b a h1 h2 h3 hb
    obtain ⟨n, rfl⟩ : ∃ m, n = m + 1 := ⟨n - 1, by omega⟩
    refine ⟨a, ⟨h3.1, fun j hj => (h3.2 j hj).trans (if_pos (Nat.zero_le _))⟩, fun k0 => ?_⟩
    unfold chain_worn_l5 chain_worn_b5
    rfl
  | succ m ih =>
    intro n b a h1 h2 h3 hb
    obtain ⟨n, rfl⟩ : ∃ m, n = m + 1 := ⟨n - 1, by omega⟩
    have hu := hl.u (m + 1) (by omega)
    obtain ⟨g1, g2, g3⟩ := g_bounds hp hu
    have ha1 : a.f (m + 1) = bk p l l.n (l.n - 1 - (m + 1)) := (h3.2 (m + 1) (by omega)).trans (if_pos (Nat.le_refl _))
    have ha0 : a.f m = fS p l (m + 1) := (h3.2 m (by omega)).trans (if_neg (by omega))
    obtain ⟨d, hd⟩ : ∃ d, l.n - 1 - (m + 1) = d := ⟨_, rfl⟩
    rw [hd] at ha1
    obtain ⟨b1, b2⟩ := bk_bd hp hl d
    have b3 := hb d (by omega)
    have hbk : bk p l l.n (l.n - 1 - m) = meetS (fS p l (m + 1)) ⟨(bk p l l.n d).Low - gH p l (m + 1), (bk p l l.n d).High - gL p l (m + 1)⟩ := by
      have : l.n - 1 - m = d + 1 := by omega
      rw [this]
      have e : l.n - 1 - d = m + 1 := by omega
      show meetS (fS p l (l.n - 1 - d)) ⟨(bk p l l.n d).Low - gH p l (l.n - 1 - d), (bk p l l.n d).High - gL p l (l.n - 1 - d)⟩ = _
      rw [e]
    have e1 : w64 ((bk p l l.n d).Low - gH p l (m + 1)) = (bk p l l.n d).Low - gH p l (m + 1) := w64_eq (by omega) (by omega)
    have e2 : w64 ((bk p l l.n d).High - gL p l (m + 1)) = (bk p l l.n d).High - gL p l (m + 1) := w64_eq (by omega) (by omega)
    obtain ⟨a', k1, k2⟩ := ih n b (lst api_SpanC a.n (setCs m 0 (Cod.cell api_SpanC a.f) [SV.int IntKind.i64 (bk p l l.n (l.n - 1 - m)).Low, SV.int IntKind.i64 (bk p l l.n (l.n - 1 - m)).High])) (by omega) (by omega) ⟨h3.1, fun j hj => by
      show _ = if m ≤ j then bk p l l.n (l.n - 1 - j) else fS p l (j + 1)
      rw [set_span]
      by_cases e : j = m
      · subst e; rw [if_pos rfl, if_pos (Nat.le_refl _)]
      · rw [if_neg e, h3.2 j hj]
        show (if m + 1 ≤ j then _ else _) = _
        by_cases e' : m + 1 ≤ j
        · rw [if_pos e', if_pos (by omega)]
        · rw [if_neg e', if_neg (by omega)]⟩ hb
    refine ⟨a', k1, fun k0 => ?_⟩
    unfold chain_worn_l5 chain_worn_b5
    have w1 : ((m + 1 : Nat) : Int) - 1 = (m : Int) := by omega
    have w2 : w64 ((m : Int) - 1) = (m : Int) - 1 := w64_eq (by omega) (by omega)
    have c0 : decide ((m : Int) ≥ 0) = true := by simp
    have hn := h3.1
    rw [w1]
    simp only [c0, cond_true, w64_succ (show m < 1000000000000 by omega), ltT (show m + 1 < l.n by omega), ltT (show m < a.n by omega), ltT (show m + 1 < a.n by omega), nat_nonneg, Bool.and_self, Int.toNat_natCast, grown_eq N hp hu, ha1, ha0, meet_eq, e1, e2, ← hbk, w2]
    exact k2 k0

theorem worn_eq {N : Nat} (hN : 100 ≤ N) {p : api_Part} (hp : VP p) {l : Arr api_Use} (hl : VU p l) {w : Nat → Int} (h : ∀ j, j < l.n → histP p l w j) :
    ∃ (b : Bool) (a : Arr api_Span), a.Is l.n (fun j => bk p l l.n (l.n - 1 - j)) ∧ ∀ {R : Type} (k : Bool → Bool → Arr api_Span → Option R), chain_worn N p l k = k true b a := by
  have hln := hl.n
  obtain ⟨b, a, h1, h2⟩ := forth_eq hN hp hl h
  by_cases h0 : l.n = 0
  · refine ⟨b, a, ⟨h1.1, fun j hj => by omega⟩, fun k => ?_⟩
    rw [chain_worn_def]
    unfold chain_worn_m
    have c1 : ¬ ((l.n : Int) < (l.n : Int)) := by omega
    rw [h2]
    simp only [c1, decide_false, cond_false]
    obtain ⟨n, rfl⟩ : ∃ m, N = m + 1 := ⟨N - 1, by omega⟩
    rw [h0, show w64 (((0 : Nat) : Int) - 2) = -2 from w64_eq (by omega) (by omega)]
    unfold chain_worn_l5 chain_worn_b5
    rfl
  · obtain ⟨a', h3, h4⟩ := worn_l5 N hp hl (l.n - 1) N b a (by omega) (by omega) ⟨h1.1, fun j hj => by
      rw [h1.2 j hj]
      show fS p l (j + 1) = if l.n - 1 ≤ j then _ else _
      by_cases e : l.n - 1 ≤ j
      · rw [if_pos e]
        have e1 : l.n - 1 - j = 0 := by omega
        have e2 : j + 1 = l.n := by omega
        rw [e1, e2]; rfl
      · rw [if_neg e]⟩ (fun d hd => Int.le_trans (bk_in h d hd).1 (bk_in h d hd).2)
    refine ⟨b, a', h3, fun k => ?_⟩
    rw [chain_worn_def]
    unfold chain_worn_m
    have c1 : ¬ ((l.n : Int) < (l.n : Int)) := by omega
    rw [h2]
    simp only [c1, decide_false, cond_false]
    have e : w64 ((l.n : Int) - 2) = ((l.n - 1 : Nat) : Int) - 1 := by rw [w64_eq (by omega) (by omega)]; omega
    rw [e]
    exact h4 _

theorem wear_eq {N : Nat} (hN : 100 ≤ N) {p : api_Part} (hp : VP p) {l : Arr api_Use} (hl : VU p l) {w : Nat → Int} (h : ∀ j, j < l.n → histP p l w j) :
    ∃ (b : Bool) (a : Arr api_Span), a.Is l.n (fun j => bk p l l.n (l.n - 1 - j)) ∧ ∀ {R : Type} (k : Int → Bool → Arr api_Span → Option R), chain_Wear N p l k = k 0 b a := by
  obtain ⟨b, a, h1, h2⟩ := worn_eq hN hp hl h
  refine ⟨b, a, h1, fun k => ?_⟩
  rw [chain_Wear_def]
  unfold chain_Wear_m
  rw [chainPart hN hp hl]
  simp only [bne_self_eq_false, cond_false]
  rw [h2]
  rfl

/-! ### The first use that may be beyond -/
def tsum (l : Arr api_Use) : Nat → Int
  | 0 => 0
  | i + 1 => tsum l i + (l.f i).Turns
def lateP (p : api_Part) (l : Arr api_Use) (i : Nat) : Prop := tsum l (i + 1) > p.Turns ∨ (l.f i).Day > p.Age ∨ (bk p l l.n (l.n - 1 - i)).High > p.Worn * 1000000
theorem tsum_bd {p : api_Part} {l : Arr api_Use} (hl : VU p l) : ∀ i, i ≤ l.n → 0 ≤ tsum l i ∧ tsum l i ≤ i * 1000000 := by
  intro i
  induction i with
  | zero => intro _; exact ⟨Int.le_refl _, by show (0 : Int) ≤ _; simp⟩
  | succ i ih =>
    intro hi
    obtain ⟨h1, h2⟩ := ih (by omega)
    have ht := (hl.u i (by omega)).t
    show 0 ≤ tsum l i + (l.f i).Turns ∧ tsum l i + (l.f i).Turns ≤ ((i + 1 : Nat) : Int) * 1000000
    push_cast; omega
theorem tsum_sub {m l : Arr api_Use} (h : Sub m l) : ∀ i, tsum m i = tsum l i := by
  intro i
  induction i with
  | zero => rfl
  | succ i ih => show tsum m i + _ = tsum l i + _; rw [ih, h.t]
theorem late_sub {m l : Arr api_Use} (h : Sub m l) (p : api_Part) {i : Nat} (hm : lateP p m i) : lateP p l i := by
  rcases hm with g | g | g
  · exact .inl (by rw [← tsum_sub h]; exact g)
  · exact .inr (.inl (by rw [← h.d]; exact g))
  · refine .inr (.inr ?_)
    rw [h.n] at g
    have := (bk_sub h p l.n (l.n - 1 - i)).2
    omega

theorem first_l6 (N : Nat) {p : api_Part} (hp : VP p) {l : Arr api_Use} (hl : VU p l) {a : Arr api_Span} (ha : a.Is l.n (fun j => bk p l l.n (l.n - 1 - j))) (b : Bool) (kr : Int → Int → Option R) (k0 : Unit → Option R) : ∀ (r i n : Nat), i + r = l.n → r < n → (∀ j, j < i → ¬ lateP p l j) →
    (∃ j, j < l.n ∧ lateP p l j ∧ (∀ m, m < j → ¬ lateP p l m) ∧ chain_first_l6 N n (tsum l i) l (l.n : Int) (i : Int) p b a kr k0 = kr (j : Int) 0) ∨ ((∀ j, j < l.n → ¬ lateP p l j) ∧ chain_first_l6 N n (tsum l i) l (l.n : Int) (i : Int) p b a kr k0 = k0 ()) := by
  have hln := hl.n
  intro r
  induction r with
  | zero =>
    intro i n h1 h2 h3
    obtain ⟨n, rfl⟩ : ∃ m, n = m + 1 := ⟨n - 1, by omega⟩
    obtain rfl : i = l.n := by omega
    refine .inr ⟨h3, ?_⟩
    unfold chain_first_l6 chain_first_b6
    simp only [ltF (Nat.le_refl l.n), cond_false]
  | succ r ih =>
    intro i n h1 h2 h3
    obtain ⟨n, rfl⟩ : ∃ m, n = m + 1 := ⟨n - 1, by omega⟩
    have hi : i < l.n := by omega
    have hu := hl.u i hi
    have hai := ha.2 i hi
    have han := ha.1
    have hw := hp.w
    have ht := tsum_bd hl (i + 1) (by omega)
    have e1 : w64 (tsum l i + (l.f i).Turns) = tsum l (i + 1) := w64_eq (by show _ ≤ tsum l (i + 1); omega) (by show tsum l (i + 1) < _; omega)
    have e2 : w64 (p.Worn * 1000000) = p.Worn * 1000000 := w64_eq (by omega) (by omega)
    unfold chain_first_l6 chain_first_b6
    simp only [ltT hi, ltT (show i < a.n by omega), nat_nonneg, Bool.and_self, cond_true, Int.toNat_natCast, w64_succ (show i < 1000000000000 by omega), chain_Beyond_1_def, chain_Beyond_1_m, e1, e2, hai]
    by_cases c1 : tsum l (i + 1) > p.Turns
    · exact .inl ⟨i, hi, .inl c1, h3, by simp only [c1, decide_true, cond_true]⟩
    by_cases c2 : (l.f i).Day > p.Age
    · exact .inl ⟨i, hi, .inr (.inl c2), h3, by simp only [c1, c2, decide_true, decide_false, cond_true, cond_false]⟩
    by_cases c3 : (bk p l l.n (l.n - 1 - i)).High > p.Worn * 1000000
    · exact .inl ⟨i, hi, .inr (.inr c3), h3, by simp only [c1, c2, c3, decide_true, decide_false, cond_true, cond_false]⟩
    simp only [c1, c2, c3, decide_false, cond_false]
    exact ih (i + 1) n (by omega) (by omega) (fun j hj => by
      by_cases e : j = i
      · subst e
        intro g
        rcases g with g | g | g
        · exact c1 g
        · exact c2 g
        · exact c3 g
      · exact h3 j (by omega))

theorem beyond_cases {N : Nat} (hN : 100 ≤ N) {p : api_Part} (hp : VP p) {l : Arr api_Use} (hl : VU p l) {w : Nat → Int} (h : ∀ j, j < l.n → histP p l w j) (k : Int → Int → Option R) :
    (∃ j, j < l.n ∧ lateP p l j ∧ (∀ m, m < j → ¬ lateP p l m) ∧ chain_Beyond N p l k = k (j : Int) 0) ∨ ((∀ j, j < l.n → ¬ lateP p l j) ∧ chain_Beyond N p l k = k (-1) 0) := by
  have hln := hl.n
  obtain ⟨b, a, h1, h2⟩ := wear_eq hN hp hl h
  have e : chain_Beyond N p l k = chain_first_l6 N N 0 l (l.n : Int) (0 : Int) p b a (fun x y => k x y) (fun _ => k (-1) 0) := by
    rw [chain_Beyond_def]
    unfold chain_Beyond_m
    rw [chain_first_def]
    unfold chain_first_m
    rw [h2]
    rfl
  rw [e]
  exact first_l6 N hp hl h1 b _ _ l.n 0 N (by omega) (by omega) (fun j hj => by omega)
end
end Ch
end Go.Proofs.Ytpillmoddoccfab
