/-
  Loops told from their heads; functions in which loops are told so.
-/
import Derived.Test.YtpillmoddoccfabSxUse
namespace Go.Sx

section
variable {R : Type}

/-- A loop from a head whose state is put in order; n: how many rounds at the most. -/
def loopH (Θ : Tys) (cal : Cal R) (hs : Hints) (base : Nat) : Nat → Lp R
  | 0, _, _, _ => Option.none
  | n + 1, body, S, k =>
      codeK Θ cal (fun b S1 k1 => normK base (hs.get ((keyOf b).getD 0)) S1 fun S2 => loopH Θ cal hs base n b S2 k1) body S fun e S' => match e with
        | .normal => normK base (hs.get ((keyOf body).getD 0)) S' fun S0 => loopH Θ cal hs base n body S0 k
        | e => k e S'

def loopN (Θ : Tys) (cal : Cal R) (hs : Hints) (base : Nat) (n : Nat) : Lp R := fun b S k => normK base (hs.get ((keyOf b).getD 0)) S fun S0 => loopH Θ cal hs base n b S0 k

theorem rowifyC_none (s : SV) (t : Tab) (nx : Nat) : rowifyC (R := R) s t nx (fun _ _ _ => Option.none) = Option.none := by unfold rowifyC; split <;> rfl
theorem rowifyL_none (l : List SV) (t : Tab) (nx : Nat) : rowifyL (R := R) l t nx (fun _ _ _ => Option.none) = Option.none := by
  induction l generalizing t nx with
  | nil => rfl
  | cons s l ih => simp only [rowifyL, ih, rowifyC_none]
theorem rowify1_none (s : SV) (t : Tab) (nx : Nat) : rowify1 (R := R) s t nx (fun _ _ _ => Option.none) = Option.none := by
  unfold rowify1; split
  · exact rowifyL_none _ _ _
  · exact rowifyC_none _ _ _
theorem rowifyS_none (l : List SV) (t : Tab) (nx : Nat) : rowifyS (R := R) l t nx (fun _ _ _ => Option.none) = Option.none := by
  induction l generalizing t nx with
  | nil => rfl
  | cons s l ih => simp only [rowifyS, ih, rowify1_none]
theorem rowifyT_none (l : List Nat) (t : Tab) (nx : Nat) : rowifyT (R := R) l t nx (fun _ _ => Option.none) = Option.none := by
  induction l generalizing t nx with
  | nil => rfl
  | cons i l ih =>
    simp only [rowifyT]
    split
    · simp only [ih, rowifyL_none]
    · exact ih _ _
theorem canon_none (base : Nat) (bp : Nat → Bool) (roots : List SV) (t : Tab) : canon (R := R) base bp roots t (fun _ _ _ => Option.none) = Option.none := by
  unfold canon
  simp only
  cases nodupN (reach (lowB base bp) t 1000 (idR roots ++ belowIds (lowB base bp) t) []) <;> rfl
theorem normK_none (base : Nat) (keep : List Nat) (S : St) : normK (R := R) base keep S (fun _ => Option.none) = Option.none := by
  unfold normK
  simp only [canon_none, rowifyT_none, rowifyS_none]

theorem loopN_eq (Θ : Tys) (cal : Cal R) (hs : Hints) (base : Nat) (n : Nat) : loopN Θ cal hs base n = loopK Θ cal hs base n := by
  induction n with
  | zero =>
    funext b S k
    exact normK_none _ _ _
  | succ n ih =>
    funext b S k
    have h : ∀ b S k, (normK base (hs.get ((keyOf b).getD 0)) S fun S0 => loopH Θ cal hs base n b S0 k) = loopK Θ cal hs base n b S k := fun b S k => congrFun (congrFun (congrFun ih b) S) k
    simp only [loopN, loopH, loopK, h]
    rfl

/-- A function whose calls are answered by cal, its loops told from their heads. -/
def fnH (E : Env) (cal : Cal R) (n : Nat) : Cal R := fnK E cal (fun f base _ => loopN E.Θ cal (E.hs f) base n) n

theorem fnH_ok {E : Env} (hE : EnvOk E) {cal : Cal R} (hcal : CalOk E.P cal) (n : Nat) : CalOk E.P (fnH E cal n) := by
  refine fn_ok hE hcal (fun f base d _ => ?_) n
  rw [loopN_eq]
  exact loop_ok hE.ty hE.mixed hcal (E.hs f) base n

/-- What follows a loop in a piece of code. -/
def aft (Θ : Tys) (cal : Cal R) (lp : Lp R) (key : Nat) : Code → (Exit → St → Option R) → Exit → St → Option R
  | .seq a b, k => (match loopAt key a with
    | some _ => aft Θ cal lp key a fun e S' => match e with | .normal => codeK Θ cal lp b S' k | e => k e S'
    | Option.none => aft Θ cal lp key b k)
  | .cond _ a b, k => (match loopAt key a with
    | some _ => aft Θ cal lp key a k
    | Option.none => aft Θ cal lp key b k)
  | .block id c, k => aft Θ cal lp key c fun e S' => match e with | .exit j => (bif j == id then k .normal S' else k (.exit j) S') | e => k e S'
  | _, k => k

def codeOf (E : Env) (f : FuncId) : Code := match E.P.funcs[f]? with
  | some fn => fn.body.getD .skip
  | Option.none => .skip
def bodyAt (E : Env) (f : FuncId) (key : Nat) : Code := (loopAt key (codeOf E f)).getD .skip
def resAt (E : Env) (f : FuncId) : List ResultVar := match E.P.funcs[f]? with
  | some fn => fn.results.toList
  | Option.none => []

/-- What follows a loop in a function. -/
def fin (E : Env) (cal : Cal R) (n : Nat) (f : FuncId) (base : Nat) (key : Nat) (k : SV × Tab → Option R) : Exit → St → Option R :=
  aft E.Θ cal (loopN E.Θ cal (E.hs f) base n) key (codeOf E f) fun e S => match e with
    | .ret => finK (!(E.nr f), E.bs f) E.Θ base (resAt E f) S k
    | .normal => finK (!(E.nr f), E.bs f) E.Θ base (resAt E f) S k
    | _ => Option.none

/-- A loop of a function, from its head. -/
def lpH (E : Env) (cal : Cal R) (n : Nat) (f : FuncId) (base : Nat) (key : Nat) (S : St) (k : Exit → St → Option R) : Option R :=
  loopH E.Θ cal (E.hs f) base n (bodyAt E f key) S k

/-- Slots, all but some of them empty. -/
def mkS (n : Nat) (l : List (Nat × SV)) : List SV := go l 0 n
where
  look : List (Nat × SV) → Nat → SV
    | [], _ => .undef
    | (j, v) :: l, i => bif j == i then v else look l i
  go (l : List (Nat × SV)) (i : Nat) : Nat → List SV
    | 0 => []
    | n + 1 => look l i :: go l (i + 1) n

end

/-- Calls that oracles answer, or the functions' own code, so deep. -/
def runO (E : Env) (o : Orc) {R : Type} (n : Nat) : Nat → Cal R
  | 0 => ⟨E.ro, E.own, fun f args T base kf => o f args T base kf fun _ => Option.none⟩
  | m + 1 => ⟨E.ro, E.own, fun f args T base kf => o f args T base kf fun _ => (fnH E (runO E o n m) n).run f args T base kf⟩

theorem runO_ok {E : Env} (hE : EnvOk E) {o : Orc} (ho : OrcOk E.P o) {R : Type} (n m : Nat) : CalOk E.P (runO E o (R := R) n m) := by
  induction m with
  | zero =>
    intro f args T base kf r h
    rcases ho f args T base kf _ r h with h1 | h1
    · exact h1
    · cases h1
  | succ m ih =>
    intro f args T base kf r h
    rcases ho f args T base kf _ r h with h1 | h1
    · exact h1
    · exact fnH_ok hE ih n f args T base kf r h1

theorem FnOk.of_den {P : Program} {f : FuncId} {args args' : List SV} {T : Tab} {base : Nat} {res : SV} {T' : Tab} (h : FnOk P f args T base res T') (hd : ∀ c vs, DenL c args' vs → DenL c args vs) : FnOk P f args' T base res T' :=
  ⟨h.1, fun c vs h1 h2 h3 h4 => h.2 c vs h1 h2 h3 (hd c vs h4)⟩

end Go.Sx
