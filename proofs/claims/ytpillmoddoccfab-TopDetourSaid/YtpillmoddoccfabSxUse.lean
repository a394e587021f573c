/-
  How the interpreter is used: contracts of functions and of loops, put one beside the other.
-/
import Derived.Test.YtpillmoddoccfabSxCode
namespace Go.Sx

def codesOk (P : Program) : Bool := P.funcs.toList.all fun fn => match fn.body with | some c => codeOk c | Option.none => true
def namesOk (P : Program) : Bool := P.funcs.toList.all fun fn => !(fn.name == "runtime.NumGoroutine")

theorem envOk {E : Env} (h1 : tyOk E.P E.Θ = true) (h2 : E.P.follows .mixedOrders = true) (h3 : codesOk E.P = true) (h4 : namesOk E.P = true) : EnvOk E where
  ty := h1
  mixed := h2
  codes := fun fn hfn c hc => by
    have := List.all_eq_true.1 h3 fn hfn
    rw [hc] at this
    exact this
  names := fun fn hfn => by
    have := List.all_eq_true.1 h4 fn hfn
    simpa using this

/-- A contract for some calls; for the others what is handed in answers. -/
abbrev Orc := ∀ {R : Type}, FuncId → List SV → Tab → Nat → ((SV × Tab) → Option R) → (Unit → Option R) → Option R

def OrcOk (P : Program) (o : Orc) : Prop :=
  ∀ {R : Type} f args T base (kf : (SV × Tab) → Option R) d r, o f args T base kf d = some r → (∃ res T', FnOk P f args T base res T' ∧ kf (res, T') = some r) ∨ d () = some r

def noOrc : Orc := fun _ _ _ _ _ d => d ()
theorem noOrc_ok (P : Program) : OrcOk P noOrc := fun _ _ _ _ _ _ _ h => .inr h

def orElse (o o' : Orc) : Orc := fun f args T base kf d => o f args T base kf fun _ => o' f args T base kf d
theorem orElse_ok {P : Program} {o o' : Orc} (h : OrcOk P o) (h' : OrcOk P o') : OrcOk P (orElse o o') := fun f args T base kf d r hr => by
  rcases h f args T base kf _ r hr with h1 | h1
  · exact .inl h1
  · exact h' f args T base kf d r h1

/-- Contracts of loops. -/
abbrev LOrc := ∀ {R : Type}, FuncId → Nat → Nat → St → (Exit → St → Option R) → (Unit → Option R) → Option R

def LOrcOk (E : Env) (o : LOrc) : Prop :=
  ∀ {R : Type} f base key S (k : Exit → St → Option R) d r, o f base key S k d = some r → (∃ e S', k e S' = some r ∧ ∀ body, keyOf body = some key → (∃ fn c, E.P.funcs[f]? = some fn ∧ fn.body = some c ∧ loopAt key c = some body) → CodeSem E.P base (.loop body) S e S') ∨ d () = some r

end Go.Sx
