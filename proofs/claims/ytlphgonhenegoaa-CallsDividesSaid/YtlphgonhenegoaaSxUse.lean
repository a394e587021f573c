import Derived.Test.YtlphgonhenegoaaSxCode
namespace Go.Sx
def codesOk (P : Program) : Bool := P.funcs.toList.all fun fn => match fn.body with | some c => codeOk c | Option.none => true
def namesOk (P : Program) : Bool := P.funcs.toList.all fun fn => !(fn.name == "runtime.NumGoroutine")
theorem envOk {E : Env} (h1 : tyOk E.P E.Θ = true) (h2 : E.P.follows .mixedOrders = true) (h3 : codesOk E.P = true) (h4 : namesOk E.P = true) : EnvOk E where
  ty := h1
  mixed := h2
  codes := fun fn hfn c hc => by
    have := List.all_eq_true.1 h3 fn hfn
    rw [hc] at this
    exact this
  names := fun fn hfn => by
    have := List.all_eq_true.1 h4 fn hfn
    simpa using this
end Go.Sx
