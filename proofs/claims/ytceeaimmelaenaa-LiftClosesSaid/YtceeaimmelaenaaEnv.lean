/-
  The environment of this seat's program for the interpreter: the checks that are made once. Written by a program.
-/
import Derived.Test.YtceeaimmelaenaaSxT
import Derived.Test.YtceeaimmelaenaaSxUse
import Derived.Test.YtceeaimmelaenaaProg
namespace Go.Proofs.Ytceeaimmelaenaa
open Go.Sx
def reads : FuncId → Bool
  | _ => false
def norows : FuncId → Bool
  | _ => false
noncomputable def E : Env := ⟨Try.prog, Tys, fun _ => [], reads, norows⟩
theorem hty : tyOk Try.prog Tys = true := by kernel_rfl
theorem hmix : Try.prog.follows .mixedOrders = true := by kernel_rfl
theorem hcodes : codesOk Try.prog = true := by kernel_rfl
theorem hnames : namesOk Try.prog = true := by kernel_rfl
theorem hE : EnvOk E := envOk hty hmix hcodes hnames
end Go.Proofs.Ytceeaimmelaenaa
