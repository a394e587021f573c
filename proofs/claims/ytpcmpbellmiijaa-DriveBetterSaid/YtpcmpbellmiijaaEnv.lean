/-
  The environment of this seat's program for the interpreter: the checks that are made once. Written by a program.
-/
import Derived.Test.YtpcmpbellmiijaaSxT
import Derived.Test.YtpcmpbellmiijaaSxUse
import Derived.Test.YtpcmpbellmiijaaProg
namespace Go.Proofs.Ytpcmpbellmiijaa
open Go.Sx
def reads : FuncId → Bool
  | 50 => true
  | _ => false
def norows : FuncId → Bool
  | 21 => true
  | _ => false
def owns : FuncId → Bool
  | _ => false
def bumps : FuncId → List Nat
  | _ => []
noncomputable def E : Env := ⟨Try.prog, Tys, fun _ => [], reads, norows, owns, bumps⟩
theorem hty : tyOk Try.prog Tys = true := by kernel_rfl
theorem hmix : Try.prog.follows .mixedOrders = true := by kernel_rfl
theorem hcodes : codesOk Try.prog = true := by kernel_rfl
theorem hnames : namesOk Try.prog = true := by kernel_rfl
theorem hE : EnvOk E := envOk hty hmix hcodes hnames
end Go.Proofs.Ytpcmpbellmiijaa
