import Derived.Test.YtlikcijophbkbaaSxT
import Derived.Test.YtlikcijophbkbaaSxUse
import Derived.Test.YtlikcijophbkbaaProg
namespace Go.Proofs.Ytlikcijophbkbaa
open Go.Sx
def reads : FuncId → Bool
  | 68 => true
  | _ => false
def norows : FuncId → Bool
  | _ => false
def owns : FuncId → Bool
  | _ => false
def bumps : FuncId → List Nat
  | _ => []
noncomputable def E : Env := ⟨Try.prog, Tys, fun _ => [], reads, norows, owns, bumps⟩
theorem hty : tyOk Try.prog Tys = true := by kernel_rfl
theorem hmix : Try.prog.follows .mixedOrders = true := by kernel_rfl
theorem hcodes : codesOk Try.prog = true := by kernel_rfl
theorem hnames : namesOk Try.prog = true := by kernel_rfl
theorem hE : EnvOk E := envOk hty hmix hcodes hnames
end Go.Proofs.Ytlikcijophbkbaa
