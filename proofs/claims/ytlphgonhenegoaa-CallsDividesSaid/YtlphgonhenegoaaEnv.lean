import Derived.Test.YtlphgonhenegoaaSxT
import Derived.Test.YtlphgonhenegoaaSxUse
import Derived.Test.YtlphgonhenegoaaProg
namespace Go.Proofs.Ytlphgonhenegoaa
open Go.Sx
def reads : FuncId → Bool
  | 73 => true
  | _ => false
def norows : FuncId → Bool
  | _ => false
def owns : FuncId → Bool
  | 69 => true
  | 78 => true
  | 1000000 => true
  | _ => false
def bumps : FuncId → List Nat
  | 68 => [7]
  | 1000000 => [4,5]
  | 77 => [6]
  | 78 => [9008,10009]
  | _ => []
noncomputable def E : Env := ⟨Try.prog, Tys, fun _ => [], reads, norows, owns, bumps⟩
theorem hty : tyOk Try.prog Tys = true := by kernel_rfl
theorem hmix : Try.prog.follows .mixedOrders = true := by kernel_rfl
theorem hcodes : codesOk Try.prog = true := by kernel_rfl
theorem hnames : namesOk Try.prog = true := by kernel_rfl
theorem hE : EnvOk E := envOk hty hmix hcodes hnames
end Go.Proofs.Ytlphgonhenegoaa
