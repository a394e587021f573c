import Derived.Test.YtpillmoddoccfabDoorSxT
import Derived.Test.YtpillmoddoccfabDoorSxUse
import Derived.Test.YtpillmoddoccfabDoorProg
namespace Go.Proofs.YtpillmoddoccfabDoor
open Go.Sx
def reads : FuncId → Bool
  | 65 => true
  | _ => false
def norows : FuncId → Bool
  | _ => false
def owns : FuncId → Bool
  | 110 => true
  | _ => false
def bumps : FuncId → List Nat
  | _ => []
noncomputable def E : Env := ⟨Tryd.prog, Tys, fun _ => [], reads, norows, owns, bumps⟩
theorem hty : tyOk Tryd.prog Tys = true := by kernel_rfl
theorem hmix : Tryd.prog.follows .mixedOrders = true := by kernel_rfl
theorem hcodes : codesOk Tryd.prog = true := by kernel_rfl
theorem hnames : namesOk Tryd.prog = true := by kernel_rfl
theorem hE : EnvOk E := envOk hty hmix hcodes hnames
end Go.Proofs.YtpillmoddoccfabDoor
