import Derived.Test.YtlphgonhenegoaaSxOps8
import Derived.Laws.IdiomStrings
namespace Go.Sx
section
variable {P : Program} {Θ : Tys} {R : Type} {sv : Nat → SV} {en : Nat → Option Ent} {nx : Nat} {r : R} {kf : Delta → Option R} {o : Oper}
theorem planS_ok (hty : tyOk P Θ = true) (hs0 : strOp Θ o = true) (h : planS Θ o sv en nx kf = some r) : ∃ δ, kf δ = some r ∧ Local P o sv en nx δ := by
  cases h
end
end Go.Sx
