import Derived.Test.YtlikcijophbkbaaDsP4
import Derived.Test.YtlikcijophbkbaaSxMath
set_option linter.unusedVariables false
set_option linter.unusedSimpArgs false
namespace Go.Proofs.Ytlikcijophbkbaa
namespace Ds
open Go.Sx
section
variable {R : Type}
theorem tick_mono {e : api_Escalator} {v v' load force : Int} (h : v ≤ v') : tickS e v load force ≤ tickS e v' load force := by
  unfold tickS
  generalize (-(gOf e load) - (e.Drag + force)) / (e.Empty + load) = q1
  generalize (gOf e load - (e.Drag + force)) / (e.Empty + load) = q2
  generalize gOf e load = g
  split <;> split <;> omega
structure StepArgs (v load force : Int) : Prop where
  v1 : -10000000 ≤ v
  v2 : v ≤ 10000000
  l1 : 0 ≤ load
  l2 : load ≤ 100000
  f1 : 0 ≤ force
  f2 : force ≤ 30000000
theorem StepArgs.ok {e : api_Escalator} {v load force : Int} (h : StepArgs v load force) (he : VE e) : TickOk e v load force :=
  ⟨he.e1, he.e2, he.p1, he.p2, he.d1, he.d2, h.l1, h.l2, h.f1, h.f2, by have := h.v1; omega, by have := h.v2; omega⟩
end
end Ds
end Go.Proofs.Ytlikcijophbkbaa
