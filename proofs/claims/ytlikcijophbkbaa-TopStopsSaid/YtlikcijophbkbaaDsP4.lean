import Derived.Test.YtlikcijophbkbaaDsP3
import Derived.Test.YtlikcijophbkbaaSxMath
set_option linter.unusedVariables false
set_option linter.unusedSimpArgs false
namespace Go.Proofs.Ytlikcijophbkbaa
namespace Ds
open Go.Sx
section
variable {R : Type}
theorem rest_le (e : api_Escalator) (s : api_Stop) (most : Bool) : restS e s most ≤ 100 := by
  have := (stopF_spec (pathV e s most) 100 0).2.1
  unfold restS; omega
theorem Far_eq (N : Nat) (e : api_Escalator) (k : Bool → Option R) : newellaw01_Far N e k = k (decide ((e.Brakes.n : Int) > 10)) := by rw [newellaw01_Far_def]; rfl
end
end Ds
end Go.Proofs.Ytlikcijophbkbaa
