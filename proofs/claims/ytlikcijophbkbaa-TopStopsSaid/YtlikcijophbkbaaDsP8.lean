import Derived.Test.YtlikcijophbkbaaDsP7
import Derived.Test.YtlikcijophbkbaaSxMath
set_option linter.unusedVariables false
set_option linter.unusedSimpArgs false
namespace Go.Proofs.Ytlikcijophbkbaa
namespace Ds
open Go.Sx
section
variable {R : Type}
theorem dist_zero {e : api_Escalator} {s : api_Stop} (h1 : VE e) (h2 : VS e s) : distV e s = if pathV e s true (restS e s true) = 0 then
    (⟨wayS (pathV e s false) (restS e s false), wayS (pathV e s true) (restS e s true)⟩, ⟨restS e s false, restS e s true⟩, 0) else (⟨0, 0⟩, ⟨0, 0⟩, 12) := by
  unfold distV
  rw [stopV_of h1 h2]
  simp
end
end Ds
end Go.Proofs.Ytlikcijophbkbaa
