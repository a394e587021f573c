import Derived.Test.YtlikcijophbkbaaDsP8
import Derived.Test.YtlikcijophbkbaaSxMath
set_option linter.unusedVariables false
set_option linter.unusedSimpArgs false
namespace Go.Proofs.Ytlikcijophbkbaa
namespace Ds
open Go.Sx
section
variable {R : Type}
end
end Ds
end Go.Proofs.Ytlikcijophbkbaa
