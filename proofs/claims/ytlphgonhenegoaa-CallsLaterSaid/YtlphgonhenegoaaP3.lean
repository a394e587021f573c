import Derived.Test.YtlphgonhenegoaaP2
set_option linter.unusedVariables false
set_option linter.unusedSimpArgs false
set_option maxHeartbeats 0
set_option maxRecDepth 100000
namespace Go.Proofs.Ytlphgonhenegoaa
open Go.Sx
section
end
end Go.Proofs.Ytlphgonhenegoaa
