/-
  The statement VaultNobody: a vault that no call made answers that it is none, without any condition.
-/
import Derived.Test.YtllchkemgjmjiaaGreatDoorVfB
set_option linter.unusedSimpArgs false
set_option linter.unusedVariables false
set_option linter.unusedSimpArgs false
set_option linter.unusedVariables false
set_option maxHeartbeats 4000000
set_option maxRecDepth 20000
namespace Go.Aw.VE
open Go Go.Proofs

end Go.Aw.VE

set_option linter.unusedSimpArgs false
set_option linter.unusedVariables false
namespace Go.Aw.VE
open Go Go.Proofs
end Go.Aw.VE

