/-
  The statement VaultNobody: a vault that no call made answers that it is none, without any condition.
-/
import Derived.Test.YtllchkemgjmjiaaGreatDoorVcA
import Derived.Test.YtllchkemgjmjiaaGreatDoorShelfP
set_option linter.unusedSimpArgs false
set_option linter.unusedVariables false
set_option linter.unusedSimpArgs false
set_option linter.unusedVariables false
set_option maxHeartbeats 4000000
namespace Go.Aw.VE
open Go

end Go.Aw.VE

set_option linter.unusedSimpArgs false
set_option linter.unusedVariables false
set_option maxHeartbeats 4000000
namespace Go.Aw.VE
open Go Go.Proofs

end Go.Aw.VE

set_option linter.unusedSimpArgs false
set_option linter.unusedVariables false
set_option maxHeartbeats 4000000
namespace Go.Aw.VE
open Go Go.Proofs

end Go.Aw.VE

set_option linter.unusedSimpArgs false
set_option linter.unusedVariables false
set_option maxHeartbeats 4000000
namespace Go.Aw.VE
open Go Go.Proofs

/-- what is left -/
structure Ch where
  keep : List Bool
  torn : Int
  cut : Int
end Go.Aw.VE

set_option linter.unusedSimpArgs false
set_option linter.unusedVariables false
set_option maxHeartbeats 4000000
namespace Go.Aw.VE
open Go Go.Proofs

end Go.Aw.VE

set_option linter.unusedSimpArgs false
set_option linter.unusedVariables false
set_option maxHeartbeats 4000000
namespace Go.Aw.VE
open Go Go.Proofs

end Go.Aw.VE

