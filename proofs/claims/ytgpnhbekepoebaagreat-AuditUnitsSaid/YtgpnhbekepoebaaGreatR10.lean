/-
  The statement AuditUnits: any unit may have come of any other one, or not, and any node is reached from any other one, or not, as the document says, without any condition.
-/
import Derived.Test.YtgpnhbekepoebaaGreatR09
set_option linter.unusedSimpArgs false
set_option linter.unusedVariables false
set_option maxHeartbeats 4000000
set_option maxRecDepth 30000
namespace Go.Aw.U1
open Go Go.Proofs
theorem f9 : Fun P 9 [] (bV true) := Spec.run hT hm xK_ok pl9 100000 200 (by kernel_rfl)
end Go.Aw.U1

