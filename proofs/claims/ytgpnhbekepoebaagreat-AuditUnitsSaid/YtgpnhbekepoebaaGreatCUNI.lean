/-
  Facts about the program that the row of the law needs, by computing, no condition.
-/
import Derived.Test.YtgpnhbekepoebaaGreatRows
import Derived.Test.YtgpnhbekepoebaaGreatProg
import Derived.KernelRfl
import Derived.JoinedOf
set_option linter.unusedSimpArgs false
set_option linter.unusedVariables false
namespace Go.Proofs.YtgpnhbekepoebaaGreat
open Go
theorem aunits_laid : laidOutB Tryz.prog = true := by kernel_rfl
theorem aunits_maps : mapsRowed Tryz.prog = true := by kernel_rfl
theorem aunits_inpl : (Rows.auditUnitsRow.inPlace == Tryz.prog.inPlace 3) = true := by kernel_rfl
theorem aunits_foll : (Rows.auditUnitsRow.unfollowed == Tryz.prog.unfollowed 3) = true := by kernel_rfl
theorem aunits_recu : (Rows.auditUnitsRow.recurses == Tryz.prog.recurses 3) = true := by kernel_rfl
theorem aunits_name : (Rows.auditUnitsRow.named == Tryz.prog.varsNamed 3) = true := by kernel_rfl
theorem aunits_closed : joinedFacts Tryz.prog 3 Tryz.f3 Rows.auditUnitsSpec Rows.auditUnitsRow = true := by
  unfold joinedFacts
  rw [aunits_laid, aunits_maps, aunits_inpl, aunits_foll, aunits_recu, aunits_name]
  kernel_rfl

end Go.Proofs.YtgpnhbekepoebaaGreat
