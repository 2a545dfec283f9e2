/-
  Facts about the program that the row of the law needs, by computing, no condition.
-/
import Derived.Test.YtgpnhbekepoebaaGreatRows
import Derived.Test.YtgpnhbekepoebaaGreatProg
import Derived.KernelRfl
import Derived.JoinedOf
set_option linter.unusedSimpArgs false
set_option linter.unusedVariables false
namespace Go.Proofs.YtgpnhbekepoebaaGreat
open Go
theorem amoney_laid : laidOutB Tryz.prog = true := by kernel_rfl
theorem amoney_maps : mapsRowed Tryz.prog = true := by kernel_rfl
theorem amoney_inpl : (Rows.auditMoneyRow.inPlace == Tryz.prog.inPlace 4) = true := by kernel_rfl
theorem amoney_foll : (Rows.auditMoneyRow.unfollowed == Tryz.prog.unfollowed 4) = true := by kernel_rfl
theorem amoney_recu : (Rows.auditMoneyRow.recurses == Tryz.prog.recurses 4) = true := by kernel_rfl
theorem amoney_name : (Rows.auditMoneyRow.named == Tryz.prog.varsNamed 4) = true := by kernel_rfl
theorem amoney_closed : joinedFacts Tryz.prog 4 Tryz.f4 Rows.auditMoneySpec Rows.auditMoneyRow = true := by
  unfold joinedFacts
  rw [amoney_laid, amoney_maps, amoney_inpl, amoney_foll, amoney_recu, amoney_name]
  kernel_rfl

end Go.Proofs.YtgpnhbekepoebaaGreat
