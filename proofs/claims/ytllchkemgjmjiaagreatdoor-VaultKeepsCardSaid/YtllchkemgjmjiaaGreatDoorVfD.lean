/-
  The statement VaultKeeps: opened again, a vault tells the text that was laid last, and all bodies behind that, without any condition.
-/
import Derived.Test.YtllchkemgjmjiaaGreatDoorVfB
set_option linter.unusedSimpArgs false
set_option linter.unusedVariables false
set_option linter.unusedSimpArgs false
set_option linter.unusedVariables false
set_option maxHeartbeats 4000000
set_option maxRecDepth 20000
namespace Go.Aw.VE
open Go Go.Proofs

end Go.Aw.VE

set_option linter.unusedSimpArgs false
set_option linter.unusedVariables false
namespace Go.Aw.VE
open Go Go.Proofs
theorem und4 : P.underlying 4 = some .bool := by kernel_rfl
theorem flat_bV (l : List Bool) : l.flatMap (fun b => [AV.v (.bool b)]) = l.map bV := by
  induction l with
  | nil => rfl
  | cons b l ih => rw [List.flatMap_cons, ih]; rfl
def chWf (c : Ch) : Prop := c.keep.length ≤ maxLen ∧ (Lit.int .i64 c.torn).wf = true ∧ (Lit.int .i64 c.cut).wf = true
theorem opens_ch : Opens P 38 chC chWf :=
  Opens.map (opens_struct Tryz.underlying38 (by kernel_rfl) (opensF_cons (sz := 1) rfl (by kernel_rfl) (opens_slice Tryz.underlying36 (sz := 1) (by kernel_rfl) (by decide) (opens_bool und4)) (opensF_cons (sz := 1) rfl (by kernel_rfl) (opens_int und3) (opensF_cons (sz := 1) rfl (by kernel_rfl) (opens_int und3) opensF_nil))))
    chC chWf (fun x => ⟨x.1, x.2.1, x.2.2.1⟩) (fun x _ => by simp only [chC, flat_bV]; rfl) (fun x h => ⟨h.1.1, h.2.1, h.2.2.1⟩)
end Go.Aw.VE

