/-
  The statement VaultKeeps: opened again, a vault tells the text that was laid last, and all bodies behind that, without any condition.
-/
import Derived.Test.YtllchkemgjmjiaaGreatDoorVcC
set_option linter.unusedSimpArgs false
set_option linter.unusedVariables false
set_option linter.unusedSimpArgs false
set_option linter.unusedVariables false
namespace Go.Aw.VE
open Go Go.Proofs

end Go.Aw.VE

set_option linter.unusedSimpArgs false
set_option linter.unusedVariables false
namespace Go.Aw.VE
open Go Go.Proofs

/-! ### writing where no op is armed -/
theorem last0 {x : Dd} (h : x.a = 0) : lastB x = false ∧ lastD x = { x with o := IntKind.wrap .i64 (x.o + 1) } := by
  unfold lastB lastD; rw [if_pos h, if_pos h]; exact ⟨rfl, rfl⟩
end Go.Aw.VE

set_option linter.unusedSimpArgs false
set_option linter.unusedVariables false
namespace Go.Aw.VE
open Go Go.Proofs

theorem flush0 {x : Dd} (ha : x.a = 0) (hf : x.f = false) : flushD x = { x with o := IntKind.wrap .i64 (x.o + 1), L := [] } ∧ flushE x = 0 := by
  obtain ⟨h1, h2⟩ := last0 ha
  unfold flushD flushE
  rw [h1, h2]
  simp only [hf, Bool.false_eq_true, if_false]
  exact ⟨trivial, trivial⟩
theorem kS_nil : kS [] = [] := by unfold kS; simp
theorem off_ok {x : Dd} (h : Dok x) : Dok { x with f := true, a := 0 } := ⟨h.pos, h.le, h.len, h.keys, h.nd⟩

end Go.Aw.VE

set_option linter.unusedSimpArgs false
set_option linter.unusedVariables false
namespace Go.Aw.VE
open Go Go.Proofs

end Go.Aw.VE

set_option linter.unusedSimpArgs false
set_option linter.unusedVariables false
set_option maxHeartbeats 1000000
namespace Go.Aw.VE
open Go Go.Proofs

end Go.Aw.VE

