/-
  The statement TotalDead: a dead row decides on nothing, and without the dead ones each way stays, without any condition.
-/
import Derived.Test.YthmbmefnohoifaaTtG
import Derived.Test.YthmbmefnohoifaaRows
set_option linter.unusedSimpArgs false
set_option linter.unusedVariables false
set_option linter.unusedSimpArgs false
set_option linter.unusedVariables false
namespace Go.Proofs.Ythmbmefnohoifaa
open Go Go.Aw Go.Aw.T1 Go.ChangeShapes Go.WideShapes Go.ChangeAt Go.RowKit

theorem dead_own : ownKnob Try.prog.godebug = none := by kernel_rfl
theorem dead_laid : laidOutB Try.prog = true := by kernel_rfl

theorem dead_open : OpenA Try.prog [23, 28] (fun x : List Ro × (Fc × Unit) => [roV x.1, .agg (fcC x.2.1)]) (fun x => lenWf x.1 ∧ True ∧ True) :=
  openA_cons (openV_ros) (openA_cons (openV_fc) (openA_nil))

set_option maxRecDepth 100000 in
theorem dead_contract (H : Type) (enc : TypeId × Value → H) (W : World) (base : Nat) (args : Array Value) (ds gs : List (DataW H)) (before : List MemPlace)
    (hval : ∀ (j : Nat) t v, Try.f5.params[j]? = some t → args[j]? = some v → Value.okWide Try.prog W .any base t v)
    (hW : DataW.Whole enc Try.prog Try.f5.params.toList Rows.totalDeadSpec.vars false W args.toList ds gs before) :
    Calls Try.prog 5 args W fun e W' => ∃ v, e = .returned v ∧ Rows.totalDeadSpec.post enc Try.prog Try.f5 false true false false W args v W' :=
  law_contract dead_laid (by kernel_rfl) (t0 := 4) (by kernel_rfl) Try.underlying4 rfl (by rw [Try.params5]; exact dead_open)
    (fun a ha => by
      exact (f5 a.1 a.2.1).mono (fun r H h => h.1))
    (fun H ds h => by
      rw [Try.params5] at h
      match ds, h with
      | [d0, d1], _ => rfl) hval hW

set_option maxRecDepth 100000 in
theorem dead_lifted (os : Os) (started : os.Started) (H : Type) (enc : TypeId × Value → H) :
    ReturnsInHanded {} Try.checked os 5 .any (Rows.totalDeadSpec.pre6 enc Try.prog Try.f5 Rows.totalDeadRow.domain false) (Rows.totalDeadSpec.post enc Try.prog Try.f5 false true false false) := by
  refine returnsInHanded_of_change (C := Try.checked) dead_own started (by kernel_rfl) Try.func5
    (ChangeSpec.witness6 (enc := enc) (C := Try.checked) false ⟨#[], #[.slice none 0 0, .agg ⟨[.int .i64 0, .bool false, .int .i64 0]⟩], []⟩ 8 (by kernel_rfl) (by kernel_rfl) (by kernel_rfl) (by kernel_rfl)) ?_
  intro W base args ds gs before hval hW hcnd _
  exact dead_contract H enc W base args ds gs before hval hW

theorem dead_over : Rows.totalDeadRow.holds Try.pinned (OpenSpec.ofChange Rows.totalDeadSpec) :=
  OpenClaim.holds_of_wide 5 Try.f5 rfl rfl rfl rfl rfl rfl rfl ⟨rfl, rfl, rfl, rfl, rfl⟩ rfl rfl rfl rfl rfl (by kernel_rfl) Try.func5 (by kernel_rfl)
    (of_decide_eq_true (by kernel_rfl)) (by unfold Func.isWrapper; first | (rw [if_pos (by decide +kernel)]; kernel_rfl) | (rw [if_neg (by decide +kernel)]; exact ⟨rfl, rfl⟩))
    (fun os started H enc _ => dead_lifted os started H enc)

theorem totalDead : Rows.TotalDeadSaid := dead_over
#print axioms totalDead
end Go.Proofs.Ythmbmefnohoifaa

