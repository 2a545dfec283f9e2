/-
  The statement TotalLives: a row that is not dead decides on some facts, without any condition.
-/
import Derived.Test.YthmbmefnohoifaaTtG
import Derived.Test.YthmbmefnohoifaaRows
set_option linter.unusedSimpArgs false
set_option linter.unusedVariables false
set_option linter.unusedSimpArgs false
set_option linter.unusedVariables false
namespace Go.Proofs.Ythmbmefnohoifaa
open Go Go.Aw Go.Aw.T1 Go.ChangeShapes Go.WideShapes Go.ChangeAt Go.RowKit

theorem lives_own : ownKnob Try.prog.godebug = none := by kernel_rfl
theorem lives_laid : laidOutB Try.prog = true := by kernel_rfl

theorem lives_open : OpenA Try.prog [23] (fun x : List Ro × Unit => [roV x.1]) (fun x => lenWf x.1 ∧ True) :=
  openA_cons (openV_ros) (openA_nil)

set_option maxRecDepth 100000 in
theorem lives_contract (H : Type) (enc : TypeId × Value → H) (W : World) (base : Nat) (args : Array Value) (ds gs : List (DataW H)) (before : List MemPlace)
    (hval : ∀ (j : Nat) t v, Try.f6.params[j]? = some t → args[j]? = some v → Value.okWide Try.prog W .any base t v)
    (hW : DataW.Whole enc Try.prog Try.f6.params.toList Rows.totalLivesSpec.vars false W args.toList ds gs before) :
    Calls Try.prog 6 args W fun e W' => ∃ v, e = .returned v ∧ Rows.totalLivesSpec.post enc Try.prog Try.f6 false true false false W args v W' :=
  law_contract lives_laid (by kernel_rfl) (t0 := 4) (by kernel_rfl) Try.underlying4 rfl (by rw [Try.params6]; exact lives_open)
    (fun a ha => by
      exact (f6 a.1).mono (fun r H h => h.1))
    (fun H ds h => by
      rw [Try.params6] at h
      match ds, h with
      | [d0], _ => rfl) hval hW

set_option maxRecDepth 100000 in
theorem lives_lifted (os : Os) (started : os.Started) (H : Type) (enc : TypeId × Value → H) :
    ReturnsInHanded {} Try.checked os 6 .any (Rows.totalLivesSpec.pre6 enc Try.prog Try.f6 Rows.totalLivesRow.domain false) (Rows.totalLivesSpec.post enc Try.prog Try.f6 false true false false) := by
  refine returnsInHanded_of_change (C := Try.checked) lives_own started (by kernel_rfl) Try.func6
    (ChangeSpec.witness6 (enc := enc) (C := Try.checked) false ⟨#[], #[.slice none 0 0], []⟩ 8 (by kernel_rfl) (by kernel_rfl) (by kernel_rfl) (by kernel_rfl)) ?_
  intro W base args ds gs before hval hW hcnd _
  exact lives_contract H enc W base args ds gs before hval hW

theorem lives_over : Rows.totalLivesRow.holds Try.pinned (OpenSpec.ofChange Rows.totalLivesSpec) :=
  OpenClaim.holds_of_wide 6 Try.f6 rfl rfl rfl rfl rfl rfl rfl ⟨rfl, rfl, rfl, rfl, rfl⟩ rfl rfl rfl rfl rfl (by kernel_rfl) Try.func6 (by kernel_rfl)
    (of_decide_eq_true (by kernel_rfl)) (by unfold Func.isWrapper; first | (rw [if_pos (by decide +kernel)]; kernel_rfl) | (rw [if_neg (by decide +kernel)]; exact ⟨rfl, rfl⟩))
    (fun os started H enc _ => lives_lifted os started H enc)

theorem totalLives : Rows.TotalLivesSaid := lives_over
#print axioms totalLives
end Go.Proofs.Ythmbmefnohoifaa

