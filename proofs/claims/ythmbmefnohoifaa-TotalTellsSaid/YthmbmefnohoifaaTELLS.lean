/-
  The statement TotalTells: any table has the gap, the dead rows and the cells of the document, and any rules may be or not, without any condition.
-/
import Derived.Test.YthmbmefnohoifaaTtG
import Derived.Test.YthmbmefnohoifaaRows
set_option linter.unusedSimpArgs false
set_option linter.unusedVariables false
set_option linter.unusedSimpArgs false
set_option linter.unusedVariables false
namespace Go.Proofs.Ythmbmefnohoifaa
open Go Go.Aw Go.Aw.T1 Go.ChangeShapes Go.WideShapes Go.ChangeAt Go.RowKit

theorem tells_own : ownKnob Try.prog.godebug = none := by kernel_rfl
theorem tells_laid : laidOutB Try.prog = true := by kernel_rfl

theorem tells_open : OpenA Try.prog [25] (fun x : Ru × Unit => [.agg (ruC x.1)]) (fun x => ruWf x.1 ∧ True) :=
  openA_cons (openV_ru) (openA_nil)

set_option maxRecDepth 100000 in
theorem tells_contract (H : Type) (enc : TypeId × Value → H) (W : World) (base : Nat) (args : Array Value) (ds gs : List (DataW H)) (before : List MemPlace)
    (hval : ∀ (j : Nat) t v, Try.f3.params[j]? = some t → args[j]? = some v → Value.okWide Try.prog W .any base t v)
    (hW : DataW.Whole enc Try.prog Try.f3.params.toList Rows.totalTellsSpec.vars false W args.toList ds gs before) :
    Calls Try.prog 3 args W fun e W' => ∃ v, e = .returned v ∧ Rows.totalTellsSpec.post enc Try.prog Try.f3 false true false false W args v W' :=
  law_contract tells_laid (by kernel_rfl) (t0 := 4) (by kernel_rfl) Try.underlying4 rfl (by rw [Try.params3]; exact tells_open)
    (fun a ha => by
      exact (f3 a.1).mono (fun r H h => h.1))
    (fun H ds h => by
      rw [Try.params3] at h
      match ds, h with
      | [d0], _ => rfl) hval hW

set_option maxRecDepth 100000 in
theorem tells_lifted (os : Os) (started : os.Started) (H : Type) (enc : TypeId × Value → H) :
    ReturnsInHanded {} Try.checked os 3 .any (Rows.totalTellsSpec.pre6 enc Try.prog Try.f3 Rows.totalTellsRow.domain false) (Rows.totalTellsSpec.post enc Try.prog Try.f3 false true false false) := by
  refine returnsInHanded_of_change (C := Try.checked) tells_own started (by kernel_rfl) Try.func3
    (ChangeSpec.witness6 (enc := enc) (C := Try.checked) false ⟨#[], #[.agg ⟨[.slice none 0 0, .slice none 0 0, .slice none 0 0, .slice none 0 0]⟩], []⟩ 8 (by kernel_rfl) (by kernel_rfl) (by kernel_rfl) (by kernel_rfl)) ?_
  intro W base args ds gs before hval hW hcnd _
  exact tells_contract H enc W base args ds gs before hval hW

theorem tells_over : Rows.totalTellsRow.holds Try.pinned (OpenSpec.ofChange Rows.totalTellsSpec) :=
  OpenClaim.holds_of_wide 3 Try.f3 rfl rfl rfl rfl rfl rfl rfl ⟨rfl, rfl, rfl, rfl, rfl⟩ rfl rfl rfl rfl rfl (by kernel_rfl) Try.func3 (by kernel_rfl)
    (of_decide_eq_true (by kernel_rfl)) (by unfold Func.isWrapper; first | (rw [if_pos (by decide +kernel)]; kernel_rfl) | (rw [if_neg (by decide +kernel)]; exact ⟨rfl, rfl⟩))
    (fun os started H enc _ => tells_lifted os started H enc)

theorem totalTells : Rows.TotalTellsSaid := tells_over
#print axioms totalTells
end Go.Proofs.Ythmbmefnohoifaa

