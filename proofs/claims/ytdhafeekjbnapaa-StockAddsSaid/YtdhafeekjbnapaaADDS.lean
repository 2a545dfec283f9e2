/-
  StockAdds: any movements may be or not, and one more is added to them or refused as the document says, no condition.
-/
import Derived.Test.YtdhafeekjbnapaaStkB
import Derived.Test.YtdhafeekjbnapaaRows
set_option linter.unusedSimpArgs false
set_option linter.unusedVariables false
set_option linter.unusedSimpArgs false
set_option linter.unusedVariables false
namespace Go.Proofs.Ytdhafeekjbnapaa
open Go Go.Aw Go.Aw.R1 Go.ChangeShapes Go.WideShapes Go.ChangeAt Go.RowKit

theorem adds_own : ownKnob Try.prog.godebug = none := by kernel_rfl
theorem adds_laid : laidOutB Try.prog = true := by kernel_rfl

theorem adds_open : OpenA Try.prog [39, 41] (fun x : List Mv × (Mv × Unit) => [mvs x.1, .agg (mvC x.2.1)]) (fun x => (x.1.length ≤ maxLen ∧ ∀ y ∈ x.1, mwf y ∧ (mvC y).length = 3) ∧ mwf x.2.1 ∧ True) :=
  openA_cons openV_mvs (openA_cons openV_mv openA_nil)

set_option maxRecDepth 100000 in
theorem adds_contract (H : Type) (enc : TypeId × Value → H) (W : World) (base : Nat) (args : Array Value) (ds gs : List (DataW H)) (before : List MemPlace)
    (hval : ∀ (j : Nat) t v, Try.f6.params[j]? = some t → args[j]? = some v → Value.okWide Try.prog W .any base t v)
    (hW : DataW.Whole enc Try.prog Try.f6.params.toList Rows.stockAddsSpec.vars false W args.toList ds gs before) :
    Calls Try.prog 6 args W fun e W' => ∃ v, e = .returned v ∧ Rows.stockAddsSpec.post enc Try.prog Try.f6 false true false false W args v W' :=
  law_contract adds_laid (by kernel_rfl) (t0 := 4) (by kernel_rfl) Try.underlying4 rfl (by rw [Try.params6]; exact adds_open)
    (fun a ha => by
      exact f6 sortOk sortNil a.1 a.2.1)
    (fun H ds h => by
      rw [Try.params6] at h
      match ds, h with
      | [d0, d1], _ => rfl) hval hW

set_option maxRecDepth 100000 in
theorem adds_lifted (os : Os) (started : os.Started) (H : Type) (enc : TypeId × Value → H) :
    ReturnsInHanded {} Try.checked os 6 .any (Rows.stockAddsSpec.pre6 enc Try.prog Try.f6 Rows.stockAddsRow.domain false) (Rows.stockAddsSpec.post enc Try.prog Try.f6 false true false false) := by
  refine returnsInHanded_of_change (C := Try.checked) adds_own started (by kernel_rfl) Try.func6
    (ChangeSpec.witness6 (enc := enc) (C := Try.checked) false ⟨#[], #[.slice none 0 0, .agg #[.bool false, .int .i64 0, .int .i64 0]], []⟩ 8 (by kernel_rfl) (by kernel_rfl) (by kernel_rfl) (by kernel_rfl)) ?_
  intro W base args ds gs before hval hW hcnd _
  exact adds_contract H enc W base args ds gs before hval hW

theorem adds_over : Rows.stockAddsRow.holds Try.pinned (OpenSpec.ofChange Rows.stockAddsSpec) :=
  OpenClaim.holds_of_wide 6 Try.f6 rfl rfl rfl rfl rfl rfl rfl ⟨rfl, rfl, rfl, rfl, rfl⟩ rfl rfl rfl rfl rfl (by kernel_rfl) Try.func6 (by kernel_rfl)
    (of_decide_eq_true (by kernel_rfl)) (by unfold Func.isWrapper; first | (rw [if_pos (by decide +kernel)]; kernel_rfl) | (rw [if_neg (by decide +kernel)]; exact ⟨rfl, rfl⟩))
    (fun os started H enc _ => adds_lifted os started H enc)

theorem stockAdds : Rows.StockAddsSaid := adds_over
#print axioms stockAdds
end Go.Proofs.Ytdhafeekjbnapaa

