/-
  StockLent: at no time anything is there less than nothing, and turned about the movements lead back to nothing, no condition.
-/
import Derived.Test.YtdhafeekjbnapaaStkB
import Derived.Test.YtdhafeekjbnapaaRows
set_option linter.unusedSimpArgs false
set_option linter.unusedVariables false
set_option linter.unusedSimpArgs false
set_option linter.unusedVariables false
namespace Go.Proofs.Ytdhafeekjbnapaa
open Go Go.Aw Go.Aw.R1 Go.ChangeShapes Go.WideShapes Go.ChangeAt Go.RowKit

theorem lent_own : ownKnob Try.prog.godebug = none := by kernel_rfl
theorem lent_laid : laidOutB Try.prog = true := by kernel_rfl

theorem lent_open : OpenA Try.prog [39, 4, 3] (fun x : List Mv × (Bool × (Int × Unit)) => [mvs x.1, .v (.bool x.2.1), .v (.int .i64 x.2.2.1)]) (fun x => (x.1.length ≤ maxLen ∧ ∀ y ∈ x.1, mwf y ∧ (mvC y).length = 3) ∧ True ∧ (Lit.int .i64 x.2.2.1).wf = true ∧ True) :=
  openA_cons openV_mvs (openA_cons (openV_bool Try.underlying4) (openA_cons (openV_int Try.underlying3) openA_nil))

set_option maxRecDepth 100000 in
theorem lent_contract (H : Type) (enc : TypeId × Value → H) (W : World) (base : Nat) (args : Array Value) (ds gs : List (DataW H)) (before : List MemPlace)
    (hval : ∀ (j : Nat) t v, Try.f9.params[j]? = some t → args[j]? = some v → Value.okWide Try.prog W .any base t v)
    (hW : DataW.Whole enc Try.prog Try.f9.params.toList Rows.stockLentSpec.vars false W args.toList ds gs before) :
    Calls Try.prog 9 args W fun e W' => ∃ v, e = .returned v ∧ Rows.stockLentSpec.post enc Try.prog Try.f9 false true false false W args v W' :=
  law_contract lent_laid (by kernel_rfl) (t0 := 4) (by kernel_rfl) Try.underlying4 rfl (by rw [Try.params9]; exact lent_open)
    (fun a ha => by
      exact f9 sortOk sortNil a.1 a.2.1 a.2.2.1 ha.2.2.1)
    (fun H ds h => by
      rw [Try.params9] at h
      match ds, h with
      | [d0, d1, d2], _ => rfl) hval hW

set_option maxRecDepth 100000 in
theorem lent_lifted (os : Os) (started : os.Started) (H : Type) (enc : TypeId × Value → H) :
    ReturnsInHanded {} Try.checked os 9 .any (Rows.stockLentSpec.pre6 enc Try.prog Try.f9 Rows.stockLentRow.domain false) (Rows.stockLentSpec.post enc Try.prog Try.f9 false true false false) := by
  refine returnsInHanded_of_change (C := Try.checked) lent_own started (by kernel_rfl) Try.func9
    (ChangeSpec.witness6 (enc := enc) (C := Try.checked) false ⟨#[], #[.slice none 0 0, .bool false, .int .i64 0], []⟩ 8 (by kernel_rfl) (by kernel_rfl) (by kernel_rfl) (by kernel_rfl)) ?_
  intro W base args ds gs before hval hW hcnd _
  exact lent_contract H enc W base args ds gs before hval hW

theorem lent_over : Rows.stockLentRow.holds Try.pinned (OpenSpec.ofChange Rows.stockLentSpec) :=
  OpenClaim.holds_of_wide 9 Try.f9 rfl rfl rfl rfl rfl rfl rfl ⟨rfl, rfl, rfl, rfl, rfl⟩ rfl rfl rfl rfl rfl (by kernel_rfl) Try.func9 (by kernel_rfl)
    (of_decide_eq_true (by kernel_rfl)) (by unfold Func.isWrapper; first | (rw [if_pos (by decide +kernel)]; kernel_rfl) | (rw [if_neg (by decide +kernel)]; exact ⟨rfl, rfl⟩))
    (fun os started H enc _ => lent_lifted os started H enc)

theorem stockLent : Rows.StockLentSaid := lent_over
#print axioms stockLent
end Go.Proofs.Ytdhafeekjbnapaa

