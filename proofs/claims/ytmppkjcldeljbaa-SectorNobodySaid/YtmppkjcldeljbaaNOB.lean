/-
  The statement SectorNobody: a device that no call made answers that it is none, without any condition.
-/
import Derived.Test.YtmppkjcldeljbaaSeD
import Derived.Test.YtmppkjcldeljbaaRows
set_option linter.unusedSimpArgs false
set_option linter.unusedVariables false
set_option linter.unusedSimpArgs false
set_option linter.unusedVariables false
namespace Go.Proofs.Ytmppkjcldeljbaa
open Go Go.Aw Go.Aw.E1 Go.ChangeShapes Go.WideShapes Go.ChangeAt Go.RowKit

theorem nobody_own : ownKnob Try.prog.godebug = none := by kernel_rfl
theorem nobody_laid : laidOutB Try.prog = true := by kernel_rfl

theorem nobody_open : OpenA Try.prog [50] (fun x : Ac × Unit => [.agg (acC x.1)]) (fun x => acWf x.1 ∧ True) :=
  openA_cons openV_ac openA_nil

set_option maxRecDepth 100000 in
theorem nobody_contract (H : Type) (enc : TypeId × Value → H) (W : World) (base : Nat) (args : Array Value) (ds gs : List (DataW H)) (before : List MemPlace)
    (hval : ∀ (j : Nat) t v, Try.f6.params[j]? = some t → args[j]? = some v → Value.okWide Try.prog W .any base t v)
    (hW : DataW.Whole enc Try.prog Try.f6.params.toList Rows.sectorNobodySpec.vars false W args.toList ds gs before) :
    Calls Try.prog 6 args W fun e W' => ∃ v, e = .returned v ∧ Rows.sectorNobodySpec.post enc Try.prog Try.f6 false true false false W args v W' :=
  law_contract nobody_laid (by kernel_rfl) (t0 := 4) (by kernel_rfl) Try.underlying4 rfl (by rw [Try.params6]; exact nobody_open)
    (fun a ha => by
      exact (f6 a.1 ha.1.2.1).mono (fun r H h => h.1))
    (fun H ds h => by
      rw [Try.params6] at h
      match ds, h with
      | [d0], _ => rfl) hval hW

set_option maxRecDepth 100000 in
theorem nobody_lifted (os : Os) (started : os.Started) (H : Type) (enc : TypeId × Value → H) :
    ReturnsInHanded {} Try.checked os 6 .any (Rows.sectorNobodySpec.pre6 enc Try.prog Try.f6 Rows.sectorNobodyRow.domain false) (Rows.sectorNobodySpec.post enc Try.prog Try.f6 false true false false) := by
  refine returnsInHanded_of_change (C := Try.checked) nobody_own started (by kernel_rfl) Try.func6
    (ChangeSpec.witness6 (enc := enc) (C := Try.checked) false ⟨#[], #[.agg ⟨[.int .i64 0, .int .i64 0, .int .i64 0, .int .u8 0, .slice none 0 0, .int .i64 0, .int .i64 0]⟩], []⟩ 8 (by kernel_rfl) (by kernel_rfl) (by kernel_rfl) (by kernel_rfl)) ?_
  intro W base args ds gs before hval hW hcnd _
  exact nobody_contract H enc W base args ds gs before hval hW

theorem nobody_over : Rows.sectorNobodyRow.holds Try.pinned (OpenSpec.ofChange Rows.sectorNobodySpec) :=
  OpenClaim.holds_of_wide 6 Try.f6 rfl rfl rfl rfl rfl rfl rfl ⟨rfl, rfl, rfl, rfl, rfl⟩ rfl rfl rfl rfl rfl (by kernel_rfl) Try.func6 (by kernel_rfl)
    (of_decide_eq_true (by kernel_rfl)) (by unfold Func.isWrapper; first | (rw [if_pos (by decide +kernel)]; kernel_rfl) | (rw [if_neg (by decide +kernel)]; exact ⟨rfl, rfl⟩))
    (fun os started H enc _ => nobody_lifted os started H enc)

theorem sectorNobody : Rows.SectorNobodySaid := nobody_over
#print axioms sectorNobody
end Go.Proofs.Ytmppkjcldeljbaa

