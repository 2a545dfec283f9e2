/-
  The statement AuditUnits: any unit may have come of any other one, or not, and any node is reached from any other one, or not, as the document says, without any condition.
-/
import Derived.Test.YtgpnhbekepoebaaGreatR08
import Derived.Test.YtgpnhbekepoebaaGreatR10
import Derived.Test.YtgpnhbekepoebaaGreatRows
import Derived.Test.YtgpnhbekepoebaaGreatCUNI
set_option linter.unusedSimpArgs false
set_option linter.unusedVariables false
set_option linter.unusedSimpArgs false
set_option linter.unusedVariables false
namespace Go.Proofs.YtgpnhbekepoebaaGreat
open Go Go.Aw Go.Aw.U1 Go.ChangeShapes Go.WideShapes Go.ChangeAt Go.RowKit

theorem aunits_own : ownKnob Tryz.prog.godebug = none := by kernel_rfl

theorem aunits_open : OpenA Tryz.prog [23, 23] (fun x : Un × (Un × Unit) => [unA x.1, unA x.2.1]) (fun x => unW' x.1 ∧ unW' x.2.1 ∧ True) :=
  openA_cons (oV_un) (openA_cons (oV_un) (openA_nil))

set_option maxRecDepth 100000 in
theorem aunits_contract (H : Type) (enc : TypeId × Value → H) (W : World) (base : Nat) (args : Array Value) (ds gs : List (DataW H)) (before : List MemPlace)
    (hval : ∀ (j : Nat) t v, Tryz.f3.params[j]? = some t → args[j]? = some v → Value.okWide Tryz.prog W .any base t v)
    (hW : DataW.Whole enc Tryz.prog Tryz.f3.params.toList Rows.auditUnitsSpec.vars false W args.toList ds gs before) :
    Calls Tryz.prog 3 args W fun e W' => ∃ v, e = .returned v ∧ Rows.auditUnitsSpec.post enc Tryz.prog Tryz.f3 false true false false W args v W' :=
  law_contract aunits_laid (by kernel_rfl) (t0 := 4) (by kernel_rfl) Tryz.underlying4 rfl (by rw [Tryz.params3]; exact aunits_open)
    (fun a ha => by
      exact f3 f9 a.1 a.2.1 ha.1 ha.2.1)
    (fun H ds h => by
      rw [Tryz.params3] at h
      match ds, h with
      | [d0, d1], _ => rfl) hval hW

set_option maxRecDepth 100000 in
theorem aunits_lifted (os : Os) (started : os.Started) (H : Type) (enc : TypeId × Value → H) :
    ReturnsInHanded {} Tryz.checked os 3 .any (Rows.auditUnitsSpec.pre6 enc Tryz.prog Tryz.f3 Rows.auditUnitsRow.domain false) (Rows.auditUnitsSpec.post enc Tryz.prog Tryz.f3 false true false false) := by
  refine returnsInHanded_of_change (C := Tryz.checked) aunits_own started (by kernel_rfl) Tryz.func3
    (ChangeSpec.witness6 (enc := enc) (C := Tryz.checked) false ⟨#[], #[.agg ⟨[.string ⟨#[]⟩, .int .i64 0, .int .i64 0, .int .i64 0, .int .i64 0, .int .i64 0, .int .i64 0, .int .i64 0, .int .i64 0, .int .i64 0]⟩, .agg ⟨[.string ⟨#[]⟩, .int .i64 0, .int .i64 0, .int .i64 0, .int .i64 0, .int .i64 0, .int .i64 0, .int .i64 0, .int .i64 0, .int .i64 0]⟩], []⟩ 8 (by kernel_rfl) (by kernel_rfl) (by kernel_rfl) (by kernel_rfl)) ?_
  intro W base args ds gs before hval hW hcnd _
  exact aunits_contract H enc W base args ds gs before hval hW

theorem aunits_over : Rows.auditUnitsRow.holds Tryz.pinned (OpenSpec.ofChange Rows.auditUnitsSpec) :=
  OpenClaim.holds_of_wide 3 Tryz.f3 rfl rfl rfl rfl rfl rfl rfl ⟨rfl, rfl, rfl, rfl, rfl⟩ rfl rfl rfl rfl rfl (by kernel_rfl) Tryz.func3 aunits_closed
    (of_decide_eq_true (by kernel_rfl)) (by unfold Func.isWrapper; first | (rw [if_pos (by decide +kernel)]; kernel_rfl) | (rw [if_neg (by decide +kernel)]; exact ⟨rfl, rfl⟩))
    (fun os started H enc _ => aunits_lifted os started H enc)

theorem auditUnits : Rows.AuditUnitsSaid := aunits_over
#print axioms auditUnits
end Go.Proofs.YtgpnhbekepoebaaGreat

