/-
  The statement AuditMoney: what was paid back is from nothing to what was paid, units that are left and that are done are all, and no more units are there than were shipped, without any condition.
-/
import Derived.Test.YtgpnhbekepoebaaGreatQ07
import Derived.Test.YtgpnhbekepoebaaGreatQ09
import Derived.Test.YtgpnhbekepoebaaGreatQ11
import Derived.Test.YtgpnhbekepoebaaGreatRows
import Derived.Test.YtgpnhbekepoebaaGreatCMON
set_option linter.unusedSimpArgs false
set_option linter.unusedVariables false
set_option linter.unusedSimpArgs false
set_option linter.unusedVariables false
namespace Go.Proofs.YtgpnhbekepoebaaGreat
open Go Go.Aw Go.Aw.U1 Go.ChangeShapes Go.WideShapes Go.ChangeAt Go.RowKit

theorem amoney_own : ownKnob Tryz.prog.godebug = none := by kernel_rfl

theorem amoney_open : OpenA Tryz.prog [44] (fun x : Sta × Unit => [stA x.1]) (fun x => Wf x.1 ∧ True) :=
  openA_cons (oV_st) (openA_nil)

set_option maxRecDepth 100000 in
theorem amoney_contract (H : Type) (enc : TypeId × Value → H) (W : World) (base : Nat) (args : Array Value) (ds gs : List (DataW H)) (before : List MemPlace)
    (hval : ∀ (j : Nat) t v, Tryz.f4.params[j]? = some t → args[j]? = some v → Value.okWide Tryz.prog W .any base t v)
    (hW : DataW.Whole enc Tryz.prog Tryz.f4.params.toList Rows.auditMoneySpec.vars false W args.toList ds gs before) :
    Calls Tryz.prog 4 args W fun e W' => ∃ v, e = .returned v ∧ Rows.auditMoneySpec.post enc Tryz.prog Tryz.f4 false true false false W args v W' :=
  law_contract amoney_laid (by kernel_rfl) (t0 := 4) (by kernel_rfl) Tryz.underlying4 rfl (by rw [Tryz.params4]; exact amoney_open)
    (fun a ha => by
      exact f4 f9 a.1 ha.1)
    (fun H ds h => by
      rw [Tryz.params4] at h
      match ds, h with
      | [d0], _ => rfl) hval hW

set_option maxRecDepth 100000 in
theorem amoney_lifted (os : Os) (started : os.Started) (H : Type) (enc : TypeId × Value → H) :
    ReturnsInHanded {} Tryz.checked os 4 .any (Rows.auditMoneySpec.pre6 enc Tryz.prog Tryz.f4 Rows.auditMoneyRow.domain false) (Rows.auditMoneySpec.post enc Tryz.prog Tryz.f4 false true false false) := by
  refine returnsInHanded_of_change (C := Tryz.checked) amoney_own started (by kernel_rfl) Tryz.func4
    (ChangeSpec.witness6 (enc := enc) (C := Tryz.checked) false ⟨#[], #[.agg ⟨[.int .i64 0, .int .i64 0, .int .i64 0, .int .i64 0, .int .i64 0, .slice none 0 0, .slice none 0 0, .slice none 0 0, .slice none 0 0, .slice none 0 0, .slice none 0 0, .slice none 0 0, .slice none 0 0, .slice none 0 0, .slice none 0 0, .slice none 0 0, .slice none 0 0, .slice none 0 0]⟩], []⟩ 8 (by kernel_rfl) (by kernel_rfl) (by kernel_rfl) (by kernel_rfl)) ?_
  intro W base args ds gs before hval hW hcnd _
  exact amoney_contract H enc W base args ds gs before hval hW

theorem amoney_over : Rows.auditMoneyRow.holds Tryz.pinned (OpenSpec.ofChange Rows.auditMoneySpec) :=
  OpenClaim.holds_of_wide 4 Tryz.f4 rfl rfl rfl rfl rfl rfl rfl ⟨rfl, rfl, rfl, rfl, rfl⟩ rfl rfl rfl rfl rfl (by kernel_rfl) Tryz.func4 amoney_closed
    (of_decide_eq_true (by kernel_rfl)) (by unfold Func.isWrapper; first | (rw [if_pos (by decide +kernel)]; kernel_rfl) | (rw [if_neg (by decide +kernel)]; exact ⟨rfl, rfl⟩))
    (fun os started H enc _ => amoney_lifted os started H enc)

theorem auditMoney : Rows.AuditMoneySaid := amoney_over
#print axioms auditMoney
end Go.Proofs.YtgpnhbekepoebaaGreat

