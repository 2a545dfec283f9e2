/-
  The statement FrameBack: a frame is taken of its sectors, and only what was put is taken, without any condition.
-/
import Derived.Test.YtmppkjcldeljbaaDoorFrE
import Derived.Test.YtmppkjcldeljbaaDoorRows
import Derived.Test.YtmppkjcldeljbaaDoorCards
import Derived.Test.YtmppkjcldeljbaaDoorTie
import Derived.LaidMore
import Derived.Lay
import Derived.SevenTiedAt
import Derived.Stop.Joined
set_option linter.unusedSimpArgs false
set_option linter.unusedVariables false
set_option linter.unusedSimpArgs false
set_option linter.unusedVariables false
namespace Go.Proofs.YtmppkjcldeljbaaDoor
open Go Go.Aw Go.Aw.D1 Go.ChangeShapes Go.WideShapes Go.ChangeAt Go.RowKit

theorem back_own : ownKnob Tryd.prog.godebug = none := by kernel_rfl
theorem back_laid : laidOutB Tryd.prog = true := by kernel_rfl

theorem back_open : OpenA Tryd.prog [44, 9, 3] (fun x : Fr × (ByteArray × (Int × Unit)) => [.agg [nV x.1.1, nV x.1.2.1, sV x.1.2.2.1], .v (.string x.2.1), .v (.int .i64 x.2.2.1)]) (fun x => frWf x.1 ∧ x.2.1.size ≤ maxLen ∧ (Lit.int .i64 x.2.2.1).wf = true ∧ True) :=
  openA_cons (openV_fr) (openA_cons (openV_string Tryd.underlying9) (openA_cons (openV_int Tryd.underlying3) openA_nil))

set_option maxRecDepth 100000 in
theorem back_contract (H : Type) (enc : TypeId × Value → H) (W : World) (base : Nat) (args : Array Value) (ds gs : List (DataW H)) (before : List MemPlace)
    (hval : ∀ (j : Nat) t v, Tryd.f7.params[j]? = some t → args[j]? = some v → Value.okWide Tryd.prog W .any base t v)
    (hW : DataW.Whole enc Tryd.prog Tryd.f7.params.toList Rows.frameBackSpec.vars false W args.toList ds gs before) :
    Calls Tryd.prog 7 args W fun e W' => ∃ v, e = .returned v ∧ Rows.frameBackSpec.post enc Tryd.prog Tryd.f7 false true false false W args v W' :=
  law_contract back_laid (by kernel_rfl) (t0 := 4) (by kernel_rfl) Tryd.underlying4 rfl (by rw [Tryd.params7]; exact back_open)
    (fun a ha => by
      exact f7 a.1.1 a.1.2.1 a.1.2.2.1 a.2.1 a.2.2.1 ha.1.2.2.1 (wf_le ha.2.2.1))
    (fun H ds h => by
      rw [Tryd.params7] at h
      match ds, h with
      | [d0, d1, d2], _ => rfl) hval hW

set_option maxRecDepth 100000 in
theorem back_lifted (os : Os) (started : os.Started) (H : Type) (enc : TypeId × Value → H) :
    ReturnsInHanded {} Tryd.checked os 7 .any (fun w args => (Rows.frameBackSpec.pre enc Tryd.prog Tryd.f7 Rows.frameBackRow.domain false w args ∧ laidMetH Tryd.prog Rows.frameBackRow.laid w) ∧ sizedMet enc Tryd.prog Tryd.f7 (OpenSpec.ofChange Rows.frameBackSpec) false w args)
      (Rows.frameBackSpec.post enc Tryd.prog Tryd.f7 false true false false) := by
  refine returnsInHanded_of_change_and (C := Tryd.checked) (X := fun w _ => laidMetH Tryd.prog Rows.frameBackRow.laid w) (fun _ _ _ hh h => h.of_heap hh) back_own started (by kernel_rfl) Tryd.func7
    (ChangeSpec.witness_shaped (enc := enc) (C := Tryd.checked) (os := os) (X := fun w _ => laidMetH Tryd.prog Rows.frameBackRow.laid w) false (World.laidAll Tryd.prog os Rows.frameBackRow.laid) #[.agg ⟨[.int .i64 0, .int .i64 0, .string ⟨#[]⟩]⟩, .string ⟨#[]⟩, .int .i64 0] 8 (World.laidAll_os _ _ _)
      (World.shaped_of_ZipB (by kernel_rfl) (by kernel_rfl)) (by kernel_rfl) (by kernel_rfl) (by kernel_rfl)
      (by rw [MakeChecks.laidMetH_plain _ _ _ (by kernel_rfl)]; exact laidMet_laidAll _ (by kernel_rfl) (by kernel_rfl))) ?_
  intro W base args ds gs before hval hW _ _ _ _
  exact back_contract H enc W base args ds gs before hval hW

theorem back_over : Rows.FrameBackSaid :=
  OpenClaim.holds_of_wide 7 Tryd.f7 rfl rfl rfl rfl rfl rfl rfl ⟨rfl, rfl, rfl, rfl, rfl⟩ rfl rfl rfl rfl rfl (by kernel_rfl) Tryd.func7 (by kernel_rfl)
    (of_decide_eq_true (by kernel_rfl)) (by unfold Func.isWrapper; first | (rw [if_pos (by decide +kernel)]; kernel_rfl) | (rw [if_neg (by decide +kernel)]; exact ⟨rfl, rfl⟩))
    (fun os started H enc _ => back_lifted os started H enc)

theorem frameBack : Rows.FrameBackCardSaid :=
  Claim7.holds_tied_plain_at .later [] [.data, .pinned] true (true, "d4c2ae9ddf536dba20691fbdc482b1cb03b249296bb3cc7a7d5cfe2ece43b9e1") false back_over (fun _ h => by cases h) (by kernel_rfl) (fun _ h => by cases h) frameBack_row_tie rfl ⟨rfl, rfl⟩ (by kernel_rfl) rfl
    (fun f fn hf hfn => by
      obtain rfl : f = 7 := Option.some.inj ((show Tryd.prog.funcNamed "backhaul/backhaullaw10.FrameBack" = some 7 by kernel_rfl).symm.trans hf) |>.symm
      obtain rfl : fn = Tryd.f7 := (Option.some.inj (Tryd.func7.symm.trans hfn)).symm
      exact ⟨by kernel_rfl, fun j t ht => by
        rw [Tryd.params7] at ht
        have hm : t ∈ [44, 9, 3] := by simpa using Array.mem_of_getElem? ht
        have hall : ([44, 9, 3].all fun u => !Tryd.prog.wantsStandIn u) = true := by kernel_rfl
        exact (show Tryd.prog.wantsStandIn t = false by simpa using List.all_eq_true.1 hall t hm)⟩)
    (by kernel_rfl)
#print axioms frameBack
end Go.Proofs.YtmppkjcldeljbaaDoor

