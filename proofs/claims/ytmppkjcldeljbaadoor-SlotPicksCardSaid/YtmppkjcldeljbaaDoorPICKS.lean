/-
  The statement SlotPicks: of any two slots the snapshot of the document is chosen, without any condition.
-/
import Derived.Test.YtmppkjcldeljbaaDoorSlC
import Derived.Test.YtmppkjcldeljbaaDoorRows
import Derived.Test.YtmppkjcldeljbaaDoorCards
import Derived.Test.YtmppkjcldeljbaaDoorTie
import Derived.LaidMore
import Derived.Lay
import Derived.SevenTiedAt
import Derived.Stop.Joined
set_option linter.unusedSimpArgs false
set_option linter.unusedVariables false
set_option linter.unusedSimpArgs false
set_option linter.unusedVariables false
namespace Go.Proofs.YtmppkjcldeljbaaDoor
open Go Go.Aw Go.Aw.D1 Go.ChangeShapes Go.WideShapes Go.ChangeAt Go.RowKit

theorem picks_own : ownKnob Tryd.prog.godebug = none := by kernel_rfl
theorem picks_laid : laidOutB Tryd.prog = true := by kernel_rfl

theorem picks_open : OpenA Tryd.prog [9, 9] (fun x : ByteArray × (ByteArray × Unit) => [.v (.string x.1), .v (.string x.2.1)]) (fun x => x.1.size ≤ maxLen ∧ x.2.1.size ≤ maxLen ∧ True) :=
  openA_cons (openV_string Tryd.underlying9) (openA_cons (openV_string Tryd.underlying9) openA_nil)

set_option maxRecDepth 100000 in
theorem picks_contract (H : Type) (enc : TypeId × Value → H) (W : World) (base : Nat) (args : Array Value) (ds gs : List (DataW H)) (before : List MemPlace)
    (hval : ∀ (j : Nat) t v, Tryd.f3.params[j]? = some t → args[j]? = some v → Value.okWide Tryd.prog W .any base t v)
    (hW : DataW.Whole enc Tryd.prog Tryd.f3.params.toList Rows.slotPicksSpec.vars false W args.toList ds gs before) :
    Calls Tryd.prog 3 args W fun e W' => ∃ v, e = .returned v ∧ Rows.slotPicksSpec.post enc Tryd.prog Tryd.f3 false true false false W args v W' :=
  law_contract picks_laid (by kernel_rfl) (t0 := 4) (by kernel_rfl) Tryd.underlying4 rfl (by rw [Tryd.params3]; exact picks_open)
    (fun a ha => by
      exact f3 a.1 a.2.1)
    (fun H ds h => by
      rw [Tryd.params3] at h
      match ds, h with
      | [d0, d1], _ => rfl) hval hW

set_option maxRecDepth 100000 in
theorem picks_lifted (os : Os) (started : os.Started) (H : Type) (enc : TypeId × Value → H) :
    ReturnsInHanded {} Tryd.checked os 3 .any (fun w args => (Rows.slotPicksSpec.pre enc Tryd.prog Tryd.f3 Rows.slotPicksRow.domain false w args ∧ laidMetH Tryd.prog Rows.slotPicksRow.laid w) ∧ sizedMet enc Tryd.prog Tryd.f3 (OpenSpec.ofChange Rows.slotPicksSpec) false w args)
      (Rows.slotPicksSpec.post enc Tryd.prog Tryd.f3 false true false false) := by
  refine returnsInHanded_of_change_and (C := Tryd.checked) (X := fun w _ => laidMetH Tryd.prog Rows.slotPicksRow.laid w) (fun _ _ _ hh h => h.of_heap hh) picks_own started (by kernel_rfl) Tryd.func3
    (ChangeSpec.witness_shaped (enc := enc) (C := Tryd.checked) (os := os) (X := fun w _ => laidMetH Tryd.prog Rows.slotPicksRow.laid w) false (World.laidAll Tryd.prog os Rows.slotPicksRow.laid) #[.string ⟨#[]⟩, .string ⟨#[]⟩] 8 (World.laidAll_os _ _ _)
      (World.shaped_of_ZipB (by kernel_rfl) (by kernel_rfl)) (by kernel_rfl) (by kernel_rfl) (by kernel_rfl)
      (by rw [MakeChecks.laidMetH_plain _ _ _ (by kernel_rfl)]; exact laidMet_laidAll _ (by kernel_rfl) (by kernel_rfl))) ?_
  intro W base args ds gs before hval hW _ _ _ _
  exact picks_contract H enc W base args ds gs before hval hW

theorem picks_over : Rows.SlotPicksSaid :=
  OpenClaim.holds_of_wide 3 Tryd.f3 rfl rfl rfl rfl rfl rfl rfl ⟨rfl, rfl, rfl, rfl, rfl⟩ rfl rfl rfl rfl rfl (by kernel_rfl) Tryd.func3 (by kernel_rfl)
    (of_decide_eq_true (by kernel_rfl)) (by unfold Func.isWrapper; first | (rw [if_pos (by decide +kernel)]; kernel_rfl) | (rw [if_neg (by decide +kernel)]; exact ⟨rfl, rfl⟩))
    (fun os started H enc _ => picks_lifted os started H enc)

theorem slotPicks : Rows.SlotPicksCardSaid :=
  Claim7.holds_tied_plain_at .later [] [.data, .pinned] true (true, "d4c2ae9ddf536dba20691fbdc482b1cb03b249296bb3cc7a7d5cfe2ece43b9e1") false picks_over (fun _ h => by cases h) (by kernel_rfl) (fun _ h => by cases h) slotPicks_row_tie rfl ⟨rfl, rfl⟩ (by kernel_rfl) rfl
    (fun f fn hf hfn => by
      obtain rfl : f = 3 := Option.some.inj ((show Tryd.prog.funcNamed "backhaul/backhaullaw09.SlotPicks" = some 3 by kernel_rfl).symm.trans hf) |>.symm
      obtain rfl : fn = Tryd.f3 := (Option.some.inj (Tryd.func3.symm.trans hfn)).symm
      exact ⟨by kernel_rfl, fun j t ht => by
        rw [Tryd.params3] at ht
        have hm : t ∈ [9, 9] := by simpa using Array.mem_of_getElem? ht
        have hall : ([9, 9].all fun u => !Tryd.prog.wantsStandIn u) = true := by kernel_rfl
        exact (show Tryd.prog.wantsStandIn t = false by simpa using List.all_eq_true.1 hall t hm)⟩)
    (by kernel_rfl)
#print axioms slotPicks
end Go.Proofs.YtmppkjcldeljbaaDoor

