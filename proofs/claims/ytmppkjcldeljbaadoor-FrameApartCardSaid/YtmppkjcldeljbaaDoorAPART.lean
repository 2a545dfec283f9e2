/-
  The statement FrameApart: no sector of a frame but its first one begins a frame, without any condition.
-/
import Derived.Test.YtmppkjcldeljbaaDoorFrD
import Derived.Test.YtmppkjcldeljbaaDoorRows
import Derived.Test.YtmppkjcldeljbaaDoorCards
import Derived.Test.YtmppkjcldeljbaaDoorTie
import Derived.LaidMore
import Derived.Lay
import Derived.SevenTiedAt
import Derived.Stop.Joined
set_option linter.unusedSimpArgs false
set_option linter.unusedVariables false
set_option linter.unusedSimpArgs false
set_option linter.unusedVariables false
namespace Go.Proofs.YtmppkjcldeljbaaDoor
open Go Go.Aw Go.Aw.D1 Go.ChangeShapes Go.WideShapes Go.ChangeAt Go.RowKit

theorem apart_own : ownKnob Tryd.prog.godebug = none := by kernel_rfl
theorem apart_laid : laidOutB Tryd.prog = true := by kernel_rfl

theorem apart_open : OpenA Tryd.prog [44, 9] (fun x : Fr × (ByteArray × Unit) => [.agg [nV x.1.1, nV x.1.2.1, sV x.1.2.2.1], .v (.string x.2.1)]) (fun x => frWf x.1 ∧ x.2.1.size ≤ maxLen ∧ True) :=
  openA_cons (openV_fr) (openA_cons (openV_string Tryd.underlying9) openA_nil)

set_option maxRecDepth 100000 in
theorem apart_contract (H : Type) (enc : TypeId × Value → H) (W : World) (base : Nat) (args : Array Value) (ds gs : List (DataW H)) (before : List MemPlace)
    (hval : ∀ (j : Nat) t v, Tryd.f8.params[j]? = some t → args[j]? = some v → Value.okWide Tryd.prog W .any base t v)
    (hW : DataW.Whole enc Tryd.prog Tryd.f8.params.toList Rows.frameApartSpec.vars false W args.toList ds gs before) :
    Calls Tryd.prog 8 args W fun e W' => ∃ v, e = .returned v ∧ Rows.frameApartSpec.post enc Tryd.prog Tryd.f8 false true false false W args v W' :=
  law_contract apart_laid (by kernel_rfl) (t0 := 4) (by kernel_rfl) Tryd.underlying4 rfl (by rw [Tryd.params8]; exact apart_open)
    (fun a ha => by
      exact f8 a.1.1 a.1.2.1 a.1.2.2.1 a.2.1 ha.1.2.2.1)
    (fun H ds h => by
      rw [Tryd.params8] at h
      match ds, h with
      | [d0, d1], _ => rfl) hval hW

set_option maxRecDepth 100000 in
theorem apart_lifted (os : Os) (started : os.Started) (H : Type) (enc : TypeId × Value → H) :
    ReturnsInHanded {} Tryd.checked os 8 .any (fun w args => (Rows.frameApartSpec.pre enc Tryd.prog Tryd.f8 Rows.frameApartRow.domain false w args ∧ laidMetH Tryd.prog Rows.frameApartRow.laid w) ∧ sizedMet enc Tryd.prog Tryd.f8 (OpenSpec.ofChange Rows.frameApartSpec) false w args)
      (Rows.frameApartSpec.post enc Tryd.prog Tryd.f8 false true false false) := by
  refine returnsInHanded_of_change_and (C := Tryd.checked) (X := fun w _ => laidMetH Tryd.prog Rows.frameApartRow.laid w) (fun _ _ _ hh h => h.of_heap hh) apart_own started (by kernel_rfl) Tryd.func8
    (ChangeSpec.witness_shaped (enc := enc) (C := Tryd.checked) (os := os) (X := fun w _ => laidMetH Tryd.prog Rows.frameApartRow.laid w) false (World.laidAll Tryd.prog os Rows.frameApartRow.laid) #[.agg ⟨[.int .i64 0, .int .i64 0, .string ⟨#[]⟩]⟩, .string ⟨#[]⟩] 8 (World.laidAll_os _ _ _)
      (World.shaped_of_ZipB (by kernel_rfl) (by kernel_rfl)) (by kernel_rfl) (by kernel_rfl) (by kernel_rfl)
      (by rw [MakeChecks.laidMetH_plain _ _ _ (by kernel_rfl)]; exact laidMet_laidAll _ (by kernel_rfl) (by kernel_rfl))) ?_
  intro W base args ds gs before hval hW _ _ _ _
  exact apart_contract H enc W base args ds gs before hval hW

theorem apart_over : Rows.FrameApartSaid :=
  OpenClaim.holds_of_wide 8 Tryd.f8 rfl rfl rfl rfl rfl rfl rfl ⟨rfl, rfl, rfl, rfl, rfl⟩ rfl rfl rfl rfl rfl (by kernel_rfl) Tryd.func8 (by kernel_rfl)
    (of_decide_eq_true (by kernel_rfl)) (by unfold Func.isWrapper; first | (rw [if_pos (by decide +kernel)]; kernel_rfl) | (rw [if_neg (by decide +kernel)]; exact ⟨rfl, rfl⟩))
    (fun os started H enc _ => apart_lifted os started H enc)

theorem frameApart : Rows.FrameApartCardSaid :=
  Claim7.holds_tied_plain_at .later [] [.data, .pinned] true (true, "d4c2ae9ddf536dba20691fbdc482b1cb03b249296bb3cc7a7d5cfe2ece43b9e1") false apart_over (fun _ h => by cases h) (by kernel_rfl) (fun _ h => by cases h) frameApart_row_tie rfl ⟨rfl, rfl⟩ (by kernel_rfl) rfl
    (fun f fn hf hfn => by
      obtain rfl : f = 8 := Option.some.inj ((show Tryd.prog.funcNamed "backhaul/backhaullaw10.FrameApart" = some 8 by kernel_rfl).symm.trans hf) |>.symm
      obtain rfl : fn = Tryd.f8 := (Option.some.inj (Tryd.func8.symm.trans hfn)).symm
      exact ⟨by kernel_rfl, fun j t ht => by
        rw [Tryd.params8] at ht
        have hm : t ∈ [44, 9] := by simpa using Array.mem_of_getElem? ht
        have hall : ([44, 9].all fun u => !Tryd.prog.wantsStandIn u) = true := by kernel_rfl
        exact (show Tryd.prog.wantsStandIn t = false by simpa using List.all_eq_true.1 hall t hm)⟩)
    (by kernel_rfl)
#print axioms frameApart
end Go.Proofs.YtmppkjcldeljbaaDoor

