/-
  The statement FrameGrows: with the next frame more behind those that are scanned that one is scanned too, without any condition.
-/
import Derived.Test.YtmppkjcldeljbaaDoorFrD
import Derived.Test.YtmppkjcldeljbaaDoorRows
import Derived.Test.YtmppkjcldeljbaaDoorCards
import Derived.Test.YtmppkjcldeljbaaDoorTie
import Derived.LaidMore
import Derived.Lay
import Derived.SevenTiedAt
import Derived.Stop.Joined
set_option linter.unusedSimpArgs false
set_option linter.unusedVariables false
set_option linter.unusedSimpArgs false
set_option linter.unusedVariables false
namespace Go.Proofs.YtmppkjcldeljbaaDoor
open Go Go.Aw Go.Aw.D1 Go.ChangeShapes Go.WideShapes Go.ChangeAt Go.RowKit

theorem grows_own : ownKnob Tryd.prog.godebug = none := by kernel_rfl
theorem grows_laid : laidOutB Tryd.prog = true := by kernel_rfl

theorem grows_open : OpenA Tryd.prog [9, 3, 9] (fun x : ByteArray × (Int × (ByteArray × Unit)) => [.v (.string x.1), .v (.int .i64 x.2.1), .v (.string x.2.2.1)]) (fun x => x.1.size ≤ maxLen ∧ (Lit.int .i64 x.2.1).wf = true ∧ x.2.2.1.size ≤ maxLen ∧ True) :=
  openA_cons (openV_string Tryd.underlying9) (openA_cons (openV_int Tryd.underlying3) (openA_cons (openV_string Tryd.underlying9) openA_nil))

set_option maxRecDepth 100000 in
theorem grows_contract (H : Type) (enc : TypeId × Value → H) (W : World) (base : Nat) (args : Array Value) (ds gs : List (DataW H)) (before : List MemPlace)
    (hval : ∀ (j : Nat) t v, Tryd.f9.params[j]? = some t → args[j]? = some v → Value.okWide Tryd.prog W .any base t v)
    (hW : DataW.Whole enc Tryd.prog Tryd.f9.params.toList Rows.frameGrowsSpec.vars false W args.toList ds gs before) :
    Calls Tryd.prog 9 args W fun e W' => ∃ v, e = .returned v ∧ Rows.frameGrowsSpec.post enc Tryd.prog Tryd.f9 false true false false W args v W' :=
  law_contract grows_laid (by kernel_rfl) (t0 := 4) (by kernel_rfl) Tryd.underlying4 rfl (by rw [Tryd.params9]; exact grows_open)
    (fun a ha => by
      exact f9 a.1 a.2.2.1 a.2.1)
    (fun H ds h => by
      rw [Tryd.params9] at h
      match ds, h with
      | [d0, d1, d2], _ => rfl) hval hW

set_option maxRecDepth 100000 in
theorem grows_lifted (os : Os) (started : os.Started) (H : Type) (enc : TypeId × Value → H) :
    ReturnsInHanded {} Tryd.checked os 9 .any (fun w args => (Rows.frameGrowsSpec.pre enc Tryd.prog Tryd.f9 Rows.frameGrowsRow.domain false w args ∧ laidMetH Tryd.prog Rows.frameGrowsRow.laid w) ∧ sizedMet enc Tryd.prog Tryd.f9 (OpenSpec.ofChange Rows.frameGrowsSpec) false w args)
      (Rows.frameGrowsSpec.post enc Tryd.prog Tryd.f9 false true false false) := by
  refine returnsInHanded_of_change_and (C := Tryd.checked) (X := fun w _ => laidMetH Tryd.prog Rows.frameGrowsRow.laid w) (fun _ _ _ hh h => h.of_heap hh) grows_own started (by kernel_rfl) Tryd.func9
    (ChangeSpec.witness_shaped (enc := enc) (C := Tryd.checked) (os := os) (X := fun w _ => laidMetH Tryd.prog Rows.frameGrowsRow.laid w) false (World.laidAll Tryd.prog os Rows.frameGrowsRow.laid) #[.string ⟨#[]⟩, .int .i64 0, .string ⟨#[]⟩] 8 (World.laidAll_os _ _ _)
      (World.shaped_of_ZipB (by kernel_rfl) (by kernel_rfl)) (by kernel_rfl) (by kernel_rfl) (by kernel_rfl)
      (by rw [MakeChecks.laidMetH_plain _ _ _ (by kernel_rfl)]; exact laidMet_laidAll _ (by kernel_rfl) (by kernel_rfl))) ?_
  intro W base args ds gs before hval hW _ _ _ _
  exact grows_contract H enc W base args ds gs before hval hW

theorem grows_over : Rows.FrameGrowsSaid :=
  OpenClaim.holds_of_wide 9 Tryd.f9 rfl rfl rfl rfl rfl rfl rfl ⟨rfl, rfl, rfl, rfl, rfl⟩ rfl rfl rfl rfl rfl (by kernel_rfl) Tryd.func9 (by kernel_rfl)
    (of_decide_eq_true (by kernel_rfl)) (by unfold Func.isWrapper; first | (rw [if_pos (by decide +kernel)]; kernel_rfl) | (rw [if_neg (by decide +kernel)]; exact ⟨rfl, rfl⟩))
    (fun os started H enc _ => grows_lifted os started H enc)

theorem frameGrows : Rows.FrameGrowsCardSaid :=
  Claim7.holds_tied_plain_at .later [] [.data, .pinned] true (true, "d4c2ae9ddf536dba20691fbdc482b1cb03b249296bb3cc7a7d5cfe2ece43b9e1") false grows_over (fun _ h => by cases h) (by kernel_rfl) (fun _ h => by cases h) frameGrows_row_tie rfl ⟨rfl, rfl⟩ (by kernel_rfl) rfl
    (fun f fn hf hfn => by
      obtain rfl : f = 9 := Option.some.inj ((show Tryd.prog.funcNamed "backhaul/backhaullaw10.FrameGrows" = some 9 by kernel_rfl).symm.trans hf) |>.symm
      obtain rfl : fn = Tryd.f9 := (Option.some.inj (Tryd.func9.symm.trans hfn)).symm
      exact ⟨by kernel_rfl, fun j t ht => by
        rw [Tryd.params9] at ht
        have hm : t ∈ [9, 3, 9] := by simpa using Array.mem_of_getElem? ht
        have hall : ([9, 3, 9].all fun u => !Tryd.prog.wantsStandIn u) = true := by kernel_rfl
        exact (show Tryd.prog.wantsStandIn t = false by simpa using List.all_eq_true.1 hall t hm)⟩)
    (by kernel_rfl)
#print axioms frameGrows
end Go.Proofs.YtmppkjcldeljbaaDoor

