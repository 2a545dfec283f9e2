/-
  The statement FrameGets: at any sector the frame of the document stands, or none, and its frames are scanned, without any condition.
-/
import Derived.Test.YtmppkjcldeljbaaDoorFrD
import Derived.Test.YtmppkjcldeljbaaDoorRows
import Derived.Test.YtmppkjcldeljbaaDoorCards
import Derived.Test.YtmppkjcldeljbaaDoorTie
import Derived.LaidMore
import Derived.Lay
import Derived.SevenTiedAt
import Derived.Stop.Joined
set_option linter.unusedSimpArgs false
set_option linter.unusedVariables false
set_option linter.unusedSimpArgs false
set_option linter.unusedVariables false
namespace Go.Proofs.YtmppkjcldeljbaaDoor
open Go Go.Aw Go.Aw.D1 Go.ChangeShapes Go.WideShapes Go.ChangeAt Go.RowKit

theorem gets_own : ownKnob Tryd.prog.godebug = none := by kernel_rfl
theorem gets_laid : laidOutB Tryd.prog = true := by kernel_rfl

theorem gets_open : OpenA Tryd.prog [9, 3, 3] (fun x : ByteArray × (Int × (Int × Unit)) => [.v (.string x.1), .v (.int .i64 x.2.1), .v (.int .i64 x.2.2.1)]) (fun x => x.1.size ≤ maxLen ∧ (Lit.int .i64 x.2.1).wf = true ∧ (Lit.int .i64 x.2.2.1).wf = true ∧ True) :=
  openA_cons (openV_string Tryd.underlying9) (openA_cons (openV_int Tryd.underlying3) (openA_cons (openV_int Tryd.underlying3) openA_nil))

set_option maxRecDepth 100000 in
theorem gets_contract (H : Type) (enc : TypeId × Value → H) (W : World) (base : Nat) (args : Array Value) (ds gs : List (DataW H)) (before : List MemPlace)
    (hval : ∀ (j : Nat) t v, Tryd.f6.params[j]? = some t → args[j]? = some v → Value.okWide Tryd.prog W .any base t v)
    (hW : DataW.Whole enc Tryd.prog Tryd.f6.params.toList Rows.frameGetsSpec.vars false W args.toList ds gs before) :
    Calls Tryd.prog 6 args W fun e W' => ∃ v, e = .returned v ∧ Rows.frameGetsSpec.post enc Tryd.prog Tryd.f6 false true false false W args v W' :=
  law_contract gets_laid (by kernel_rfl) (t0 := 4) (by kernel_rfl) Tryd.underlying4 rfl (by rw [Tryd.params6]; exact gets_open)
    (fun a ha => by
      exact f6 a.1 a.2.1 a.2.2.1 (wf_le ha.2.1))
    (fun H ds h => by
      rw [Tryd.params6] at h
      match ds, h with
      | [d0, d1, d2], _ => rfl) hval hW

set_option maxRecDepth 100000 in
theorem gets_lifted (os : Os) (started : os.Started) (H : Type) (enc : TypeId × Value → H) :
    ReturnsInHanded {} Tryd.checked os 6 .any (fun w args => (Rows.frameGetsSpec.pre enc Tryd.prog Tryd.f6 Rows.frameGetsRow.domain false w args ∧ laidMetH Tryd.prog Rows.frameGetsRow.laid w) ∧ sizedMet enc Tryd.prog Tryd.f6 (OpenSpec.ofChange Rows.frameGetsSpec) false w args)
      (Rows.frameGetsSpec.post enc Tryd.prog Tryd.f6 false true false false) := by
  refine returnsInHanded_of_change_and (C := Tryd.checked) (X := fun w _ => laidMetH Tryd.prog Rows.frameGetsRow.laid w) (fun _ _ _ hh h => h.of_heap hh) gets_own started (by kernel_rfl) Tryd.func6
    (ChangeSpec.witness_shaped (enc := enc) (C := Tryd.checked) (os := os) (X := fun w _ => laidMetH Tryd.prog Rows.frameGetsRow.laid w) false (World.laidAll Tryd.prog os Rows.frameGetsRow.laid) #[.string ⟨#[]⟩, .int .i64 0, .int .i64 0] 8 (World.laidAll_os _ _ _)
      (World.shaped_of_ZipB (by kernel_rfl) (by kernel_rfl)) (by kernel_rfl) (by kernel_rfl) (by kernel_rfl)
      (by rw [MakeChecks.laidMetH_plain _ _ _ (by kernel_rfl)]; exact laidMet_laidAll _ (by kernel_rfl) (by kernel_rfl))) ?_
  intro W base args ds gs before hval hW _ _ _ _
  exact gets_contract H enc W base args ds gs before hval hW

theorem gets_over : Rows.FrameGetsSaid :=
  OpenClaim.holds_of_wide 6 Tryd.f6 rfl rfl rfl rfl rfl rfl rfl ⟨rfl, rfl, rfl, rfl, rfl⟩ rfl rfl rfl rfl rfl (by kernel_rfl) Tryd.func6 (by kernel_rfl)
    (of_decide_eq_true (by kernel_rfl)) (by unfold Func.isWrapper; first | (rw [if_pos (by decide +kernel)]; kernel_rfl) | (rw [if_neg (by decide +kernel)]; exact ⟨rfl, rfl⟩))
    (fun os started H enc _ => gets_lifted os started H enc)

theorem frameGets : Rows.FrameGetsCardSaid :=
  Claim7.holds_tied_plain_at .later [] [.data, .pinned] true (true, "d4c2ae9ddf536dba20691fbdc482b1cb03b249296bb3cc7a7d5cfe2ece43b9e1") false gets_over (fun _ h => by cases h) (by kernel_rfl) (fun _ h => by cases h) frameGets_row_tie rfl ⟨rfl, rfl⟩ (by kernel_rfl) rfl
    (fun f fn hf hfn => by
      obtain rfl : f = 6 := Option.some.inj ((show Tryd.prog.funcNamed "backhaul/backhaullaw10.FrameGets" = some 6 by kernel_rfl).symm.trans hf) |>.symm
      obtain rfl : fn = Tryd.f6 := (Option.some.inj (Tryd.func6.symm.trans hfn)).symm
      exact ⟨by kernel_rfl, fun j t ht => by
        rw [Tryd.params6] at ht
        have hm : t ∈ [9, 3, 3] := by simpa using Array.mem_of_getElem? ht
        have hall : ([9, 3, 3].all fun u => !Tryd.prog.wantsStandIn u) = true := by kernel_rfl
        exact (show Tryd.prog.wantsStandIn t = false by simpa using List.all_eq_true.1 hall t hm)⟩)
    (by kernel_rfl)
#print axioms frameGets
end Go.Proofs.YtmppkjcldeljbaaDoor

