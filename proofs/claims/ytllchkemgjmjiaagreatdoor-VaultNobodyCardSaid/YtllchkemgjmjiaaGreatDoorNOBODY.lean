/-
  The statement VaultNobody: a vault that no call made answers that it is none, without any condition.
-/
import Derived.Test.YtllchkemgjmjiaaGreatDoorVgD
import Derived.Test.YtllchkemgjmjiaaGreatDoorRows
import Derived.Test.YtllchkemgjmjiaaGreatDoorCards
import Derived.Test.YtllchkemgjmjiaaGreatDoorTie
import Derived.LaidMore
import Derived.Lay
import Derived.SevenTiedAt
import Derived.Stop.Joined
set_option linter.unusedSimpArgs false
set_option linter.unusedVariables false
set_option linter.unusedSimpArgs false
set_option linter.unusedVariables false
set_option maxHeartbeats 4000000
set_option maxRecDepth 20000
namespace Go.Aw.VE
open Go Go.Proofs

theorem callZe {f : Nat} {args : List AV} {r : AV} {H G : List ABlk} {K : AV → List ABlk → Prop} (e : H = .cells 26 [.v (.pointer none), nV 0, nV 0, nV 0, nV 0, .v (.bool false)] :: G) (hc : callOk P f = true) (h : Spec P f (.ptr 0 0 :: args) eH fun r' H' => r' = r ∧ H' = eH)
    (ha : ∀ ρ, renL ρ args = args) (hr : ∀ ρ, r.ren ρ = r) (k : K r H) : ACall P f (.ptr 0 0 :: args) H K := by
  subst e
  refine ACall.of hc h [0] [] (by decide) (.same rfl .nil) (by simp) (by simp) ?_ (.inl rfl) ?_
  · have := LendL.same (H := .cells 26 [.v (.pointer none), nV 0, nV 0, nV 0, nV 0, .v (.bool false)] :: G) (B := []) (ρ := nm [0] ((ABlk.cells 26 [.v (.pointer none), nV 0, nV 0, nV 0, nV 0, .v (.bool false)] :: G)).length) (.ptr 0 0 :: args)
    simp only [renL, ha] at this
    exact this
  · rintro _ _ ⟨rfl, rfl⟩
    rw [hr]
    simp only [eH, mergeH, List.map_nil, List.append_nil, List.set_cons_zero]
    exact k
theorem f3 (t : ByteArray) (ht : t.size ≤ maxLen) (s : Int) (hs : nOk s) : Fun P 3 [sV t, nV s] (.v (.bool true)) := by
  have hml : maxLen ≤ 9223372036854775807 := by decide
  refine spec_of hT (f := 3) (fn := Go.Proofs.Tryz.f3) (c := body Go.Proofs.Tryz.f3) (by kernel_rfl) (by kernel_rfl) ?_
  conv => whnf
  repeat ((first | refine AO.cons hT ?_ | refine AO.nil ?_ | refine AW.seq ?_ | refine AW.region ?_ | refine AW.cond ?_ | refine AW.block ?_ | refine AW.loop ?_ | refine AW.skip ?_ | refine AW.exit ?_ | refine AW.ret ?_ | refine AW.label ?_ | refine AW.scope ?_ | refine AF.one hT rfl ?_ | refine AF.nil ?_ | refine AF.imm hT rfl rfl rfl ?_ | refine AH.of hT rfl ?_ | refine AD.cons hT rfl ?_ | refine AD.nil ?_ | refine AQ.cons hT rfl ?_ | refine AQ.nil ?_); conv => whnf)
  refine ACond.dec (fun g1 => ?_) (fun g1 => ?_)
  · conv => whnf
    repeat ((first | refine AO.cons hT ?_ | refine AO.nil ?_ | refine AW.seq ?_ | refine AW.region ?_ | refine AW.cond ?_ | refine AW.block ?_ | refine AW.loop ?_ | refine AW.skip ?_ | refine AW.exit ?_ | refine AW.ret ?_ | refine AW.label ?_ | refine AW.scope ?_ | refine AF.one hT rfl ?_ | refine AF.nil ?_ | refine AF.imm hT rfl rfl rfl ?_ | refine AH.of hT rfl ?_ | refine AD.cons hT rfl ?_ | refine AD.nil ?_ | refine AQ.cons hT rfl ?_ | refine AQ.nil ?_); conv => whnf)
    refine ACall.val (by kernel_rfl) f8 rfl rfl ?_
    conv => whnf
    repeat (first | (refine AW.label ?_; conv => whnf) | (refine AW.scope ?_; conv => whnf) | (refine AO.cons hT ?_; conv => whnf) | (refine AO.nil ?_; conv => whnf) | (refine AW.seq ?_; conv => whnf) | (refine AW.region ?_; conv => whnf) | (refine AW.cond ?_; conv => whnf) | (refine AW.block ?_; conv => whnf) | (refine AW.loop ?_; conv => whnf) | (refine AW.skip ?_; conv => whnf) | (refine AW.exit ?_; conv => whnf) | (refine AW.ret ?_; conv => whnf) | (refine AF.one hT rfl ?_; conv => whnf) | (refine AF.nil ?_; conv => whnf) | (refine AF.imm hT rfl rfl rfl ?_; conv => whnf) | (refine AH.of hT rfl ?_; conv => whnf) | (refine ASplit.yes rfl ?_; conv => whnf) | (refine ACond.yes rfl ?_; conv => whnf) | (refine ASplit.no rfl ?_; conv => whnf) | (refine ACond.no rfl ?_; conv => whnf) | (refine ASplit.yes (by decide) ?_; conv => whnf) | (refine ACond.yes (by decide) ?_; conv => whnf) | (refine AReq.mk (by decide) ?_; conv => whnf) | (refine AIdx.iff.2 ⟨by decide, ?_⟩; conv => whnf))
    exact AFin.val rfl ⟨rfl, rfl⟩
  conv => whnf
  repeat (first | (refine AW.label ?_; conv => whnf) | (refine AW.scope ?_; conv => whnf) | (refine AO.cons hT ?_; conv => whnf) | (refine AO.nil ?_; conv => whnf) | (refine AW.seq ?_; conv => whnf) | (refine AW.region ?_; conv => whnf) | (refine AW.cond ?_; conv => whnf) | (refine AW.block ?_; conv => whnf) | (refine AW.loop ?_; conv => whnf) | (refine AW.skip ?_; conv => whnf) | (refine AW.exit ?_; conv => whnf) | (refine AW.ret ?_; conv => whnf) | (refine AF.one hT rfl ?_; conv => whnf) | (refine AF.nil ?_; conv => whnf) | (refine AF.imm hT rfl rfl rfl ?_; conv => whnf) | (refine AH.of hT rfl ?_; conv => whnf) | (refine ASplit.yes rfl ?_; conv => whnf) | (refine ACond.yes rfl ?_; conv => whnf) | (refine ASplit.no rfl ?_; conv => whnf) | (refine ACond.no rfl ?_; conv => whnf) | (refine ASplit.yes (by decide) ?_; conv => whnf) | (refine ACond.yes (by decide) ?_; conv => whnf) | (refine AReq.mk (by decide) ?_; conv => whnf) | (refine AIdx.iff.2 ⟨by decide, ?_⟩; conv => whnf) | (refine ALp.step (T := T) ?_; conv => whnf) | (refine ACall.val (by kernel_rfl) (zn9 t) rfl rfl ?_; conv => whnf) | (refine callZe rfl (by kernel_rfl) (ze9 t) (fun _ => rfl) (fun _ => rfl) ?_; conv => whnf) | (refine ACall.val (by kernel_rfl) (zn10 t) rfl rfl ?_; conv => whnf) | (refine callZe rfl (by kernel_rfl) (ze10 t) (fun _ => rfl) (fun _ => rfl) ?_; conv => whnf) | (refine ACall.val (by kernel_rfl) (zn11 t) rfl rfl ?_; conv => whnf) | (refine callZe rfl (by kernel_rfl) (ze11 t) (fun _ => rfl) (fun _ => rfl) ?_; conv => whnf) | (refine ACall.val (by kernel_rfl) (zn12 t) rfl rfl ?_; conv => whnf) | (refine callZe rfl (by kernel_rfl) (ze12 t) (fun _ => rfl) (fun _ => rfl) ?_; conv => whnf) | (refine ACall.val (by kernel_rfl) (zn13) rfl rfl ?_; conv => whnf) | (refine callZe rfl (by kernel_rfl) (ze13) (fun _ => rfl) (fun _ => rfl) ?_; conv => whnf) | (refine ACall.val (by kernel_rfl) (zn14) rfl rfl ?_; conv => whnf) | (refine callZe rfl (by kernel_rfl) (ze14) (fun _ => rfl) (fun _ => rfl) ?_; conv => whnf) | (refine ACall.val (by kernel_rfl) (zn15) rfl rfl ?_; conv => whnf) | (refine callZe rfl (by kernel_rfl) (ze15) (fun _ => rfl) (fun _ => rfl) ?_; conv => whnf) | (refine ACall.val (by kernel_rfl) (zn16 s t) rfl rfl ?_; conv => whnf) | (refine ACall.val (by kernel_rfl) f8 rfl rfl ?_; conv => whnf) | (refine ACond.yes rfl ?_; conv => whnf) | (refine ACond.no rfl ?_; conv => whnf) | (refine ASplit.yes rfl ?_; conv => whnf) | (refine ASplit.no rfl ?_; conv => whnf) | (refine AIdx.iff.2 ⟨Nat.le_of_ble_eq_true rfl, ?_⟩; conv => whnf) | (refine AOut.stay ?_; conv => whnf))
  refine ALoop.un ?_
  conv => whnf
  repeat (first | (refine AW.label ?_; conv => whnf) | (refine AW.scope ?_; conv => whnf) | (refine AO.cons hT ?_; conv => whnf) | (refine AO.nil ?_; conv => whnf) | (refine AW.seq ?_; conv => whnf) | (refine AW.region ?_; conv => whnf) | (refine AW.cond ?_; conv => whnf) | (refine AW.block ?_; conv => whnf) | (refine AW.loop ?_; conv => whnf) | (refine AW.skip ?_; conv => whnf) | (refine AW.exit ?_; conv => whnf) | (refine AW.ret ?_; conv => whnf) | (refine AF.one hT rfl ?_; conv => whnf) | (refine AF.nil ?_; conv => whnf) | (refine AF.imm hT rfl rfl rfl ?_; conv => whnf) | (refine AH.of hT rfl ?_; conv => whnf) | (refine ASplit.yes rfl ?_; conv => whnf) | (refine ACond.yes rfl ?_; conv => whnf) | (refine ASplit.no rfl ?_; conv => whnf) | (refine ACond.no rfl ?_; conv => whnf) | (refine ASplit.yes (by decide) ?_; conv => whnf) | (refine ACond.yes (by decide) ?_; conv => whnf) | (refine AReq.mk (by decide) ?_; conv => whnf) | (refine AIdx.iff.2 ⟨by decide, ?_⟩; conv => whnf) | (refine ALp.step (T := T) ?_; conv => whnf) | (refine ACall.val (by kernel_rfl) (zn9 t) rfl rfl ?_; conv => whnf) | (refine callZe rfl (by kernel_rfl) (ze9 t) (fun _ => rfl) (fun _ => rfl) ?_; conv => whnf) | (refine ACall.val (by kernel_rfl) (zn10 t) rfl rfl ?_; conv => whnf) | (refine callZe rfl (by kernel_rfl) (ze10 t) (fun _ => rfl) (fun _ => rfl) ?_; conv => whnf) | (refine ACall.val (by kernel_rfl) (zn11 t) rfl rfl ?_; conv => whnf) | (refine callZe rfl (by kernel_rfl) (ze11 t) (fun _ => rfl) (fun _ => rfl) ?_; conv => whnf) | (refine ACall.val (by kernel_rfl) (zn12 t) rfl rfl ?_; conv => whnf) | (refine callZe rfl (by kernel_rfl) (ze12 t) (fun _ => rfl) (fun _ => rfl) ?_; conv => whnf) | (refine ACall.val (by kernel_rfl) (zn13) rfl rfl ?_; conv => whnf) | (refine callZe rfl (by kernel_rfl) (ze13) (fun _ => rfl) (fun _ => rfl) ?_; conv => whnf) | (refine ACall.val (by kernel_rfl) (zn14) rfl rfl ?_; conv => whnf) | (refine callZe rfl (by kernel_rfl) (ze14) (fun _ => rfl) (fun _ => rfl) ?_; conv => whnf) | (refine ACall.val (by kernel_rfl) (zn15) rfl rfl ?_; conv => whnf) | (refine callZe rfl (by kernel_rfl) (ze15) (fun _ => rfl) (fun _ => rfl) ?_; conv => whnf) | (refine ACall.val (by kernel_rfl) (zn16 s t) rfl rfl ?_; conv => whnf) | (refine ACall.val (by kernel_rfl) f8 rfl rfl ?_; conv => whnf) | (refine ACond.yes rfl ?_; conv => whnf) | (refine ACond.no rfl ?_; conv => whnf) | (refine ASplit.yes rfl ?_; conv => whnf) | (refine ASplit.no rfl ?_; conv => whnf) | (refine AIdx.iff.2 ⟨Nat.le_of_ble_eq_true rfl, ?_⟩; conv => whnf) | (refine AOut.stay ?_; conv => whnf))
  exact AFin.val rfl ⟨rfl, rfl⟩
end Go.Aw.VE

set_option linter.unusedSimpArgs false
set_option linter.unusedVariables false
namespace Go.Proofs.YtllchkemgjmjiaaGreatDoor
open Go Go.Aw Go.Aw.VE Go.ChangeShapes Go.WideShapes Go.ChangeAt Go.RowKit

theorem nobody_own : ownKnob Tryz.prog.godebug = none := by kernel_rfl
theorem nobody_laid : laidOutB Tryz.prog = true := by kernel_rfl

theorem nobody_open : OpenA Tryz.prog [9, 3] (fun x : ByteArray × (Int × Unit) => [.v (.string (x.1)), .v (.int .i64 (x.2.1))]) (fun x => (x.1).size ≤ maxLen ∧ (Lit.int .i64 (x.2.1)).wf = true ∧ True) :=
  openA_cons (openV_string Tryz.underlying9) (openA_cons (openV_int Tryz.underlying3) (openA_nil))

set_option maxRecDepth 100000 in
theorem nobody_contract (H : Type) (enc : TypeId × Value → H) (W : World) (base : Nat) (args : Array Value) (ds gs : List (DataW H)) (before : List MemPlace)
    (hval : ∀ (j : Nat) t v, Tryz.f3.params[j]? = some t → args[j]? = some v → Value.okWide Tryz.prog W .any base t v)
    (hW : DataW.Whole enc Tryz.prog Tryz.f3.params.toList Rows.vaultNobodySpec.vars false W args.toList ds gs before) :
    Calls Tryz.prog 3 args W fun e W' => ∃ v, e = .returned v ∧ Rows.vaultNobodySpec.post enc Tryz.prog Tryz.f3 false true false false W args v W' :=
  law_contract nobody_laid (by kernel_rfl) (t0 := 4) (by kernel_rfl) Tryz.underlying4 rfl (by rw [Tryz.params3]; exact nobody_open)
    (fun a ha => by
      have h := f3 a.1 ha.1 a.2.1 ha.2.1
      exact h.mono (fun r H h => h.1))
    (fun H ds h => by
      rw [Tryz.params3] at h
      match ds, h with
      | [d0, d1], _ => rfl) hval hW

set_option maxRecDepth 100000 in
theorem nobody_lifted (os : Os) (started : os.Started) (H : Type) (enc : TypeId × Value → H) :
    ReturnsInHanded {} Tryz.checked os 3 .any (fun w args => (Rows.vaultNobodySpec.pre enc Tryz.prog Tryz.f3 Rows.vaultNobodyRow.domain false w args ∧ laidMetH Tryz.prog Rows.vaultNobodyRow.laid w) ∧ sizedMet enc Tryz.prog Tryz.f3 (OpenSpec.ofChange Rows.vaultNobodySpec) false w args)
      (Rows.vaultNobodySpec.post enc Tryz.prog Tryz.f3 false true false false) := by
  refine returnsInHanded_of_change_and (C := Tryz.checked) (X := fun w _ => laidMetH Tryz.prog Rows.vaultNobodyRow.laid w) (fun _ _ _ hh h => h.of_heap hh) nobody_own started (by kernel_rfl) Tryz.func3
    (ChangeSpec.witness_shaped (enc := enc) (C := Tryz.checked) (os := os) (X := fun w _ => laidMetH Tryz.prog Rows.vaultNobodyRow.laid w) false (World.laidAll Tryz.prog os Rows.vaultNobodyRow.laid) #[.string ⟨#[]⟩, .int .i64 0] 8 (World.laidAll_os _ _ _)
      (World.shaped_of_ZipB (by kernel_rfl) (by kernel_rfl)) (by kernel_rfl) (by kernel_rfl) (by kernel_rfl)
      (by rw [MakeChecks.laidMetH_plain _ _ _ (by kernel_rfl)]; exact laidMet_laidAll _ (by kernel_rfl) (by kernel_rfl))) ?_
  intro W base args ds gs before hval hW _ _ _ _
  exact nobody_contract H enc W base args ds gs before hval hW

theorem nobody_over : Rows.VaultNobodySaid :=
  OpenClaim.holds_of_wide 3 Tryz.f3 rfl rfl rfl rfl rfl rfl rfl ⟨rfl, rfl, rfl, rfl, rfl⟩ rfl rfl rfl rfl rfl (by kernel_rfl) Tryz.func3 (by kernel_rfl)
    (of_decide_eq_true (by kernel_rfl)) (by unfold Func.isWrapper; first | (rw [if_pos (by decide +kernel)]; kernel_rfl) | (rw [if_neg (by decide +kernel)]; exact ⟨rfl, rfl⟩))
    (fun os started H enc _ => nobody_lifted os started H enc)

theorem vaultNobody : Rows.VaultNobodyCardSaid :=
  Claim7.holds_tied_plain_at .later [] [.data, .pinned] true (true, "c7043bd026b29a768968e47719cad74057e93809809b15c9492d8c74415f2a49") true nobody_over (fun _ h => by cases h) (by kernel_rfl) (fun _ h => by cases h) vaultNobody_row_tie rfl ⟨rfl, rfl⟩ (by kernel_rfl) rfl
    (fun f fn hf hfn => by
      obtain rfl : f = 3 := Option.some.inj ((show Tryz.prog.funcNamed "backhaul/backhaullaw12.VaultNobody" = some 3 by kernel_rfl).symm.trans hf) |>.symm
      obtain rfl : fn = Tryz.f3 := (Option.some.inj (Tryz.func3.symm.trans hfn)).symm
      exact ⟨by kernel_rfl, fun j t ht => by
        rw [Tryz.params3] at ht
        have hm : t ∈ [9, 3] := by simpa using Array.mem_of_getElem? ht
        have hall : ([9, 3].all fun u => !Tryz.prog.wantsStandIn u) = true := by kernel_rfl
        exact (show Tryz.prog.wantsStandIn t = false by simpa using List.all_eq_true.1 hall t hm)⟩)
    (by kernel_rfl)
#print axioms vaultNobody
end Go.Proofs.YtllchkemgjmjiaaGreatDoor

