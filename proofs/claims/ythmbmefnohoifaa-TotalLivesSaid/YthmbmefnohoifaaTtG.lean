/-
  The statement TotalLives: a row that is not dead decides on some facts, without any condition.
-/
import Derived.Test.YthmbmefnohoifaaTtF
set_option linter.unusedSimpArgs false
set_option linter.unusedVariables false
set_option linter.unusedSimpArgs false
set_option linter.unusedVariables false
set_option maxHeartbeats 1000000
set_option maxRecDepth 20000
namespace Go.Aw.T1
open Go Go.Proofs

theorem roF1 (ρ : Nat → Nat) (l : List Ro) (f : Fc) : renL ρ [roV l, fcA f] = [roV l, fcA f] := by show [(roV l).ren ρ, _] = _; rw [roV_ren]; rfl
theorem f4 (l : List Ro) (f : Fc) : Fun P 4 [roV l, fcA f] (bV true) := by
  refine spec_of hT (f := 4) (fn := Go.Proofs.Try.f4) (c := body Go.Proofs.Try.f4) (by kernel_rfl) (by kernel_rfl) ?_
  have h7 : ∀ {H : List ABlk}, AFin 0 (bV true) H (fun r' H' => r' = bV true ∧ H' = []) := AFin.val rfl ⟨rfl, rfl⟩
  conv => whnf
  repeat ((first | refine AO.cons hT ?_ | refine AO.nil ?_ | refine AW.seq ?_ | refine AW.region ?_ | refine AW.cond ?_ | refine AW.block ?_ | refine AW.loop ?_ | refine AW.skip ?_ | refine AW.exit ?_ | refine AW.ret ?_ | refine AW.label ?_ | refine AW.scope ?_ | refine AF.one hT rfl ?_ | refine AF.nil ?_ | refine AF.imm hT rfl rfl rfl ?_ | refine AH.of hT rfl ?_ | refine AD.cons hT rfl ?_ | refine AD.nil ?_ | refine AQ.cons hT rfl ?_ | refine AQ.nil ?_ | (refine ACall.val (by kernel_rfl) f7 rfl rfl ?_)); conv => whnf)
  refine ASplit.dec (fun h1 => ?_) (fun h1 => ?_)
  · conv => whnf
    repeat (first | (refine AW.label ?_; conv => whnf) | (refine AW.scope ?_; conv => whnf) | (refine AO.cons hT ?_; conv => whnf) | (refine AO.nil ?_; conv => whnf) | (refine AW.seq ?_; conv => whnf) | (refine AW.region ?_; conv => whnf) | (refine AW.cond ?_; conv => whnf) | (refine AW.block ?_; conv => whnf) | (refine AW.loop ?_; conv => whnf) | (refine AW.skip ?_; conv => whnf) | (refine AW.exit ?_; conv => whnf) | (refine AW.ret ?_; conv => whnf) | (refine AF.one hT rfl ?_; conv => whnf) | (refine AF.nil ?_; conv => whnf) | (refine AF.imm hT rfl rfl rfl ?_; conv => whnf) | (refine AH.of hT rfl ?_; conv => whnf) | (refine ASplit.yes rfl ?_; conv => whnf) | (refine ACond.yes rfl ?_; conv => whnf) | (refine ASplit.no rfl ?_; conv => whnf) | (refine ACond.no rfl ?_; conv => whnf) | (refine ASplit.yes (by decide) ?_; conv => whnf) | (refine ACond.yes (by decide) ?_; conv => whnf) | (refine AReq.mk (by decide) ?_; conv => whnf) | (refine AIdx.iff.2 ⟨by decide, ?_⟩; conv => whnf) | (refine ACall.val (by kernel_rfl) f7 rfl rfl ?_; conv => whnf))
    exact h7
  conv => whnf
  repeat ((first | refine AO.cons hT ?_ | refine AO.nil ?_ | refine AW.seq ?_ | refine AW.region ?_ | refine AW.cond ?_ | refine AW.block ?_ | refine AW.loop ?_ | refine AW.skip ?_ | refine AW.exit ?_ | refine AW.ret ?_ | refine AW.label ?_ | refine AW.scope ?_ | refine AF.one hT rfl ?_ | refine AF.nil ?_ | refine AF.imm hT rfl rfl rfl ?_ | refine AH.of hT rfl ?_ | refine AD.cons hT rfl ?_ | refine AD.nil ?_ | refine AQ.cons hT rfl ?_ | refine AQ.nil ?_ | (refine ACall.val (by kernel_rfl) f7 rfl rfl ?_)); conv => whnf)
  refine ACall.val (by kernel_rfl) (f18 l) (roV1 _ _) rfl ?_
  rcases Bool.eq_false_or_eq_true (tabB l) with g | g <;> simp only [g, Bool.false_eq_true, if_false, if_true]
  case inr =>
    conv => whnf
    repeat (first | (refine AW.label ?_; conv => whnf) | (refine AW.scope ?_; conv => whnf) | (refine AO.cons hT ?_; conv => whnf) | (refine AO.nil ?_; conv => whnf) | (refine AW.seq ?_; conv => whnf) | (refine AW.region ?_; conv => whnf) | (refine AW.cond ?_; conv => whnf) | (refine AW.block ?_; conv => whnf) | (refine AW.loop ?_; conv => whnf) | (refine AW.skip ?_; conv => whnf) | (refine AW.exit ?_; conv => whnf) | (refine AW.ret ?_; conv => whnf) | (refine AF.one hT rfl ?_; conv => whnf) | (refine AF.nil ?_; conv => whnf) | (refine AF.imm hT rfl rfl rfl ?_; conv => whnf) | (refine AH.of hT rfl ?_; conv => whnf) | (refine ASplit.yes rfl ?_; conv => whnf) | (refine ACond.yes rfl ?_; conv => whnf) | (refine ASplit.no rfl ?_; conv => whnf) | (refine ACond.no rfl ?_; conv => whnf) | (refine ASplit.yes (by decide) ?_; conv => whnf) | (refine ACond.yes (by decide) ?_; conv => whnf) | (refine AReq.mk (by decide) ?_; conv => whnf) | (refine AIdx.iff.2 ⟨by decide, ?_⟩; conv => whnf) | (refine ACall.val (by kernel_rfl) f7 rfl rfl ?_; conv => whnf))
    exact h7
  conv => whnf
  repeat ((first | refine AO.cons hT ?_ | refine AO.nil ?_ | refine AW.seq ?_ | refine AW.region ?_ | refine AW.cond ?_ | refine AW.block ?_ | refine AW.loop ?_ | refine AW.skip ?_ | refine AW.exit ?_ | refine AW.ret ?_ | refine AW.label ?_ | refine AW.scope ?_ | refine AF.one hT rfl ?_ | refine AF.nil ?_ | refine AF.imm hT rfl rfl rfl ?_ | refine AH.of hT rfl ?_ | refine AD.cons hT rfl ?_ | refine AD.nil ?_ | refine AQ.cons hT rfl ?_ | refine AQ.nil ?_ | (refine ACall.val (by kernel_rfl) f7 rfl rfl ?_)); conv => whnf)
  refine ACond.no rfl ?_
  conv => whnf
  repeat ((first | refine AO.cons hT ?_ | refine AO.nil ?_ | refine AW.seq ?_ | refine AW.region ?_ | refine AW.cond ?_ | refine AW.block ?_ | refine AW.loop ?_ | refine AW.skip ?_ | refine AW.exit ?_ | refine AW.ret ?_ | refine AW.label ?_ | refine AW.scope ?_ | refine AF.one hT rfl ?_ | refine AF.nil ?_ | refine AF.imm hT rfl rfl rfl ?_ | refine AH.of hT rfl ?_ | refine AD.cons hT rfl ?_ | refine AD.nil ?_ | refine AQ.cons hT rfl ?_ | refine AQ.nil ?_ | (refine ACall.val (by kernel_rfl) f7 rfl rfl ?_)); conv => whnf)
  refine ACall.val (by kernel_rfl) (f8 l) (roV1 _ _) rfl ?_
  rcases Bool.eq_false_or_eq_true (gapF l).2 with g2 | g2
  · obtain ⟨e1, e2⟩ := gap_yes g g2
    have h19 := f19 l (gapF l).1
    rw [e2] at h19
    have h20 := f20 (gapF l).1
    rw [e1] at h20
    have h12 := f12 l
    rw [g2] at h12
    rw [g2]
    generalize (gapF l).1 = G at *
    conv => whnf
    repeat ((first | refine AO.cons hT ?_ | refine AO.nil ?_ | refine AW.seq ?_ | refine AW.region ?_ | refine AW.cond ?_ | refine AW.block ?_ | refine AW.loop ?_ | refine AW.skip ?_ | refine AW.exit ?_ | refine AW.ret ?_ | refine AW.label ?_ | refine AW.scope ?_ | refine AF.one hT rfl ?_ | refine AF.nil ?_ | refine AF.imm hT rfl rfl rfl ?_ | refine AH.of hT rfl ?_ | refine AD.cons hT rfl ?_ | refine AD.nil ?_ | refine AQ.cons hT rfl ?_ | refine AQ.nil ?_ | (refine ACall.val (by kernel_rfl) f7 rfl rfl ?_) | (refine ACond.yes rfl ?_) | (refine ACall.val (by kernel_rfl) h19 (roF1 _ _ _) rfl ?_) | (refine ACall.val (by kernel_rfl) h20 rfl rfl ?_) | (refine ACall.val (by kernel_rfl) h12 (roV1 _ _) rfl ?_) | (refine ASplit.yes rfl ?_)); conv => whnf)
    exact h7
  · have h12 := f12 l
    rw [g2] at h12
    rw [g2]
    have h20 := f20 f
    conv => whnf
    repeat ((first | refine AO.cons hT ?_ | refine AO.nil ?_ | refine AW.seq ?_ | refine AW.region ?_ | refine AW.cond ?_ | refine AW.block ?_ | refine AW.loop ?_ | refine AW.skip ?_ | refine AW.exit ?_ | refine AW.ret ?_ | refine AW.label ?_ | refine AW.scope ?_ | refine AF.one hT rfl ?_ | refine AF.nil ?_ | refine AF.imm hT rfl rfl rfl ?_ | refine AH.of hT rfl ?_ | refine AD.cons hT rfl ?_ | refine AD.nil ?_ | refine AQ.cons hT rfl ?_ | refine AQ.nil ?_ | (refine ACall.val (by kernel_rfl) f7 rfl rfl ?_) | (refine ACond.no rfl ?_) | (refine ACall.val (by kernel_rfl) (f19 l f) (roF1 _ _ _) rfl ?_) | (refine ACall.val (by kernel_rfl) h20 rfl rfl ?_) | (refine ACall.val (by kernel_rfl) h12 (roV1 _ _) rfl ?_)); conv => whnf)
    rcases Bool.eq_false_or_eq_true (factB f) with g3 | g3
    · refine ASplit.yes (decide_eq_true (gap_no g g2 g3)) ?_
      conv => whnf
      repeat (first | (refine AW.label ?_; conv => whnf) | (refine AW.scope ?_; conv => whnf) | (refine AO.cons hT ?_; conv => whnf) | (refine AO.nil ?_; conv => whnf) | (refine AW.seq ?_; conv => whnf) | (refine AW.region ?_; conv => whnf) | (refine AW.cond ?_; conv => whnf) | (refine AW.block ?_; conv => whnf) | (refine AW.loop ?_; conv => whnf) | (refine AW.skip ?_; conv => whnf) | (refine AW.exit ?_; conv => whnf) | (refine AW.ret ?_; conv => whnf) | (refine AF.one hT rfl ?_; conv => whnf) | (refine AF.nil ?_; conv => whnf) | (refine AF.imm hT rfl rfl rfl ?_; conv => whnf) | (refine AH.of hT rfl ?_; conv => whnf) | (refine ASplit.yes rfl ?_; conv => whnf) | (refine ACond.yes rfl ?_; conv => whnf) | (refine ASplit.no rfl ?_; conv => whnf) | (refine ACond.no rfl ?_; conv => whnf) | (refine ASplit.yes (by decide) ?_; conv => whnf) | (refine ACond.yes (by decide) ?_; conv => whnf) | (refine AReq.mk (by decide) ?_; conv => whnf) | (refine AIdx.iff.2 ⟨by decide, ?_⟩; conv => whnf) | (refine ACall.val (by kernel_rfl) f7 rfl rfl ?_; conv => whnf) | (refine ACond.no rfl ?_; conv => whnf) | (refine ACall.val (by kernel_rfl) (f19 l f) (roF1 _ _ _) rfl ?_; conv => whnf) | (refine ACall.val (by kernel_rfl) h20 rfl rfl ?_; conv => whnf) | (refine ACall.val (by kernel_rfl) h12 (roV1 _ _) rfl ?_; conv => whnf))
      exact h7
    · have e : decF l f = (0, 0, 2) := by unfold decF; rw [if_pos g, if_neg (by simp [g3])]
      rw [e]
      rw [g3] at h20
      refine ASplit.no rfl ?_
      conv => whnf
      repeat (first | (refine AW.label ?_; conv => whnf) | (refine AW.scope ?_; conv => whnf) | (refine AO.cons hT ?_; conv => whnf) | (refine AO.nil ?_; conv => whnf) | (refine AW.seq ?_; conv => whnf) | (refine AW.region ?_; conv => whnf) | (refine AW.cond ?_; conv => whnf) | (refine AW.block ?_; conv => whnf) | (refine AW.loop ?_; conv => whnf) | (refine AW.skip ?_; conv => whnf) | (refine AW.exit ?_; conv => whnf) | (refine AW.ret ?_; conv => whnf) | (refine AF.one hT rfl ?_; conv => whnf) | (refine AF.nil ?_; conv => whnf) | (refine AF.imm hT rfl rfl rfl ?_; conv => whnf) | (refine AH.of hT rfl ?_; conv => whnf) | (refine ASplit.yes rfl ?_; conv => whnf) | (refine ACond.yes rfl ?_; conv => whnf) | (refine ASplit.no rfl ?_; conv => whnf) | (refine ACond.no rfl ?_; conv => whnf) | (refine ASplit.yes (by decide) ?_; conv => whnf) | (refine ACond.yes (by decide) ?_; conv => whnf) | (refine AReq.mk (by decide) ?_; conv => whnf) | (refine AIdx.iff.2 ⟨by decide, ?_⟩; conv => whnf) | (refine ACall.val (by kernel_rfl) f7 rfl rfl ?_; conv => whnf) | (refine ACond.no rfl ?_; conv => whnf) | (refine ACall.val (by kernel_rfl) (f19 l f) (roF1 _ _ _) rfl ?_; conv => whnf) | (refine ACall.val (by kernel_rfl) h20 rfl rfl ?_; conv => whnf) | (refine ACall.val (by kernel_rfl) h12 (roV1 _ _) rfl ?_; conv => whnf))
      exact h7
theorem f5 (l : List Ro) (f : Fc) : Fun P 5 [roV l, fcA f] (bV true) := by
  refine spec_of hT (f := 5) (fn := Go.Proofs.Try.f5) (c := body Go.Proofs.Try.f5) (by kernel_rfl) (by kernel_rfl) ?_
  have h7 : ∀ {H : List ABlk}, AFin 0 (bV true) H (fun r' H' => r' = bV true ∧ H' = []) := AFin.val rfl ⟨rfl, rfl⟩
  conv => whnf
  repeat ((first | refine AO.cons hT ?_ | refine AO.nil ?_ | refine AW.seq ?_ | refine AW.region ?_ | refine AW.cond ?_ | refine AW.block ?_ | refine AW.loop ?_ | refine AW.skip ?_ | refine AW.exit ?_ | refine AW.ret ?_ | refine AW.label ?_ | refine AW.scope ?_ | refine AF.one hT rfl ?_ | refine AF.nil ?_ | refine AF.imm hT rfl rfl rfl ?_ | refine AH.of hT rfl ?_ | refine AD.cons hT rfl ?_ | refine AD.nil ?_ | refine AQ.cons hT rfl ?_ | refine AQ.nil ?_ | (refine ACall.val (by kernel_rfl) f7 rfl rfl ?_)); conv => whnf)
  refine ASplit.dec (fun h1 => ?_) (fun h1 => ?_)
  · conv => whnf
    repeat (first | (refine AW.label ?_; conv => whnf) | (refine AW.scope ?_; conv => whnf) | (refine AO.cons hT ?_; conv => whnf) | (refine AO.nil ?_; conv => whnf) | (refine AW.seq ?_; conv => whnf) | (refine AW.region ?_; conv => whnf) | (refine AW.cond ?_; conv => whnf) | (refine AW.block ?_; conv => whnf) | (refine AW.loop ?_; conv => whnf) | (refine AW.skip ?_; conv => whnf) | (refine AW.exit ?_; conv => whnf) | (refine AW.ret ?_; conv => whnf) | (refine AF.one hT rfl ?_; conv => whnf) | (refine AF.nil ?_; conv => whnf) | (refine AF.imm hT rfl rfl rfl ?_; conv => whnf) | (refine AH.of hT rfl ?_; conv => whnf) | (refine ASplit.yes rfl ?_; conv => whnf) | (refine ACond.yes rfl ?_; conv => whnf) | (refine ASplit.no rfl ?_; conv => whnf) | (refine ACond.no rfl ?_; conv => whnf) | (refine ASplit.yes (by decide) ?_; conv => whnf) | (refine ACond.yes (by decide) ?_; conv => whnf) | (refine AReq.mk (by decide) ?_; conv => whnf) | (refine AIdx.iff.2 ⟨by decide, ?_⟩; conv => whnf) | (refine ACall.val (by kernel_rfl) f7 rfl rfl ?_; conv => whnf))
    exact h7
  conv => whnf
  repeat ((first | refine AO.cons hT ?_ | refine AO.nil ?_ | refine AW.seq ?_ | refine AW.region ?_ | refine AW.cond ?_ | refine AW.block ?_ | refine AW.loop ?_ | refine AW.skip ?_ | refine AW.exit ?_ | refine AW.ret ?_ | refine AW.label ?_ | refine AW.scope ?_ | refine AF.one hT rfl ?_ | refine AF.nil ?_ | refine AF.imm hT rfl rfl rfl ?_ | refine AH.of hT rfl ?_ | refine AD.cons hT rfl ?_ | refine AD.nil ?_ | refine AQ.cons hT rfl ?_ | refine AQ.nil ?_ | (refine ACall.val (by kernel_rfl) f7 rfl rfl ?_)); conv => whnf)
  refine ACall.val (by kernel_rfl) (f18 l) (roV1 _ _) rfl ?_
  rcases Bool.eq_false_or_eq_true (tabB l) with g | g <;> simp only [g, Bool.false_eq_true, if_false, if_true]
  case inr =>
    conv => whnf
    repeat (first | (refine AW.label ?_; conv => whnf) | (refine AW.scope ?_; conv => whnf) | (refine AO.cons hT ?_; conv => whnf) | (refine AO.nil ?_; conv => whnf) | (refine AW.seq ?_; conv => whnf) | (refine AW.region ?_; conv => whnf) | (refine AW.cond ?_; conv => whnf) | (refine AW.block ?_; conv => whnf) | (refine AW.loop ?_; conv => whnf) | (refine AW.skip ?_; conv => whnf) | (refine AW.exit ?_; conv => whnf) | (refine AW.ret ?_; conv => whnf) | (refine AF.one hT rfl ?_; conv => whnf) | (refine AF.nil ?_; conv => whnf) | (refine AF.imm hT rfl rfl rfl ?_; conv => whnf) | (refine AH.of hT rfl ?_; conv => whnf) | (refine ASplit.yes rfl ?_; conv => whnf) | (refine ACond.yes rfl ?_; conv => whnf) | (refine ASplit.no rfl ?_; conv => whnf) | (refine ACond.no rfl ?_; conv => whnf) | (refine ASplit.yes (by decide) ?_; conv => whnf) | (refine ACond.yes (by decide) ?_; conv => whnf) | (refine AReq.mk (by decide) ?_; conv => whnf) | (refine AIdx.iff.2 ⟨by decide, ?_⟩; conv => whnf) | (refine ACall.val (by kernel_rfl) f7 rfl rfl ?_; conv => whnf))
    exact h7
  conv => whnf
  repeat ((first | refine AO.cons hT ?_ | refine AO.nil ?_ | refine AW.seq ?_ | refine AW.region ?_ | refine AW.cond ?_ | refine AW.block ?_ | refine AW.loop ?_ | refine AW.skip ?_ | refine AW.exit ?_ | refine AW.ret ?_ | refine AW.label ?_ | refine AW.scope ?_ | refine AF.one hT rfl ?_ | refine AF.nil ?_ | refine AF.imm hT rfl rfl rfl ?_ | refine AH.of hT rfl ?_ | refine AD.cons hT rfl ?_ | refine AD.nil ?_ | refine AQ.cons hT rfl ?_ | refine AQ.nil ?_ | (refine ACall.val (by kernel_rfl) f7 rfl rfl ?_)); conv => whnf)
  refine ASplit.no rfl ?_
  conv => whnf
  repeat ((first | refine AO.cons hT ?_ | refine AO.nil ?_ | refine AW.seq ?_ | refine AW.region ?_ | refine AW.cond ?_ | refine AW.block ?_ | refine AW.loop ?_ | refine AW.skip ?_ | refine AW.exit ?_ | refine AW.ret ?_ | refine AW.label ?_ | refine AW.scope ?_ | refine AF.one hT rfl ?_ | refine AF.nil ?_ | refine AF.imm hT rfl rfl rfl ?_ | refine AH.of hT rfl ?_ | refine AD.cons hT rfl ?_ | refine AD.nil ?_ | refine AQ.cons hT rfl ?_ | refine AQ.nil ?_ | (refine ACall.val (by kernel_rfl) f7 rfl rfl ?_)); conv => whnf)
  refine ACall.val (by kernel_rfl) (f20 f) rfl rfl ?_
  rcases Bool.eq_false_or_eq_true (factB f) with hf | hf <;> simp only [hf, Bool.false_eq_true, if_false, if_true]
  case inr =>
    conv => whnf
    repeat (first | (refine AW.label ?_; conv => whnf) | (refine AW.scope ?_; conv => whnf) | (refine AO.cons hT ?_; conv => whnf) | (refine AO.nil ?_; conv => whnf) | (refine AW.seq ?_; conv => whnf) | (refine AW.region ?_; conv => whnf) | (refine AW.cond ?_; conv => whnf) | (refine AW.block ?_; conv => whnf) | (refine AW.loop ?_; conv => whnf) | (refine AW.skip ?_; conv => whnf) | (refine AW.exit ?_; conv => whnf) | (refine AW.ret ?_; conv => whnf) | (refine AF.one hT rfl ?_; conv => whnf) | (refine AF.nil ?_; conv => whnf) | (refine AF.imm hT rfl rfl rfl ?_; conv => whnf) | (refine AH.of hT rfl ?_; conv => whnf) | (refine ASplit.yes rfl ?_; conv => whnf) | (refine ACond.yes rfl ?_; conv => whnf) | (refine ASplit.no rfl ?_; conv => whnf) | (refine ACond.no rfl ?_; conv => whnf) | (refine ASplit.yes (by decide) ?_; conv => whnf) | (refine ACond.yes (by decide) ?_; conv => whnf) | (refine AReq.mk (by decide) ?_; conv => whnf) | (refine AIdx.iff.2 ⟨by decide, ?_⟩; conv => whnf) | (refine ACall.val (by kernel_rfl) f7 rfl rfl ?_; conv => whnf))
    exact h7
  obtain ⟨t1, t2, t3⟩ := tabB_row g
  conv => whnf
  repeat ((first | refine AO.cons hT ?_ | refine AO.nil ?_ | refine AW.seq ?_ | refine AW.region ?_ | refine AW.cond ?_ | refine AW.block ?_ | refine AW.loop ?_ | refine AW.skip ?_ | refine AW.exit ?_ | refine AW.ret ?_ | refine AW.label ?_ | refine AW.scope ?_ | refine AF.one hT rfl ?_ | refine AF.nil ?_ | refine AF.imm hT rfl rfl rfl ?_ | refine AH.of hT rfl ?_ | refine AD.cons hT rfl ?_ | refine AD.nil ?_ | refine AQ.cons hT rfl ?_ | refine AQ.nil ?_ | (refine ACall.val (by kernel_rfl) f7 rfl rfl ?_)); conv => whnf)
  refine ACond.no rfl ?_
  conv => whnf
  repeat ((first | refine AO.cons hT ?_ | refine AO.nil ?_ | refine AW.seq ?_ | refine AW.region ?_ | refine AW.cond ?_ | refine AW.block ?_ | refine AW.loop ?_ | refine AW.skip ?_ | refine AW.exit ?_ | refine AW.ret ?_ | refine AW.label ?_ | refine AW.scope ?_ | refine AF.one hT rfl ?_ | refine AF.nil ?_ | refine AF.imm hT rfl rfl rfl ?_ | refine AH.of hT rfl ?_ | refine AD.cons hT rfl ?_ | refine AD.nil ?_ | refine AQ.cons hT rfl ?_ | refine AQ.nil ?_ | (refine ACall.val (by kernel_rfl) f7 rfl rfl ?_)); conv => whnf)
  refine ACall.val (by kernel_rfl) (f14 l) (roV1 _ _) (iVs_ren _ _) ?_
  have hde : deadF l = deadG l l.length := by unfold deadF; rw [if_pos g]
  rw [hde]
  conv => whnf
  repeat ((first | refine AO.cons hT ?_ | refine AO.nil ?_ | refine AW.seq ?_ | refine AW.region ?_ | refine AW.cond ?_ | refine AW.block ?_ | refine AW.loop ?_ | refine AW.skip ?_ | refine AW.exit ?_ | refine AW.ret ?_ | refine AW.label ?_ | refine AW.scope ?_ | refine AF.one hT rfl ?_ | refine AF.nil ?_ | refine AF.imm hT rfl rfl rfl ?_ | refine AH.of hT rfl ?_ | refine AD.cons hT rfl ?_ | refine AD.nil ?_ | refine AQ.cons hT rfl ?_ | refine AQ.nil ?_ | (refine ACall.val (by kernel_rfl) f7 rfl rfl ?_)); conv => whnf)
  refine ACall.val (by kernel_rfl) (f19 l f) (roF1 _ _ _) rfl ?_
  have hcase := dec_cases f l
  have hdF := decF_ok g hf
  have hat : (decF l f).2.2 = 0 → ∀ i : Nat, (decF l f).2.1 = i → liveB l i = true := by
    intro h0 i hi
    rcases hcase with h2 | ⟨k, hk, h2, h3⟩
    · rw [hdF, dec_none f l 0 h2] at h0; cases h0
    · rw [hdF, dec_some f l 0 k hk h2 h3] at hi
      have : k = i := by simp only at hi; omega
      subst this
      exact first_live t3 hf hk h2 h3
  have hld := less_dec t3 hf l.length (Nat.le_refl _)
  rw [List.take_length, ← hdF, ← decF_ok (less_tab g) hf] at hld
  have hdl := deadG_le l l.length
  generalize decF l f = D at *
  conv => whnf
  repeat ((first | refine AO.cons hT ?_ | refine AO.nil ?_ | refine AW.seq ?_ | refine AW.region ?_ | refine AW.cond ?_ | refine AW.block ?_ | refine AW.loop ?_ | refine AW.skip ?_ | refine AW.exit ?_ | refine AW.ret ?_ | refine AW.label ?_ | refine AW.scope ?_ | refine AF.one hT rfl ?_ | refine AF.nil ?_ | refine AF.imm hT rfl rfl rfl ?_ | refine AH.of hT rfl ?_ | refine AD.cons hT rfl ?_ | refine AD.nil ?_ | refine AQ.cons hT rfl ?_ | refine AQ.nil ?_ | (refine ACall.val (by kernel_rfl) f7 rfl rfl ?_)); conv => whnf)
  refine ALoop.mk (fun j E H => ∃ (i : Nat), j + i = l.length ∧ E = pad [roV l, .any, .any, .ptr 0 0, .any, iVs (deadG l l.length), nV D.1, nV D.2.1, nV D.2.2, .ms 5 1 0 (lessG l i).length, nV (deadG l i).length, nV i] 96 ∧ H = [.cells 28 (fcC f), .cells 52 ((lessG l i).flatMap roC)])
    (n := l.length) _ _ ⟨0, rfl, rfl, rfl⟩ (Conv.trans (Conv.fit (xs' := pad [roV l, .any, .any, .ptr 0 0, .any, iVs (deadG l l.length), nV D.1, nV D.2.1, nV D.2.2, nilV, nV 0, nV 0] 96) (by repeat' (first | exact Fit.nil | refine Fit.any ?_ | refine Fit.same ?_))) (Conv.own (sz := 5) 52 (by repeat' (first | exact FitN.nil | refine FitN.any ?_ | refine FitN.own ?_ | refine FitN.same ?_)))) ?_
  rintro j _ _ ⟨i, hj, rfl, rfl⟩
  conv => whnf
  repeat ((first | refine AO.cons hT ?_ | refine AO.nil ?_ | refine AW.seq ?_ | refine AW.region ?_ | refine AW.cond ?_ | refine AW.block ?_ | refine AW.loop ?_ | refine AW.skip ?_ | refine AW.exit ?_ | refine AW.ret ?_ | refine AW.label ?_ | refine AW.scope ?_ | refine AF.one hT rfl ?_ | refine AF.nil ?_ | refine AF.imm hT rfl rfl rfl ?_ | refine AH.of hT rfl ?_ | refine AD.cons hT rfl ?_ | refine AD.nil ?_ | refine AQ.cons hT rfl ?_ | refine AQ.nil ?_ | (refine ACall.val (by kernel_rfl) f7 rfl rfl ?_)); conv => whnf)
  refine ACond.dec (fun h1 => ?_) (fun h1 => ?_)
  · have hil : i < l.length := by omega
    have w1 : IntKind.wrap .i64 ((i : Int) + 1) = ((i + 1 : Nat) : Int) := by rw [wrap_i64 _ (by omega) (by omega)]; omega
    have hle := less_le l i (by omega)
    have hdi := deadG_le l i
    have wk : IntKind.wrap .i64 (((deadG l i).length : Int) + 1) = (((deadG l i).length + 1 : Nat) : Int) := by rw [wrap_i64 _ (by omega) (by omega)]; omega
    obtain ⟨t, ht, hd0, hd1⟩ := dead_next l hil
    have hls := less_step hil
    have hds := deadG_step l i
    have hget : ∀ hk : (deadG l i).length < (deadG l l.length).length, t[0]? = some (deadG l l.length)[(deadG l i).length] := by
      intro hk
      have : (deadG l l.length)[(deadG l i).length]? = t[0]? := by
        rw [ht, List.getElem?_append_right (Nat.le_refl _), Nat.sub_self]
      rw [← this, List.getElem?_eq_getElem hk]
    have hflat : ((lessG l i).flatMap roC).length = (lessG l i).length * 5 := flat_length roC_len _
    have hdead : ∀ {E : List AV}, liveB l i = false → Fit E (pad [roV l, .any, .any, .ptr 0 0, .any, iVs (deadG l l.length), nV D.1, nV D.2.1, nV D.2.2, .ms 5 1 0 (lessG l i).length, nV ((deadG l i).length + 1 : Nat), nV ((i + 1 : Nat) : Int)] 96) → AHead 0 (fun j E H => ∃ (i : Nat), j + i = l.length ∧ E = pad [roV l, .any, .any, .ptr 0 0, .any, iVs (deadG l l.length), nV D.1, nV D.2.1, nV D.2.2, .ms 5 1 0 (lessG l i).length, nV (deadG l i).length, nV i] 96 ∧ H = [.cells 28 (fcC f), .cells 52 ((lessG l i).flatMap roC)]) j E [.cells 28 (fcC f), .cells 52 ((lessG l i).flatMap roC)] := by
      intro E hb hfit
      rw [if_neg (by rw [hb]; simp)] at hls hds
      refine AHead.mk (j - 1) _ _ (by omega) ⟨i + 1, by omega, rfl, rfl⟩ ?_
      rw [hls, hds, List.length_append]
      exact Conv.fit hfit
    have hlv : ∀ {E : List AV}, liveB l i = true → Fit E (pad [roV l, .any, .any, .ptr 0 0, .any, iVs (deadG l l.length), nV D.1, nV D.2.1, nV D.2.2, .ms 5 2 0 ((lessG l i).length + 1), nV (deadG l i).length, nV ((i + 1 : Nat) : Int)] 96) → AHead 0 (fun j E H => ∃ (i : Nat), j + i = l.length ∧ E = pad [roV l, .any, .any, .ptr 0 0, .any, iVs (deadG l l.length), nV D.1, nV D.2.1, nV D.2.2, .ms 5 1 0 (lessG l i).length, nV (deadG l i).length, nV i] 96 ∧ H = [.cells 28 (fcC f), .cells 52 ((lessG l i).flatMap roC)]) j E [.cells 28 (fcC f), .dead, .cells 52 ((lessG l i).flatMap roC ++ roC l[i])] := by
      intro E hb hfit
      rw [if_pos hb] at hls hds
      refine AHead.mk (j - 1) _ _ (by omega) ⟨i + 1, by omega, rfl, rfl⟩ ?_
      rw [hls, hds, List.length_append, List.flatMap_append]
      refine Conv.trans (Conv.fit hfit) (Conv.ren [0, 2] _ (fun _ h => absurd h (Nat.not_lt_zero _)) (by decide) ?_ (.same rfl (.same (by rw [ABlk.ren, renL_append, ros_ren]; rfl) .nil)))
      repeat' (first | exact Fit.nil | refine Fit.any ?_ | refine Fit.same ?_ | refine Fit.eq (roV_ren _ _) ?_ | refine Fit.eq (iVs_ren _ _) ?_)
    conv => whnf
    repeat ((first | refine AO.cons hT ?_ | refine AO.nil ?_ | refine AW.seq ?_ | refine AW.region ?_ | refine AW.cond ?_ | refine AW.block ?_ | refine AW.loop ?_ | refine AW.skip ?_ | refine AW.exit ?_ | refine AW.ret ?_ | refine AW.label ?_ | refine AW.scope ?_ | refine AF.one hT rfl ?_ | refine AF.nil ?_ | refine AF.imm hT rfl rfl rfl ?_ | refine AH.of hT rfl ?_ | refine AD.cons hT rfl ?_ | refine AD.nil ?_ | refine AQ.cons hT rfl ?_ | refine AQ.nil ?_ | (refine ACall.val (by kernel_rfl) f7 rfl rfl ?_) | (refine AReq.mk (by omega) ?_) | (refine AIdx.flat (enc := roC) roC_len (xs := l) (i := i) hil ?_) | (refine AReq.mk ⟨hflat, by show (_ + 1) * 40 ≤ _; omega⟩ ?_)); conv => whnf)
    refine ASplit.dec (fun hk => ?_) (fun hk => ?_)
    · have hk' : (deadG l i).length < (deadG l l.length).length := by omega
      conv => whnf
      repeat ((first | refine AO.cons hT ?_ | refine AO.nil ?_ | refine AW.seq ?_ | refine AW.region ?_ | refine AW.cond ?_ | refine AW.block ?_ | refine AW.loop ?_ | refine AW.skip ?_ | refine AW.exit ?_ | refine AW.ret ?_ | refine AW.label ?_ | refine AW.scope ?_ | refine AF.one hT rfl ?_ | refine AF.nil ?_ | refine AF.imm hT rfl rfl rfl ?_ | refine AH.of hT rfl ?_ | refine AD.cons hT rfl ?_ | refine AD.nil ?_ | refine AQ.cons hT rfl ?_ | refine AQ.nil ?_ | (refine ACall.val (by kernel_rfl) f7 rfl rfl ?_) | (refine AReq.mk (by omega) ?_) | (refine AIdx.flat (enc := roC) roC_len (xs := l) (i := i) hil ?_) | (refine AReq.mk ⟨hflat, by show (_ + 1) * 40 ≤ _; omega⟩ ?_) | (refine AIdx.map1 (f := nV) (xs := deadG l l.length) (i := (deadG l i).length) hk' ?_)); conv => whnf)
      refine ACond.dec (fun h2 => ?_) (fun h2 => ?_)
      · have hb : liveB l i = false := by
          rcases Bool.eq_false_or_eq_true (liveB l i) with hb | hb
          · exact absurd h2 (hd1 hb _ (hget hk'))
          · exact hb
        conv => whnf
        repeat ((first | refine AO.cons hT ?_ | refine AO.nil ?_ | refine AW.seq ?_ | refine AW.region ?_ | refine AW.cond ?_ | refine AW.block ?_ | refine AW.loop ?_ | refine AW.skip ?_ | refine AW.exit ?_ | refine AW.ret ?_ | refine AW.label ?_ | refine AW.scope ?_ | refine AF.one hT rfl ?_ | refine AF.nil ?_ | refine AF.imm hT rfl rfl rfl ?_ | refine AH.of hT rfl ?_ | refine AD.cons hT rfl ?_ | refine AD.nil ?_ | refine AQ.cons hT rfl ?_ | refine AQ.nil ?_ | (refine ACall.val (by kernel_rfl) f7 rfl rfl ?_) | (refine AReq.mk (by omega) ?_) | (refine AIdx.flat (enc := roC) roC_len (xs := l) (i := i) hil ?_) | (refine AReq.mk ⟨hflat, by show (_ + 1) * 40 ≤ _; omega⟩ ?_) | (refine AIdx.map1 (f := nV) (xs := deadG l l.length) (i := (deadG l i).length) hk' ?_)); conv => whnf)
        rw [wk]
        refine ASplit.dec (fun h3 => ?_) (fun h3 => ?_)
        · conv => whnf
          repeat ((first | refine AO.cons hT ?_ | refine AO.nil ?_ | refine AW.seq ?_ | refine AW.region ?_ | refine AW.cond ?_ | refine AW.block ?_ | refine AW.loop ?_ | refine AW.skip ?_ | refine AW.exit ?_ | refine AW.ret ?_ | refine AW.label ?_ | refine AW.scope ?_ | refine AF.one hT rfl ?_ | refine AF.nil ?_ | refine AF.imm hT rfl rfl rfl ?_ | refine AH.of hT rfl ?_ | refine AD.cons hT rfl ?_ | refine AD.nil ?_ | refine AQ.cons hT rfl ?_ | refine AQ.nil ?_ | (refine ACall.val (by kernel_rfl) f7 rfl rfl ?_) | (refine AReq.mk (by omega) ?_) | (refine AIdx.flat (enc := roC) roC_len (xs := l) (i := i) hil ?_) | (refine AReq.mk ⟨hflat, by show (_ + 1) * 40 ≤ _; omega⟩ ?_) | (refine AIdx.map1 (f := nV) (xs := deadG l l.length) (i := (deadG l i).length) hk' ?_)); conv => whnf)
          refine ACond.dec (fun h4 => ?_) (fun h4 => ?_)
          · have := hat h3 i h4
            rw [hb] at this; cases this
          · conv => whnf
            repeat ((first | refine AO.cons hT ?_ | refine AO.nil ?_ | refine AW.seq ?_ | refine AW.region ?_ | refine AW.cond ?_ | refine AW.block ?_ | refine AW.loop ?_ | refine AW.skip ?_ | refine AW.exit ?_ | refine AW.ret ?_ | refine AW.label ?_ | refine AW.scope ?_ | refine AF.one hT rfl ?_ | refine AF.nil ?_ | refine AF.imm hT rfl rfl rfl ?_ | refine AH.of hT rfl ?_ | refine AD.cons hT rfl ?_ | refine AD.nil ?_ | refine AQ.cons hT rfl ?_ | refine AQ.nil ?_ | (refine ACall.val (by kernel_rfl) f7 rfl rfl ?_) | (refine AReq.mk (by omega) ?_) | (refine AIdx.flat (enc := roC) roC_len (xs := l) (i := i) hil ?_) | (refine AReq.mk ⟨hflat, by show (_ + 1) * 40 ≤ _; omega⟩ ?_) | (refine AIdx.map1 (f := nV) (xs := deadG l l.length) (i := (deadG l i).length) hk' ?_)); conv => whnf)
            rw [w1]
            exact hdead hb (by repeat' (first | exact Fit.nil | refine Fit.any ?_ | refine Fit.same ?_))
        · conv => whnf
          repeat ((first | refine AO.cons hT ?_ | refine AO.nil ?_ | refine AW.seq ?_ | refine AW.region ?_ | refine AW.cond ?_ | refine AW.block ?_ | refine AW.loop ?_ | refine AW.skip ?_ | refine AW.exit ?_ | refine AW.ret ?_ | refine AW.label ?_ | refine AW.scope ?_ | refine AF.one hT rfl ?_ | refine AF.nil ?_ | refine AF.imm hT rfl rfl rfl ?_ | refine AH.of hT rfl ?_ | refine AD.cons hT rfl ?_ | refine AD.nil ?_ | refine AQ.cons hT rfl ?_ | refine AQ.nil ?_ | (refine ACall.val (by kernel_rfl) f7 rfl rfl ?_) | (refine AReq.mk (by omega) ?_) | (refine AIdx.flat (enc := roC) roC_len (xs := l) (i := i) hil ?_) | (refine AReq.mk ⟨hflat, by show (_ + 1) * 40 ≤ _; omega⟩ ?_) | (refine AIdx.map1 (f := nV) (xs := deadG l l.length) (i := (deadG l i).length) hk' ?_)); conv => whnf)
          refine ACond.no rfl ?_
          conv => whnf
          repeat ((first | refine AO.cons hT ?_ | refine AO.nil ?_ | refine AW.seq ?_ | refine AW.region ?_ | refine AW.cond ?_ | refine AW.block ?_ | refine AW.loop ?_ | refine AW.skip ?_ | refine AW.exit ?_ | refine AW.ret ?_ | refine AW.label ?_ | refine AW.scope ?_ | refine AF.one hT rfl ?_ | refine AF.nil ?_ | refine AF.imm hT rfl rfl rfl ?_ | refine AH.of hT rfl ?_ | refine AD.cons hT rfl ?_ | refine AD.nil ?_ | refine AQ.cons hT rfl ?_ | refine AQ.nil ?_ | (refine ACall.val (by kernel_rfl) f7 rfl rfl ?_) | (refine AReq.mk (by omega) ?_) | (refine AIdx.flat (enc := roC) roC_len (xs := l) (i := i) hil ?_) | (refine AReq.mk ⟨hflat, by show (_ + 1) * 40 ≤ _; omega⟩ ?_) | (refine AIdx.map1 (f := nV) (xs := deadG l l.length) (i := (deadG l i).length) hk' ?_)); conv => whnf)
          rw [w1]
          exact hdead hb (by repeat' (first | exact Fit.nil | refine Fit.any ?_ | refine Fit.same ?_))
      · have hb : liveB l i = true := by
          rcases Bool.eq_false_or_eq_true (liveB l i) with hb | hb
          · exact hb
          · have := (hd0 hb).symm.trans (hget hk')
            exact absurd (Option.some.inj this).symm h2
        conv => whnf
        repeat ((first | refine AO.cons hT ?_ | refine AO.nil ?_ | refine AW.seq ?_ | refine AW.region ?_ | refine AW.cond ?_ | refine AW.block ?_ | refine AW.loop ?_ | refine AW.skip ?_ | refine AW.exit ?_ | refine AW.ret ?_ | refine AW.label ?_ | refine AW.scope ?_ | refine AF.one hT rfl ?_ | refine AF.nil ?_ | refine AF.imm hT rfl rfl rfl ?_ | refine AH.of hT rfl ?_ | refine AD.cons hT rfl ?_ | refine AD.nil ?_ | refine AQ.cons hT rfl ?_ | refine AQ.nil ?_ | (refine ACall.val (by kernel_rfl) f7 rfl rfl ?_) | (refine AReq.mk (by omega) ?_) | (refine AIdx.flat (enc := roC) roC_len (xs := l) (i := i) hil ?_) | (refine AReq.mk ⟨hflat, by show (_ + 1) * 40 ≤ _; omega⟩ ?_) | (refine AIdx.map1 (f := nV) (xs := deadG l l.length) (i := (deadG l i).length) hk' ?_)); conv => whnf)
        rw [w1]
        exact hlv hb (by repeat' (first | exact Fit.nil | refine Fit.any ?_ | refine Fit.same ?_))
    · have hb : liveB l i = true := by
        rcases Bool.eq_false_or_eq_true (liveB l i) with hb | hb
        · exact hb
        · have h5 := hd0 hb
          have : 0 < t.length := by
            rcases t with _ | ⟨x, t⟩
            · simp at h5
            · simp
          rw [ht, List.length_append] at hk
          omega
      conv => whnf
      repeat ((first | refine AO.cons hT ?_ | refine AO.nil ?_ | refine AW.seq ?_ | refine AW.region ?_ | refine AW.cond ?_ | refine AW.block ?_ | refine AW.loop ?_ | refine AW.skip ?_ | refine AW.exit ?_ | refine AW.ret ?_ | refine AW.label ?_ | refine AW.scope ?_ | refine AF.one hT rfl ?_ | refine AF.nil ?_ | refine AF.imm hT rfl rfl rfl ?_ | refine AH.of hT rfl ?_ | refine AD.cons hT rfl ?_ | refine AD.nil ?_ | refine AQ.cons hT rfl ?_ | refine AQ.nil ?_ | (refine ACall.val (by kernel_rfl) f7 rfl rfl ?_) | (refine AReq.mk (by omega) ?_) | (refine AIdx.flat (enc := roC) roC_len (xs := l) (i := i) hil ?_) | (refine AReq.mk ⟨hflat, by show (_ + 1) * 40 ≤ _; omega⟩ ?_) | (refine AIdx.map1 (f := nV) (xs := deadG l l.length) (i := (deadG l i).length) hk' ?_)); conv => whnf)
      refine ACond.no rfl ?_
      conv => whnf
      repeat ((first | refine AO.cons hT ?_ | refine AO.nil ?_ | refine AW.seq ?_ | refine AW.region ?_ | refine AW.cond ?_ | refine AW.block ?_ | refine AW.loop ?_ | refine AW.skip ?_ | refine AW.exit ?_ | refine AW.ret ?_ | refine AW.label ?_ | refine AW.scope ?_ | refine AF.one hT rfl ?_ | refine AF.nil ?_ | refine AF.imm hT rfl rfl rfl ?_ | refine AH.of hT rfl ?_ | refine AD.cons hT rfl ?_ | refine AD.nil ?_ | refine AQ.cons hT rfl ?_ | refine AQ.nil ?_ | (refine ACall.val (by kernel_rfl) f7 rfl rfl ?_) | (refine AReq.mk (by omega) ?_) | (refine AIdx.flat (enc := roC) roC_len (xs := l) (i := i) hil ?_) | (refine AReq.mk ⟨hflat, by show (_ + 1) * 40 ≤ _; omega⟩ ?_) | (refine AIdx.map1 (f := nV) (xs := deadG l l.length) (i := (deadG l i).length) hk' ?_)); conv => whnf)
      rw [w1]
      exact hlv hb (by repeat' (first | exact Fit.nil | refine Fit.any ?_ | refine Fit.same ?_))
  · obtain rfl : i = l.length := by omega
    conv => whnf
    repeat ((first | refine AO.cons hT ?_ | refine AO.nil ?_ | refine AW.seq ?_ | refine AW.region ?_ | refine AW.cond ?_ | refine AW.block ?_ | refine AW.loop ?_ | refine AW.skip ?_ | refine AW.exit ?_ | refine AW.ret ?_ | refine AW.label ?_ | refine AW.scope ?_ | refine AF.one hT rfl ?_ | refine AF.nil ?_ | refine AF.imm hT rfl rfl rfl ?_ | refine AH.of hT rfl ?_ | refine AD.cons hT rfl ?_ | refine AD.nil ?_ | refine AQ.cons hT rfl ?_ | refine AQ.nil ?_); conv => whnf)
    refine AOut.stay ?_
    conv => whnf
    repeat ((first | refine AO.cons hT ?_ | refine AO.nil ?_ | refine AW.seq ?_ | refine AW.region ?_ | refine AW.cond ?_ | refine AW.block ?_ | refine AW.loop ?_ | refine AW.skip ?_ | refine AW.exit ?_ | refine AW.ret ?_ | refine AW.label ?_ | refine AW.scope ?_ | refine AF.one hT rfl ?_ | refine AF.nil ?_ | refine AF.imm hT rfl rfl rfl ?_ | refine AH.of hT rfl ?_ | refine AD.cons hT rfl ?_ | refine AD.nil ?_ | refine AQ.cons hT rfl ?_ | refine AQ.nil ?_); conv => whnf)
    refine ACall.fun (by kernel_rfl) (f19 (lessG l l.length) f) [1] (by intro x hx; simp at hx; subst hx; exact ⟨_, _, rfl⟩) (.cons (.ms (t := 52) (cs := (lessG l l.length).flatMap roC) (.inl ⟨by simp, rfl⟩) (by rw [flat_length roC_len]; omega) (by rw [List.drop_zero, List.take_of_length_le (by rw [flat_length roC_len]; exact Nat.le_refl _), ros_ren])) (.cons (.same rfl) .nil)) (.inr (by simp [trip, AV.plain, plainL])) rfl ?_
    conv => whnf
    repeat ((first | refine AO.cons hT ?_ | refine AO.nil ?_ | refine AW.seq ?_ | refine AW.region ?_ | refine AW.cond ?_ | refine AW.block ?_ | refine AW.loop ?_ | refine AW.skip ?_ | refine AW.exit ?_ | refine AW.ret ?_ | refine AW.label ?_ | refine AW.scope ?_ | refine AF.one hT rfl ?_ | refine AF.nil ?_ | refine AF.imm hT rfl rfl rfl ?_ | refine AH.of hT rfl ?_ | refine AD.cons hT rfl ?_ | refine AD.nil ?_ | refine AQ.cons hT rfl ?_ | refine AQ.nil ?_); conv => whnf)
    refine ASplit.yes (decide_eq_true rfl) ?_
    conv => whnf
    repeat ((first | refine AO.cons hT ?_ | refine AO.nil ?_ | refine AW.seq ?_ | refine AW.region ?_ | refine AW.cond ?_ | refine AW.block ?_ | refine AW.loop ?_ | refine AW.skip ?_ | refine AW.exit ?_ | refine AW.ret ?_ | refine AW.label ?_ | refine AW.scope ?_ | refine AF.one hT rfl ?_ | refine AF.nil ?_ | refine AF.imm hT rfl rfl rfl ?_ | refine AH.of hT rfl ?_ | refine AD.cons hT rfl ?_ | refine AD.nil ?_ | refine AQ.cons hT rfl ?_ | refine AQ.nil ?_); conv => whnf)
    refine ASplit.yes (decide_eq_true hld.1) ?_
    conv => whnf
    repeat ((first | refine AO.cons hT ?_ | refine AO.nil ?_ | refine AW.seq ?_ | refine AW.region ?_ | refine AW.cond ?_ | refine AW.block ?_ | refine AW.loop ?_ | refine AW.skip ?_ | refine AW.exit ?_ | refine AW.ret ?_ | refine AW.label ?_ | refine AW.scope ?_ | refine AF.one hT rfl ?_ | refine AF.nil ?_ | refine AF.imm hT rfl rfl rfl ?_ | refine AH.of hT rfl ?_ | refine AD.cons hT rfl ?_ | refine AD.nil ?_ | refine AQ.cons hT rfl ?_ | refine AQ.nil ?_); conv => whnf)
    refine ASplit.yes (decide_eq_true hld.2) ?_
    conv => whnf
    repeat ((first | refine AO.cons hT ?_ | refine AO.nil ?_ | refine AW.seq ?_ | refine AW.region ?_ | refine AW.cond ?_ | refine AW.block ?_ | refine AW.loop ?_ | refine AW.skip ?_ | refine AW.exit ?_ | refine AW.ret ?_ | refine AW.label ?_ | refine AW.scope ?_ | refine AF.one hT rfl ?_ | refine AF.nil ?_ | refine AF.imm hT rfl rfl rfl ?_ | refine AH.of hT rfl ?_ | refine AD.cons hT rfl ?_ | refine AD.nil ?_ | refine AQ.cons hT rfl ?_ | refine AQ.nil ?_ | (refine ACall.val (by kernel_rfl) f7 rfl rfl ?_)); conv => whnf)
    exact h7
end Go.Aw.T1

set_option linter.unusedSimpArgs false
set_option linter.unusedVariables false
set_option maxHeartbeats 1000000
set_option maxRecDepth 20000
namespace Go.Aw.T1
open Go Go.Proofs

def hitJ (l : List Ro) (p : Nat × Int) (j : Nat) : Bool := decide ((decF l (fcOf p.1 p.2)).2.2 = 0 ∧ (decF l (fcOf p.1 p.2)).2.1 = (j : Int))
def doneL (l : List Ro) (c i : Nat) : List (Nat × Int) := ((List.range c).flatMap fun c' => (amtF l).map fun a => (c', a)) ++ ((amtF l).take i).map fun a => (c, a)
theorem done_step (l : List Ro) (c i : Nat) (h : i < (amtF l).length) : doneL l c (i + 1) = doneL l c i ++ [(c, (amtF l)[i])] := by
  unfold doneL
  rw [List.take_add_one, List.getElem?_eq_getElem h, List.map_append, List.append_assoc]; rfl
theorem done_next (l : List Ro) (c : Nat) : doneL l c (amtF l).length = doneL l (c + 1) 0 := by
  unfold doneL
  rw [List.take_length, List.range_succ, List.flatMap_append]
  simp
def LvOk (l : List Ro) (tl : List Bool) (L : List (Nat × Int)) : Prop := tl.length = 40 ∧ ∀ j, j < 40 → tl.getD j false = L.any fun p => hitJ l p j
theorem lv_set {l : List Ro} {tl : List Bool} {L : List (Nat × Int)} (h : LvOk l tl L) {p : Nat × Int} {k : Nat} (h0 : (decF l (fcOf p.1 p.2)).2.2 = 0) (h1 : (decF l (fcOf p.1 p.2)).2.1 = (k : Int)) (hk : k < 40) : LvOk l (tl.set k true) (L ++ [p]) := by
  refine ⟨by rw [List.length_set]; exact h.1, fun j hj => ?_⟩
  have h2 := h.2 j hj
  rw [List.any_append, ← h2, List.getD_eq_getElem?_getD, List.getD_eq_getElem?_getD]
  have hh : [p].any (fun p => hitJ l p j) = decide (k = j) := by
    simp only [List.any_cons, List.any_nil, Bool.or_false, hitJ, h0, h1]
    rw [decide_eq_decide]
    exact ⟨fun h => by have := h.2; omega, fun h => ⟨trivial, by omega⟩⟩
  rw [hh]
  by_cases e : k = j
  · subst e
    rw [List.getElem?_set_self (by rw [h.1]; exact hk), decide_eq_true rfl, Bool.or_true]; rfl
  · rw [List.getElem?_set_ne e, decide_eq_false e, Bool.or_false]
theorem lv_same {l : List Ro} {tl : List Bool} {L : List (Nat × Int)} (h : LvOk l tl L) {p : Nat × Int} (h0 : ¬ (decF l (fcOf p.1 p.2)).2.2 = 0) : LvOk l tl (L ++ [p]) := by
  refine ⟨h.1, fun j hj => ?_⟩
  rw [List.any_append, ← h.2 j hj]
  have hh : [p].any (fun p => hitJ l p j) = false := by
    simp only [List.any_cons, List.any_nil, Bool.or_false, hitJ]
    exact decide_eq_false (fun h => h0 h.1)
  rw [hh, Bool.or_false]
theorem hit_eq {l : List Ro} (ht : tabB l = true) {j : Nat} (hj : j < l.length) {c : Nat} (hc : c < 8) {a : Int} (ha : a ∈ amtF l) : hitJ l (c, a) j = hitB l j l[j] c a := by
  obtain ⟨t1, t2, t3⟩ := tabB_row ht
  have hao := amt_ok t3 ha
  have hf := fcOf_fact hc hao.1 hao.2
  have hmat : ∀ r ∈ l, matB r (fcOf c a) = fitB r (fcOf c a) := fun r hr => by unfold matB; rw [t3 r hr, hf]; rfl
  have hany : anyF (l.take j) (fcOf c a) = false ↔ ∀ i (hi : i < l.length), i < j → fitB l[i] (fcOf c a) = false := by
    unfold anyF
    rw [List.any_eq_false]
    constructor
    · intro h i hi hij
      have hm : l[i] ∈ l.take j := List.mem_of_getElem? (i := i) (by rw [List.getElem?_take_of_lt hij, List.getElem?_eq_getElem hi])
      have := h _ hm
      rw [hmat _ (List.getElem_mem hi)] at this
      simpa using this
    · intro h r hr
      obtain ⟨i, hi, rfl⟩ := List.mem_iff_getElem.1 hr
      rw [List.length_take] at hi
      rw [List.getElem_take, hmat _ (List.getElem_mem (by omega)), h i (by omega) (by omega)]; simp
  unfold hitJ hitB
  rw [decF_ok ht hf, hmat _ (List.getElem_mem hj), Bool.eq_iff_iff, decide_eq_true_eq, Bool.and_eq_true, Bool.not_eq_true']
  rw [hany]
  rcases dec_cases (fcOf c a) l with h1 | ⟨k, hk, h1, h2⟩
  · rw [dec_none _ l 0 h1]
    constructor
    · rintro ⟨h, _⟩; cases h
    · rintro ⟨h, _⟩
      rw [h1 _ (List.getElem_mem hj)] at h; cases h
  · rw [dec_some _ l 0 k hk h1 h2]
    simp only [Nat.zero_add, true_and]
    constructor
    · intro h
      have : k = j := by omega
      subst this
      exact ⟨h1, h2⟩
    · rintro ⟨h3, h4⟩
      rcases Nat.lt_trichotomy k j with g | g | g
      · have := h4 k hk g
        rw [h1] at this; cases this
      · rw [g]
      · have := h2 j hj g
        rw [h3] at this; cases this
theorem lives_eq {l : List Ro} (ht : tabB l = true) {j : Nat} (hj : j < l.length) : ((doneL l 8 0).any fun p => hitJ l p j) = liveB l j := by
  rw [Bool.eq_iff_iff, live_hit (tabB_row ht).2.2 hj]
  unfold doneL
  rw [List.take_zero, List.map_nil, List.append_nil, List.any_eq_true]
  constructor
  · rintro ⟨p, hp, hh⟩
    obtain ⟨c, hc, hp⟩ := List.mem_flatMap.1 hp
    obtain ⟨a, ha, rfl⟩ := List.mem_map.1 hp
    have hc : c < 8 := by simpa using hc
    rw [hit_eq ht hj hc ha] at hh
    exact ⟨c, hc, a, ha, hh⟩
  · rintro ⟨c, hc, a, ha, hh⟩
    refine ⟨(c, a), List.mem_flatMap.2 ⟨c, by simpa using hc, List.mem_map.2 ⟨a, ha, rfl⟩⟩, ?_⟩
    rw [hit_eq ht hj hc ha]; exact hh

theorem f6 (l : List Ro) : Fun P 6 [roV l] (bV true) := by
  refine spec_of hT (f := 6) (fn := Go.Proofs.Try.f6) (c := body Go.Proofs.Try.f6) (by kernel_rfl) (by kernel_rfl) ?_
  have h7 : ∀ {H : List ABlk}, AFin 0 (bV true) H (fun r' H' => r' = bV true ∧ H' = []) := AFin.val rfl ⟨rfl, rfl⟩
  conv => whnf
  repeat ((first | refine AO.cons hT ?_ | refine AO.nil ?_ | refine AW.seq ?_ | refine AW.region ?_ | refine AW.cond ?_ | refine AW.block ?_ | refine AW.loop ?_ | refine AW.skip ?_ | refine AW.exit ?_ | refine AW.ret ?_ | refine AW.label ?_ | refine AW.scope ?_ | refine AF.one hT rfl ?_ | refine AF.nil ?_ | refine AF.imm hT rfl rfl rfl ?_ | refine AH.of hT rfl ?_ | refine AD.cons hT rfl ?_ | refine AD.nil ?_ | refine AQ.cons hT rfl ?_ | refine AQ.nil ?_ | (refine ACall.val (by kernel_rfl) f7 rfl rfl ?_)); conv => whnf)
  refine ASplit.dec (fun h1 => ?_) (fun h1 => ?_)
  · conv => whnf
    repeat (first | (refine AW.label ?_; conv => whnf) | (refine AW.scope ?_; conv => whnf) | (refine AO.cons hT ?_; conv => whnf) | (refine AO.nil ?_; conv => whnf) | (refine AW.seq ?_; conv => whnf) | (refine AW.region ?_; conv => whnf) | (refine AW.cond ?_; conv => whnf) | (refine AW.block ?_; conv => whnf) | (refine AW.loop ?_; conv => whnf) | (refine AW.skip ?_; conv => whnf) | (refine AW.exit ?_; conv => whnf) | (refine AW.ret ?_; conv => whnf) | (refine AF.one hT rfl ?_; conv => whnf) | (refine AF.nil ?_; conv => whnf) | (refine AF.imm hT rfl rfl rfl ?_; conv => whnf) | (refine AH.of hT rfl ?_; conv => whnf) | (refine ASplit.yes rfl ?_; conv => whnf) | (refine ACond.yes rfl ?_; conv => whnf) | (refine ASplit.no rfl ?_; conv => whnf) | (refine ACond.no rfl ?_; conv => whnf) | (refine ASplit.yes (by decide) ?_; conv => whnf) | (refine ACond.yes (by decide) ?_; conv => whnf) | (refine AReq.mk (by decide) ?_; conv => whnf) | (refine AIdx.iff.2 ⟨by decide, ?_⟩; conv => whnf) | (refine ACall.val (by kernel_rfl) f7 rfl rfl ?_; conv => whnf))
    exact h7
  conv => whnf
  repeat ((first | refine AO.cons hT ?_ | refine AO.nil ?_ | refine AW.seq ?_ | refine AW.region ?_ | refine AW.cond ?_ | refine AW.block ?_ | refine AW.loop ?_ | refine AW.skip ?_ | refine AW.exit ?_ | refine AW.ret ?_ | refine AW.label ?_ | refine AW.scope ?_ | refine AF.one hT rfl ?_ | refine AF.nil ?_ | refine AF.imm hT rfl rfl rfl ?_ | refine AH.of hT rfl ?_ | refine AD.cons hT rfl ?_ | refine AD.nil ?_ | refine AQ.cons hT rfl ?_ | refine AQ.nil ?_ | (refine ACall.val (by kernel_rfl) f7 rfl rfl ?_)); conv => whnf)
  refine ACall.val (by kernel_rfl) (f18 l) (roV1 _ _) rfl ?_
  rcases Bool.eq_false_or_eq_true (tabB l) with g | g <;> simp only [g, Bool.false_eq_true, if_false, if_true]
  case inr =>
    conv => whnf
    repeat (first | (refine AW.label ?_; conv => whnf) | (refine AW.scope ?_; conv => whnf) | (refine AO.cons hT ?_; conv => whnf) | (refine AO.nil ?_; conv => whnf) | (refine AW.seq ?_; conv => whnf) | (refine AW.region ?_; conv => whnf) | (refine AW.cond ?_; conv => whnf) | (refine AW.block ?_; conv => whnf) | (refine AW.loop ?_; conv => whnf) | (refine AW.skip ?_; conv => whnf) | (refine AW.exit ?_; conv => whnf) | (refine AW.ret ?_; conv => whnf) | (refine AF.one hT rfl ?_; conv => whnf) | (refine AF.nil ?_; conv => whnf) | (refine AF.imm hT rfl rfl rfl ?_; conv => whnf) | (refine AH.of hT rfl ?_; conv => whnf) | (refine ASplit.yes rfl ?_; conv => whnf) | (refine ACond.yes rfl ?_; conv => whnf) | (refine ASplit.no rfl ?_; conv => whnf) | (refine ACond.no rfl ?_; conv => whnf) | (refine ASplit.yes (by decide) ?_; conv => whnf) | (refine ACond.yes (by decide) ?_; conv => whnf) | (refine AReq.mk (by decide) ?_; conv => whnf) | (refine AIdx.iff.2 ⟨by decide, ?_⟩; conv => whnf) | (refine ACall.val (by kernel_rfl) f7 rfl rfl ?_; conv => whnf))
    exact h7
  obtain ⟨t1, t2, t3⟩ := tabB_row g
  conv => whnf
  repeat ((first | refine AO.cons hT ?_ | refine AO.nil ?_ | refine AW.seq ?_ | refine AW.region ?_ | refine AW.cond ?_ | refine AW.block ?_ | refine AW.loop ?_ | refine AW.skip ?_ | refine AW.exit ?_ | refine AW.ret ?_ | refine AW.label ?_ | refine AW.scope ?_ | refine AF.one hT rfl ?_ | refine AF.nil ?_ | refine AF.imm hT rfl rfl rfl ?_ | refine AH.of hT rfl ?_ | refine AD.cons hT rfl ?_ | refine AD.nil ?_ | refine AQ.cons hT rfl ?_ | refine AQ.nil ?_ | (refine ACall.val (by kernel_rfl) f7 rfl rfl ?_)); conv => whnf)
  refine ACond.no rfl ?_
  conv => whnf
  repeat ((first | refine AO.cons hT ?_ | refine AO.nil ?_ | refine AW.seq ?_ | refine AW.region ?_ | refine AW.cond ?_ | refine AW.block ?_ | refine AW.loop ?_ | refine AW.skip ?_ | refine AW.exit ?_ | refine AW.ret ?_ | refine AW.label ?_ | refine AW.scope ?_ | refine AF.one hT rfl ?_ | refine AF.nil ?_ | refine AF.imm hT rfl rfl rfl ?_ | refine AH.of hT rfl ?_ | refine AD.cons hT rfl ?_ | refine AD.nil ?_ | refine AQ.cons hT rfl ?_ | refine AQ.nil ?_ | (refine ACall.val (by kernel_rfl) f7 rfl rfl ?_)); conv => whnf)
  refine ACall.val (by kernel_rfl) (f14 l) (roV1 _ _) (iVs_ren _ _) ?_
  have hde : deadF l = deadG l l.length := by unfold deadF; rw [if_pos g]
  rw [hde]
  have hdl := deadG_le l l.length
  have hal := amt_len t1
  conv => whnf
  repeat ((first | refine AO.cons hT ?_ | refine AO.nil ?_ | refine AW.seq ?_ | refine AW.region ?_ | refine AW.cond ?_ | refine AW.block ?_ | refine AW.loop ?_ | refine AW.skip ?_ | refine AW.exit ?_ | refine AW.ret ?_ | refine AW.label ?_ | refine AW.scope ?_ | refine AF.one hT rfl ?_ | refine AF.nil ?_ | refine AF.imm hT rfl rfl rfl ?_ | refine AH.of hT rfl ?_ | refine AD.cons hT rfl ?_ | refine AD.nil ?_ | refine AQ.cons hT rfl ?_ | refine AQ.nil ?_ | (refine ACall.val (by kernel_rfl) f7 rfl rfl ?_)); conv => whnf)
  refine ACall.val (by kernel_rfl) (f21 l (by omega)) (roV1 _ _) (iVs_ren _ _) ?_
  conv => whnf
  repeat ((first | refine AO.cons hT ?_ | refine AO.nil ?_ | refine AW.seq ?_ | refine AW.region ?_ | refine AW.cond ?_ | refine AW.block ?_ | refine AW.loop ?_ | refine AW.skip ?_ | refine AW.exit ?_ | refine AW.ret ?_ | refine AW.label ?_ | refine AW.scope ?_ | refine AF.one hT rfl ?_ | refine AF.nil ?_ | refine AF.imm hT rfl rfl rfl ?_ | refine AH.of hT rfl ?_ | refine AD.cons hT rfl ?_ | refine AD.nil ?_ | refine AQ.cons hT rfl ?_ | refine AQ.nil ?_ | (refine ACall.val (by kernel_rfl) f7 rfl rfl ?_)); conv => whnf)
  refine ALoop.mk (fun j E H => ∃ (c : Nat) (tl : List Bool), j + c = 8 ∧ LvOk l tl (doneL l c 0) ∧ E = pad [roV l, .any, .any, iVs (deadG l l.length), .ptr 0 0, iVs (amtF l), nV c] 98 ∧ H = [.cells 53 (tl.map bV)])
    (n := 8) _ _ ⟨0, List.replicate 40 false, rfl, ⟨rfl, fun j hj => by rw [List.getD_eq_getElem?_getD, List.getElem?_replicate]; split <;> rfl⟩, rfl, rfl⟩ (Conv.fit (by repeat' (first | exact Fit.nil | refine Fit.any ?_ | refine Fit.same ?_))) ?_
  rintro j _ _ ⟨c, tl, hj, hlv, rfl, rfl⟩
  conv => whnf
  repeat ((first | refine AO.cons hT ?_ | refine AO.nil ?_ | refine AW.seq ?_ | refine AW.region ?_ | refine AW.cond ?_ | refine AW.block ?_ | refine AW.loop ?_ | refine AW.skip ?_ | refine AW.exit ?_ | refine AW.ret ?_ | refine AW.label ?_ | refine AW.scope ?_ | refine AF.one hT rfl ?_ | refine AF.nil ?_ | refine AF.imm hT rfl rfl rfl ?_ | refine AH.of hT rfl ?_ | refine AD.cons hT rfl ?_ | refine AD.nil ?_ | refine AQ.cons hT rfl ?_ | refine AQ.nil ?_ | (refine ACall.val (by kernel_rfl) f7 rfl rfl ?_)); conv => whnf)
  refine ACond.dec (fun h1 => ?_) (fun h1 => ?_)
  · have hc8 : c < 8 := by omega
    have w0 : IntKind.wrap .i64 ((c : Int) + 1) = ((c + 1 : Nat) : Int) := by rw [wrap_i64 _ (by omega) (by omega)]; omega
    conv => whnf
    repeat ((first | refine AO.cons hT ?_ | refine AO.nil ?_ | refine AW.seq ?_ | refine AW.region ?_ | refine AW.cond ?_ | refine AW.block ?_ | refine AW.loop ?_ | refine AW.skip ?_ | refine AW.exit ?_ | refine AW.ret ?_ | refine AW.label ?_ | refine AW.scope ?_ | refine AF.one hT rfl ?_ | refine AF.nil ?_ | refine AF.imm hT rfl rfl rfl ?_ | refine AH.of hT rfl ?_ | refine AD.cons hT rfl ?_ | refine AD.nil ?_ | refine AQ.cons hT rfl ?_ | refine AQ.nil ?_ | (refine ACall.val (by kernel_rfl) f7 rfl rfl ?_)); conv => whnf)
    refine ALoop.mk (fun n E H => ∃ (i : Nat) (tl : List Bool), n + i = (amtF l).length ∧ LvOk l tl (doneL l c i) ∧ E = pad [roV l, .any, .any, iVs (deadG l l.length), .ptr 0 0, iVs (amtF l), nV c, nV i] 98 ∧ H = [.cells 53 (tl.map bV)])
      (n := (amtF l).length) _ _ ⟨0, tl, rfl, hlv, rfl, rfl⟩ (Conv.fit (by repeat' (first | exact Fit.nil | refine Fit.any ?_ | refine Fit.same ?_))) ?_
    clear hlv tl
    rintro n _ _ ⟨i, tl, hn, hlv, rfl, rfl⟩
    conv => whnf
    repeat ((first | refine AO.cons hT ?_ | refine AO.nil ?_ | refine AW.seq ?_ | refine AW.region ?_ | refine AW.cond ?_ | refine AW.block ?_ | refine AW.loop ?_ | refine AW.skip ?_ | refine AW.exit ?_ | refine AW.ret ?_ | refine AW.label ?_ | refine AW.scope ?_ | refine AF.one hT rfl ?_ | refine AF.nil ?_ | refine AF.imm hT rfl rfl rfl ?_ | refine AH.of hT rfl ?_ | refine AD.cons hT rfl ?_ | refine AD.nil ?_ | refine AQ.cons hT rfl ?_ | refine AQ.nil ?_ | (refine ACall.val (by kernel_rfl) f7 rfl rfl ?_)); conv => whnf)
    refine ACond.dec (fun h2 => ?_) (fun h2 => ?_)
    · have hil : i < (amtF l).length := by omega
      have w1 : IntKind.wrap .i64 ((i : Int) + 1) = ((i + 1 : Nat) : Int) := by rw [wrap_i64 _ (by omega) (by omega)]; omega
      have hao := amt_ok t3 (List.getElem_mem hil)
      have hf := fcOf_fact hc8 hao.1 hao.2
      have h19 := f19 l (fcOf c (amtF l)[i])
      have hst := done_step l c i hil
      have hset : ∀ (k : Nat), (decF l (fcOf c (amtF l)[i])).2.2 = 0 → (decF l (fcOf c (amtF l)[i])).2.1 = (k : Int) → k < 40 → LvOk l (tl.set k true) (doneL l c i ++ [(c, (amtF l)[i])]) := fun k a b d => lv_set hlv (p := (c, (amtF l)[i])) a b d
      have hsame : ¬ (decF l (fcOf c (amtF l)[i])).2.2 = 0 → LvOk l tl (doneL l c i ++ [(c, (amtF l)[i])]) := fun a => lv_same hlv (p := (c, (amtF l)[i])) a
      have hdc := decF_ok g hf
      have hcs := dec_cases (fcOf c (amtF l)[i]) l
      rw [← hst] at hset hsame
      have htl := hlv.1
      generalize hD : decF l (fcOf c (amtF l)[i]) = D at *
      conv => whnf
      repeat ((first | refine AO.cons hT ?_ | refine AO.nil ?_ | refine AW.seq ?_ | refine AW.region ?_ | refine AW.cond ?_ | refine AW.block ?_ | refine AW.loop ?_ | refine AW.skip ?_ | refine AW.exit ?_ | refine AW.ret ?_ | refine AW.label ?_ | refine AW.scope ?_ | refine AF.one hT rfl ?_ | refine AF.nil ?_ | refine AF.imm hT rfl rfl rfl ?_ | refine AH.of hT rfl ?_ | refine AD.cons hT rfl ?_ | refine AD.nil ?_ | refine AQ.cons hT rfl ?_ | refine AQ.nil ?_ | (refine ACall.val (by kernel_rfl) f7 rfl rfl ?_) | (refine AReq.mk (by decide) ?_) | (refine AReq.mk (by omega) ?_) | (refine AIdx.map1 (f := nV) (xs := amtF l) (i := i) hil ?_)); conv => whnf)
      rw [(half_c hc8).1, (half_c hc8).2]
      refine ACall.val (by kernel_rfl) h19 (roF1 _ l (fcOf c (amtF l)[i])) rfl ?_
      conv => whnf
      repeat ((first | refine AO.cons hT ?_ | refine AO.nil ?_ | refine AW.seq ?_ | refine AW.region ?_ | refine AW.cond ?_ | refine AW.block ?_ | refine AW.loop ?_ | refine AW.skip ?_ | refine AW.exit ?_ | refine AW.ret ?_ | refine AW.label ?_ | refine AW.scope ?_ | refine AF.one hT rfl ?_ | refine AF.nil ?_ | refine AF.imm hT rfl rfl rfl ?_ | refine AH.of hT rfl ?_ | refine AD.cons hT rfl ?_ | refine AD.nil ?_ | refine AQ.cons hT rfl ?_ | refine AQ.nil ?_ | (refine ACall.val (by kernel_rfl) f7 rfl rfl ?_) | (refine AReq.mk (by decide) ?_) | (refine AReq.mk (by omega) ?_) | (refine AIdx.map1 (f := nV) (xs := amtF l) (i := i) hil ?_)); conv => whnf)
      rcases hcs with h4 | ⟨k, hk, h4, h5⟩
      · rw [dec_none _ l 0 h4] at hdc
        subst hdc
        refine ASplit.no rfl ?_
        conv => whnf
        repeat ((first | refine AO.cons hT ?_ | refine AO.nil ?_ | refine AW.seq ?_ | refine AW.region ?_ | refine AW.cond ?_ | refine AW.block ?_ | refine AW.loop ?_ | refine AW.skip ?_ | refine AW.exit ?_ | refine AW.ret ?_ | refine AW.label ?_ | refine AW.scope ?_ | refine AF.one hT rfl ?_ | refine AF.nil ?_ | refine AF.imm hT rfl rfl rfl ?_ | refine AH.of hT rfl ?_ | refine AD.cons hT rfl ?_ | refine AD.nil ?_ | refine AQ.cons hT rfl ?_ | refine AQ.nil ?_); conv => whnf)
        refine ASplit.no rfl ?_
        conv => whnf
        repeat ((first | refine AO.cons hT ?_ | refine AO.nil ?_ | refine AW.seq ?_ | refine AW.region ?_ | refine AW.cond ?_ | refine AW.block ?_ | refine AW.loop ?_ | refine AW.skip ?_ | refine AW.exit ?_ | refine AW.ret ?_ | refine AW.label ?_ | refine AW.scope ?_ | refine AF.one hT rfl ?_ | refine AF.nil ?_ | refine AF.imm hT rfl rfl rfl ?_ | refine AH.of hT rfl ?_ | refine AD.cons hT rfl ?_ | refine AD.nil ?_ | refine AQ.cons hT rfl ?_ | refine AQ.nil ?_); conv => whnf)
        refine ACond.no rfl ?_
        conv => whnf
        repeat ((first | refine AO.cons hT ?_ | refine AO.nil ?_ | refine AW.seq ?_ | refine AW.region ?_ | refine AW.cond ?_ | refine AW.block ?_ | refine AW.loop ?_ | refine AW.skip ?_ | refine AW.exit ?_ | refine AW.ret ?_ | refine AW.label ?_ | refine AW.scope ?_ | refine AF.one hT rfl ?_ | refine AF.nil ?_ | refine AF.imm hT rfl rfl rfl ?_ | refine AH.of hT rfl ?_ | refine AD.cons hT rfl ?_ | refine AD.nil ?_ | refine AQ.cons hT rfl ?_ | refine AQ.nil ?_); conv => whnf)
        rw [w1]
        exact AHead.mk (n - 1) _ _ (by omega) ⟨i + 1, tl, by omega, hsame (by decide), rfl, rfl⟩ (Conv.fit (by repeat' (first | exact Fit.nil | refine Fit.any ?_ | refine Fit.same ?_)))
      · rw [dec_some _ l 0 k hk h4 h5, Nat.zero_add] at hdc
        subst hdc
        have hk40 : k < 40 := by omega
        refine ASplit.yes rfl ?_
        conv => whnf
        repeat ((first | refine AO.cons hT ?_ | refine AO.nil ?_ | refine AW.seq ?_ | refine AW.region ?_ | refine AW.cond ?_ | refine AW.block ?_ | refine AW.loop ?_ | refine AW.skip ?_ | refine AW.exit ?_ | refine AW.ret ?_ | refine AW.label ?_ | refine AW.scope ?_ | refine AF.one hT rfl ?_ | refine AF.nil ?_ | refine AF.imm hT rfl rfl rfl ?_ | refine AH.of hT rfl ?_ | refine AD.cons hT rfl ?_ | refine AD.nil ?_ | refine AQ.cons hT rfl ?_ | refine AQ.nil ?_); conv => whnf)
        refine ASplit.yes (decide_eq_true (by show (0 : Int) ≤ (k : Int); omega)) ?_
        conv => whnf
        repeat ((first | refine AO.cons hT ?_ | refine AO.nil ?_ | refine AW.seq ?_ | refine AW.region ?_ | refine AW.cond ?_ | refine AW.block ?_ | refine AW.loop ?_ | refine AW.skip ?_ | refine AW.exit ?_ | refine AW.ret ?_ | refine AW.label ?_ | refine AW.scope ?_ | refine AF.one hT rfl ?_ | refine AF.nil ?_ | refine AF.imm hT rfl rfl rfl ?_ | refine AH.of hT rfl ?_ | refine AD.cons hT rfl ?_ | refine AD.nil ?_ | refine AQ.cons hT rfl ?_ | refine AQ.nil ?_); conv => whnf)
        refine ACond.yes (decide_eq_true (by show (k : Int) < 40; omega)) ?_
        conv => whnf
        repeat ((first | refine AO.cons hT ?_ | refine AO.nil ?_ | refine AW.seq ?_ | refine AW.region ?_ | refine AW.cond ?_ | refine AW.block ?_ | refine AW.loop ?_ | refine AW.skip ?_ | refine AW.exit ?_ | refine AW.ret ?_ | refine AW.label ?_ | refine AW.scope ?_ | refine AF.one hT rfl ?_ | refine AF.nil ?_ | refine AF.imm hT rfl rfl rfl ?_ | refine AH.of hT rfl ?_ | refine AD.cons hT rfl ?_ | refine AD.nil ?_ | refine AQ.cons hT rfl ?_ | refine AQ.nil ?_ | (refine AReq.mk ⟨by show (0 : Int) ≤ (k : Int); omega, by show (k : Int) < 40; omega⟩ ?_) | (refine AReq.mk rfl ?_) | (refine AUpd.setAt k (show 0 + Int.toNat (k : Int) * 1 + 0 = k by omega) (by rw [List.length_map, htl]; exact hk40) ?_)); conv => whnf)
        rw [w1]
        refine AHead.mk (n - 1) _ _ (by omega) ⟨i + 1, tl.set k true, by omega, hset k rfl rfl hk40, rfl, rfl⟩ ?_
        rw [List.map_set]
        exact Conv.fit (by repeat' (first | exact Fit.nil | refine Fit.any ?_ | refine Fit.same ?_))
    · obtain rfl : i = (amtF l).length := by omega
      rw [done_next] at hlv
      conv => whnf
      repeat ((first | refine AO.cons hT ?_ | refine AO.nil ?_ | refine AW.seq ?_ | refine AW.region ?_ | refine AW.cond ?_ | refine AW.block ?_ | refine AW.loop ?_ | refine AW.skip ?_ | refine AW.exit ?_ | refine AW.ret ?_ | refine AW.label ?_ | refine AW.scope ?_ | refine AF.one hT rfl ?_ | refine AF.nil ?_ | refine AF.imm hT rfl rfl rfl ?_ | refine AH.of hT rfl ?_ | refine AD.cons hT rfl ?_ | refine AD.nil ?_ | refine AQ.cons hT rfl ?_ | refine AQ.nil ?_); conv => whnf)
      refine AOut.stay ?_
      conv => whnf
      repeat ((first | refine AO.cons hT ?_ | refine AO.nil ?_ | refine AW.seq ?_ | refine AW.region ?_ | refine AW.cond ?_ | refine AW.block ?_ | refine AW.loop ?_ | refine AW.skip ?_ | refine AW.exit ?_ | refine AW.ret ?_ | refine AW.label ?_ | refine AW.scope ?_ | refine AF.one hT rfl ?_ | refine AF.nil ?_ | refine AF.imm hT rfl rfl rfl ?_ | refine AH.of hT rfl ?_ | refine AD.cons hT rfl ?_ | refine AD.nil ?_ | refine AQ.cons hT rfl ?_ | refine AQ.nil ?_); conv => whnf)
      rw [w0]
      exact AHead.mk (j - 1) _ _ (by omega) ⟨c + 1, tl, by omega, hlv, rfl, rfl⟩ (Conv.fit (by repeat' (first | exact Fit.nil | refine Fit.any ?_ | refine Fit.same ?_)))
  obtain rfl : c = 8 := by omega
  have htl := hlv.1
  conv => whnf
  repeat ((first | refine AO.cons hT ?_ | refine AO.nil ?_ | refine AW.seq ?_ | refine AW.region ?_ | refine AW.cond ?_ | refine AW.block ?_ | refine AW.loop ?_ | refine AW.skip ?_ | refine AW.exit ?_ | refine AW.ret ?_ | refine AW.label ?_ | refine AW.scope ?_ | refine AF.one hT rfl ?_ | refine AF.nil ?_ | refine AF.imm hT rfl rfl rfl ?_ | refine AH.of hT rfl ?_ | refine AD.cons hT rfl ?_ | refine AD.nil ?_ | refine AQ.cons hT rfl ?_ | refine AQ.nil ?_); conv => whnf)
  refine AOut.stay ?_
  conv => whnf
  repeat ((first | refine AO.cons hT ?_ | refine AO.nil ?_ | refine AW.seq ?_ | refine AW.region ?_ | refine AW.cond ?_ | refine AW.block ?_ | refine AW.loop ?_ | refine AW.skip ?_ | refine AW.exit ?_ | refine AW.ret ?_ | refine AW.label ?_ | refine AW.scope ?_ | refine AF.one hT rfl ?_ | refine AF.nil ?_ | refine AF.imm hT rfl rfl rfl ?_ | refine AH.of hT rfl ?_ | refine AD.cons hT rfl ?_ | refine AD.nil ?_ | refine AQ.cons hT rfl ?_ | refine AQ.nil ?_); conv => whnf)
  refine ALoop.mk (fun n E H => ∃ (i : Nat), n + i = l.length ∧ E = pad [roV l, .any, .any, iVs (deadG l l.length), .ptr 0 0, .any, .any, .any, .any, .any, .any, nV (deadG l i).length, nV i] 98 ∧ H = [.cells 53 (tl.map bV)])
    (n := l.length) _ _ ⟨0, rfl, rfl, rfl⟩ (Conv.fit (by repeat' (first | exact Fit.nil | refine Fit.any ?_ | refine Fit.same ?_))) ?_
  rintro n _ _ ⟨i, hn, rfl, rfl⟩
  conv => whnf
  repeat ((first | refine AO.cons hT ?_ | refine AO.nil ?_ | refine AW.seq ?_ | refine AW.region ?_ | refine AW.cond ?_ | refine AW.block ?_ | refine AW.loop ?_ | refine AW.skip ?_ | refine AW.exit ?_ | refine AW.ret ?_ | refine AW.label ?_ | refine AW.scope ?_ | refine AF.one hT rfl ?_ | refine AF.nil ?_ | refine AF.imm hT rfl rfl rfl ?_ | refine AH.of hT rfl ?_ | refine AD.cons hT rfl ?_ | refine AD.nil ?_ | refine AQ.cons hT rfl ?_ | refine AQ.nil ?_); conv => whnf)
  refine ACond.dec (fun h2 => ?_) (fun h2 => ?_)
  · have hil : i < l.length := by omega
    have w1 : IntKind.wrap .i64 ((i : Int) + 1) = ((i + 1 : Nat) : Int) := by rw [wrap_i64 _ (by omega) (by omega)]; omega
    have hdi := deadG_le l i
    have wk : IntKind.wrap .i64 (((deadG l i).length : Int) + 1) = (((deadG l i).length + 1 : Nat) : Int) := by rw [wrap_i64 _ (by omega) (by omega)]; omega
    obtain ⟨t, ht, hd0, hd1⟩ := dead_next l hil
    have hds := deadG_step l i
    have hget : ∀ hk : (deadG l i).length < (deadG l l.length).length, t[0]? = some (deadG l l.length)[(deadG l i).length] := by
      intro hk
      have : (deadG l l.length)[(deadG l i).length]? = t[0]? := by
        rw [ht, List.getElem?_append_right (Nat.le_refl _), Nat.sub_self]
      rw [← this, List.getElem?_eq_getElem hk]
    have hi40 : i < 40 := by omega
    have hlive : tl[i]'(by omega) = liveB l i := by
      have := hlv.2 i hi40
      rw [lives_eq g hil, List.getD_eq_getElem?_getD, List.getElem?_eq_getElem (by omega)] at this
      exact this
    -- the flag of a dead row
    refine AW.skip ?_
    conv => whnf
    refine AW.seq ?_
    conv => whnf
    refine AW.block ?_
    conv => whnf
    refine AW.seqJ (fun E H => E = pad [roV l, .any, .any, iVs (deadG l l.length), .ptr 0 0, .any, .any, .any, .any, .any, .any, nV (deadG l i).length, nV i, bV (!liveB l i)] 98 ∧ H = [.cells 53 (tl.map bV)]) ?_ ?_
    · conv => whnf
      repeat ((first | refine AO.cons hT ?_ | refine AO.nil ?_ | refine AW.seq ?_ | refine AW.region ?_ | refine AW.cond ?_ | refine AW.block ?_ | refine AW.loop ?_ | refine AW.skip ?_ | refine AW.exit ?_ | refine AW.ret ?_ | refine AW.label ?_ | refine AW.scope ?_ | refine AF.one hT rfl ?_ | refine AF.nil ?_ | refine AF.imm hT rfl rfl rfl ?_ | refine AH.of hT rfl ?_ | refine AD.cons hT rfl ?_ | refine AD.nil ?_ | refine AQ.cons hT rfl ?_ | refine AQ.nil ?_); conv => whnf)
      refine ASplit.dec (fun hk => ?_) (fun hk => ?_)
      · have hk' : (deadG l i).length < (deadG l l.length).length := by omega
        conv => whnf
        repeat ((first | refine AO.cons hT ?_ | refine AO.nil ?_ | refine AW.seq ?_ | refine AW.region ?_ | refine AW.cond ?_ | refine AW.block ?_ | refine AW.loop ?_ | refine AW.skip ?_ | refine AW.exit ?_ | refine AW.ret ?_ | refine AW.label ?_ | refine AW.scope ?_ | refine AF.one hT rfl ?_ | refine AF.nil ?_ | refine AF.imm hT rfl rfl rfl ?_ | refine AH.of hT rfl ?_ | refine AD.cons hT rfl ?_ | refine AD.nil ?_ | refine AQ.cons hT rfl ?_ | refine AQ.nil ?_ | (refine AReq.mk (by omega) ?_) | (refine AIdx.map1 (f := nV) (xs := deadG l l.length) (i := (deadG l i).length) hk' ?_)); conv => whnf)
        have hb : (!liveB l i) = decide ((deadG l l.length)[(deadG l i).length] = (i : Int)) := by
          rcases Bool.eq_false_or_eq_true (liveB l i) with hb | hb
          · rw [hb, decide_eq_false (hd1 hb _ (hget hk'))]; rfl
          · have := (hd0 hb).symm.trans (hget hk')
            rw [hb, decide_eq_true (Option.some.inj this).symm]; rfl
        rw [hb]
        exact AOut.to _ _ (Conv.fit (by repeat' (first | exact Fit.nil | refine Fit.any ?_ | refine Fit.same ?_))) ⟨rfl, rfl⟩
      · have hb : liveB l i = true := by
          rcases Bool.eq_false_or_eq_true (liveB l i) with hb | hb
          · exact hb
          · have h5 := hd0 hb
            have : 0 < t.length := by
              rcases t with _ | ⟨x, t⟩
              · simp at h5
              · simp
            rw [ht, List.length_append] at hk
            omega
        rw [hb]
        conv => whnf
        repeat ((first | refine AO.cons hT ?_ | refine AO.nil ?_ | refine AW.seq ?_ | refine AW.region ?_ | refine AW.cond ?_ | refine AW.block ?_ | refine AW.loop ?_ | refine AW.skip ?_ | refine AW.exit ?_ | refine AW.ret ?_ | refine AW.label ?_ | refine AW.scope ?_ | refine AF.one hT rfl ?_ | refine AF.nil ?_ | refine AF.imm hT rfl rfl rfl ?_ | refine AH.of hT rfl ?_ | refine AD.cons hT rfl ?_ | refine AD.nil ?_ | refine AQ.cons hT rfl ?_ | refine AQ.nil ?_); conv => whnf)
        exact AOut.to _ _ (Conv.fit (by repeat' (first | exact Fit.nil | refine Fit.any ?_ | refine Fit.same ?_))) ⟨rfl, rfl⟩
    rintro _ _ ⟨rfl, rfl⟩
    rcases Bool.eq_false_or_eq_true (liveB l i) with hb | hb
    · rw [if_pos hb] at hds
      rw [hb]
      conv => whnf
      repeat ((first | refine AO.cons hT ?_ | refine AO.nil ?_ | refine AW.seq ?_ | refine AW.region ?_ | refine AW.cond ?_ | refine AW.block ?_ | refine AW.loop ?_ | refine AW.skip ?_ | refine AW.exit ?_ | refine AW.ret ?_ | refine AW.label ?_ | refine AW.scope ?_ | refine AF.one hT rfl ?_ | refine AF.nil ?_ | refine AF.imm hT rfl rfl rfl ?_ | refine AH.of hT rfl ?_ | refine AD.cons hT rfl ?_ | refine AD.nil ?_ | refine AQ.cons hT rfl ?_ | refine AQ.nil ?_ | (refine AReq.mk (by omega) ?_) | (refine AIdx.map1 (f := bV) (xs := tl) (i := i) (by omega) ?_)); conv => whnf)
      refine ACond.no rfl ?_
      conv => whnf
      repeat ((first | refine AO.cons hT ?_ | refine AO.nil ?_ | refine AW.seq ?_ | refine AW.region ?_ | refine AW.cond ?_ | refine AW.block ?_ | refine AW.loop ?_ | refine AW.skip ?_ | refine AW.exit ?_ | refine AW.ret ?_ | refine AW.label ?_ | refine AW.scope ?_ | refine AF.one hT rfl ?_ | refine AF.nil ?_ | refine AF.imm hT rfl rfl rfl ?_ | refine AH.of hT rfl ?_ | refine AD.cons hT rfl ?_ | refine AD.nil ?_ | refine AQ.cons hT rfl ?_ | refine AQ.nil ?_ | (refine AReq.mk (by omega) ?_) | (refine AIdx.map1 (f := bV) (xs := tl) (i := i) (by omega) ?_)); conv => whnf)
      rw [hlive, hb]
      refine ACond.no rfl ?_
      conv => whnf
      repeat ((first | refine AO.cons hT ?_ | refine AO.nil ?_ | refine AW.seq ?_ | refine AW.region ?_ | refine AW.cond ?_ | refine AW.block ?_ | refine AW.loop ?_ | refine AW.skip ?_ | refine AW.exit ?_ | refine AW.ret ?_ | refine AW.label ?_ | refine AW.scope ?_ | refine AF.one hT rfl ?_ | refine AF.nil ?_ | refine AF.imm hT rfl rfl rfl ?_ | refine AH.of hT rfl ?_ | refine AD.cons hT rfl ?_ | refine AD.nil ?_ | refine AQ.cons hT rfl ?_ | refine AQ.nil ?_ | (refine AReq.mk (by omega) ?_) | (refine AIdx.map1 (f := bV) (xs := tl) (i := i) (by omega) ?_)); conv => whnf)
      rw [w1]
      exact AHead.mk (n - 1) _ _ (by omega) ⟨i + 1, by omega, by rw [hds], rfl⟩ (Conv.fit (by repeat' (first | exact Fit.nil | refine Fit.any ?_ | refine Fit.same ?_)))
    · rw [if_neg (by rw [hb]; simp)] at hds
      rw [hb]
      conv => whnf
      repeat ((first | refine AO.cons hT ?_ | refine AO.nil ?_ | refine AW.seq ?_ | refine AW.region ?_ | refine AW.cond ?_ | refine AW.block ?_ | refine AW.loop ?_ | refine AW.skip ?_ | refine AW.exit ?_ | refine AW.ret ?_ | refine AW.label ?_ | refine AW.scope ?_ | refine AF.one hT rfl ?_ | refine AF.nil ?_ | refine AF.imm hT rfl rfl rfl ?_ | refine AH.of hT rfl ?_ | refine AD.cons hT rfl ?_ | refine AD.nil ?_ | refine AQ.cons hT rfl ?_ | refine AQ.nil ?_ | (refine AReq.mk (by omega) ?_) | (refine AIdx.map1 (f := bV) (xs := tl) (i := i) (by omega) ?_)); conv => whnf)
      refine ACond.yes rfl ?_
      conv => whnf
      repeat ((first | refine AO.cons hT ?_ | refine AO.nil ?_ | refine AW.seq ?_ | refine AW.region ?_ | refine AW.cond ?_ | refine AW.block ?_ | refine AW.loop ?_ | refine AW.skip ?_ | refine AW.exit ?_ | refine AW.ret ?_ | refine AW.label ?_ | refine AW.scope ?_ | refine AF.one hT rfl ?_ | refine AF.nil ?_ | refine AF.imm hT rfl rfl rfl ?_ | refine AH.of hT rfl ?_ | refine AD.cons hT rfl ?_ | refine AD.nil ?_ | refine AQ.cons hT rfl ?_ | refine AQ.nil ?_ | (refine AReq.mk (by omega) ?_) | (refine AIdx.map1 (f := bV) (xs := tl) (i := i) (by omega) ?_)); conv => whnf)
      rw [hlive, hb, wk]
      refine ACond.no rfl ?_
      conv => whnf
      repeat ((first | refine AO.cons hT ?_ | refine AO.nil ?_ | refine AW.seq ?_ | refine AW.region ?_ | refine AW.cond ?_ | refine AW.block ?_ | refine AW.loop ?_ | refine AW.skip ?_ | refine AW.exit ?_ | refine AW.ret ?_ | refine AW.label ?_ | refine AW.scope ?_ | refine AF.one hT rfl ?_ | refine AF.nil ?_ | refine AF.imm hT rfl rfl rfl ?_ | refine AH.of hT rfl ?_ | refine AD.cons hT rfl ?_ | refine AD.nil ?_ | refine AQ.cons hT rfl ?_ | refine AQ.nil ?_ | (refine AReq.mk (by omega) ?_) | (refine AIdx.map1 (f := bV) (xs := tl) (i := i) (by omega) ?_)); conv => whnf)
      rw [w1]
      exact AHead.mk (n - 1) _ _ (by omega) ⟨i + 1, by omega, by rw [hds, List.length_append], rfl⟩ (Conv.fit (by repeat' (first | exact Fit.nil | refine Fit.any ?_ | refine Fit.same ?_)))
  · obtain rfl : i = l.length := by omega
    conv => whnf
    repeat ((first | refine AO.cons hT ?_ | refine AO.nil ?_ | refine AW.seq ?_ | refine AW.region ?_ | refine AW.cond ?_ | refine AW.block ?_ | refine AW.loop ?_ | refine AW.skip ?_ | refine AW.exit ?_ | refine AW.ret ?_ | refine AW.label ?_ | refine AW.scope ?_ | refine AF.one hT rfl ?_ | refine AF.nil ?_ | refine AF.imm hT rfl rfl rfl ?_ | refine AH.of hT rfl ?_ | refine AD.cons hT rfl ?_ | refine AD.nil ?_ | refine AQ.cons hT rfl ?_ | refine AQ.nil ?_); conv => whnf)
    refine AOut.stay ?_
    conv => whnf
    repeat ((first | refine AO.cons hT ?_ | refine AO.nil ?_ | refine AW.seq ?_ | refine AW.region ?_ | refine AW.cond ?_ | refine AW.block ?_ | refine AW.loop ?_ | refine AW.skip ?_ | refine AW.exit ?_ | refine AW.ret ?_ | refine AW.label ?_ | refine AW.scope ?_ | refine AF.one hT rfl ?_ | refine AF.nil ?_ | refine AF.imm hT rfl rfl rfl ?_ | refine AH.of hT rfl ?_ | refine AD.cons hT rfl ?_ | refine AD.nil ?_ | refine AQ.cons hT rfl ?_ | refine AQ.nil ?_); conv => whnf)
    refine ASplit.yes (decide_eq_true rfl) ?_
    conv => whnf
    repeat ((first | refine AO.cons hT ?_ | refine AO.nil ?_ | refine AW.seq ?_ | refine AW.region ?_ | refine AW.cond ?_ | refine AW.block ?_ | refine AW.loop ?_ | refine AW.skip ?_ | refine AW.exit ?_ | refine AW.ret ?_ | refine AW.label ?_ | refine AW.scope ?_ | refine AF.one hT rfl ?_ | refine AF.nil ?_ | refine AF.imm hT rfl rfl rfl ?_ | refine AH.of hT rfl ?_ | refine AD.cons hT rfl ?_ | refine AD.nil ?_ | refine AQ.cons hT rfl ?_ | refine AQ.nil ?_ | (refine ACall.val (by kernel_rfl) f7 rfl rfl ?_)); conv => whnf)
    exact h7
end Go.Aw.T1

set_option linter.unusedSimpArgs false
set_option linter.unusedVariables false
namespace Go.Aw.T1
open Go Go.Proofs
def roWf (r : Ro) : Prop := (Lit.int .i64 r.g).wf = true ∧ (Lit.int .i64 r.w).wf = true ∧ (Lit.int .i64 r.lo).wf = true ∧ (Lit.int .i64 r.hi).wf = true ∧ (Lit.int .i64 r.way).wf = true
theorem opens_ro : Opens P 52 roC roWf :=
  Opens.map (opens_struct Try.underlying52 (by kernel_rfl) (opensF_cons (sz := 1) rfl (by kernel_rfl) (opens_int Try.underlying3) (opensF_cons (sz := 1) rfl (by kernel_rfl) (opens_int Try.underlying3) (opensF_cons (sz := 1) rfl (by kernel_rfl) (opens_int Try.underlying3) (opensF_cons (sz := 1) rfl (by kernel_rfl) (opens_int Try.underlying3) (opensF_cons (sz := 1) rfl (by kernel_rfl) (opens_int Try.underlying3) opensF_nil))))))
    roC roWf (fun x => ⟨x.1, x.2.1, x.2.2.1, x.2.2.2.1, x.2.2.2.2.1⟩) (fun x _ => rfl) (fun x h => ⟨h.1, h.2.1, h.2.2.1, h.2.2.2.1, h.2.2.2.2.1⟩)
def lenWf {α : Type} (l : List α) : Prop := l.length ≤ maxLen
theorem flat_nV : ∀ l : List Int, l.flatMap (fun n => [AV.v (.int .i64 n)]) = l.map nV
  | [] => rfl
  | a :: l => by rw [List.flatMap_cons, flat_nV l]; rfl
theorem opens_is : Opens P 22 (fun l : List Int => [iVs l]) lenWf :=
  (opens_slice Try.underlying22 (sz := 1) (by kernel_rfl) (by decide) (opens_int Try.underlying3)).map _ _ (fun l => l) (fun l _ => by unfold iVs; rw [flat_nV]) (fun l h => h.1)
theorem opens_ros : Opens P 23 (fun l : List Ro => [roV l]) lenWf :=
  (opens_slice Try.underlying23 (sz := 5) (by kernel_rfl) (by decide) opens_ro).map _ _ (fun l => l) (fun l _ => rfl) (fun l h => h.1)
def ruWf (r : Ru) : Prop := lenWf r.asks ∧ lenWf r.rows
theorem opens_ru : Opens P 25 ruC ruWf :=
  Opens.map (opens_struct Try.underlying25 (by kernel_rfl) (opensF_cons (sz := 1) rfl (by kernel_rfl) opens_is (opensF_cons (sz := 1) rfl (by kernel_rfl) opens_is (opensF_cons (sz := 1) rfl (by kernel_rfl) opens_is (opensF_cons (sz := 1) rfl (by kernel_rfl) opens_ros opensF_nil)))))
    ruC ruWf (fun x => ⟨x.1, x.2.1, x.2.2.1, x.2.2.2.1⟩) (fun x _ => rfl) (fun x h => ⟨h.1, h.2.2.2.1⟩)
theorem opens_fc : Opens P 28 fcC (fun _ => True) :=
  Opens.map (opens_struct Try.underlying28 (by kernel_rfl) (opensF_cons (sz := 1) rfl (by kernel_rfl) (opens_int Try.underlying3) (opensF_cons (sz := 1) rfl (by kernel_rfl) (opens_bool Try.underlying4) (opensF_cons (sz := 1) rfl (by kernel_rfl) (opens_int Try.underlying3) opensF_nil))))
    fcC (fun _ => True) (fun x => ⟨x.1, x.2.1, x.2.2.1⟩) (fun x _ => rfl) (fun _ _ => trivial)
theorem openV_ros : OpenV P 23 roV lenWf := openV_sl Try.underlying23 opens_ros
theorem openV_ru : OpenV P 25 (fun r : Ru => .agg (ruC r)) ruWf := openV_struct Try.underlying25 opens_ru
theorem openV_fc : OpenV P 28 (fun f : Fc => .agg (fcC f)) (fun _ => True) := openV_struct Try.underlying28 opens_fc
end Go.Aw.T1

