/-
  The statement SectorPlays: any calls of a device, and of its copies, are answered as the document says, without any condition.
-/
import Derived.Test.YtmppkjcldeljbaaSeE
set_option linter.unusedSimpArgs false
set_option linter.unusedVariables false
set_option linter.unusedSimpArgs false
set_option linter.unusedVariables false
namespace Go.Aw.E1
open Go Go.Proofs

/-- an act on a device, but a copy -/
def doF (x : Dd) (a : Ac) : Dd × Int :=
  if a.kind = 0 then writeF x a.at_ (acT a) else if a.kind = 1 then (flushD x, flushE x) else
  if a.kind = 2 then (if x.f then x else if a.n < 1 then x else { x with a := a.n }, if x.f then 20 else if a.n < 1 then 2 else 0) else
  if a.kind = 3 then ({ x with f := true, a := 0 }, 0) else if a.kind = 4 then (bootD a.ch x, 0) else (x, 0)
theorem arm_ok {x : Dd} (h : Dok x) (n : Int) : Dok { x with a := n } := ⟨h.pos, h.le, h.len, h.keys, h.nd⟩
theorem doF_ok {x : Dd} (h : Dok x) (a : Ac) : Dok (doF x a).1 ∧ (doF x a).1.n = x.n := by
  unfold doF
  split
  · exact write_ok h _ _
  split
  · exact flush_ok h
  split
  · dsimp only
    split
    · exact ⟨h, rfl⟩
    · split
      · exact ⟨h, rfl⟩
      · exact ⟨arm_ok h _, rfl⟩
  split
  · exact ⟨off_ok h, rfl⟩
  split
  · have := boot_ok h a.ch; exact ⟨this.1, this.2.1⟩
  · exact ⟨h, rfl⟩

/-- no op is armed, the power is on -/
def Calm (x : Dd) : Prop := x.a = 0 ∧ x.f = false
theorem write_calm {x : Dd} (hx : Dok x) (h : Calm x) (at_ : Int) (s : ByteArray) : Calm (writeF x at_ s).1 := by
  have hs := size_list s
  unfold writeF
  split
  · exact h
  · split
    · exact h
    · split
      · obtain ⟨g1, g2, g3, g4⟩ := wrF_all (s.size / 64) x at_.toNat s.data.toList hx h.1 (by omega) (by omega)
        exact ⟨g2, g3.trans h.2⟩
      · exact h
theorem calm_do {x : Dd} (hx : Dok x) (h : Calm x) {a : Ac} (hk : a.kind = 0 ∨ a.kind = 4) : Calm (doF x a).1 := by
  unfold doF
  rcases hk with hk | hk
  · rw [if_pos hk]; exact write_calm hx h _ _
  · rw [if_neg (by omega), if_neg (by omega), if_neg (by omega), if_neg (by omega), if_pos hk]; exact ⟨rfl, rfl⟩
theorem write_out {x : Dd} (hx : Dok x) (at_ : Int) (s : ByteArray) (j : Nat) (h : at_ < 0 ∨ (j : Int) < at_ ∨ at_ + (s.size / 64 : Nat) ≤ j) :
    nowOf (writeF x at_ s).1 j = nowOf x j ∧ safeOf (writeF x at_ s).1 j = safeOf x j := by
  have hs := size_list s
  unfold writeF
  split
  · exact ⟨rfl, rfl⟩
  · split
    · exact ⟨rfl, rfl⟩
    · split
      · exact wrF_out _ _ _ _ hx (by omega) (by omega) j (by omega)
      · exact ⟨rfl, rfl⟩
/-- an act writes a sector -/
def touch (a : Ac) (j : Nat) : Bool := decide (a.kind = 0) && decide (0 ≤ a.at_) && decide (a.at_ ≤ j) && decide ((j : Int) - a.at_ < a.n)
theorem acT_size (a : Ac) : (acT a).size / 64 = a.n.toNat := by
  unfold acT
  split
  · show 5 / 64 = _; omega
  · unfold fillS; rw [ofL_size, List.length_replicate]; omega
/-- what was flushed, and not written since -/
def Kept (x0 x : Dd) (t : Nat → Bool) : Prop := ∀ j, j < 12 → t j = false → safeOf x j = none ∧ nowOf x j = nowOf x0 j
theorem flush_out (x : Dd) (j : Nat) : nowOf (flushD x) j = nowOf x j ∧ (safeOf (flushD x) j = safeOf x j ∨ safeOf (flushD x) j = none) := by
  unfold flushD
  split
  · exact ⟨rfl, .inl rfl⟩
  · split
    · exact ⟨last_now x j, .inl (last_safe x j)⟩
    · exact ⟨last_now x j, .inr rfl⟩
theorem kept_do {x0 x : Dd} {t : Nat → Bool} (hx : Dok x) (h : Kept x0 x t) (a : Ac) : Kept x0 (doF x a).1 fun j => t j || touch a j := by
  intro j hj ht
  rw [Bool.or_eq_false_iff] at ht
  obtain ⟨h1, h2⟩ := h j hj ht.1
  have ht := ht.2
  unfold doF
  split
  · rename_i hk
    unfold touch at ht
    rw [hk] at ht
    have := write_out hx a.at_ (acT a) j (by
      rw [acT_size]
      simp only [decide_true, Bool.true_and, Bool.and_eq_false_iff, decide_eq_false_iff_not] at ht
      omega)
    exact ⟨this.2.trans h1, this.1.trans h2⟩
  split
  · have := flush_out x j
    refine ⟨?_, this.1.trans h2⟩
    rcases this.2 with g | g
    · exact g.trans h1
    · exact g
  split
  · dsimp only
    split
    · exact ⟨h1, h2⟩
    · split
      · exact ⟨h1, h2⟩
      · exact ⟨h1, h2⟩
  split
  · exact ⟨h1, h2⟩
  split
  · refine ⟨safe_boot hx _ _, ?_⟩
    rw [now_boot hx, h1]
    exact h2
  · exact ⟨h1, h2⟩
end Go.Aw.E1

set_option linter.unusedSimpArgs false
set_option linter.unusedVariables false
set_option maxHeartbeats 1000000
namespace Go.Aw.E1
open Go Go.Proofs

theorem AFin.devT {e : Int} {y : Dd} {bs : List Nat} {ck : Nat} {G : List ABlk} {K : AV → List ABlk → Prop} (h : K (.tup [.ptr 0 0, nV e]) (dvH y bs ck)) : AFin 3 (.tup [.ptr 0 0, nV e]) (dD 1 2 y :: dC y :: dM y bs ck :: G) K := by
  refine AFin.to (.tup [.ptr 0 0, nV e]) (dvH y bs ck) (Conv.ren [0, 1, 2] _ (fun _ h => three h) (by decide) (Fit.refl _) ?_) h
  refine .same ?_ (.same ?_ (.same ?_ .nil))
  · rw [dD_ren]; rfl
  · rw [dC_ren]; rfl
  · rw [dM_ren]; rfl
theorem acT_le (a : Ac) (hn : a.n ≤ 100) : (acT a).size ≤ 9223372036854775807 := by
  unfold acT
  split
  · show 5 ≤ _; omega
  · unfold fillS; rw [ofL_size, List.length_replicate]; omega
theorem f20 (x : Dd) (hx : Dok x) (a : Ac) (ha : acWf a) (hn : a.n ≤ 100) (hk : a.ch.keep.length ≤ 3000) (h5 : a.kind ≠ 5) (bs : List Nat) (ck : Nat) :
    Spec P 20 [.ptr 0 0, .agg (acC a)] (dvH x bs ck) fun r H' => ∃ bs' ck', r = .tup [.ptr 0 0, nV (doF x a).2] ∧ H' = dvH (doF x a).1 bs' ck' := by
  obtain ⟨kd, at_, n, b, ch⟩ := a
  have h5 : kd ≠ 5 := h5
  have hn : n ≤ 100 := hn
  have hk : ch.keep.length ≤ 3000 := hk
  have h35 := f35 ⟨kd, at_, n, b, ch⟩ (by show n ≤ 1000000; omega)
  have hts := acT_le ⟨kd, at_, n, b, ch⟩ hn
  have hke : kd = 0 ∨ kd = 1 ∨ kd = 2 ∨ kd = 3 ∨ kd = 4 ∨ (kd ≠ 0 ∧ kd ≠ 1 ∧ kd ≠ 2 ∧ kd ≠ 3 ∧ kd ≠ 4) := by omega
  refine spec_of hT (f := 20) (fn := Go.Proofs.Try.f20) (c := body Go.Proofs.Try.f20) (by kernel_rfl) (by kernel_rfl) ?_
  rcases hke with rfl | rfl | rfl | rfl | rfl | ⟨k0, k1, k2, k3, k4⟩
  · conv => whnf
    repeat ((first | refine AW.plan (id := 3) hm (.one 0 (.one 1 (.one 2 (.one 4 (.imm 3 (.one 5 (.one 6 (.one 7 (.one 8 .nil))))))))) (by kernel_rfl) ?_ | refine AO.cons hT ?_ | refine AO.nil ?_ | refine AW.cond ?_ | refine AW.block ?_ | refine AW.loop ?_ | refine AW.skip ?_ | refine AW.exit ?_ | refine AW.ret ?_ | refine AF.one hT rfl ?_ | refine AF.nil ?_ | refine AF.imm hT rfl rfl rfl ?_ | refine AH.of hT rfl ?_ | refine AD.cons hT rfl ?_ | refine AD.nil ?_ | refine AQ.cons hT rfl ?_ | refine AQ.nil ?_); conv => whnf)
    refine AW.seq ?_
    conv => whnf
    refine AW.region ?_
    conv => whnf
    repeat ((first | refine AW.plan (id := 3) hm (.one 0 (.one 1 (.one 2 (.one 4 (.imm 3 (.one 5 (.one 6 (.one 7 (.one 8 .nil))))))))) (by kernel_rfl) ?_ | refine AO.cons hT ?_ | refine AO.nil ?_ | refine AW.cond ?_ | refine AW.block ?_ | refine AW.loop ?_ | refine AW.skip ?_ | refine AW.exit ?_ | refine AW.ret ?_ | refine AF.one hT rfl ?_ | refine AF.nil ?_ | refine AF.imm hT rfl rfl rfl ?_ | refine AH.of hT rfl ?_ | refine AD.cons hT rfl ?_ | refine AD.nil ?_ | refine AQ.cons hT rfl ?_ | refine AQ.nil ?_); conv => whnf)
    refine AW.conv _ _ (Conv.freeze 3 (t := 50) (cs := acC ⟨0, at_, n, b, ch⟩) rfl) ?_
    conv => whnf
    repeat (first | (refine AW.plan (id := 3) hm (.one 0 (.one 1 (.one 2 (.one 4 (.imm 3 (.one 5 (.one 6 (.one 7 (.one 8 .nil))))))))) (by kernel_rfl) ?_; conv => whnf) | (refine AO.cons hT ?_; conv => whnf) | (refine AO.nil ?_; conv => whnf) | (refine AW.seq ?_; conv => whnf) | (refine AW.region ?_; conv => whnf) | (refine AW.cond ?_; conv => whnf) | (refine AW.block ?_; conv => whnf) | (refine AW.loop ?_; conv => whnf) | (refine AW.skip ?_; conv => whnf) | (refine AW.exit ?_; conv => whnf) | (refine AW.ret ?_; conv => whnf) | (refine AF.one hT rfl ?_; conv => whnf) | (refine AF.nil ?_; conv => whnf) | (refine AF.imm hT rfl rfl rfl ?_; conv => whnf) | (refine AH.of hT rfl ?_; conv => whnf) | (refine ASplit.yes rfl ?_; conv => whnf) | (refine ACond.yes rfl ?_; conv => whnf) | (refine ASplit.no rfl ?_; conv => whnf) | (refine ACond.no rfl ?_; conv => whnf) | (refine ASplit.yes (by decide) ?_; conv => whnf) | (refine ACond.yes (by decide) ?_; conv => whnf) | (refine AReq.mk (by decide) ?_; conv => whnf) | (refine AIdx.iff.2 ⟨by decide, ?_⟩; conv => whnf))
    refine ACall.val (by kernel_rfl) h35 (show renL _ [AV.agg (acC ⟨0, at_, n, b, ch⟩)] = [AV.agg (acC ⟨0, at_, n, b, ch⟩)] by simp only [renL, AV.ren, acC_ren]) rfl ?_
    conv => whnf
    repeat (first | (refine AW.plan (id := 3) hm (.one 0 (.one 1 (.one 2 (.one 4 (.imm 3 (.one 5 (.one 6 (.one 7 (.one 8 .nil))))))))) (by kernel_rfl) ?_; conv => whnf) | (refine AO.cons hT ?_; conv => whnf) | (refine AO.nil ?_; conv => whnf) | (refine AW.seq ?_; conv => whnf) | (refine AW.region ?_; conv => whnf) | (refine AW.cond ?_; conv => whnf) | (refine AW.block ?_; conv => whnf) | (refine AW.loop ?_; conv => whnf) | (refine AW.skip ?_; conv => whnf) | (refine AW.exit ?_; conv => whnf) | (refine AW.ret ?_; conv => whnf) | (refine AF.one hT rfl ?_; conv => whnf) | (refine AF.nil ?_; conv => whnf) | (refine AF.imm hT rfl rfl rfl ?_; conv => whnf) | (refine AH.of hT rfl ?_; conv => whnf) | (refine ASplit.yes rfl ?_; conv => whnf) | (refine ACond.yes rfl ?_; conv => whnf) | (refine ASplit.no rfl ?_; conv => whnf) | (refine ACond.no rfl ?_; conv => whnf) | (refine ASplit.yes (by decide) ?_; conv => whnf) | (refine ACond.yes (by decide) ?_; conv => whnf) | (refine AReq.mk (by decide) ?_; conv => whnf) | (refine AIdx.iff.2 ⟨by decide, ?_⟩; conv => whnf))
    refine ACall.dev (by kernel_rfl) (f10 x hx at_ (acT ⟨0, at_, n, b, ch⟩) ha.2.1 hts) rfl rfl rfl (by decide) (fun _ => rfl) (by rintro _ _ ⟨rfl, _⟩ _; rfl) ?_
    rintro _ y bs1 ck1 ⟨rfl, rfl⟩
    simp only [List.set_cons_zero, List.set_cons_succ]
    conv => whnf
    repeat (first | (refine AW.plan (id := 3) hm (.one 0 (.one 1 (.one 2 (.one 4 (.imm 3 (.one 5 (.one 6 (.one 7 (.one 8 .nil))))))))) (by kernel_rfl) ?_; conv => whnf) | (refine AO.cons hT ?_; conv => whnf) | (refine AO.nil ?_; conv => whnf) | (refine AW.seq ?_; conv => whnf) | (refine AW.region ?_; conv => whnf) | (refine AW.cond ?_; conv => whnf) | (refine AW.block ?_; conv => whnf) | (refine AW.loop ?_; conv => whnf) | (refine AW.skip ?_; conv => whnf) | (refine AW.exit ?_; conv => whnf) | (refine AW.ret ?_; conv => whnf) | (refine AF.one hT rfl ?_; conv => whnf) | (refine AF.nil ?_; conv => whnf) | (refine AF.imm hT rfl rfl rfl ?_; conv => whnf) | (refine AH.of hT rfl ?_; conv => whnf) | (refine ASplit.yes rfl ?_; conv => whnf) | (refine ACond.yes rfl ?_; conv => whnf) | (refine ASplit.no rfl ?_; conv => whnf) | (refine ACond.no rfl ?_; conv => whnf) | (refine ASplit.yes (by decide) ?_; conv => whnf) | (refine ACond.yes (by decide) ?_; conv => whnf) | (refine AReq.mk (by decide) ?_; conv => whnf) | (refine AIdx.iff.2 ⟨by decide, ?_⟩; conv => whnf))
    exact AFin.devT ⟨_, _, rfl, rfl⟩
  · conv => whnf
    repeat (first | (refine AW.plan (id := 3) hm (.one 0 (.one 1 (.one 2 (.one 4 (.imm 3 (.one 5 (.one 6 (.one 7 (.one 8 .nil))))))))) (by kernel_rfl) ?_; conv => whnf) | (refine AO.cons hT ?_; conv => whnf) | (refine AO.nil ?_; conv => whnf) | (refine AW.seq ?_; conv => whnf) | (refine AW.region ?_; conv => whnf) | (refine AW.cond ?_; conv => whnf) | (refine AW.block ?_; conv => whnf) | (refine AW.loop ?_; conv => whnf) | (refine AW.skip ?_; conv => whnf) | (refine AW.exit ?_; conv => whnf) | (refine AW.ret ?_; conv => whnf) | (refine AF.one hT rfl ?_; conv => whnf) | (refine AF.nil ?_; conv => whnf) | (refine AF.imm hT rfl rfl rfl ?_; conv => whnf) | (refine AH.of hT rfl ?_; conv => whnf) | (refine ASplit.yes rfl ?_; conv => whnf) | (refine ACond.yes rfl ?_; conv => whnf) | (refine ASplit.no rfl ?_; conv => whnf) | (refine ACond.no rfl ?_; conv => whnf) | (refine ASplit.yes (by decide) ?_; conv => whnf) | (refine ACond.yes (by decide) ?_; conv => whnf) | (refine AReq.mk (by decide) ?_; conv => whnf) | (refine AIdx.iff.2 ⟨by decide, ?_⟩; conv => whnf))
    refine ACall.dev (by kernel_rfl) (f11 x hx.pos) rfl rfl rfl (by decide) (fun _ => rfl) (by rintro _ _ ⟨rfl, _⟩ _; rfl) ?_
    rintro _ y bs1 ck1 ⟨rfl, rfl⟩
    simp only [List.set_cons_zero, List.set_cons_succ]
    conv => whnf
    repeat (first | (refine AW.plan (id := 3) hm (.one 0 (.one 1 (.one 2 (.one 4 (.imm 3 (.one 5 (.one 6 (.one 7 (.one 8 .nil))))))))) (by kernel_rfl) ?_; conv => whnf) | (refine AO.cons hT ?_; conv => whnf) | (refine AO.nil ?_; conv => whnf) | (refine AW.seq ?_; conv => whnf) | (refine AW.region ?_; conv => whnf) | (refine AW.cond ?_; conv => whnf) | (refine AW.block ?_; conv => whnf) | (refine AW.loop ?_; conv => whnf) | (refine AW.skip ?_; conv => whnf) | (refine AW.exit ?_; conv => whnf) | (refine AW.ret ?_; conv => whnf) | (refine AF.one hT rfl ?_; conv => whnf) | (refine AF.nil ?_; conv => whnf) | (refine AF.imm hT rfl rfl rfl ?_; conv => whnf) | (refine AH.of hT rfl ?_; conv => whnf) | (refine ASplit.yes rfl ?_; conv => whnf) | (refine ACond.yes rfl ?_; conv => whnf) | (refine ASplit.no rfl ?_; conv => whnf) | (refine ACond.no rfl ?_; conv => whnf) | (refine ASplit.yes (by decide) ?_; conv => whnf) | (refine ACond.yes (by decide) ?_; conv => whnf) | (refine AReq.mk (by decide) ?_; conv => whnf) | (refine AIdx.iff.2 ⟨by decide, ?_⟩; conv => whnf))
    exact AFin.devT ⟨_, _, rfl, rfl⟩
  · conv => whnf
    repeat (first | (refine AW.plan (id := 3) hm (.one 0 (.one 1 (.one 2 (.one 4 (.imm 3 (.one 5 (.one 6 (.one 7 (.one 8 .nil))))))))) (by kernel_rfl) ?_; conv => whnf) | (refine AO.cons hT ?_; conv => whnf) | (refine AO.nil ?_; conv => whnf) | (refine AW.seq ?_; conv => whnf) | (refine AW.region ?_; conv => whnf) | (refine AW.cond ?_; conv => whnf) | (refine AW.block ?_; conv => whnf) | (refine AW.loop ?_; conv => whnf) | (refine AW.skip ?_; conv => whnf) | (refine AW.exit ?_; conv => whnf) | (refine AW.ret ?_; conv => whnf) | (refine AF.one hT rfl ?_; conv => whnf) | (refine AF.nil ?_; conv => whnf) | (refine AF.imm hT rfl rfl rfl ?_; conv => whnf) | (refine AH.of hT rfl ?_; conv => whnf) | (refine ASplit.yes rfl ?_; conv => whnf) | (refine ACond.yes rfl ?_; conv => whnf) | (refine ASplit.no rfl ?_; conv => whnf) | (refine ACond.no rfl ?_; conv => whnf) | (refine ASplit.yes (by decide) ?_; conv => whnf) | (refine ACond.yes (by decide) ?_; conv => whnf) | (refine AReq.mk (by decide) ?_; conv => whnf) | (refine AIdx.iff.2 ⟨by decide, ?_⟩; conv => whnf))
    refine ACall.dev (by kernel_rfl) (f40 x n hx.pos) rfl rfl rfl (by decide) (fun _ => rfl) (by rintro _ _ ⟨rfl, _⟩ _; rfl) ?_
    rintro _ y bs1 ck1 ⟨rfl, rfl⟩
    simp only [List.set_cons_zero, List.set_cons_succ]
    conv => whnf
    repeat (first | (refine AW.plan (id := 3) hm (.one 0 (.one 1 (.one 2 (.one 4 (.imm 3 (.one 5 (.one 6 (.one 7 (.one 8 .nil))))))))) (by kernel_rfl) ?_; conv => whnf) | (refine AO.cons hT ?_; conv => whnf) | (refine AO.nil ?_; conv => whnf) | (refine AW.seq ?_; conv => whnf) | (refine AW.region ?_; conv => whnf) | (refine AW.cond ?_; conv => whnf) | (refine AW.block ?_; conv => whnf) | (refine AW.loop ?_; conv => whnf) | (refine AW.skip ?_; conv => whnf) | (refine AW.exit ?_; conv => whnf) | (refine AW.ret ?_; conv => whnf) | (refine AF.one hT rfl ?_; conv => whnf) | (refine AF.nil ?_; conv => whnf) | (refine AF.imm hT rfl rfl rfl ?_; conv => whnf) | (refine AH.of hT rfl ?_; conv => whnf) | (refine ASplit.yes rfl ?_; conv => whnf) | (refine ACond.yes rfl ?_; conv => whnf) | (refine ASplit.no rfl ?_; conv => whnf) | (refine ACond.no rfl ?_; conv => whnf) | (refine ASplit.yes (by decide) ?_; conv => whnf) | (refine ACond.yes (by decide) ?_; conv => whnf) | (refine AReq.mk (by decide) ?_; conv => whnf) | (refine AIdx.iff.2 ⟨by decide, ?_⟩; conv => whnf))
    exact AFin.devT ⟨_, _, rfl, rfl⟩
  · conv => whnf
    repeat (first | (refine AW.plan (id := 3) hm (.one 0 (.one 1 (.one 2 (.one 4 (.imm 3 (.one 5 (.one 6 (.one 7 (.one 8 .nil))))))))) (by kernel_rfl) ?_; conv => whnf) | (refine AO.cons hT ?_; conv => whnf) | (refine AO.nil ?_; conv => whnf) | (refine AW.seq ?_; conv => whnf) | (refine AW.region ?_; conv => whnf) | (refine AW.cond ?_; conv => whnf) | (refine AW.block ?_; conv => whnf) | (refine AW.loop ?_; conv => whnf) | (refine AW.skip ?_; conv => whnf) | (refine AW.exit ?_; conv => whnf) | (refine AW.ret ?_; conv => whnf) | (refine AF.one hT rfl ?_; conv => whnf) | (refine AF.nil ?_; conv => whnf) | (refine AF.imm hT rfl rfl rfl ?_; conv => whnf) | (refine AH.of hT rfl ?_; conv => whnf) | (refine ASplit.yes rfl ?_; conv => whnf) | (refine ACond.yes rfl ?_; conv => whnf) | (refine ASplit.no rfl ?_; conv => whnf) | (refine ACond.no rfl ?_; conv => whnf) | (refine ASplit.yes (by decide) ?_; conv => whnf) | (refine ACond.yes (by decide) ?_; conv => whnf) | (refine AReq.mk (by decide) ?_; conv => whnf) | (refine AIdx.iff.2 ⟨by decide, ?_⟩; conv => whnf))
    refine ACall.dev (by kernel_rfl) (f12 x hx.pos) rfl rfl rfl (by decide) (fun _ => rfl) (by rintro _ _ ⟨rfl, _⟩ _; rfl) ?_
    rintro _ y bs1 ck1 ⟨rfl, rfl⟩
    simp only [List.set_cons_zero, List.set_cons_succ]
    conv => whnf
    repeat (first | (refine AW.plan (id := 3) hm (.one 0 (.one 1 (.one 2 (.one 4 (.imm 3 (.one 5 (.one 6 (.one 7 (.one 8 .nil))))))))) (by kernel_rfl) ?_; conv => whnf) | (refine AO.cons hT ?_; conv => whnf) | (refine AO.nil ?_; conv => whnf) | (refine AW.seq ?_; conv => whnf) | (refine AW.region ?_; conv => whnf) | (refine AW.cond ?_; conv => whnf) | (refine AW.block ?_; conv => whnf) | (refine AW.loop ?_; conv => whnf) | (refine AW.skip ?_; conv => whnf) | (refine AW.exit ?_; conv => whnf) | (refine AW.ret ?_; conv => whnf) | (refine AF.one hT rfl ?_; conv => whnf) | (refine AF.nil ?_; conv => whnf) | (refine AF.imm hT rfl rfl rfl ?_; conv => whnf) | (refine AH.of hT rfl ?_; conv => whnf) | (refine ASplit.yes rfl ?_; conv => whnf) | (refine ACond.yes rfl ?_; conv => whnf) | (refine ASplit.no rfl ?_; conv => whnf) | (refine ACond.no rfl ?_; conv => whnf) | (refine ASplit.yes (by decide) ?_; conv => whnf) | (refine ACond.yes (by decide) ?_; conv => whnf) | (refine AReq.mk (by decide) ?_; conv => whnf) | (refine AIdx.iff.2 ⟨by decide, ?_⟩; conv => whnf))
    exact AFin.devT ⟨_, _, rfl, rfl⟩
  · conv => whnf
    repeat (first | (refine AW.plan (id := 3) hm (.one 0 (.one 1 (.one 2 (.one 4 (.imm 3 (.one 5 (.one 6 (.one 7 (.one 8 .nil))))))))) (by kernel_rfl) ?_; conv => whnf) | (refine AO.cons hT ?_; conv => whnf) | (refine AO.nil ?_; conv => whnf) | (refine AW.seq ?_; conv => whnf) | (refine AW.region ?_; conv => whnf) | (refine AW.cond ?_; conv => whnf) | (refine AW.block ?_; conv => whnf) | (refine AW.loop ?_; conv => whnf) | (refine AW.skip ?_; conv => whnf) | (refine AW.exit ?_; conv => whnf) | (refine AW.ret ?_; conv => whnf) | (refine AF.one hT rfl ?_; conv => whnf) | (refine AF.nil ?_; conv => whnf) | (refine AF.imm hT rfl rfl rfl ?_; conv => whnf) | (refine AH.of hT rfl ?_; conv => whnf) | (refine ASplit.yes rfl ?_; conv => whnf) | (refine ACond.yes rfl ?_; conv => whnf) | (refine ASplit.no rfl ?_; conv => whnf) | (refine ACond.no rfl ?_; conv => whnf) | (refine ASplit.yes (by decide) ?_; conv => whnf) | (refine ACond.yes (by decide) ?_; conv => whnf) | (refine AReq.mk (by decide) ?_; conv => whnf) | (refine AIdx.iff.2 ⟨by decide, ?_⟩; conv => whnf))
    refine ACall.devL (by kernel_rfl) (f14 x hx ch (by omega)) rfl rfl rfl (by decide) (.cons (.same (show _ = AV.ren _ (.agg (chC ch)) by simp only [AV.ren, chC_ren]; rfl)) .nil) (by rintro _ _ ⟨rfl, _⟩ _; rfl) ?_
    rintro _ y bs1 ck1 ⟨rfl, rfl⟩
    simp only [List.set_cons_zero, List.set_cons_succ]
    conv => whnf
    repeat (first | (refine AW.plan (id := 3) hm (.one 0 (.one 1 (.one 2 (.one 4 (.imm 3 (.one 5 (.one 6 (.one 7 (.one 8 .nil))))))))) (by kernel_rfl) ?_; conv => whnf) | (refine AO.cons hT ?_; conv => whnf) | (refine AO.nil ?_; conv => whnf) | (refine AW.seq ?_; conv => whnf) | (refine AW.region ?_; conv => whnf) | (refine AW.cond ?_; conv => whnf) | (refine AW.block ?_; conv => whnf) | (refine AW.loop ?_; conv => whnf) | (refine AW.skip ?_; conv => whnf) | (refine AW.exit ?_; conv => whnf) | (refine AW.ret ?_; conv => whnf) | (refine AF.one hT rfl ?_; conv => whnf) | (refine AF.nil ?_; conv => whnf) | (refine AF.imm hT rfl rfl rfl ?_; conv => whnf) | (refine AH.of hT rfl ?_; conv => whnf) | (refine ASplit.yes rfl ?_; conv => whnf) | (refine ACond.yes rfl ?_; conv => whnf) | (refine ASplit.no rfl ?_; conv => whnf) | (refine ACond.no rfl ?_; conv => whnf) | (refine ASplit.yes (by decide) ?_; conv => whnf) | (refine ACond.yes (by decide) ?_; conv => whnf) | (refine AReq.mk (by decide) ?_; conv => whnf) | (refine AIdx.iff.2 ⟨by decide, ?_⟩; conv => whnf))
    exact AFin.devT ⟨_, _, rfl, rfl⟩
  · have e : doF x ⟨kd, at_, n, b, ch⟩ = (x, 0) := by
      unfold doF
      simp only [k0, k1, k2, k3, k4, if_false]
    rw [e]
    conv => whnf
    repeat (first | (refine AW.plan (id := 3) hm (.one 0 (.one 1 (.one 2 (.one 4 (.imm 3 (.one 5 (.one 6 (.one 7 (.one 8 .nil))))))))) (by kernel_rfl) ?_; conv => whnf) | (refine AO.cons hT ?_; conv => whnf) | (refine AO.nil ?_; conv => whnf) | (refine AW.seq ?_; conv => whnf) | (refine AW.region ?_; conv => whnf) | (refine AW.cond ?_; conv => whnf) | (refine AW.block ?_; conv => whnf) | (refine AW.loop ?_; conv => whnf) | (refine AW.skip ?_; conv => whnf) | (refine AW.exit ?_; conv => whnf) | (refine AW.ret ?_; conv => whnf) | (refine AF.one hT rfl ?_; conv => whnf) | (refine AF.nil ?_; conv => whnf) | (refine AF.imm hT rfl rfl rfl ?_; conv => whnf) | (refine AH.of hT rfl ?_; conv => whnf) | (refine ASplit.yes rfl ?_; conv => whnf) | (refine ACond.yes rfl ?_; conv => whnf) | (refine ASplit.no rfl ?_; conv => whnf) | (refine ACond.no rfl ?_; conv => whnf) | (refine ASplit.yes (by decide) ?_; conv => whnf) | (refine ACond.yes (by decide) ?_; conv => whnf) | (refine AReq.mk (by decide) ?_; conv => whnf) | (refine AIdx.iff.2 ⟨by decide, ?_⟩; conv => whnf))
    refine ACond.no (decide_eq_false k0) ?_
    conv => whnf
    repeat (first | (refine AW.plan (id := 3) hm (.one 0 (.one 1 (.one 2 (.one 4 (.imm 3 (.one 5 (.one 6 (.one 7 (.one 8 .nil))))))))) (by kernel_rfl) ?_; conv => whnf) | (refine AO.cons hT ?_; conv => whnf) | (refine AO.nil ?_; conv => whnf) | (refine AW.seq ?_; conv => whnf) | (refine AW.region ?_; conv => whnf) | (refine AW.cond ?_; conv => whnf) | (refine AW.block ?_; conv => whnf) | (refine AW.loop ?_; conv => whnf) | (refine AW.skip ?_; conv => whnf) | (refine AW.exit ?_; conv => whnf) | (refine AW.ret ?_; conv => whnf) | (refine AF.one hT rfl ?_; conv => whnf) | (refine AF.nil ?_; conv => whnf) | (refine AF.imm hT rfl rfl rfl ?_; conv => whnf) | (refine AH.of hT rfl ?_; conv => whnf) | (refine ASplit.yes rfl ?_; conv => whnf) | (refine ACond.yes rfl ?_; conv => whnf) | (refine ASplit.no rfl ?_; conv => whnf) | (refine ACond.no rfl ?_; conv => whnf) | (refine ASplit.yes (by decide) ?_; conv => whnf) | (refine ACond.yes (by decide) ?_; conv => whnf) | (refine AReq.mk (by decide) ?_; conv => whnf) | (refine AIdx.iff.2 ⟨by decide, ?_⟩; conv => whnf))
    refine ACond.no (decide_eq_false k1) ?_
    conv => whnf
    repeat (first | (refine AW.plan (id := 3) hm (.one 0 (.one 1 (.one 2 (.one 4 (.imm 3 (.one 5 (.one 6 (.one 7 (.one 8 .nil))))))))) (by kernel_rfl) ?_; conv => whnf) | (refine AO.cons hT ?_; conv => whnf) | (refine AO.nil ?_; conv => whnf) | (refine AW.seq ?_; conv => whnf) | (refine AW.region ?_; conv => whnf) | (refine AW.cond ?_; conv => whnf) | (refine AW.block ?_; conv => whnf) | (refine AW.loop ?_; conv => whnf) | (refine AW.skip ?_; conv => whnf) | (refine AW.exit ?_; conv => whnf) | (refine AW.ret ?_; conv => whnf) | (refine AF.one hT rfl ?_; conv => whnf) | (refine AF.nil ?_; conv => whnf) | (refine AF.imm hT rfl rfl rfl ?_; conv => whnf) | (refine AH.of hT rfl ?_; conv => whnf) | (refine ASplit.yes rfl ?_; conv => whnf) | (refine ACond.yes rfl ?_; conv => whnf) | (refine ASplit.no rfl ?_; conv => whnf) | (refine ACond.no rfl ?_; conv => whnf) | (refine ASplit.yes (by decide) ?_; conv => whnf) | (refine ACond.yes (by decide) ?_; conv => whnf) | (refine AReq.mk (by decide) ?_; conv => whnf) | (refine AIdx.iff.2 ⟨by decide, ?_⟩; conv => whnf))
    refine ACond.no (decide_eq_false k2) ?_
    conv => whnf
    repeat (first | (refine AW.plan (id := 3) hm (.one 0 (.one 1 (.one 2 (.one 4 (.imm 3 (.one 5 (.one 6 (.one 7 (.one 8 .nil))))))))) (by kernel_rfl) ?_; conv => whnf) | (refine AO.cons hT ?_; conv => whnf) | (refine AO.nil ?_; conv => whnf) | (refine AW.seq ?_; conv => whnf) | (refine AW.region ?_; conv => whnf) | (refine AW.cond ?_; conv => whnf) | (refine AW.block ?_; conv => whnf) | (refine AW.loop ?_; conv => whnf) | (refine AW.skip ?_; conv => whnf) | (refine AW.exit ?_; conv => whnf) | (refine AW.ret ?_; conv => whnf) | (refine AF.one hT rfl ?_; conv => whnf) | (refine AF.nil ?_; conv => whnf) | (refine AF.imm hT rfl rfl rfl ?_; conv => whnf) | (refine AH.of hT rfl ?_; conv => whnf) | (refine ASplit.yes rfl ?_; conv => whnf) | (refine ACond.yes rfl ?_; conv => whnf) | (refine ASplit.no rfl ?_; conv => whnf) | (refine ACond.no rfl ?_; conv => whnf) | (refine ASplit.yes (by decide) ?_; conv => whnf) | (refine ACond.yes (by decide) ?_; conv => whnf) | (refine AReq.mk (by decide) ?_; conv => whnf) | (refine AIdx.iff.2 ⟨by decide, ?_⟩; conv => whnf))
    refine ACond.no (decide_eq_false k3) ?_
    conv => whnf
    repeat (first | (refine AW.plan (id := 3) hm (.one 0 (.one 1 (.one 2 (.one 4 (.imm 3 (.one 5 (.one 6 (.one 7 (.one 8 .nil))))))))) (by kernel_rfl) ?_; conv => whnf) | (refine AO.cons hT ?_; conv => whnf) | (refine AO.nil ?_; conv => whnf) | (refine AW.seq ?_; conv => whnf) | (refine AW.region ?_; conv => whnf) | (refine AW.cond ?_; conv => whnf) | (refine AW.block ?_; conv => whnf) | (refine AW.loop ?_; conv => whnf) | (refine AW.skip ?_; conv => whnf) | (refine AW.exit ?_; conv => whnf) | (refine AW.ret ?_; conv => whnf) | (refine AF.one hT rfl ?_; conv => whnf) | (refine AF.nil ?_; conv => whnf) | (refine AF.imm hT rfl rfl rfl ?_; conv => whnf) | (refine AH.of hT rfl ?_; conv => whnf) | (refine ASplit.yes rfl ?_; conv => whnf) | (refine ACond.yes rfl ?_; conv => whnf) | (refine ASplit.no rfl ?_; conv => whnf) | (refine ACond.no rfl ?_; conv => whnf) | (refine ASplit.yes (by decide) ?_; conv => whnf) | (refine ACond.yes (by decide) ?_; conv => whnf) | (refine AReq.mk (by decide) ?_; conv => whnf) | (refine AIdx.iff.2 ⟨by decide, ?_⟩; conv => whnf))
    refine ACond.no (decide_eq_false k4) ?_
    conv => whnf
    repeat (first | (refine AW.plan (id := 3) hm (.one 0 (.one 1 (.one 2 (.one 4 (.imm 3 (.one 5 (.one 6 (.one 7 (.one 8 .nil))))))))) (by kernel_rfl) ?_; conv => whnf) | (refine AO.cons hT ?_; conv => whnf) | (refine AO.nil ?_; conv => whnf) | (refine AW.seq ?_; conv => whnf) | (refine AW.region ?_; conv => whnf) | (refine AW.cond ?_; conv => whnf) | (refine AW.block ?_; conv => whnf) | (refine AW.loop ?_; conv => whnf) | (refine AW.skip ?_; conv => whnf) | (refine AW.exit ?_; conv => whnf) | (refine AW.ret ?_; conv => whnf) | (refine AF.one hT rfl ?_; conv => whnf) | (refine AF.nil ?_; conv => whnf) | (refine AF.imm hT rfl rfl rfl ?_; conv => whnf) | (refine AH.of hT rfl ?_; conv => whnf) | (refine ASplit.yes rfl ?_; conv => whnf) | (refine ACond.yes rfl ?_; conv => whnf) | (refine ASplit.no rfl ?_; conv => whnf) | (refine ACond.no rfl ?_; conv => whnf) | (refine ASplit.yes (by decide) ?_; conv => whnf) | (refine ACond.yes (by decide) ?_; conv => whnf) | (refine AReq.mk (by decide) ?_; conv => whnf) | (refine AIdx.iff.2 ⟨by decide, ?_⟩; conv => whnf))
    refine ACond.no (decide_eq_false h5) ?_
    conv => whnf
    repeat (first | (refine AW.plan (id := 3) hm (.one 0 (.one 1 (.one 2 (.one 4 (.imm 3 (.one 5 (.one 6 (.one 7 (.one 8 .nil))))))))) (by kernel_rfl) ?_; conv => whnf) | (refine AO.cons hT ?_; conv => whnf) | (refine AO.nil ?_; conv => whnf) | (refine AW.seq ?_; conv => whnf) | (refine AW.region ?_; conv => whnf) | (refine AW.cond ?_; conv => whnf) | (refine AW.block ?_; conv => whnf) | (refine AW.loop ?_; conv => whnf) | (refine AW.skip ?_; conv => whnf) | (refine AW.exit ?_; conv => whnf) | (refine AW.ret ?_; conv => whnf) | (refine AF.one hT rfl ?_; conv => whnf) | (refine AF.nil ?_; conv => whnf) | (refine AF.imm hT rfl rfl rfl ?_; conv => whnf) | (refine AH.of hT rfl ?_; conv => whnf) | (refine ASplit.yes rfl ?_; conv => whnf) | (refine ACond.yes rfl ?_; conv => whnf) | (refine ASplit.no rfl ?_; conv => whnf) | (refine ACond.no rfl ?_; conv => whnf) | (refine ASplit.yes (by decide) ?_; conv => whnf) | (refine ACond.yes (by decide) ?_; conv => whnf) | (refine AReq.mk (by decide) ?_; conv => whnf) | (refine AIdx.iff.2 ⟨by decide, ?_⟩; conv => whnf))
    exact AFin.devT ⟨_, _, rfl, rfl⟩
theorem ACall.doD {H : List ABlk} {K : AV → List ABlk → Prop} {x : Dd} {l lc lm : Nat} {bs : List Nat} {ck : Nat} (hx : Dok x) (a : Ac) (ha : acWf a) (hn : a.n ≤ 100) (hk : a.ch.keep.length ≤ 3000) (h5 : a.kind ≠ 5)
    (h1 : H[l]? = some (dD lc lm x)) (h2 : H[lc]? = some (dC x)) (h3 : H[lm]? = some (dM x bs ck)) (hnd : [l, lc, lm].Nodup)
    (k : ∀ bs' ck', K (.tup [.ptr l 0, nV (doF x a).2]) (((H.set l (dD lc lm (doF x a).1)).set lc (dC (doF x a).1)).set lm (dM (doF x a).1 bs' ck'))) : ACall P 20 [.ptr l 0, .agg (acC a)] H K := by
  refine ACall.of (by kernel_rfl) (f20 x hx a ha hn hk h5 bs ck) [l, lc, lm] [] hnd ?_ (by simp) (by simp) (.cons (.same rfl) (.cons (.same (by simp only [AV.ren, acC_ren])) .nil)) (.inl rfl) ?_
  · refine .same ?_ (.same ?_ (.same ?_ .nil))
    · rw [h1, dD_ren]; rfl
    · rw [h2, dC_ren]
    · rw [h3, dM_ren]
  · rintro r _ ⟨bs', ck', rfl, rfl⟩
    have := k bs' ck'
    simp only [dvH, mergeH, dD_ren, dC_ren, dM_ren, List.map_nil, List.append_nil]
    exact this
end Go.Aw.E1

