/-
  The statement SectorPlays: any calls of a device, and of its copies, are answered as the document says, without any condition.
-/
import Derived.Test.YtmppkjcldeljbaaSeH
import Derived.Test.YtmppkjcldeljbaaSeD
import Derived.Test.YtmppkjcldeljbaaAwG
import Derived.Test.YtmppkjcldeljbaaRows
set_option linter.unusedSimpArgs false
set_option linter.unusedVariables false
set_option linter.unusedSimpArgs false
set_option linter.unusedVariables false
set_option maxHeartbeats 2000000
set_option maxRecDepth 20000
namespace Go.Aw.E1
open Go Go.Proofs

theorem f20c (x : Dd) (hx : Dok x) (a : Ac) (h5 : a.kind = 5) (bs : List Nat) (ck : Nat) :
    Spec P 20 [.ptr 0 0, .agg (acC a)] (dvH x bs ck) fun r H' => ∃ bs1 ck1 bs2 ck2, r = .tup [.ptr 3 0, nV 0] ∧ H' = cpH x bs1 ck1 bs2 ck2 := by
  obtain ⟨kd, at_, n, b, ch⟩ := a
  obtain rfl : kd = 5 := h5
  refine spec_of hT (f := 20) (fn := Go.Proofs.Try.f20) (c := body Go.Proofs.Try.f20) (by kernel_rfl) (by kernel_rfl) ?_
  conv => whnf
  repeat (first | (refine AW.plan (id := 3) hm (.one 0 (.one 1 (.one 2 (.one 4 (.imm 3 (.one 5 (.one 6 (.one 7 (.one 8 .nil))))))))) (by kernel_rfl) ?_; conv => whnf) | (refine AW.label ?_; conv => whnf) | (refine AW.scope ?_; conv => whnf) | (refine AO.cons hT ?_; conv => whnf) | (refine AO.nil ?_; conv => whnf) | (refine AW.seq ?_; conv => whnf) | (refine AW.region ?_; conv => whnf) | (refine AW.cond ?_; conv => whnf) | (refine AW.block ?_; conv => whnf) | (refine AW.loop ?_; conv => whnf) | (refine AW.skip ?_; conv => whnf) | (refine AW.exit ?_; conv => whnf) | (refine AW.ret ?_; conv => whnf) | (refine AF.one hT rfl ?_; conv => whnf) | (refine AF.nil ?_; conv => whnf) | (refine AF.imm hT rfl rfl rfl ?_; conv => whnf) | (refine AH.of hT rfl ?_; conv => whnf) | (refine ASplit.yes rfl ?_; conv => whnf) | (refine ACond.yes rfl ?_; conv => whnf) | (refine ASplit.no rfl ?_; conv => whnf) | (refine ACond.no rfl ?_; conv => whnf) | (refine ASplit.yes (by decide) ?_; conv => whnf) | (refine ACond.yes (by decide) ?_; conv => whnf) | (refine AReq.mk (by decide) ?_; conv => whnf) | (refine AIdx.iff.2 ⟨by decide, ?_⟩; conv => whnf))
  refine ACall.of (by kernel_rfl) (f23 x hx bs ck) [0, 1, 2] [] (by decide) (.same (by rw [dD_ren]; rfl) (.same (by rw [dC_ren]; rfl) (.same (by rw [dM_ren]; rfl) .nil))) (by simp) (by simp) (.cons (.same rfl) .nil) (.inl rfl) ?_
  rintro _ _ ⟨rfl, bs1, ck1, bs2, ck2, rfl⟩
  simp only [cpH, dvH, List.cons_append, List.nil_append, mergeH, dD_ren, dC_ren, dM_ren, List.map_cons, List.map_nil, List.set_cons_zero, List.set_cons_succ]
  conv => whnf
  repeat (first | (refine AW.plan (id := 3) hm (.one 0 (.one 1 (.one 2 (.one 4 (.imm 3 (.one 5 (.one 6 (.one 7 (.one 8 .nil))))))))) (by kernel_rfl) ?_; conv => whnf) | (refine AW.label ?_; conv => whnf) | (refine AW.scope ?_; conv => whnf) | (refine AO.cons hT ?_; conv => whnf) | (refine AO.nil ?_; conv => whnf) | (refine AW.seq ?_; conv => whnf) | (refine AW.region ?_; conv => whnf) | (refine AW.cond ?_; conv => whnf) | (refine AW.block ?_; conv => whnf) | (refine AW.loop ?_; conv => whnf) | (refine AW.skip ?_; conv => whnf) | (refine AW.exit ?_; conv => whnf) | (refine AW.ret ?_; conv => whnf) | (refine AF.one hT rfl ?_; conv => whnf) | (refine AF.nil ?_; conv => whnf) | (refine AF.imm hT rfl rfl rfl ?_; conv => whnf) | (refine AH.of hT rfl ?_; conv => whnf) | (refine ASplit.yes rfl ?_; conv => whnf) | (refine ACond.yes rfl ?_; conv => whnf) | (refine ASplit.no rfl ?_; conv => whnf) | (refine ACond.no rfl ?_; conv => whnf) | (refine ASplit.yes (by decide) ?_; conv => whnf) | (refine ACond.yes (by decide) ?_; conv => whnf) | (refine AReq.mk (by decide) ?_; conv => whnf) | (refine AIdx.iff.2 ⟨by decide, ?_⟩; conv => whnf))
  exact AFin.to (.tup [.ptr 3 0, nV 0]) (cpH x bs1 ck1 bs2 ck2) (Conv.ren [0, 1, 2, 4, 5, 6] _ (fun i h => by rcases i with _ | _ | _ | i <;> first | rfl | (exact absurd h (by show ¬ _ < 3; omega))) (by decide) (Fit.refl _)
    (.same (by rw [dD_ren]; rfl) (.same (by rw [dC_ren]; rfl) (.same (by rw [dM_ren]; rfl) (.same (by rw [dD_ren]; rfl) (.same (by rw [dC_ren]; rfl) (.same (by rw [dM_ren]; rfl) .nil))))))) ⟨bs1, ck1, bs2, ck2, rfl, rfl⟩

theorem f4 (n : Int) (l : List Ac) (x0 x1 : Int) (hl : l.length ≤ maxLen) (hn : nOk n) (hw : ∀ a ∈ l, acWf a) (hx0 : nOk x0) (hx1 : nOk x1) :
    Fun P 4 [nV n, .vs 7 l.length (l.flatMap acC), .agg [nV x0, nV x1]] (.v (.bool true)) := by
  have hml : maxLen ≤ 9223372036854775807 := by decide
  have hren : ∀ (ρ : Nat → Nat), renL ρ [AV.vs 7 l.length (l.flatMap acC)] = [AV.vs 7 l.length (l.flatMap acC)] := fun ρ => by
    simp only [renL, AV.ren]
    congr 2
    clear hw hl
    induction l with
    | nil => rfl
    | cons a l ih => rw [List.flatMap_cons, renL_append, acC_ren, ih]
  refine spec_of hT (f := 4) (fn := Go.Proofs.Try.f4) (c := body Go.Proofs.Try.f4) (by kernel_rfl) (by kernel_rfl) ?_
  conv => whnf
  repeat ((first | refine AW.plan (id := 14) hm (.one 0 (.one 2 (.one 1 (.one 3 .nil)))) (by kernel_rfl) ?_ | refine AO.cons hT ?_ | refine AO.nil ?_ | refine AW.seq ?_ | refine AW.region ?_ | refine AW.cond ?_ | refine AW.block ?_ | refine AW.loop ?_ | refine AW.skip ?_ | refine AW.exit ?_ | refine AW.ret ?_ | refine AW.label ?_ | refine AW.scope ?_ | refine AF.one hT rfl ?_ | refine AF.nil ?_ | refine AF.imm hT rfl rfl rfl ?_ | refine AH.of hT rfl ?_ | refine AD.cons hT rfl ?_ | refine AD.nil ?_ | refine AQ.cons hT rfl ?_ | refine AQ.nil ?_ | (refine ACall.val (by kernel_rfl) f7 rfl rfl ?_)); conv => whnf)
  refine ACall.val (by kernel_rfl) (f17 l (by omega)) (hren _) rfl ?_
  conv => whnf
  repeat ((first | refine AW.plan (id := 14) hm (.one 0 (.one 2 (.one 1 (.one 3 .nil)))) (by kernel_rfl) ?_ | refine AO.cons hT ?_ | refine AO.nil ?_ | refine AW.seq ?_ | refine AW.region ?_ | refine AW.cond ?_ | refine AW.block ?_ | refine AW.loop ?_ | refine AW.skip ?_ | refine AW.exit ?_ | refine AW.ret ?_ | refine AW.label ?_ | refine AW.scope ?_ | refine AF.one hT rfl ?_ | refine AF.nil ?_ | refine AF.imm hT rfl rfl rfl ?_ | refine AH.of hT rfl ?_ | refine AD.cons hT rfl ?_ | refine AD.nil ?_ | refine AQ.cons hT rfl ?_ | refine AQ.nil ?_ | (refine ACall.val (by kernel_rfl) f7 rfl rfl ?_)); conv => whnf)
  refine ASplit.ndec (fun h => ?_) (fun h1 => ?_)
  · conv => whnf
    repeat (first | (refine AW.plan (id := 14) hm (.one 0 (.one 2 (.one 1 (.one 3 .nil)))) (by kernel_rfl) ?_; conv => whnf) | (refine AW.label ?_; conv => whnf) | (refine AW.scope ?_; conv => whnf) | (refine AO.cons hT ?_; conv => whnf) | (refine AO.nil ?_; conv => whnf) | (refine AW.seq ?_; conv => whnf) | (refine AW.region ?_; conv => whnf) | (refine AW.cond ?_; conv => whnf) | (refine AW.block ?_; conv => whnf) | (refine AW.loop ?_; conv => whnf) | (refine AW.skip ?_; conv => whnf) | (refine AW.exit ?_; conv => whnf) | (refine AW.ret ?_; conv => whnf) | (refine AF.one hT rfl ?_; conv => whnf) | (refine AF.nil ?_; conv => whnf) | (refine AF.imm hT rfl rfl rfl ?_; conv => whnf) | (refine AH.of hT rfl ?_; conv => whnf) | (refine ASplit.yes rfl ?_; conv => whnf) | (refine ACond.yes rfl ?_; conv => whnf) | (refine ASplit.no rfl ?_; conv => whnf) | (refine ACond.no rfl ?_; conv => whnf) | (refine ASplit.yes (by decide) ?_; conv => whnf) | (refine ACond.yes (by decide) ?_; conv => whnf) | (refine AReq.mk (by decide) ?_; conv => whnf) | (refine AIdx.iff.2 ⟨by decide, ?_⟩; conv => whnf) | (refine ACall.val (by kernel_rfl) f7 rfl rfl ?_; conv => whnf))
    exact AFin.val rfl ⟨rfl, rfl⟩
  conv => whnf
  repeat ((first | refine AW.plan (id := 14) hm (.one 0 (.one 2 (.one 1 (.one 3 .nil)))) (by kernel_rfl) ?_ | refine AO.cons hT ?_ | refine AO.nil ?_ | refine AW.seq ?_ | refine AW.region ?_ | refine AW.cond ?_ | refine AW.block ?_ | refine AW.loop ?_ | refine AW.skip ?_ | refine AW.exit ?_ | refine AW.ret ?_ | refine AW.label ?_ | refine AW.scope ?_ | refine AF.one hT rfl ?_ | refine AF.nil ?_ | refine AF.imm hT rfl rfl rfl ?_ | refine AH.of hT rfl ?_ | refine AD.cons hT rfl ?_ | refine AD.nil ?_ | refine AQ.cons hT rfl ?_ | refine AQ.nil ?_ | (refine ACall.val (by kernel_rfl) f7 rfl rfl ?_)); conv => whnf)
  have hrest : ¬ (n > 60 ∧ n ≤ 2000) → True := fun _ => trivial
  refine ASplit.dec (fun h2 => ?_) (fun h2 => ?_)
  · conv => whnf
    repeat ((first | refine AW.plan (id := 14) hm (.one 0 (.one 2 (.one 1 (.one 3 .nil)))) (by kernel_rfl) ?_ | refine AO.cons hT ?_ | refine AO.nil ?_ | refine AW.seq ?_ | refine AW.region ?_ | refine AW.cond ?_ | refine AW.block ?_ | refine AW.loop ?_ | refine AW.skip ?_ | refine AW.exit ?_ | refine AW.ret ?_ | refine AW.label ?_ | refine AW.scope ?_ | refine AF.one hT rfl ?_ | refine AF.nil ?_ | refine AF.imm hT rfl rfl rfl ?_ | refine AH.of hT rfl ?_ | refine AD.cons hT rfl ?_ | refine AD.nil ?_ | refine AQ.cons hT rfl ?_ | refine AQ.nil ?_ | (refine ACall.val (by kernel_rfl) f7 rfl rfl ?_)); conv => whnf)
    refine ACond.dec (fun h3 => ?_) (fun h3 => ?_)
    · conv => whnf
      repeat ((first | refine AW.plan (id := 14) hm (.one 0 (.one 2 (.one 1 (.one 3 .nil)))) (by kernel_rfl) ?_ | refine AO.cons hT ?_ | refine AO.nil ?_ | refine AW.seq ?_ | refine AW.region ?_ | refine AW.cond ?_ | refine AW.block ?_ | refine AW.loop ?_ | refine AW.skip ?_ | refine AW.exit ?_ | refine AW.ret ?_ | refine AW.label ?_ | refine AW.scope ?_ | refine AF.one hT rfl ?_ | refine AF.nil ?_ | refine AF.imm hT rfl rfl rfl ?_ | refine AH.of hT rfl ?_ | refine AD.cons hT rfl ?_ | refine AD.nil ?_ | refine AQ.cons hT rfl ?_ | refine AQ.nil ?_ | (refine ACall.val (by kernel_rfl) f7 rfl rfl ?_)); conv => whnf)
      exact AFin.val rfl ⟨rfl, rfl⟩
    · have hbad : n < 1 ∨ n > 2000 := .inr (by omega)
      have h18 := f18 n
      rw [if_pos hbad, decide_eq_true hbad] at h18
      conv => whnf
      repeat ((first | refine AW.plan (id := 14) hm (.one 0 (.one 2 (.one 1 (.one 3 .nil)))) (by kernel_rfl) ?_ | refine AO.cons hT ?_ | refine AO.nil ?_ | refine AW.seq ?_ | refine AW.region ?_ | refine AW.cond ?_ | refine AW.block ?_ | refine AW.loop ?_ | refine AW.skip ?_ | refine AW.exit ?_ | refine AW.ret ?_ | refine AW.label ?_ | refine AW.scope ?_ | refine AF.one hT rfl ?_ | refine AF.nil ?_ | refine AF.imm hT rfl rfl rfl ?_ | refine AH.of hT rfl ?_ | refine AD.cons hT rfl ?_ | refine AD.nil ?_ | refine AQ.cons hT rfl ?_ | refine AQ.nil ?_ | (refine ACall.val (by kernel_rfl) f7 rfl rfl ?_)); conv => whnf)
      refine callBad n hn hbad ?_
      conv => whnf
      repeat ((first | refine AW.plan (id := 14) hm (.one 0 (.one 2 (.one 1 (.one 3 .nil)))) (by kernel_rfl) ?_ | refine AO.cons hT ?_ | refine AO.nil ?_ | refine AW.seq ?_ | refine AW.region ?_ | refine AW.cond ?_ | refine AW.block ?_ | refine AW.loop ?_ | refine AW.skip ?_ | refine AW.exit ?_ | refine AW.ret ?_ | refine AW.label ?_ | refine AW.scope ?_ | refine AF.one hT rfl ?_ | refine AF.nil ?_ | refine AF.imm hT rfl rfl rfl ?_ | refine AH.of hT rfl ?_ | refine AD.cons hT rfl ?_ | refine AD.nil ?_ | refine AQ.cons hT rfl ?_ | refine AQ.nil ?_ | (refine ACall.val (by kernel_rfl) f7 rfl rfl ?_)); conv => whnf)
      refine ACall.val (by kernel_rfl) h18 rfl rfl ?_
      conv => whnf
      repeat ((first | refine AW.plan (id := 14) hm (.one 0 (.one 2 (.one 1 (.one 3 .nil)))) (by kernel_rfl) ?_ | refine AO.cons hT ?_ | refine AO.nil ?_ | refine AW.seq ?_ | refine AW.region ?_ | refine AW.cond ?_ | refine AW.block ?_ | refine AW.loop ?_ | refine AW.skip ?_ | refine AW.exit ?_ | refine AW.ret ?_ | refine AW.label ?_ | refine AW.scope ?_ | refine AF.one hT rfl ?_ | refine AF.nil ?_ | refine AF.imm hT rfl rfl rfl ?_ | refine AH.of hT rfl ?_ | refine AD.cons hT rfl ?_ | refine AD.nil ?_ | refine AQ.cons hT rfl ?_ | refine AQ.nil ?_ | (refine ACall.val (by kernel_rfl) f7 rfl rfl ?_) | (refine ACond.yes rfl ?_) | (refine ASplit.yes rfl ?_) | (refine ASplit.yes (by decide) ?_)); conv => whnf)
      exact AFin.val rfl ⟨rfl, rfl⟩
  · conv => whnf
    repeat ((first | refine AW.plan (id := 14) hm (.one 0 (.one 2 (.one 1 (.one 3 .nil)))) (by kernel_rfl) ?_ | refine AO.cons hT ?_ | refine AO.nil ?_ | refine AW.seq ?_ | refine AW.region ?_ | refine AW.cond ?_ | refine AW.block ?_ | refine AW.loop ?_ | refine AW.skip ?_ | refine AW.exit ?_ | refine AW.ret ?_ | refine AW.label ?_ | refine AW.scope ?_ | refine AF.one hT rfl ?_ | refine AF.nil ?_ | refine AF.imm hT rfl rfl rfl ?_ | refine AH.of hT rfl ?_ | refine AD.cons hT rfl ?_ | refine AD.nil ?_ | refine AQ.cons hT rfl ?_ | refine AQ.nil ?_ | (refine ACall.val (by kernel_rfl) f7 rfl rfl ?_) | (refine ACond.yes rfl ?_) | (refine ASplit.yes rfl ?_) | (refine ASplit.yes (by decide) ?_)); conv => whnf)
    refine ACond.no rfl ?_
    conv => whnf
    repeat ((first | refine AW.plan (id := 14) hm (.one 0 (.one 2 (.one 1 (.one 3 .nil)))) (by kernel_rfl) ?_ | refine AO.cons hT ?_ | refine AO.nil ?_ | refine AW.seq ?_ | refine AW.region ?_ | refine AW.cond ?_ | refine AW.block ?_ | refine AW.loop ?_ | refine AW.skip ?_ | refine AW.exit ?_ | refine AW.ret ?_ | refine AW.label ?_ | refine AW.scope ?_ | refine AF.one hT rfl ?_ | refine AF.nil ?_ | refine AF.imm hT rfl rfl rfl ?_ | refine AH.of hT rfl ?_ | refine AD.cons hT rfl ?_ | refine AD.nil ?_ | refine AQ.cons hT rfl ?_ | refine AQ.nil ?_ | (refine ACall.val (by kernel_rfl) f7 rfl rfl ?_)); conv => whnf)
    by_cases h0 : n < 1
    · have hbad : n < 1 ∨ n > 2000 := .inl h0
      have h18 := f18 n
      rw [if_pos hbad, decide_eq_true hbad] at h18
      refine callBad n hn hbad ?_
      conv => whnf
      repeat ((first | refine AW.plan (id := 14) hm (.one 0 (.one 2 (.one 1 (.one 3 .nil)))) (by kernel_rfl) ?_ | refine AO.cons hT ?_ | refine AO.nil ?_ | refine AW.seq ?_ | refine AW.region ?_ | refine AW.cond ?_ | refine AW.block ?_ | refine AW.loop ?_ | refine AW.skip ?_ | refine AW.exit ?_ | refine AW.ret ?_ | refine AW.label ?_ | refine AW.scope ?_ | refine AF.one hT rfl ?_ | refine AF.nil ?_ | refine AF.imm hT rfl rfl rfl ?_ | refine AH.of hT rfl ?_ | refine AD.cons hT rfl ?_ | refine AD.nil ?_ | refine AQ.cons hT rfl ?_ | refine AQ.nil ?_ | (refine ACall.val (by kernel_rfl) f7 rfl rfl ?_)); conv => whnf)
      refine ACall.val (by kernel_rfl) h18 rfl rfl ?_
      conv => whnf
      repeat ((first | refine AW.plan (id := 14) hm (.one 0 (.one 2 (.one 1 (.one 3 .nil)))) (by kernel_rfl) ?_ | refine AO.cons hT ?_ | refine AO.nil ?_ | refine AW.seq ?_ | refine AW.region ?_ | refine AW.cond ?_ | refine AW.block ?_ | refine AW.loop ?_ | refine AW.skip ?_ | refine AW.exit ?_ | refine AW.ret ?_ | refine AW.label ?_ | refine AW.scope ?_ | refine AF.one hT rfl ?_ | refine AF.nil ?_ | refine AF.imm hT rfl rfl rfl ?_ | refine AH.of hT rfl ?_ | refine AD.cons hT rfl ?_ | refine AD.nil ?_ | refine AQ.cons hT rfl ?_ | refine AQ.nil ?_ | (refine ACall.val (by kernel_rfl) f7 rfl rfl ?_) | (refine ACond.yes rfl ?_) | (refine ASplit.yes rfl ?_) | (refine ASplit.yes (by decide) ?_)); conv => whnf)
      exact AFin.val rfl ⟨rfl, rfl⟩
    obtain ⟨m, rfl⟩ : ∃ m : Nat, n = m := ⟨n.toNat, by omega⟩
    refine callNew m (by omega) (by omega) ?_
    simp only [List.length_cons, List.length_nil, Nat.zero_add, List.cons_append, List.nil_append]
    have h18 := f18 (m : Int)
    rw [if_neg (show ¬ ((m : Int) < 1 ∨ (m : Int) > 2000) by omega), decide_eq_false (show ¬ ((m : Int) < 1 ∨ (m : Int) > 2000) by omega), Int.toNat_natCast] at h18
    conv => whnf
    repeat ((first | refine AW.plan (id := 14) hm (.one 0 (.one 2 (.one 1 (.one 3 .nil)))) (by kernel_rfl) ?_ | refine AO.cons hT ?_ | refine AO.nil ?_ | refine AW.seq ?_ | refine AW.region ?_ | refine AW.cond ?_ | refine AW.block ?_ | refine AW.loop ?_ | refine AW.skip ?_ | refine AW.exit ?_ | refine AW.ret ?_ | refine AW.label ?_ | refine AW.scope ?_ | refine AF.one hT rfl ?_ | refine AF.nil ?_ | refine AF.imm hT rfl rfl rfl ?_ | refine AH.of hT rfl ?_ | refine AD.cons hT rfl ?_ | refine AD.nil ?_ | refine AQ.cons hT rfl ?_ | refine AQ.nil ?_ | (refine ACall.val (by kernel_rfl) f7 rfl rfl ?_)); conv => whnf)
    refine ACall.val (by kernel_rfl) h18 rfl (tupB _ _ _) ?_
    conv => whnf
    repeat ((first | refine AW.plan (id := 14) hm (.one 0 (.one 2 (.one 1 (.one 3 .nil)))) (by kernel_rfl) ?_ | refine AO.cons hT ?_ | refine AO.nil ?_ | refine AW.seq ?_ | refine AW.region ?_ | refine AW.cond ?_ | refine AW.block ?_ | refine AW.loop ?_ | refine AW.skip ?_ | refine AW.exit ?_ | refine AW.ret ?_ | refine AW.label ?_ | refine AW.scope ?_ | refine AF.one hT rfl ?_ | refine AF.nil ?_ | refine AF.imm hT rfl rfl rfl ?_ | refine AH.of hT rfl ?_ | refine AD.cons hT rfl ?_ | refine AD.nil ?_ | refine AQ.cons hT rfl ?_ | refine AQ.nil ?_ | (refine ACall.val (by kernel_rfl) f7 rfl rfl ?_) | (refine ACond.no rfl ?_) | (refine ASplit.no rfl ?_) | (refine ASplit.no (by decide) ?_)); conv => whnf)
    refine ALoop.mk (fun j E H => ∃ (i : Nat) (x : Dd) (d : Rd) (bs : List Nat) (ck : Nat), j + i = l.length ∧ Dok x ∧ RelD x d ∧
        E = pad [.any, .vs 7 l.length (l.flatMap acC), .any, .any, .any, .ptr 0 0, .v (.bool false), .ptr 1 0, .any, .ptr 4 0, .any, nV i] 121 ∧ H = [.cells 40 [nV x0, nV x1], dD 2 3 x, dC x, dM x bs ck, .cells 44 (rdC d)])
      (n := l.length) _ _ ⟨0, newD m, newR m, [], 0, rfl, new_ok (by omega) (by omega), rel_new (by omega) (by omega), rfl, rfl⟩ (Conv.fit (by repeat' (first | exact Fit.nil | refine Fit.any ?_ | refine Fit.same ?_))) ?_
    rintro j _ _ ⟨i, x, d, bs, ck, hj, hx, hr, rfl, rfl⟩
    have hd := hr.ne hx
    have hsz := hr.size hx
    have hdl : d.cells.length ≤ 2000 := by have := hr.len; have := hx.le; omega
    conv => whnf
    repeat ((first | refine AW.plan (id := 14) hm (.one 0 (.one 2 (.one 1 (.one 3 .nil)))) (by kernel_rfl) ?_ | refine AO.cons hT ?_ | refine AO.nil ?_ | refine AW.seq ?_ | refine AW.region ?_ | refine AW.cond ?_ | refine AW.block ?_ | refine AW.loop ?_ | refine AW.skip ?_ | refine AW.exit ?_ | refine AW.ret ?_ | refine AW.label ?_ | refine AW.scope ?_ | refine AF.one hT rfl ?_ | refine AF.nil ?_ | refine AF.imm hT rfl rfl rfl ?_ | refine AH.of hT rfl ?_ | refine AD.cons hT rfl ?_ | refine AD.nil ?_ | refine AQ.cons hT rfl ?_ | refine AQ.nil ?_); conv => whnf)
    refine ACond.dec (fun h4 => ?_) (fun h4 => ?_)
    · have hil : i < l.length := by omega
      have w3 : IntKind.wrap .i64 ((i : Int) + 1) = ((i + 1 : Nat) : Int) := by rw [wrap_i64 _ (by omega) (by omega)]; omega
      have hwa := hw _ (List.getElem_mem hil)
      have hfew := h1.2 _ (List.getElem_mem hil)
      have h19 := f19 d l[i] hd hdl hsz hwa hfew.1 hfew.2
      refine AW.skip ?_
      conv => whnf
      refine AW.seq ?_
      conv => whnf
      refine AW.block ?_
      conv => whnf
      refine AW.seqJ (fun E H => E = pad [.any, .vs 7 l.length (l.flatMap acC), .any, .any, .any, .ptr 0 0, .v (.bool false), .ptr 1 0, .any, .ptr 4 0, .any, nV i, .ptr 5 0, nV (rdoF d l[i]).2] 121 ∧
        H = [.cells 40 [nV x0, nV x1], dD 2 3 x, dC x, dM x bs ck, .cells 44 (rdC d), .cells 44 (rdC (rdoF d l[i]).1)]) ?_ ?_
      · skip
        refine AW.plan hm (.one 1 (.one 2 (.one 3 (.one 0 (.one 4 (.fork 5 (.one 6 (.one 7 (.one 8 (.one 9 .nil)))) 9 (.one 5 (.one 6 (.one 7 (.one 8 .nil)))) (.one 10 (.one 11 .nil)))))))) (by kernel_rfl) ?_
        conv => whnf
        repeat ((first | refine AW.plan (id := 14) hm (.one 0 (.one 2 (.one 1 (.one 3 .nil)))) (by kernel_rfl) ?_ | refine AO.cons hT ?_ | refine AO.nil ?_ | refine AW.seq ?_ | refine AW.region ?_ | refine AW.cond ?_ | refine AW.block ?_ | refine AW.loop ?_ | refine AW.skip ?_ | refine AW.exit ?_ | refine AW.ret ?_ | refine AW.label ?_ | refine AW.scope ?_ | refine AF.one hT rfl ?_ | refine AF.nil ?_ | refine AF.imm hT rfl rfl rfl ?_ | refine AH.of hT rfl ?_ | refine AD.cons hT rfl ?_ | refine AD.nil ?_ | refine AQ.cons hT rfl ?_ | refine AQ.nil ?_ | (refine AReq.mk (by omega) ?_) | (refine AIdx.flat (enc := acC) (fun _ => rfl) (xs := l) (i := i) hil ?_) | (refine ACall.val (by kernel_rfl) h19 (show renL _ [rdV d, .agg (acC l[i])] = [rdV d, .agg (acC l[i])] by show [(rdV d).ren _, .agg (renL _ (acC l[i]))] = _; rw [rdV_ren, acC_ren]) (tupN _ _ _) ?_)); conv => whnf)
        apply AF.forkE
        · conv => whnf
          repeat ((first | refine AW.plan (id := 14) hm (.one 0 (.one 2 (.one 1 (.one 3 .nil)))) (by kernel_rfl) ?_ | refine AO.cons hT ?_ | refine AO.nil ?_ | refine AW.seq ?_ | refine AW.region ?_ | refine AW.cond ?_ | refine AW.block ?_ | refine AW.loop ?_ | refine AW.skip ?_ | refine AW.exit ?_ | refine AW.ret ?_ | refine AW.label ?_ | refine AW.scope ?_ | refine AF.one hT rfl ?_ | refine AF.nil ?_ | refine AF.imm hT rfl rfl rfl ?_ | refine AH.of hT rfl ?_ | refine AD.cons hT rfl ?_ | refine AD.nil ?_ | refine AQ.cons hT rfl ?_ | refine AQ.nil ?_ | (refine AReq.mk (by omega) ?_) | (refine AIdx.flat (enc := acC) (fun _ => rfl) (xs := l) (i := i) hil ?_) | (refine ACall.val (by kernel_rfl) h19 (show renL _ [rdV d, .agg (acC l[i])] = [rdV d, .agg (acC l[i])] by show [(rdV d).ren _, .agg (renL _ (acC l[i]))] = _; rw [rdV_ren, acC_ren]) (tupN _ _ _) ?_)); conv => whnf)
          exact ⟨rfl, rfl, rfl⟩
        · conv => whnf
          repeat ((first | refine AW.plan (id := 14) hm (.one 0 (.one 2 (.one 1 (.one 3 .nil)))) (by kernel_rfl) ?_ | refine AO.cons hT ?_ | refine AO.nil ?_ | refine AW.seq ?_ | refine AW.region ?_ | refine AW.cond ?_ | refine AW.block ?_ | refine AW.loop ?_ | refine AW.skip ?_ | refine AW.exit ?_ | refine AW.ret ?_ | refine AW.label ?_ | refine AW.scope ?_ | refine AF.one hT rfl ?_ | refine AF.nil ?_ | refine AF.imm hT rfl rfl rfl ?_ | refine AH.of hT rfl ?_ | refine AD.cons hT rfl ?_ | refine AD.nil ?_ | refine AQ.cons hT rfl ?_ | refine AQ.nil ?_ | (refine AReq.mk (by omega) ?_) | (refine AIdx.flat (enc := acC) (fun _ => rfl) (xs := l) (i := i) hil ?_) | (refine ACall.val (by kernel_rfl) h19 (show renL _ [rdV d, .agg (acC l[i])] = [rdV d, .agg (acC l[i])] by show [(rdV d).ren _, .agg (renL _ (acC l[i]))] = _; rw [rdV_ren, acC_ren]) (tupN _ _ _) ?_)); conv => whnf)
          exact ⟨rfl, rfl, rfl⟩
        conv => whnf
        repeat ((first | refine AW.plan (id := 14) hm (.one 0 (.one 2 (.one 1 (.one 3 .nil)))) (by kernel_rfl) ?_ | refine AO.cons hT ?_ | refine AO.nil ?_ | refine AW.seq ?_ | refine AW.region ?_ | refine AW.cond ?_ | refine AW.block ?_ | refine AW.loop ?_ | refine AW.skip ?_ | refine AW.exit ?_ | refine AW.ret ?_ | refine AW.label ?_ | refine AW.scope ?_ | refine AF.one hT rfl ?_ | refine AF.nil ?_ | refine AF.imm hT rfl rfl rfl ?_ | refine AH.of hT rfl ?_ | refine AD.cons hT rfl ?_ | refine AD.nil ?_ | refine AQ.cons hT rfl ?_ | refine AQ.nil ?_ | (refine AReq.mk (by omega) ?_) | (refine AIdx.flat (enc := acC) (fun _ => rfl) (xs := l) (i := i) hil ?_) | (refine ACall.val (by kernel_rfl) h19 (show renL _ [rdV d, .agg (acC l[i])] = [rdV d, .agg (acC l[i])] by show [(rdV d).ren _, .agg (renL _ (acC l[i]))] = _; rw [rdV_ren, acC_ren]) (tupN _ _ _) ?_)); conv => whnf)
        exact AOut.to _ _ (Conv.fit (by repeat' (first | exact Fit.nil | refine Fit.any ?_ | refine Fit.same ?_))) ⟨rfl, rfl⟩
      rintro _ _ ⟨rfl, rfl⟩
      have hrd := rel_do hx hr l[i] (by have := hfew.1; omega)
      have hdo := doF_ok hx l[i]
      rw [← hrd.2]
      refine AW.seqJ (fun E H => ∃ bs1 ck1, E = pad [.any, .vs 7 l.length (l.flatMap acC), .any, .any, .any, .ptr 0 0, .v (.bool false), .any, .any, .ptr 4 0, .any, nV i, .ptr 5 0, nV (doF x l[i]).2, .ptr 1 0, nV (doF x l[i]).2] 121 ∧
        H = [.cells 40 [nV x0, nV x1], dD 2 3 (doF x l[i]).1, dC (doF x l[i]).1, dM (doF x l[i]).1 bs1 ck1, .cells 44 (rdC d), .cells 44 (rdC (rdoF d l[i]).1)]) ?_ ?_
      · skip
        conv => whnf
        repeat ((first | refine AW.plan (id := 14) hm (.one 0 (.one 2 (.one 1 (.one 3 .nil)))) (by kernel_rfl) ?_ | refine AO.cons hT ?_ | refine AO.nil ?_ | refine AW.seq ?_ | refine AW.region ?_ | refine AW.cond ?_ | refine AW.block ?_ | refine AW.loop ?_ | refine AW.skip ?_ | refine AW.exit ?_ | refine AW.ret ?_ | refine AW.label ?_ | refine AW.scope ?_ | refine AF.one hT rfl ?_ | refine AF.nil ?_ | refine AF.imm hT rfl rfl rfl ?_ | refine AH.of hT rfl ?_ | refine AD.cons hT rfl ?_ | refine AD.nil ?_ | refine AQ.cons hT rfl ?_ | refine AQ.nil ?_ | (refine AReq.mk (by omega) ?_) | (refine AIdx.flat (enc := acC) (fun _ => rfl) (xs := l) (i := i) hil ?_)); conv => whnf)
        by_cases h5 : l[i].kind = 5
        · have e : doF x l[i] = (x, 0) := by
            unfold doF
            rw [if_neg (by omega), if_neg (by omega), if_neg (by omega), if_neg (by omega), if_neg (by omega)]
          rw [e]
          refine ACall.of (by kernel_rfl) (f20c x hx l[i] h5 bs ck) [1, 2, 3] [] (by decide) (.same (by rw [dD_ren]; rfl) (.same (by rw [dC_ren]; rfl) (.same (by rw [dM_ren]; rfl) .nil))) (by simp) (by simp) (.cons (.same rfl) (.cons (.same (show _ = AV.ren _ (.agg (acC l[i])) by simp only [AV.ren, acC_ren]; rfl)) .nil)) (.inl rfl) ?_
          rintro _ _ ⟨bs1, ck1, bs2, ck2, rfl, rfl⟩
          simp only [cpH, dvH, List.cons_append, List.nil_append, mergeH, dD_ren, dC_ren, dM_ren, List.map_cons, List.map_nil, List.set_cons_zero, List.set_cons_succ]
          conv => whnf
          repeat ((first | refine AW.plan (id := 14) hm (.one 0 (.one 2 (.one 1 (.one 3 .nil)))) (by kernel_rfl) ?_ | refine AO.cons hT ?_ | refine AO.nil ?_ | refine AW.seq ?_ | refine AW.region ?_ | refine AW.cond ?_ | refine AW.block ?_ | refine AW.loop ?_ | refine AW.skip ?_ | refine AW.exit ?_ | refine AW.ret ?_ | refine AW.label ?_ | refine AW.scope ?_ | refine AF.one hT rfl ?_ | refine AF.nil ?_ | refine AF.imm hT rfl rfl rfl ?_ | refine AH.of hT rfl ?_ | refine AD.cons hT rfl ?_ | refine AD.nil ?_ | refine AQ.cons hT rfl ?_ | refine AQ.nil ?_); conv => whnf)
          refine AOut.to _ _ (Conv.ren [0, 6, 7, 8, 4, 5] (pad [.any, .vs 7 l.length (l.flatMap acC), .any, .any, .any, .ptr 0 0, .v (.bool false), .any, .any, .ptr 4 0, .any, nV i, .ptr 5 0, nV 0, .ptr 1 0, nV 0] 121) (fun _ h => absurd h (Nat.not_lt_zero _)) (by decide) ?_ ?_) ⟨bs2, ck2, rfl, rfl⟩
          · repeat' (first | exact Fit.nil | refine Fit.any ?_ | refine Fit.same ?_ | refine Fit.eq (List.cons.inj (hren _)).1 ?_)
          · exact .same rfl (.same (by rw [dD_ren]; rfl) (.same (by rw [dC_ren]; rfl) (.same (by rw [dM_ren]; rfl) (.same (by rw [cells_ren, rdC_ren]; rfl) (.same (by rw [cells_ren, rdC_ren]; rfl) .nil)))))
        · refine ACall.doD hx l[i] hwa hfew.1 hfew.2 h5 rfl rfl rfl (by decide) ?_
          intro bs1 ck1
          generalize doF x l[i] = z at *
          simp only [List.set_cons_zero, List.set_cons_succ]
          conv => whnf
          repeat ((first | refine AW.plan (id := 14) hm (.one 0 (.one 2 (.one 1 (.one 3 .nil)))) (by kernel_rfl) ?_ | refine AO.cons hT ?_ | refine AO.nil ?_ | refine AW.seq ?_ | refine AW.region ?_ | refine AW.cond ?_ | refine AW.block ?_ | refine AW.loop ?_ | refine AW.skip ?_ | refine AW.exit ?_ | refine AW.ret ?_ | refine AW.label ?_ | refine AW.scope ?_ | refine AF.one hT rfl ?_ | refine AF.nil ?_ | refine AF.imm hT rfl rfl rfl ?_ | refine AH.of hT rfl ?_ | refine AD.cons hT rfl ?_ | refine AD.nil ?_ | refine AQ.cons hT rfl ?_ | refine AQ.nil ?_); conv => whnf)
          exact AOut.to _ _ (Conv.fit (by repeat' (first | exact Fit.nil | refine Fit.any ?_ | refine Fit.same ?_))) ⟨bs1, ck1, rfl, rfl⟩
      rintro _ _ ⟨bs1, ck1, rfl, rfl⟩
      replace hr := hrd.1
      replace hx := hdo.1
      generalize (doF x l[i]).2 = e at *
      generalize (doF x l[i]).1 = y at *
      generalize (rdoF d l[i]).1 = t at *
      have hrd2 := rel_read hx hr x0 x1
      have htl : t.cells.length ≤ 2000 := by have := hr.len; have := hx.le; omega
      have htz := hr.size hx
      conv => whnf
      repeat ((first | refine AW.plan (id := 14) hm (.one 0 (.one 2 (.one 1 (.one 3 .nil)))) (by kernel_rfl) ?_ | refine AO.cons hT ?_ | refine AO.nil ?_ | refine AW.seq ?_ | refine AW.region ?_ | refine AW.cond ?_ | refine AW.block ?_ | refine AW.loop ?_ | refine AW.skip ?_ | refine AW.exit ?_ | refine AW.ret ?_ | refine AW.label ?_ | refine AW.scope ?_ | refine AF.one hT rfl ?_ | refine AF.nil ?_ | refine AF.imm hT rfl rfl rfl ?_ | refine AH.of hT rfl ?_ | refine AD.cons hT rfl ?_ | refine AD.nil ?_ | refine AQ.cons hT rfl ?_ | refine AQ.nil ?_ | (refine AReq.mk (by omega) ?_) | (refine ASplit.no (by simp) ?_) | (refine ACond.no rfl ?_) | (refine AIdx.sp rfl ?_)); conv => whnf)
      refine ACall.dev (by kernel_rfl) (f21 y t hx hr) rfl rfl rfl (by decide) (fun ρ => rdV1 ρ t) (by rintro _ _ ⟨rfl, _⟩ _; rfl) ?_
      rintro _ y2 bs2 ck2 ⟨rfl, hy2⟩
      rw [hy2]
      simp only [List.set_cons_zero, List.set_cons_succ]
      conv => whnf
      repeat ((first | refine AW.plan (id := 14) hm (.one 0 (.one 2 (.one 1 (.one 3 .nil)))) (by kernel_rfl) ?_ | refine AO.cons hT ?_ | refine AO.nil ?_ | refine AW.seq ?_ | refine AW.region ?_ | refine AW.cond ?_ | refine AW.block ?_ | refine AW.loop ?_ | refine AW.skip ?_ | refine AW.exit ?_ | refine AW.ret ?_ | refine AW.label ?_ | refine AW.scope ?_ | refine AF.one hT rfl ?_ | refine AF.nil ?_ | refine AF.imm hT rfl rfl rfl ?_ | refine AH.of hT rfl ?_ | refine AD.cons hT rfl ?_ | refine AD.nil ?_ | refine AQ.cons hT rfl ?_ | refine AQ.nil ?_ | (refine AReq.mk (by omega) ?_) | (refine ASplit.no (by simp) ?_) | (refine ACond.no rfl ?_) | (refine AIdx.sp rfl ?_)); conv => whnf)
      refine ACall.dev (by kernel_rfl) (f15 y hx x0 x1 hx0 hx1) rfl rfl rfl (by decide) (fun _ => rfl) (by rintro _ _ ⟨rfl, _⟩ _; rfl) ?_
      rintro _ y3 bs3 ck3 ⟨rfl, hy3⟩
      rw [hy3]
      simp only [List.set_cons_zero, List.set_cons_succ]
      conv => whnf
      repeat ((first | refine AW.plan (id := 14) hm (.one 0 (.one 2 (.one 1 (.one 3 .nil)))) (by kernel_rfl) ?_ | refine AO.cons hT ?_ | refine AO.nil ?_ | refine AW.seq ?_ | refine AW.region ?_ | refine AW.cond ?_ | refine AW.block ?_ | refine AW.loop ?_ | refine AW.skip ?_ | refine AW.exit ?_ | refine AW.ret ?_ | refine AW.label ?_ | refine AW.scope ?_ | refine AF.one hT rfl ?_ | refine AF.nil ?_ | refine AF.imm hT rfl rfl rfl ?_ | refine AH.of hT rfl ?_ | refine AD.cons hT rfl ?_ | refine AD.nil ?_ | refine AQ.cons hT rfl ?_ | refine AQ.nil ?_ | (refine AReq.mk (by omega) ?_) | (refine ASplit.no (by simp) ?_) | (refine ACond.no rfl ?_) | (refine AIdx.sp rfl ?_)); conv => whnf)
      refine ACall.val (by kernel_rfl) (f22 t x0 x1 htl (fun c hc => (htz c hc).1) hx0) (show renL _ [rdV t, nV x0, nV x1] = [rdV t, nV x0, nV x1] by show [(rdV t).ren _, _, _] = _; rw [rdV_ren]; rfl) rfl ?_
      rw [← hrd2]
      conv => whnf
      repeat ((first | refine AW.plan (id := 14) hm (.one 0 (.one 2 (.one 1 (.one 3 .nil)))) (by kernel_rfl) ?_ | refine AO.cons hT ?_ | refine AO.nil ?_ | refine AW.seq ?_ | refine AW.region ?_ | refine AW.cond ?_ | refine AW.block ?_ | refine AW.loop ?_ | refine AW.skip ?_ | refine AW.exit ?_ | refine AW.ret ?_ | refine AW.label ?_ | refine AW.scope ?_ | refine AF.one hT rfl ?_ | refine AF.nil ?_ | refine AF.imm hT rfl rfl rfl ?_ | refine AH.of hT rfl ?_ | refine AD.cons hT rfl ?_ | refine AD.nil ?_ | refine AQ.cons hT rfl ?_ | refine AQ.nil ?_ | (refine AReq.mk (by omega) ?_) | (refine ASplit.no (by simp) ?_) | (refine ACond.no rfl ?_) | (refine AIdx.sp rfl ?_)); conv => whnf)
      refine ACond.no (by simp) ?_
      conv => whnf
      repeat ((first | refine AW.plan (id := 14) hm (.one 0 (.one 2 (.one 1 (.one 3 .nil)))) (by kernel_rfl) ?_ | refine AO.cons hT ?_ | refine AO.nil ?_ | refine AW.seq ?_ | refine AW.region ?_ | refine AW.cond ?_ | refine AW.block ?_ | refine AW.loop ?_ | refine AW.skip ?_ | refine AW.exit ?_ | refine AW.ret ?_ | refine AW.label ?_ | refine AW.scope ?_ | refine AF.one hT rfl ?_ | refine AF.nil ?_ | refine AF.imm hT rfl rfl rfl ?_ | refine AH.of hT rfl ?_ | refine AD.cons hT rfl ?_ | refine AD.nil ?_ | refine AQ.cons hT rfl ?_ | refine AQ.nil ?_ | (refine AReq.mk (by omega) ?_) | (refine ASplit.no (by simp) ?_) | (refine ACond.no rfl ?_) | (refine AIdx.sp rfl ?_)); conv => whnf)
      rw [w3]
      exact AHead.mk (j - 1) (pad [.any, .vs 7 l.length (l.flatMap acC), .any, .any, .any, .ptr 0 0, .v (.bool false), .ptr 1 0, .any, .ptr 4 0, .any, nV ((i + 1 : Nat) : Int)] 121) [.cells 40 [nV x0, nV x1], dD 2 3 y, dC y, dM y bs3 ck3, .cells 44 (rdC t)] (by omega) ⟨i + 1, y, t, bs3, ck3, by omega, hx, hr, rfl, rfl⟩
        (Conv.ren [0, 1, 2, 3, 4] _ (fun _ h => absurd h (Nat.not_lt_zero _)) (by decide) (by repeat' (first | exact Fit.nil | refine Fit.any ?_ | refine Fit.same ?_ | refine Fit.eq (List.cons.inj (hren _)).1 ?_))
          (.same rfl (.same (by rw [dD_ren]; rfl) (.same (by rw [dC_ren]; rfl) (.same (by rw [dM_ren]; rfl) (.same (by rw [cells_ren, rdC_ren]; rfl) .nil))))))
    · obtain rfl : j = 0 := by omega
      conv => whnf
      repeat ((first | refine AW.plan (id := 14) hm (.one 0 (.one 2 (.one 1 (.one 3 .nil)))) (by kernel_rfl) ?_ | refine AO.cons hT ?_ | refine AO.nil ?_ | refine AW.seq ?_ | refine AW.region ?_ | refine AW.cond ?_ | refine AW.block ?_ | refine AW.loop ?_ | refine AW.skip ?_ | refine AW.exit ?_ | refine AW.ret ?_ | refine AW.label ?_ | refine AW.scope ?_ | refine AF.one hT rfl ?_ | refine AF.nil ?_ | refine AF.imm hT rfl rfl rfl ?_ | refine AH.of hT rfl ?_ | refine AD.cons hT rfl ?_ | refine AD.nil ?_ | refine AQ.cons hT rfl ?_ | refine AQ.nil ?_ | (refine ACall.val (by kernel_rfl) f7 rfl rfl ?_)); conv => whnf)
      refine AOut.stay ?_
      conv => whnf
      repeat ((first | refine AW.plan (id := 14) hm (.one 0 (.one 2 (.one 1 (.one 3 .nil)))) (by kernel_rfl) ?_ | refine AO.cons hT ?_ | refine AO.nil ?_ | refine AW.seq ?_ | refine AW.region ?_ | refine AW.cond ?_ | refine AW.block ?_ | refine AW.loop ?_ | refine AW.skip ?_ | refine AW.exit ?_ | refine AW.ret ?_ | refine AW.label ?_ | refine AW.scope ?_ | refine AF.one hT rfl ?_ | refine AF.nil ?_ | refine AF.imm hT rfl rfl rfl ?_ | refine AH.of hT rfl ?_ | refine AD.cons hT rfl ?_ | refine AD.nil ?_ | refine AQ.cons hT rfl ?_ | refine AQ.nil ?_ | (refine ACall.val (by kernel_rfl) f7 rfl rfl ?_)); conv => whnf)
      exact AFin.val rfl ⟨rfl, rfl⟩
end Go.Aw.E1

set_option linter.unusedSimpArgs false
set_option linter.unusedVariables false
namespace Go.Proofs.Ytmppkjcldeljbaa
open Go Go.Aw Go.Aw.E1 Go.ChangeShapes Go.WideShapes Go.ChangeAt Go.RowKit

theorem plays_own : ownKnob Try.prog.godebug = none := by kernel_rfl
theorem plays_laid : laidOutB Try.prog = true := by kernel_rfl
theorem opens_x2 : Opens Try.prog 40 (fun x : Int × Int => [nV x.1, nV x.2]) (fun x => (Lit.int .i64 x.1).wf = true ∧ (Lit.int .i64 x.2).wf = true) :=
  (opens_array (k := 2) (e := 3) Try.underlying40 (sz := 1) (by kernel_rfl) (by kernel_rfl) (opens_int Try.underlying3)).map _ _ (fun l : List Int => (l.getD 0 0, l.getD 1 0)) (fun l h => by
    obtain ⟨h, _⟩ := h
    match l, h with
    | [a, b], _ => rfl) (fun l h => by
    obtain ⟨h, h2⟩ := h
    match l, h with
    | [a, b], _ => exact ⟨h2 a (by simp), h2 b (by simp)⟩)
theorem openV_x2 : OpenV Try.prog 40 (fun x : Int × Int => .agg [nV x.1, nV x.2]) (fun x => (Lit.int .i64 x.1).wf = true ∧ (Lit.int .i64 x.2).wf = true) := openV_array Try.underlying40 opens_x2
theorem plays_open : OpenA Try.prog [3, 39, 40] (fun x : Int × (List Ac × ((Int × Int) × Unit)) => [.v (.int .i64 x.1), .vs 7 (x.2.1).length ((x.2.1).flatMap acC), .agg [nV (x.2.2.1).1, nV (x.2.2.1).2]]) (fun x => (Lit.int .i64 x.1).wf = true ∧ ((x.2.1).length ≤ maxLen ∧ ∀ a ∈ (x.2.1), acWf a ∧ (acC a).length = 7) ∧ ((Lit.int .i64 (x.2.2.1).1).wf = true ∧ (Lit.int .i64 (x.2.2.1).2).wf = true) ∧ True) :=
  openA_cons (openV_int Try.underlying3) (openA_cons (openV_slice Try.underlying39 (sz := 7) (by kernel_rfl) (by decide) opens_ac) (openA_cons (openV_x2) (openA_nil)))

set_option maxRecDepth 100000 in
theorem plays_contract (H : Type) (enc : TypeId × Value → H) (W : World) (base : Nat) (args : Array Value) (ds gs : List (DataW H)) (before : List MemPlace)
    (hval : ∀ (j : Nat) t v, Try.f4.params[j]? = some t → args[j]? = some v → Value.okWide Try.prog W .any base t v)
    (hW : DataW.Whole enc Try.prog Try.f4.params.toList Rows.sectorPlaysSpec.vars false W args.toList ds gs before) :
    Calls Try.prog 4 args W fun e W' => ∃ v, e = .returned v ∧ Rows.sectorPlaysSpec.post enc Try.prog Try.f4 false true false false W args v W' :=
  law_contract plays_laid (by kernel_rfl) (t0 := 4) (by kernel_rfl) Try.underlying4 rfl (by rw [Try.params4]; exact plays_open)
    (fun a ha => by
      exact (f4 a.1 a.2.1 a.2.2.1.1 a.2.2.1.2 ha.2.1.1 ha.1 (fun x hx => (ha.2.1.2 x hx).1) ha.2.2.1.1 ha.2.2.1.2).mono (fun r H h => h.1))
    (fun H ds h => by
      rw [Try.params4] at h
      match ds, h with
      | [d0, d1, d2], _ => rfl) hval hW

set_option maxRecDepth 100000 in
theorem plays_lifted (os : Os) (started : os.Started) (H : Type) (enc : TypeId × Value → H) :
    ReturnsInHanded {} Try.checked os 4 .any (Rows.sectorPlaysSpec.pre6 enc Try.prog Try.f4 Rows.sectorPlaysRow.domain false) (Rows.sectorPlaysSpec.post enc Try.prog Try.f4 false true false false) := by
  refine returnsInHanded_of_change (C := Try.checked) plays_own started (by kernel_rfl) Try.func4
    (ChangeSpec.witness6 (enc := enc) (C := Try.checked) false ⟨#[], #[.int .i64 0, .slice none 0 0, .agg ⟨[.int .i64 0, .int .i64 0]⟩], []⟩ 8 (by kernel_rfl) (by kernel_rfl) (by kernel_rfl) (by kernel_rfl)) ?_
  intro W base args ds gs before hval hW hcnd _
  exact plays_contract H enc W base args ds gs before hval hW

theorem plays_over : Rows.sectorPlaysRow.holds Try.pinned (OpenSpec.ofChange Rows.sectorPlaysSpec) :=
  OpenClaim.holds_of_wide 4 Try.f4 rfl rfl rfl rfl rfl rfl rfl ⟨rfl, rfl, rfl, rfl, rfl⟩ rfl rfl rfl rfl rfl (by kernel_rfl) Try.func4 (by kernel_rfl)
    (of_decide_eq_true (by kernel_rfl)) (by unfold Func.isWrapper; first | (rw [if_pos (by decide +kernel)]; kernel_rfl) | (rw [if_neg (by decide +kernel)]; exact ⟨rfl, rfl⟩))
    (fun os started H enc _ => plays_lifted os started H enc)

theorem sectorPlays : Rows.SectorPlaysSaid := plays_over
#print axioms sectorPlays
end Go.Proofs.Ytmppkjcldeljbaa

