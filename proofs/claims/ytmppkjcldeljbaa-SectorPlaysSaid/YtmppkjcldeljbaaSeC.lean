/-
  The statement SectorPlays: any calls of a device, and of its copies, are answered as the document says, without any condition.
-/
import Derived.Test.YtmppkjcldeljbaaSeB
set_option linter.unusedSimpArgs false
set_option linter.unusedVariables false
set_option linter.unusedSimpArgs false
set_option linter.unusedVariables false
set_option maxHeartbeats 4000000
namespace Go.Aw.E1
open Go Go.Proofs

def fillS (n : Nat) (b : UInt8) : ByteArray := ofL (List.replicate (64 * n) b)
theorem fill_step (b : UInt8) (i m : Nat) (h : i < m) : spl ((List.replicate i b ++ List.replicate (m - i) 0).map byteC) i [byteC b] = (List.replicate (i + 1) b ++ List.replicate (m - (i + 1)) 0).map byteC := by
  obtain ⟨k, rfl⟩ : ∃ k, m = i + (k + 1) := ⟨m - i - 1, by omega⟩
  rw [show i + (k + 1) - i = k + 1 by omega, show i + (k + 1) - (i + 1) = k by omega]
  unfold spl
  rw [List.map_append, List.take_left' (by simp), List.length_singleton, show i + 1 = (List.replicate i b ++ [(0 : UInt8)]).length by simp, List.replicate_succ, show List.replicate i b = List.replicate i b from rfl]
  rw [← List.map_append, show List.replicate i b ++ 0 :: List.replicate k 0 = (List.replicate i b ++ [0]) ++ List.replicate k 0 by simp, List.map_append (l₁ := List.replicate i b ++ [0]), List.drop_left' (by simp)]
  simp [List.replicate_succ']
theorem f8 (n : Int) (b : UInt8) (h0 : 0 ≤ n) (h1 : n ≤ 1000000) : Fun P 8 [nV n, byteC b] (sV (fillS n.toNat b)) := by
  obtain ⟨N, rfl⟩ : ∃ N : Nat, n = N := ⟨n.toNat, by omega⟩
  rw [Int.toNat_natCast]
  refine spec_of hT (f := 8) (fn := Go.Proofs.Try.f8) (c := body Go.Proofs.Try.f8) (by kernel_rfl) (by kernel_rfl) ?_
  have w1 : IntKind.wrap .i64 (64 * (N : Int)) = (64 * N : Nat) := by rw [wrap_i64 _ (by omega) (by omega)]; omega
  conv => whnf
  repeat ((first | refine AO.cons hT ?_ | refine AO.nil ?_ | refine AW.seq ?_ | refine AW.region ?_ | refine AW.cond ?_ | refine AW.block ?_ | refine AW.loop ?_ | refine AW.skip ?_ | refine AW.exit ?_ | refine AW.ret ?_ | refine AF.one hT rfl ?_ | refine AF.nil ?_ | refine AF.imm hT rfl rfl rfl ?_ | refine AH.of hT rfl ?_ | refine AD.cons hT rfl ?_ | refine AD.nil ?_ | refine AQ.cons hT rfl ?_ | refine AQ.nil ?_); conv => whnf)
  rw [w1]
  refine AReq.mk ⟨by omega, by omega, by show ((64 * N : Nat) : Int) * 1 ≤ _; omega, by omega⟩ ?_
  conv => whnf
  repeat ((first | refine AO.cons hT ?_ | refine AO.nil ?_ | refine AW.seq ?_ | refine AW.region ?_ | refine AW.cond ?_ | refine AW.block ?_ | refine AW.loop ?_ | refine AW.skip ?_ | refine AW.exit ?_ | refine AW.ret ?_ | refine AF.one hT rfl ?_ | refine AF.nil ?_ | refine AF.imm hT rfl rfl rfl ?_ | refine AH.of hT rfl ?_ | refine AD.cons hT rfl ?_ | refine AD.nil ?_ | refine AQ.cons hT rfl ?_ | refine AQ.nil ?_); conv => whnf)
  rw [List.flatten_replicate_singleton, Int.toNat_natCast]
  refine ALoop.mk (fun j E H => ∃ i : Nat, j + i = 64 * N ∧ E = pad [.any, byteC b, .any, .any, .any, .ms 1 0 0 (64 * N), nV i] 22 ∧ H = [.cells 5 ((List.replicate i b ++ List.replicate (64 * N - i) 0).map byteC)]) (n := 64 * N) _ _ ⟨0, by omega, rfl, rfl⟩ ?_ ?_
  · rw [List.replicate_zero, List.nil_append, List.map_replicate, Nat.sub_zero]
    exact Conv.fit (by repeat' (first | exact Fit.nil | refine Fit.any ?_ | refine Fit.same ?_))
  rintro j _ _ ⟨i, hj, rfl, rfl⟩
  conv => whnf
  repeat ((first | refine AO.cons hT ?_ | refine AO.nil ?_ | refine AW.seq ?_ | refine AW.region ?_ | refine AW.cond ?_ | refine AW.block ?_ | refine AW.loop ?_ | refine AW.skip ?_ | refine AW.exit ?_ | refine AW.ret ?_ | refine AF.one hT rfl ?_ | refine AF.nil ?_ | refine AF.imm hT rfl rfl rfl ?_ | refine AH.of hT rfl ?_ | refine AD.cons hT rfl ?_ | refine AD.nil ?_ | refine AQ.cons hT rfl ?_ | refine AQ.nil ?_); conv => whnf)
  refine ACond.dec (fun h4 => ?_) (fun h4 => ?_)
  · conv => whnf
    repeat ((first | refine AO.cons hT ?_ | refine AO.nil ?_ | refine AW.seq ?_ | refine AW.region ?_ | refine AW.cond ?_ | refine AW.block ?_ | refine AW.loop ?_ | refine AW.skip ?_ | refine AW.exit ?_ | refine AW.ret ?_ | refine AF.one hT rfl ?_ | refine AF.nil ?_ | refine AF.imm hT rfl rfl rfl ?_ | refine AH.of hT rfl ?_ | refine AD.cons hT rfl ?_ | refine AD.nil ?_ | refine AQ.cons hT rfl ?_ | refine AQ.nil ?_); conv => whnf)
    refine AReq.mk ⟨by omega, by omega⟩ ?_
    conv => whnf
    repeat ((first | refine AO.cons hT ?_ | refine AO.nil ?_ | refine AW.seq ?_ | refine AW.region ?_ | refine AW.cond ?_ | refine AW.block ?_ | refine AW.loop ?_ | refine AW.skip ?_ | refine AW.exit ?_ | refine AW.ret ?_ | refine AF.one hT rfl ?_ | refine AF.nil ?_ | refine AF.imm hT rfl rfl rfl ?_ | refine AH.of hT rfl ?_ | refine AD.cons hT rfl ?_ | refine AD.nil ?_ | refine AQ.cons hT rfl ?_ | refine AQ.nil ?_); conv => whnf)
    refine AReq.mk rfl ?_
    rw [show 0 + Int.toNat (i : Int) * 1 + 0 = i by omega]
    refine AUpd.to _ ?_ (fill_step b i (64 * N) (by omega)) ?_
    · simp; omega
    conv => whnf
    repeat ((first | refine AO.cons hT ?_ | refine AO.nil ?_ | refine AW.seq ?_ | refine AW.region ?_ | refine AW.cond ?_ | refine AW.block ?_ | refine AW.loop ?_ | refine AW.skip ?_ | refine AW.exit ?_ | refine AW.ret ?_ | refine AF.one hT rfl ?_ | refine AF.nil ?_ | refine AF.imm hT rfl rfl rfl ?_ | refine AH.of hT rfl ?_ | refine AD.cons hT rfl ?_ | refine AD.nil ?_ | refine AQ.cons hT rfl ?_ | refine AQ.nil ?_); conv => whnf)
    rw [wrap_i64 ((i : Int) + 1) (by omega) (by omega)]
    exact AHead.mk (64 * N - (i + 1)) _ _ (by omega) ⟨i + 1, by omega, rfl, rfl⟩ (Conv.fit (by repeat' (first | exact Fit.nil | refine Fit.any ?_ | refine Fit.same ?_)))
  · obtain rfl : i = 64 * N := by omega
    rw [Nat.sub_self, List.replicate_zero, List.append_nil]
    conv => whnf
    repeat ((first | refine AO.cons hT ?_ | refine AO.nil ?_ | refine AW.seq ?_ | refine AW.region ?_ | refine AW.cond ?_ | refine AW.block ?_ | refine AW.loop ?_ | refine AW.skip ?_ | refine AW.exit ?_ | refine AW.ret ?_ | refine AF.one hT rfl ?_ | refine AF.nil ?_ | refine AF.imm hT rfl rfl rfl ?_ | refine AH.of hT rfl ?_ | refine AD.cons hT rfl ?_ | refine AD.nil ?_ | refine AQ.cons hT rfl ?_ | refine AQ.nil ?_); conv => whnf)
    refine AOut.stay ?_
    conv => whnf
    repeat ((first | refine AO.cons hT ?_ | refine AO.nil ?_ | refine AW.seq ?_ | refine AW.region ?_ | refine AW.cond ?_ | refine AW.block ?_ | refine AW.loop ?_ | refine AW.skip ?_ | refine AW.exit ?_ | refine AW.ret ?_ | refine AF.one hT rfl ?_ | refine AF.nil ?_ | refine AF.imm hT rfl rfl rfl ?_ | refine AH.of hT rfl ?_ | refine AD.cons hT rfl ?_ | refine AD.nil ?_ | refine AQ.cons hT rfl ?_ | refine AQ.nil ?_); conv => whnf)
    refine ACut.all (by simp) ?_
    conv => whnf
    repeat ((first | refine AO.cons hT ?_ | refine AO.nil ?_ | refine AW.seq ?_ | refine AW.region ?_ | refine AW.cond ?_ | refine AW.block ?_ | refine AW.loop ?_ | refine AW.skip ?_ | refine AW.exit ?_ | refine AW.ret ?_ | refine AF.one hT rfl ?_ | refine AF.nil ?_ | refine AF.imm hT rfl rfl rfl ?_ | refine AH.of hT rfl ?_ | refine AD.cons hT rfl ?_ | refine AD.nil ?_ | refine AQ.cons hT rfl ?_ | refine AQ.nil ?_); conv => whnf)
    refine AStr.mk ?_
    conv => whnf
    repeat ((first | refine AO.cons hT ?_ | refine AO.nil ?_ | refine AW.seq ?_ | refine AW.region ?_ | refine AW.cond ?_ | refine AW.block ?_ | refine AW.loop ?_ | refine AW.skip ?_ | refine AW.exit ?_ | refine AW.ret ?_ | refine AF.one hT rfl ?_ | refine AF.nil ?_ | refine AF.imm hT rfl rfl rfl ?_ | refine AH.of hT rfl ?_ | refine AD.cons hT rfl ?_ | refine AD.nil ?_ | refine AQ.cons hT rfl ?_ | refine AQ.nil ?_); conv => whnf)
    exact AFin.val rfl ⟨rfl, rfl⟩
end Go.Aw.E1

set_option linter.unusedSimpArgs false
set_option linter.unusedVariables false
set_option maxHeartbeats 4000000
namespace Go.Aw.E1
open Go Go.Proofs

theorem f26 (a b : List Int) (hl : a.length ≤ 4611686018427387904) (hl2 : b.length ≤ 4611686018427387904) : Fun P 26 [iVs a, iVs b] (.v (.bool (decide (a = b)))) := by
  refine spec_of hT (f := 26) (fn := Go.Proofs.Try.f26) (c := body Go.Proofs.Try.f26) (by kernel_rfl) (by kernel_rfl) ?_
  conv => whnf
  repeat ((first | refine AW.plan (id := 6) hm (.one 0 (.one 1 (.one 2 (.one 4 (.one 5 (.one 6 (.one 3 (.one 7 (.one 8 .nil))))))))) (by kernel_rfl) ?_ | refine AO.cons hT ?_ | refine AO.nil ?_ | refine AW.seq ?_ | refine AW.region ?_ | refine AW.cond ?_ | refine AW.block ?_ | refine AW.loop ?_ | refine AW.skip ?_ | refine AW.exit ?_ | refine AW.ret ?_ | refine AF.one hT rfl ?_ | refine AF.nil ?_ | refine AF.imm hT rfl rfl rfl ?_ | refine AH.of hT rfl ?_ | refine AD.cons hT rfl ?_ | refine AD.nil ?_ | refine AQ.cons hT rfl ?_ | refine AQ.nil ?_); conv => whnf)
  refine ACond.ndec (fun h => ?_) (fun h => ?_)
  · conv => whnf
    repeat ((first | refine AW.plan (id := 6) hm (.one 0 (.one 1 (.one 2 (.one 4 (.one 5 (.one 6 (.one 3 (.one 7 (.one 8 .nil))))))))) (by kernel_rfl) ?_ | refine AO.cons hT ?_ | refine AO.nil ?_ | refine AW.seq ?_ | refine AW.region ?_ | refine AW.cond ?_ | refine AW.block ?_ | refine AW.loop ?_ | refine AW.skip ?_ | refine AW.exit ?_ | refine AW.ret ?_ | refine AF.one hT rfl ?_ | refine AF.nil ?_ | refine AF.imm hT rfl rfl rfl ?_ | refine AH.of hT rfl ?_ | refine AD.cons hT rfl ?_ | refine AD.nil ?_ | refine AQ.cons hT rfl ?_ | refine AQ.nil ?_); conv => whnf)
    refine AFin.val rfl ⟨?_, rfl⟩
    rw [decide_eq_false (fun e => h (by rw [e]))]
  have hlen : a.length = b.length := by omega
  conv => whnf
  repeat ((first | refine AW.plan (id := 6) hm (.one 0 (.one 1 (.one 2 (.one 4 (.one 5 (.one 6 (.one 3 (.one 7 (.one 8 .nil))))))))) (by kernel_rfl) ?_ | refine AO.cons hT ?_ | refine AO.nil ?_ | refine AW.seq ?_ | refine AW.region ?_ | refine AW.cond ?_ | refine AW.block ?_ | refine AW.loop ?_ | refine AW.skip ?_ | refine AW.exit ?_ | refine AW.ret ?_ | refine AF.one hT rfl ?_ | refine AF.nil ?_ | refine AF.imm hT rfl rfl rfl ?_ | refine AH.of hT rfl ?_ | refine AD.cons hT rfl ?_ | refine AD.nil ?_ | refine AQ.cons hT rfl ?_ | refine AQ.nil ?_); conv => whnf)
  refine ALoop.mk (fun n E H => ∃ i : Nat, i ≤ a.length ∧ (∀ k, k < i → a[k]? = b[k]?) ∧ n = a.length - i ∧ E = pad [iVs a, iVs b, .any, .any, .v (.bool false), .v (.int .i64 i)] 26 ∧ H = [])
    (n := a.length) _ _ ⟨0, by omega, by omega, rfl, rfl, rfl⟩ (Conv.fit ?_) ?_
  · repeat' (first | exact Fit.nil | refine Fit.any ?_ | refine Fit.same ?_)
  rintro _ _ _ ⟨i, hi, hok, rfl, rfl, rfl⟩
  conv => whnf
  repeat ((first | refine AW.plan (id := 6) hm (.one 0 (.one 1 (.one 2 (.one 4 (.one 5 (.one 6 (.one 3 (.one 7 (.one 8 .nil))))))))) (by kernel_rfl) ?_ | refine AO.cons hT ?_ | refine AO.nil ?_ | refine AW.seq ?_ | refine AW.region ?_ | refine AW.cond ?_ | refine AW.block ?_ | refine AW.loop ?_ | refine AW.skip ?_ | refine AW.exit ?_ | refine AW.ret ?_ | refine AF.one hT rfl ?_ | refine AF.nil ?_ | refine AF.imm hT rfl rfl rfl ?_ | refine AH.of hT rfl ?_ | refine AD.cons hT rfl ?_ | refine AD.nil ?_ | refine AQ.cons hT rfl ?_ | refine AQ.nil ?_); conv => whnf)
  refine ACond.dec (fun h => ?_) (fun h => ?_)
  · have hil : i < a.length := by omega
    have hil2 : i < b.length := by omega
    conv => whnf
    repeat ((first | refine AW.plan (id := 6) hm (.one 0 (.one 1 (.one 2 (.one 4 (.one 5 (.one 6 (.one 3 (.one 7 (.one 8 .nil))))))))) (by kernel_rfl) ?_ | refine AO.cons hT ?_ | refine AO.nil ?_ | refine AW.seq ?_ | refine AW.region ?_ | refine AW.cond ?_ | refine AW.block ?_ | refine AW.loop ?_ | refine AW.skip ?_ | refine AW.exit ?_ | refine AW.ret ?_ | refine AF.one hT rfl ?_ | refine AF.nil ?_ | refine AF.imm hT rfl rfl rfl ?_ | refine AH.of hT rfl ?_ | refine AD.cons hT rfl ?_ | refine AD.nil ?_ | refine AQ.cons hT rfl ?_ | refine AQ.nil ?_); conv => whnf)
    refine AReq.mk (by omega) ?_
    conv => whnf
    repeat ((first | refine AW.plan (id := 6) hm (.one 0 (.one 1 (.one 2 (.one 4 (.one 5 (.one 6 (.one 3 (.one 7 (.one 8 .nil))))))))) (by kernel_rfl) ?_ | refine AO.cons hT ?_ | refine AO.nil ?_ | refine AW.seq ?_ | refine AW.region ?_ | refine AW.cond ?_ | refine AW.block ?_ | refine AW.loop ?_ | refine AW.skip ?_ | refine AW.exit ?_ | refine AW.ret ?_ | refine AF.one hT rfl ?_ | refine AF.nil ?_ | refine AF.imm hT rfl rfl rfl ?_ | refine AH.of hT rfl ?_ | refine AD.cons hT rfl ?_ | refine AD.nil ?_ | refine AQ.cons hT rfl ?_ | refine AQ.nil ?_); conv => whnf)
    refine AIdx.map1 (i := i) hil ?_
    conv => whnf
    repeat ((first | refine AW.plan (id := 6) hm (.one 0 (.one 1 (.one 2 (.one 4 (.one 5 (.one 6 (.one 3 (.one 7 (.one 8 .nil))))))))) (by kernel_rfl) ?_ | refine AO.cons hT ?_ | refine AO.nil ?_ | refine AW.seq ?_ | refine AW.region ?_ | refine AW.cond ?_ | refine AW.block ?_ | refine AW.loop ?_ | refine AW.skip ?_ | refine AW.exit ?_ | refine AW.ret ?_ | refine AF.one hT rfl ?_ | refine AF.nil ?_ | refine AF.imm hT rfl rfl rfl ?_ | refine AH.of hT rfl ?_ | refine AD.cons hT rfl ?_ | refine AD.nil ?_ | refine AQ.cons hT rfl ?_ | refine AQ.nil ?_); conv => whnf)
    refine AReq.mk (by omega) ?_
    conv => whnf
    repeat ((first | refine AW.plan (id := 6) hm (.one 0 (.one 1 (.one 2 (.one 4 (.one 5 (.one 6 (.one 3 (.one 7 (.one 8 .nil))))))))) (by kernel_rfl) ?_ | refine AO.cons hT ?_ | refine AO.nil ?_ | refine AW.seq ?_ | refine AW.region ?_ | refine AW.cond ?_ | refine AW.block ?_ | refine AW.loop ?_ | refine AW.skip ?_ | refine AW.exit ?_ | refine AW.ret ?_ | refine AF.one hT rfl ?_ | refine AF.nil ?_ | refine AF.imm hT rfl rfl rfl ?_ | refine AH.of hT rfl ?_ | refine AD.cons hT rfl ?_ | refine AD.nil ?_ | refine AQ.cons hT rfl ?_ | refine AQ.nil ?_); conv => whnf)
    refine AIdx.map1 (i := i) hil2 ?_
    conv => whnf
    repeat ((first | refine AW.plan (id := 6) hm (.one 0 (.one 1 (.one 2 (.one 4 (.one 5 (.one 6 (.one 3 (.one 7 (.one 8 .nil))))))))) (by kernel_rfl) ?_ | refine AO.cons hT ?_ | refine AO.nil ?_ | refine AW.seq ?_ | refine AW.region ?_ | refine AW.cond ?_ | refine AW.block ?_ | refine AW.loop ?_ | refine AW.skip ?_ | refine AW.exit ?_ | refine AW.ret ?_ | refine AF.one hT rfl ?_ | refine AF.nil ?_ | refine AF.imm hT rfl rfl rfl ?_ | refine AH.of hT rfl ?_ | refine AD.cons hT rfl ?_ | refine AD.nil ?_ | refine AQ.cons hT rfl ?_ | refine AQ.nil ?_); conv => whnf)
    refine ACond.ndec (fun he => ?_) (fun he => ?_)
    · conv => whnf
      repeat ((first | refine AW.plan (id := 6) hm (.one 0 (.one 1 (.one 2 (.one 4 (.one 5 (.one 6 (.one 3 (.one 7 (.one 8 .nil))))))))) (by kernel_rfl) ?_ | refine AO.cons hT ?_ | refine AO.nil ?_ | refine AW.seq ?_ | refine AW.region ?_ | refine AW.cond ?_ | refine AW.block ?_ | refine AW.loop ?_ | refine AW.skip ?_ | refine AW.exit ?_ | refine AW.ret ?_ | refine AF.one hT rfl ?_ | refine AF.nil ?_ | refine AF.imm hT rfl rfl rfl ?_ | refine AH.of hT rfl ?_ | refine AD.cons hT rfl ?_ | refine AD.nil ?_ | refine AQ.cons hT rfl ?_ | refine AQ.nil ?_); conv => whnf)
      refine AOut.stay ?_
      refine AFin.val rfl ⟨?_, rfl⟩
      rw [decide_eq_false (fun e => he (by subst e; rfl))]
    · conv => whnf
      repeat ((first | refine AW.plan (id := 6) hm (.one 0 (.one 1 (.one 2 (.one 4 (.one 5 (.one 6 (.one 3 (.one 7 (.one 8 .nil))))))))) (by kernel_rfl) ?_ | refine AO.cons hT ?_ | refine AO.nil ?_ | refine AW.seq ?_ | refine AW.region ?_ | refine AW.cond ?_ | refine AW.block ?_ | refine AW.loop ?_ | refine AW.skip ?_ | refine AW.exit ?_ | refine AW.ret ?_ | refine AF.one hT rfl ?_ | refine AF.nil ?_ | refine AF.imm hT rfl rfl rfl ?_ | refine AH.of hT rfl ?_ | refine AD.cons hT rfl ?_ | refine AD.nil ?_ | refine AQ.cons hT rfl ?_ | refine AQ.nil ?_); conv => whnf)
      rw [wrap_i64 ((i : Int) + 1) (by omega) (by omega)]
      refine AHead.mk (a.length - (i + 1)) _ _ (by omega) ⟨i + 1, by omega, ?_, rfl, rfl, rfl⟩ (Conv.fit ?_)
      · intro k hk
        rcases Nat.lt_or_ge k i with h1 | h1
        · exact hok k h1
        · obtain rfl : k = i := by omega
          rw [List.getElem?_eq_getElem hil, List.getElem?_eq_getElem hil2]
          exact congrArg some he
      · repeat' (first | exact Fit.nil | refine Fit.any ?_ | refine Fit.same ?_)
  · obtain rfl : i = a.length := by omega
    conv => whnf
    repeat ((first | refine AW.plan (id := 6) hm (.one 0 (.one 1 (.one 2 (.one 4 (.one 5 (.one 6 (.one 3 (.one 7 (.one 8 .nil))))))))) (by kernel_rfl) ?_ | refine AO.cons hT ?_ | refine AO.nil ?_ | refine AW.seq ?_ | refine AW.region ?_ | refine AW.cond ?_ | refine AW.block ?_ | refine AW.loop ?_ | refine AW.skip ?_ | refine AW.exit ?_ | refine AW.ret ?_ | refine AF.one hT rfl ?_ | refine AF.nil ?_ | refine AF.imm hT rfl rfl rfl ?_ | refine AH.of hT rfl ?_ | refine AD.cons hT rfl ?_ | refine AD.nil ?_ | refine AQ.cons hT rfl ?_ | refine AQ.nil ?_); conv => whnf)
    refine AOut.stay ?_
    conv => whnf
    repeat ((first | refine AW.plan (id := 6) hm (.one 0 (.one 1 (.one 2 (.one 4 (.one 5 (.one 6 (.one 3 (.one 7 (.one 8 .nil))))))))) (by kernel_rfl) ?_ | refine AO.cons hT ?_ | refine AO.nil ?_ | refine AW.seq ?_ | refine AW.region ?_ | refine AW.cond ?_ | refine AW.block ?_ | refine AW.loop ?_ | refine AW.skip ?_ | refine AW.exit ?_ | refine AW.ret ?_ | refine AF.one hT rfl ?_ | refine AF.nil ?_ | refine AF.imm hT rfl rfl rfl ?_ | refine AH.of hT rfl ?_ | refine AD.cons hT rfl ?_ | refine AD.nil ?_ | refine AQ.cons hT rfl ?_ | refine AQ.nil ?_); conv => whnf)
    refine AFin.val rfl ⟨?_, rfl⟩
    rw [decide_eq_true]
    apply List.ext_getElem?
    intro k
    rcases Nat.lt_or_ge k a.length with h1 | h1
    · exact hok k h1
    · rw [List.getElem?_eq_none h1, List.getElem?_eq_none (by omega)]
end Go.Aw.E1

set_option linter.unusedSimpArgs false
set_option linter.unusedVariables false
set_option maxHeartbeats 4000000
namespace Go.Aw.E1
open Go Go.Proofs

theorem wrF_ok : ∀ (m : Nat) (x : Dd) (k : Nat) (t : List UInt8), Dok x → k + m ≤ x.n → 64 * m ≤ t.length → Dok (wrF m x k t).1 ∧ (wrF m x k t).1.n = x.n
  | 0, x, k, t, h, _, _ => by rw [wrF]; exact ⟨h, rfl⟩
  | m + 1, x, k, t, h, h1, h2 => by
    have hn := lastD_n x
    have hok : Dok (putD (lastD x) k (t.take 64)) := h.last.put (by rw [hn]; omega) (by rw [List.length_take]; omega)
    rw [wrF]
    split
    · exact ⟨hok, hn⟩
    · have := wrF_ok m _ (k + 1) (t.drop 64) hok (by show k + 1 + m ≤ (lastD x).n; omega) (by rw [List.length_drop]; omega)
      exact ⟨this.1, this.2.trans hn⟩
theorem write_ok {x : Dd} (h : Dok x) (at_ : Int) (s : ByteArray) : Dok (writeF x at_ s).1 ∧ (writeF x at_ s).1.n = x.n := by
  unfold writeF
  split
  · exact ⟨h, rfl⟩
  · split
    · exact ⟨h, rfl⟩
    · split
      · have hs := size_list s
        exact wrF_ok _ _ _ _ h (by omega) (by omega)
      · exact ⟨h, rfl⟩
theorem flush_ok {x : Dd} (h : Dok x) : Dok (flushD x) ∧ (flushD x).n = x.n := by
  unfold flushD
  split
  · exact ⟨h, rfl⟩
  · split
    · exact ⟨h.last, lastD_n x⟩
    · refine ⟨⟨h.last.pos, h.last.le, h.last.len, by simp, by simp⟩, lastD_n x⟩
theorem bootL_ok (c : Ch) : ∀ (S : List Int) (i : Nat) (y : Dd), Dok y → (y.L.map (·.1)).Perm S → Dok (bootL c i S y) ∧ (bootL c i S y).n = y.n ∧ (bootL c i S y).L = []
  | [], i, y, h, hp => by rw [bootL]; exact ⟨h, rfl, by simpa using hp.eq_nil⟩
  | k :: S, i, y, h, hp => by
    rw [bootL]
    have := bootL_ok c S (i + 1) (bootS c i k y) (h.boot (hp.mem_iff.2 (List.mem_cons_self ..))) (del_perm h.nd hp)
    exact this
theorem kS_perm (L : List (Int × List UInt8)) : (L.map (·.1)).Perm (kS L) := (List.mergeSort_perm _ _).symm
theorem boot_ok {x : Dd} (h : Dok x) (c : Ch) : Dok (bootD c x) ∧ (bootD c x).n = x.n ∧ (bootD c x).L = [] := by
  obtain ⟨h1, h2, h3⟩ := bootL_ok c (kS x.L) 0 x h (kS_perm x.L)
  exact ⟨⟨h1.pos, h1.le, h1.len, h1.keys, h1.nd⟩, h2, h3⟩
theorem new_ok {n : Nat} (h : 0 < n) (h2 : n ≤ 2000) : Dok (newD n) := ⟨h, h2, by simp [newD], by simp [newD], by simp [newD]⟩
theorem kS_sorted (L : List (Int × List UInt8)) : (kS L).Pairwise (fun x y => x ≤ y) := by
  have := List.pairwise_mergeSort (le := fun (x y : Int) => decide (x ≤ y)) (fun a b c h1 h2 => by simp at *; omega) (fun a b => by simp; omega) (L.map (·.1))
  exact this.imp (by simp)
theorem kS_eq {L : List (Int × List UInt8)} {S : List Int} (h : (L.map (·.1)).Perm S) (hs : S.Pairwise (fun x y => x ≤ y)) : kS L = S :=
  List.Perm.eq_of_pairwise (le := fun x y => x ≤ y) (fun a b _ _ h1 h2 => by omega) (kS_sorted L) hs ((kS_perm L).symm.trans h)

set_option maxRecDepth 100000
def aw1 : Dd := (writeF (newD 4) 1 (fillS 2 120)).1
def awC : Ch := ⟨[true], 1, 3⟩
def aw2 : Dd := bootD awC aw1
theorem aw1_ok : Dok aw1 := (write_ok (new_ok (by decide) (by decide)) _ _).1
theorem aw1_L : aw1.L.map (·.1) = [1, 2] := by decide +kernel
theorem aw1_k : kS aw1.L = [1, 2] := kS_eq (by rw [aw1_L]) (by decide)
theorem aw2_ok : Dok aw2 := (boot_ok aw1_ok _).1
theorem aw2_n : aw2.n = 4 := (boot_ok aw1_ok _).2.1.trans (write_ok (new_ok (by decide) (by decide)) _ _).2
def aw2' : Dd := { bootL awC 0 [1, 2] aw1 with f := false, a := 0 }
theorem aw2_eq : aw2 = aw2' := by unfold aw2 aw2' bootD; rw [aw1_k]
theorem aw2_o : aw2.o = 2 := by rw [aw2_eq]; decide +kernel
theorem aw2_f : aw2.f = false := rfl
theorem aw2_r : (readF aw2 1 2).1.data.toList = List.replicate 67 120 ++ List.replicate 61 0 := by rw [aw2_eq]; decide +kernel
theorem aw2_e : (readF aw2 1 2).2 = 0 := by rw [aw2_eq]; decide +kernel
theorem aw1_e : (writeF (newD 4) 1 (fillS 2 120)).2 = 0 := by decide +kernel
end Go.Aw.E1

set_option linter.unusedSimpArgs false
set_option linter.unusedVariables false
set_option maxHeartbeats 400000
namespace Go.Aw.E1
open Go Go.Proofs
set_option maxRecDepth 100000

theorem callNew {H : List ABlk} {K : AV → List ABlk → Prop} (n : Nat) (h0 : 0 < n) (h1 : n ≤ 2000) (k : K (.tup [.ptr H.length 0, nV 0]) (H ++ [dD (H.length + 1) (H.length + 2) (newD n), dC (newD n), dM (newD n) [] 0])) : ACall P 9 [nV n] H K := by
  refine ACall.spec (by kernel_rfl) (f9 n (nOk_of (by omega) (by omega))) rfl ?_
  intro r H' h
  rw [if_neg (by omega)] at h
  obtain ⟨rfl, rfl⟩ := h
  rw [Int.toNat_natCast]
  simp only [dvH, List.map_cons, List.map_nil, dD_ren, dC_ren, dM_ren]
  have e : ∀ i, nm [] H.length i = H.length + i := by intro i; simp [nm, Nat.add_comm]
  simp only [e] 
  simp only [AV.ren, renL, e, Nat.add_zero]
  exact k
theorem callBad {H : List ABlk} {K : AV → List ABlk → Prop} (n : Int) (hn : nOk n) (h0 : n < 1 ∨ n > 2000) (k : K (.tup [.v (.pointer none), nV 2]) H) : ACall P 9 [nV n] H K := by
  refine ACall.spec (by kernel_rfl) (f9 n hn) rfl ?_
  intro r H' h
  rw [if_pos h0] at h
  obtain ⟨rfl, rfl⟩ := h
  rw [List.map_nil, List.append_nil]
  exact k

theorem ACall.devL {f : Nat} {args args0 : List AV} {x : Dd} {R : AV → Dd → Prop} {H : List ABlk} {K : AV → List ABlk → Prop} {l lc lm : Nat} {bs : List Nat} {ck : Nat} (hc : callOk P f = true) (h : DSpec f args0 x R)
    (h1 : H[l]? = some (dD lc lm x)) (h2 : H[lc]? = some (dC x)) (h3 : H[lm]? = some (dM x bs ck)) (hn : [l, lc, lm].Nodup) (ha : LendL H [] (nm [l, lc, lm] H.length) args args0) (hr : ∀ r y, R r y → ∀ ρ, r.ren ρ = r)
    (k : ∀ r y bs' ck', R r y → K r (((H.set l (dD lc lm y)).set lc (dC y)).set lm (dM y bs' ck'))) : ACall P f (.ptr l 0 :: args) H K := by
  refine ACall.of hc (h bs ck) [l, lc, lm] [] hn ?_ (by simp) (by simp) (.cons (.same rfl) ha) (.inl rfl) ?_
  · refine .same ?_ (.same ?_ (.same ?_ .nil))
    · rw [h1, dD_ren]; rfl
    · rw [h2, dC_ren]
    · rw [h3, dM_ren]
  · rintro r _ ⟨y, bs', ck', hR, rfl⟩
    rw [hr r y hR]
    have := k r y bs' ck' hR
    simp only [dvH, mergeH, dD_ren, dC_ren, dM_ren, List.map_nil, List.append_nil]
    exact this
theorem aw2_w1 : writeF aw2 3 (fillS 2 120) = (aw2, 21) := by
  have h1 : (fillS 2 120).size = 128 := by decide +kernel
  unfold writeF
  rw [if_neg (by rw [aw2_f]; simp), if_neg (by rw [h1]; decide), if_neg (by rw [aw2_n, h1]; decide)]
theorem aw2_w2 : writeF aw2 0 ⟨#[120]⟩ = (aw2, 2) := by
  unfold writeF
  rw [if_neg (by rw [aw2_f]; simp), if_pos (by left; decide)]
theorem aw1_f : aw1.f = false := by decide +kernel

theorem str_eq (s t : ByteArray) : (s.toList == t.toList) = decide (s = t) := by
  rw [Go.ByteArray.toList_eq, Go.ByteArray.toList_eq, Bool.eq_iff_iff, beq_iff_eq, decide_eq_true_iff]
  exact ⟨list_inj, fun h => by rw [h]⟩
theorem aw2_s : (readF aw2 1 2).1 = fillS (Int.toNat 1) 120 ++ ⟨#[120, 120, 120]⟩ ++ (fillS (Int.toNat 1) 0).extract (Int.toNat 3) (fillS (Int.toNat 1) 0).size := by
  apply list_inj
  rw [aw2_r]
  decide +kernel
theorem aw_all : ∃ u z : Dd, writeF (newD 4) 1 (fillS 2 120) = (u, 0) ∧ Dok u ∧ u.f = false ∧ kS u.L = [1, 2] ∧ bootD awC u = z ∧ Dok z ∧ z.n = 4 ∧ z.o = 2 ∧ z.f = false ∧ (readF z 1 2).2 = 0 ∧
    (readF z 1 2).1 = fillS (Int.toNat 1) 120 ++ ⟨#[120, 120, 120]⟩ ++ (fillS (Int.toNat 1) 0).extract (Int.toNat 3) (fillS (Int.toNat 1) 0).size ∧ writeF z 3 (fillS 2 120) = (z, 21) ∧ writeF z 0 ⟨#[120]⟩ = (z, 2) :=
  ⟨aw1, aw2, by rw [← aw1_e]; rfl, aw1_ok, aw1_f, aw1_k, rfl, aw2_ok, aw2_n, aw2_o, aw2_f, aw2_e, aw2_s, aw2_w1, aw2_w2⟩
theorem f7 : Fun P 7 [] (.v (.bool true)) := by
  obtain ⟨u, z, g1, g2, g3, g4, g5, g6, g7, g8, g9, g10, g11, g12, g13⟩ := aw_all
  refine spec_of hT (f := 7) (fn := Go.Proofs.Try.f7) (c := body Go.Proofs.Try.f7) (by kernel_rfl) (by kernel_rfl) ?_
  conv => whnf
  repeat ((first | refine AO.cons hT ?_ | refine AO.nil ?_ | refine AW.seq ?_ | refine AW.region ?_ | refine AW.cond ?_ | refine AW.block ?_ | refine AW.loop ?_ | refine AW.skip ?_ | refine AW.exit ?_ | refine AW.ret ?_ | refine AF.one hT rfl ?_ | refine AF.nil ?_ | refine AF.imm hT rfl rfl rfl ?_ | refine AH.of hT rfl ?_ | refine AD.cons hT rfl ?_ | refine AD.nil ?_ | refine AQ.cons hT rfl ?_ | refine AQ.nil ?_); conv => whnf)
  refine callNew 4 (by decide) (by decide) ?_
  simp only [List.length_nil, Nat.zero_add, List.nil_append, List.set_cons_zero, List.set_cons_succ]
  conv => whnf
  repeat (first | (refine AO.cons hT ?_; conv => whnf) | (refine AO.nil ?_; conv => whnf) | (refine AW.seq ?_; conv => whnf) | (refine AW.region ?_; conv => whnf) | (refine AW.cond ?_; conv => whnf) | (refine AW.block ?_; conv => whnf) | (refine AW.loop ?_; conv => whnf) | (refine AW.skip ?_; conv => whnf) | (refine AW.exit ?_; conv => whnf) | (refine AW.ret ?_; conv => whnf) | (refine AF.one hT rfl ?_; conv => whnf) | (refine AF.nil ?_; conv => whnf) | (refine AF.imm hT rfl rfl rfl ?_; conv => whnf) | (refine AH.of hT rfl ?_; conv => whnf) | (refine ASplit.yes rfl ?_; conv => whnf) | (refine ACond.yes rfl ?_; conv => whnf) | (refine ASplit.no rfl ?_; conv => whnf) | (refine ACond.no rfl ?_; conv => whnf) | (refine ASplit.yes (by decide) ?_; conv => whnf) | (refine ACond.yes (by decide) ?_; conv => whnf) | (refine AReq.mk (by decide) ?_; conv => whnf) | (refine AIdx.iff.2 ⟨by decide, ?_⟩; conv => whnf))
  refine ACall.val (by kernel_rfl) (f8 2 120 (by decide) (by decide)) rfl rfl ?_
  conv => whnf
  repeat ((first | refine AO.cons hT ?_ | refine AO.nil ?_ | refine AW.seq ?_ | refine AW.region ?_ | refine AW.cond ?_ | refine AW.block ?_ | refine AW.loop ?_ | refine AW.skip ?_ | refine AW.exit ?_ | refine AW.ret ?_ | refine AF.one hT rfl ?_ | refine AF.nil ?_ | refine AF.imm hT rfl rfl rfl ?_ | refine AH.of hT rfl ?_ | refine AD.cons hT rfl ?_ | refine AD.nil ?_ | refine AQ.cons hT rfl ?_ | refine AQ.nil ?_); conv => whnf)
  refine ACall.dev (by kernel_rfl) (f10 (newD 4) (new_ok (by decide) (by decide)) 1 (fillS 2 120) rfl (by decide +kernel)) rfl rfl rfl (by decide) (fun _ => rfl) (by rintro _ _ ⟨rfl, _⟩ _; rfl) ?_
  rintro _ _ bs1 ck1 ⟨rfl, rfl⟩
  rw [g1]
  simp only [List.length_nil, Nat.zero_add, List.nil_append, List.set_cons_zero, List.set_cons_succ]
  conv => whnf
  repeat ((first | refine AO.cons hT ?_ | refine AO.nil ?_ | refine AW.seq ?_ | refine AW.region ?_ | refine AW.cond ?_ | refine AW.block ?_ | refine AW.loop ?_ | refine AW.skip ?_ | refine AW.exit ?_ | refine AW.ret ?_ | refine AF.one hT rfl ?_ | refine AF.nil ?_ | refine AF.imm hT rfl rfl rfl ?_ | refine AH.of hT rfl ?_ | refine AD.cons hT rfl ?_ | refine AD.nil ?_ | refine AQ.cons hT rfl ?_ | refine AQ.nil ?_); conv => whnf)
  refine ACall.dev (by kernel_rfl) (f16 u g2) rfl rfl rfl (by decide) (fun _ => rfl) (by rintro _ _ ⟨rfl, _⟩ ρ; rw [g3]; exact iVs_ren ρ _) ?_
  rintro _ x bs2 ck2 ⟨rfl, hx⟩
  rw [hx, g3, g4]
  simp only [List.length_nil, Nat.zero_add, List.nil_append, List.set_cons_zero, List.set_cons_succ]
  conv => whnf
  repeat ((first | refine AO.cons hT ?_ | refine AO.nil ?_ | refine AW.seq ?_ | refine AW.region ?_ | refine AW.cond ?_ | refine AW.block ?_ | refine AW.loop ?_ | refine AW.skip ?_ | refine AW.exit ?_ | refine AW.ret ?_ | refine AF.one hT rfl ?_ | refine AF.nil ?_ | refine AF.imm hT rfl rfl rfl ?_ | refine AH.of hT rfl ?_ | refine AD.cons hT rfl ?_ | refine AD.nil ?_ | refine AQ.cons hT rfl ?_ | refine AQ.nil ?_); conv => whnf)
  refine ACall.devL (by kernel_rfl) (f14 u g2 awC (by decide)) rfl rfl rfl (by decide) (.cons (.agg (.cons (.vx rfl) (.cons (.same rfl) (.cons (.same rfl) .nil)))) .nil) (by rintro _ _ ⟨rfl, _⟩ _; rfl) ?_
  rintro _ y bs3 ck3 ⟨rfl, hy⟩
  rw [hy, g5]
  simp only [List.length_nil, Nat.zero_add, List.nil_append, List.set_cons_zero, List.set_cons_succ]
  conv => whnf
  repeat ((first | refine AO.cons hT ?_ | refine AO.nil ?_ | refine AW.seq ?_ | refine AW.region ?_ | refine AW.cond ?_ | refine AW.block ?_ | refine AW.loop ?_ | refine AW.skip ?_ | refine AW.exit ?_ | refine AW.ret ?_ | refine AF.one hT rfl ?_ | refine AF.nil ?_ | refine AF.imm hT rfl rfl rfl ?_ | refine AH.of hT rfl ?_ | refine AD.cons hT rfl ?_ | refine AD.nil ?_ | refine AQ.cons hT rfl ?_ | refine AQ.nil ?_); conv => whnf)
  refine ACall.dev (by kernel_rfl) (f15 z g6 1 2 rfl rfl) rfl rfl rfl (by decide) (fun _ => rfl) (by rintro _ _ ⟨rfl, _⟩ _; rfl) ?_
  rintro _ y bs4 ck4 ⟨rfl, hy⟩
  rw [hy, g10]
  simp only [List.length_nil, Nat.zero_add, List.nil_append, List.set_cons_zero, List.set_cons_succ]
  conv => whnf
  repeat ((first | refine AO.cons hT ?_ | refine AO.nil ?_ | refine AW.seq ?_ | refine AW.region ?_ | refine AW.cond ?_ | refine AW.block ?_ | refine AW.loop ?_ | refine AW.skip ?_ | refine AW.exit ?_ | refine AW.ret ?_ | refine AF.one hT rfl ?_ | refine AF.nil ?_ | refine AF.imm hT rfl rfl rfl ?_ | refine AH.of hT rfl ?_ | refine AD.cons hT rfl ?_ | refine AD.nil ?_ | refine AQ.cons hT rfl ?_ | refine AQ.nil ?_); conv => whnf)
  refine callBad 0 rfl (by decide) ?_
  conv => whnf
  repeat ((first | refine AO.cons hT ?_ | refine AO.nil ?_ | refine AW.seq ?_ | refine AW.region ?_ | refine AW.cond ?_ | refine AW.block ?_ | refine AW.loop ?_ | refine AW.skip ?_ | refine AW.exit ?_ | refine AW.ret ?_ | refine AF.one hT rfl ?_ | refine AF.nil ?_ | refine AF.imm hT rfl rfl rfl ?_ | refine AH.of hT rfl ?_ | refine AD.cons hT rfl ?_ | refine AD.nil ?_ | refine AQ.cons hT rfl ?_ | refine AQ.nil ?_); conv => whnf)
  conv => whnf
  repeat (first | (refine AO.cons hT ?_; conv => whnf) | (refine AO.nil ?_; conv => whnf) | (refine AW.seq ?_; conv => whnf) | (refine AW.region ?_; conv => whnf) | (refine AW.cond ?_; conv => whnf) | (refine AW.block ?_; conv => whnf) | (refine AW.loop ?_; conv => whnf) | (refine AW.skip ?_; conv => whnf) | (refine AW.exit ?_; conv => whnf) | (refine AW.ret ?_; conv => whnf) | (refine AF.one hT rfl ?_; conv => whnf) | (refine AF.nil ?_; conv => whnf) | (refine AF.imm hT rfl rfl rfl ?_; conv => whnf) | (refine AH.of hT rfl ?_; conv => whnf) | (refine ASplit.yes rfl ?_; conv => whnf) | (refine ACond.yes rfl ?_; conv => whnf) | (refine ASplit.no rfl ?_; conv => whnf) | (refine ACond.no rfl ?_; conv => whnf) | (refine ASplit.yes (by decide) ?_; conv => whnf) | (refine ACond.yes (by decide) ?_; conv => whnf) | (refine AReq.mk (by decide) ?_; conv => whnf) | (refine AIdx.iff.2 ⟨by decide, ?_⟩; conv => whnf))
  refine ACall.fun (by kernel_rfl) (f26 [1, 2] [1, 2] (by decide) (by decide)) [] (by simp) (.cons (.same rfl) (.cons (.vx rfl) .nil)) (.inl rfl) rfl ?_
  conv => whnf
  repeat (first | (refine AO.cons hT ?_; conv => whnf) | (refine AO.nil ?_; conv => whnf) | (refine AW.seq ?_; conv => whnf) | (refine AW.region ?_; conv => whnf) | (refine AW.cond ?_; conv => whnf) | (refine AW.block ?_; conv => whnf) | (refine AW.loop ?_; conv => whnf) | (refine AW.skip ?_; conv => whnf) | (refine AW.exit ?_; conv => whnf) | (refine AW.ret ?_; conv => whnf) | (refine AF.one hT rfl ?_; conv => whnf) | (refine AF.nil ?_; conv => whnf) | (refine AF.imm hT rfl rfl rfl ?_; conv => whnf) | (refine AH.of hT rfl ?_; conv => whnf) | (refine ASplit.yes rfl ?_; conv => whnf) | (refine ACond.yes rfl ?_; conv => whnf) | (refine ASplit.no rfl ?_; conv => whnf) | (refine ACond.no rfl ?_; conv => whnf) | (refine ASplit.yes (by decide) ?_; conv => whnf) | (refine ACond.yes (by decide) ?_; conv => whnf) | (refine AReq.mk (by decide) ?_; conv => whnf) | (refine AIdx.iff.2 ⟨by decide, ?_⟩; conv => whnf))
  refine ACall.val (by kernel_rfl) (f8 1 120 (by decide) (by decide)) rfl rfl ?_
  conv => whnf
  repeat (first | (refine AO.cons hT ?_; conv => whnf) | (refine AO.nil ?_; conv => whnf) | (refine AW.seq ?_; conv => whnf) | (refine AW.region ?_; conv => whnf) | (refine AW.cond ?_; conv => whnf) | (refine AW.block ?_; conv => whnf) | (refine AW.loop ?_; conv => whnf) | (refine AW.skip ?_; conv => whnf) | (refine AW.exit ?_; conv => whnf) | (refine AW.ret ?_; conv => whnf) | (refine AF.one hT rfl ?_; conv => whnf) | (refine AF.nil ?_; conv => whnf) | (refine AF.imm hT rfl rfl rfl ?_; conv => whnf) | (refine AH.of hT rfl ?_; conv => whnf) | (refine ASplit.yes rfl ?_; conv => whnf) | (refine ACond.yes rfl ?_; conv => whnf) | (refine ASplit.no rfl ?_; conv => whnf) | (refine ACond.no rfl ?_; conv => whnf) | (refine ASplit.yes (by decide) ?_; conv => whnf) | (refine ACond.yes (by decide) ?_; conv => whnf) | (refine AReq.mk (by decide) ?_; conv => whnf) | (refine AIdx.iff.2 ⟨by decide, ?_⟩; conv => whnf))
  refine ACall.val (by kernel_rfl) (f8 1 0 (by decide) (by decide)) rfl rfl ?_
  conv => whnf
  repeat (first | (refine AO.cons hT ?_; conv => whnf) | (refine AO.nil ?_; conv => whnf) | (refine AW.seq ?_; conv => whnf) | (refine AW.region ?_; conv => whnf) | (refine AW.cond ?_; conv => whnf) | (refine AW.block ?_; conv => whnf) | (refine AW.loop ?_; conv => whnf) | (refine AW.skip ?_; conv => whnf) | (refine AW.exit ?_; conv => whnf) | (refine AW.ret ?_; conv => whnf) | (refine AF.one hT rfl ?_; conv => whnf) | (refine AF.nil ?_; conv => whnf) | (refine AF.imm hT rfl rfl rfl ?_; conv => whnf) | (refine AH.of hT rfl ?_; conv => whnf) | (refine ASplit.yes rfl ?_; conv => whnf) | (refine ACond.yes rfl ?_; conv => whnf) | (refine ASplit.no rfl ?_; conv => whnf) | (refine ACond.no rfl ?_; conv => whnf) | (refine ASplit.yes (by decide) ?_; conv => whnf) | (refine ACond.yes (by decide) ?_; conv => whnf) | (refine AReq.mk (by decide) ?_; conv => whnf) | (refine AIdx.iff.2 ⟨by decide, ?_⟩; conv => whnf))
  refine ASplit.yes (by rw [str_eq]; exact decide_eq_true g11) ?_
  conv => whnf
  repeat (first | (refine AO.cons hT ?_; conv => whnf) | (refine AO.nil ?_; conv => whnf) | (refine AW.seq ?_; conv => whnf) | (refine AW.region ?_; conv => whnf) | (refine AW.cond ?_; conv => whnf) | (refine AW.block ?_; conv => whnf) | (refine AW.loop ?_; conv => whnf) | (refine AW.skip ?_; conv => whnf) | (refine AW.exit ?_; conv => whnf) | (refine AW.ret ?_; conv => whnf) | (refine AF.one hT rfl ?_; conv => whnf) | (refine AF.nil ?_; conv => whnf) | (refine AF.imm hT rfl rfl rfl ?_; conv => whnf) | (refine AH.of hT rfl ?_; conv => whnf) | (refine ASplit.yes rfl ?_; conv => whnf) | (refine ACond.yes rfl ?_; conv => whnf) | (refine ASplit.no rfl ?_; conv => whnf) | (refine ACond.no rfl ?_; conv => whnf) | (refine ASplit.yes (by decide) ?_; conv => whnf) | (refine ACond.yes (by decide) ?_; conv => whnf) | (refine AReq.mk (by decide) ?_; conv => whnf) | (refine AIdx.iff.2 ⟨by decide, ?_⟩; conv => whnf))
  refine ACall.dev (by kernel_rfl) (f24 z g6.pos) rfl rfl rfl (by decide) (fun _ => rfl) (by rintro _ _ ⟨rfl, _⟩ _; rfl) ?_
  rintro _ y bs5 ck5 ⟨rfl, hy⟩
  rw [hy, g7]
  simp only [List.length_nil, Nat.zero_add, List.nil_append, List.set_cons_zero, List.set_cons_succ]
  conv => whnf
  repeat (first | (refine AO.cons hT ?_; conv => whnf) | (refine AO.nil ?_; conv => whnf) | (refine AW.seq ?_; conv => whnf) | (refine AW.region ?_; conv => whnf) | (refine AW.cond ?_; conv => whnf) | (refine AW.block ?_; conv => whnf) | (refine AW.loop ?_; conv => whnf) | (refine AW.skip ?_; conv => whnf) | (refine AW.exit ?_; conv => whnf) | (refine AW.ret ?_; conv => whnf) | (refine AF.one hT rfl ?_; conv => whnf) | (refine AF.nil ?_; conv => whnf) | (refine AF.imm hT rfl rfl rfl ?_; conv => whnf) | (refine AH.of hT rfl ?_; conv => whnf) | (refine ASplit.yes rfl ?_; conv => whnf) | (refine ACond.yes rfl ?_; conv => whnf) | (refine ASplit.no rfl ?_; conv => whnf) | (refine ACond.no rfl ?_; conv => whnf) | (refine ASplit.yes (by decide) ?_; conv => whnf) | (refine ACond.yes (by decide) ?_; conv => whnf) | (refine AReq.mk (by decide) ?_; conv => whnf) | (refine AIdx.iff.2 ⟨by decide, ?_⟩; conv => whnf))
  refine ACall.dev (by kernel_rfl) (f25 z g6.pos) rfl rfl rfl (by decide) (fun _ => rfl) (by rintro _ _ ⟨rfl, _⟩ _; rfl) ?_
  rintro _ y bs6 ck6 ⟨rfl, hy⟩
  rw [hy, g8]
  simp only [List.length_nil, Nat.zero_add, List.nil_append, List.set_cons_zero, List.set_cons_succ]
  conv => whnf
  repeat (first | (refine AO.cons hT ?_; conv => whnf) | (refine AO.nil ?_; conv => whnf) | (refine AW.seq ?_; conv => whnf) | (refine AW.region ?_; conv => whnf) | (refine AW.cond ?_; conv => whnf) | (refine AW.block ?_; conv => whnf) | (refine AW.loop ?_; conv => whnf) | (refine AW.skip ?_; conv => whnf) | (refine AW.exit ?_; conv => whnf) | (refine AW.ret ?_; conv => whnf) | (refine AF.one hT rfl ?_; conv => whnf) | (refine AF.nil ?_; conv => whnf) | (refine AF.imm hT rfl rfl rfl ?_; conv => whnf) | (refine AH.of hT rfl ?_; conv => whnf) | (refine ASplit.yes rfl ?_; conv => whnf) | (refine ACond.yes rfl ?_; conv => whnf) | (refine ASplit.no rfl ?_; conv => whnf) | (refine ACond.no rfl ?_; conv => whnf) | (refine ASplit.yes (by decide) ?_; conv => whnf) | (refine ACond.yes (by decide) ?_; conv => whnf) | (refine AReq.mk (by decide) ?_; conv => whnf) | (refine AIdx.iff.2 ⟨by decide, ?_⟩; conv => whnf))
  refine ACall.val (by kernel_rfl) (f8 2 120 (by decide) (by decide)) rfl rfl ?_
  conv => whnf
  repeat (first | (refine AO.cons hT ?_; conv => whnf) | (refine AO.nil ?_; conv => whnf) | (refine AW.seq ?_; conv => whnf) | (refine AW.region ?_; conv => whnf) | (refine AW.cond ?_; conv => whnf) | (refine AW.block ?_; conv => whnf) | (refine AW.loop ?_; conv => whnf) | (refine AW.skip ?_; conv => whnf) | (refine AW.exit ?_; conv => whnf) | (refine AW.ret ?_; conv => whnf) | (refine AF.one hT rfl ?_; conv => whnf) | (refine AF.nil ?_; conv => whnf) | (refine AF.imm hT rfl rfl rfl ?_; conv => whnf) | (refine AH.of hT rfl ?_; conv => whnf) | (refine ASplit.yes rfl ?_; conv => whnf) | (refine ACond.yes rfl ?_; conv => whnf) | (refine ASplit.no rfl ?_; conv => whnf) | (refine ACond.no rfl ?_; conv => whnf) | (refine ASplit.yes (by decide) ?_; conv => whnf) | (refine ACond.yes (by decide) ?_; conv => whnf) | (refine AReq.mk (by decide) ?_; conv => whnf) | (refine AIdx.iff.2 ⟨by decide, ?_⟩; conv => whnf))
  refine ACall.dev (by kernel_rfl) (f10 z g6 3 (fillS 2 120) rfl (by decide +kernel)) rfl rfl rfl (by decide) (fun _ => rfl) (by rintro _ _ ⟨rfl, _⟩ _; rfl) ?_
  rintro _ y bs7 ck7 ⟨rfl, hy⟩
  rw [hy, g12]
  simp only [List.length_nil, Nat.zero_add, List.nil_append, List.set_cons_zero, List.set_cons_succ]
  conv => whnf
  repeat (first | (refine AO.cons hT ?_; conv => whnf) | (refine AO.nil ?_; conv => whnf) | (refine AW.seq ?_; conv => whnf) | (refine AW.region ?_; conv => whnf) | (refine AW.cond ?_; conv => whnf) | (refine AW.block ?_; conv => whnf) | (refine AW.loop ?_; conv => whnf) | (refine AW.skip ?_; conv => whnf) | (refine AW.exit ?_; conv => whnf) | (refine AW.ret ?_; conv => whnf) | (refine AF.one hT rfl ?_; conv => whnf) | (refine AF.nil ?_; conv => whnf) | (refine AF.imm hT rfl rfl rfl ?_; conv => whnf) | (refine AH.of hT rfl ?_; conv => whnf) | (refine ASplit.yes rfl ?_; conv => whnf) | (refine ACond.yes rfl ?_; conv => whnf) | (refine ASplit.no rfl ?_; conv => whnf) | (refine ACond.no rfl ?_; conv => whnf) | (refine ASplit.yes (by decide) ?_; conv => whnf) | (refine ACond.yes (by decide) ?_; conv => whnf) | (refine AReq.mk (by decide) ?_; conv => whnf) | (refine AIdx.iff.2 ⟨by decide, ?_⟩; conv => whnf))
  refine ACall.dev (by kernel_rfl) (f10 z g6 0 ⟨#[120]⟩ rfl (by decide +kernel)) rfl rfl rfl (by decide) (fun _ => rfl) (by rintro _ _ ⟨rfl, _⟩ _; rfl) ?_
  rintro _ y bs8 ck8 ⟨rfl, hy⟩
  rw [hy, g13]
  simp only [List.length_nil, Nat.zero_add, List.nil_append, List.set_cons_zero, List.set_cons_succ]
  conv => whnf
  repeat (first | (refine AO.cons hT ?_; conv => whnf) | (refine AO.nil ?_; conv => whnf) | (refine AW.seq ?_; conv => whnf) | (refine AW.region ?_; conv => whnf) | (refine AW.cond ?_; conv => whnf) | (refine AW.block ?_; conv => whnf) | (refine AW.loop ?_; conv => whnf) | (refine AW.skip ?_; conv => whnf) | (refine AW.exit ?_; conv => whnf) | (refine AW.ret ?_; conv => whnf) | (refine AF.one hT rfl ?_; conv => whnf) | (refine AF.nil ?_; conv => whnf) | (refine AF.imm hT rfl rfl rfl ?_; conv => whnf) | (refine AH.of hT rfl ?_; conv => whnf) | (refine ASplit.yes rfl ?_; conv => whnf) | (refine ACond.yes rfl ?_; conv => whnf) | (refine ASplit.no rfl ?_; conv => whnf) | (refine ACond.no rfl ?_; conv => whnf) | (refine ASplit.yes (by decide) ?_; conv => whnf) | (refine ACond.yes (by decide) ?_; conv => whnf) | (refine AReq.mk (by decide) ?_; conv => whnf) | (refine AIdx.iff.2 ⟨by decide, ?_⟩; conv => whnf))
  refine ACall.dev (by kernel_rfl) (f13 z g6.pos) rfl rfl rfl (by decide) (fun _ => rfl) (by rintro _ _ ⟨rfl, _⟩ _; rfl) ?_
  rintro _ y bs9 ck9 ⟨rfl, hy⟩
  rw [hy, upE_f g9]
  simp only [List.length_nil, Nat.zero_add, List.nil_append, List.set_cons_zero, List.set_cons_succ]
  conv => whnf
  repeat (first | (refine AO.cons hT ?_; conv => whnf) | (refine AO.nil ?_; conv => whnf) | (refine AW.seq ?_; conv => whnf) | (refine AW.region ?_; conv => whnf) | (refine AW.cond ?_; conv => whnf) | (refine AW.block ?_; conv => whnf) | (refine AW.loop ?_; conv => whnf) | (refine AW.skip ?_; conv => whnf) | (refine AW.exit ?_; conv => whnf) | (refine AW.ret ?_; conv => whnf) | (refine AF.one hT rfl ?_; conv => whnf) | (refine AF.nil ?_; conv => whnf) | (refine AF.imm hT rfl rfl rfl ?_; conv => whnf) | (refine AH.of hT rfl ?_; conv => whnf) | (refine ASplit.yes rfl ?_; conv => whnf) | (refine ACond.yes rfl ?_; conv => whnf) | (refine ASplit.no rfl ?_; conv => whnf) | (refine ACond.no rfl ?_; conv => whnf) | (refine ASplit.yes (by decide) ?_; conv => whnf) | (refine ACond.yes (by decide) ?_; conv => whnf) | (refine AReq.mk (by decide) ?_; conv => whnf) | (refine AIdx.iff.2 ⟨by decide, ?_⟩; conv => whnf))
  exact AFin.val rfl ⟨rfl, rfl⟩
end Go.Aw.E1

