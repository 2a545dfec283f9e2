/-
  The statement FrameBack: a frame is taken of its sectors, and only what was put is taken, without any condition.
-/
import Derived.Test.YtmppkjcldeljbaaDoorSlA
import Derived.Test.YtmppkjcldeljbaaDoorAwE
import Derived.Laws.Strings
import Derived.Test.YtmppkjcldeljbaaDoorShelfP
set_option linter.unusedSimpArgs false
set_option linter.unusedVariables false
set_option linter.unusedSimpArgs false
set_option linter.unusedVariables false
set_option maxHeartbeats 4000000
namespace Go.Aw.D1
open Go
def nV (n : Int) : AV := .v (.int .i64 n)
def sV (s : ByteArray) : AV := .v (.string s)

theorem f51 (w : Nat) (hw : w = 4 ∨ w = 8) : Fun P 51 [nV w] (.v (.bool true)) := by
  refine spec_of hT (f := 51) (fn := Go.Proofs.Tryd.f51) (c := body Go.Proofs.Tryd.f51) (by kernel_rfl) (by kernel_rfl) ?_
  rcases hw with rfl | rfl
  · conv => whnf
    repeat (first | (refine AO.cons hT ?_; conv => whnf) | (refine AO.nil ?_; conv => whnf) | (refine AW.seq ?_; conv => whnf) | (refine AW.region ?_; conv => whnf) | (refine AW.cond ?_; conv => whnf) | (refine AW.block ?_; conv => whnf) | (refine AW.loop ?_; conv => whnf) | (refine AW.skip ?_; conv => whnf) | (refine AW.exit ?_; conv => whnf) | (refine AW.ret ?_; conv => whnf) | (refine AF.one hT rfl ?_; conv => whnf) | (refine AF.nil ?_; conv => whnf) | (refine AF.imm hT rfl rfl rfl ?_; conv => whnf) | (refine AH.of hT rfl ?_; conv => whnf) | (refine ASplit.yes rfl ?_; conv => whnf) | (refine ACond.yes rfl ?_; conv => whnf) | (refine ASplit.no rfl ?_; conv => whnf) | (refine ACond.no rfl ?_; conv => whnf) | (refine ASplit.yes (by decide) ?_; conv => whnf) | (refine ACond.yes (by decide) ?_; conv => whnf) | (refine AReq.mk (by decide) ?_; conv => whnf) | (refine AIdx.iff.2 ⟨by decide, ?_⟩; conv => whnf))
    exact AFin.mk ⟨rfl, rfl⟩
  · conv => whnf
    repeat (first | (refine AO.cons hT ?_; conv => whnf) | (refine AO.nil ?_; conv => whnf) | (refine AW.seq ?_; conv => whnf) | (refine AW.region ?_; conv => whnf) | (refine AW.cond ?_; conv => whnf) | (refine AW.block ?_; conv => whnf) | (refine AW.loop ?_; conv => whnf) | (refine AW.skip ?_; conv => whnf) | (refine AW.exit ?_; conv => whnf) | (refine AW.ret ?_; conv => whnf) | (refine AF.one hT rfl ?_; conv => whnf) | (refine AF.nil ?_; conv => whnf) | (refine AF.imm hT rfl rfl rfl ?_; conv => whnf) | (refine AH.of hT rfl ?_; conv => whnf) | (refine ASplit.yes rfl ?_; conv => whnf) | (refine ACond.yes rfl ?_; conv => whnf) | (refine ASplit.no rfl ?_; conv => whnf) | (refine ACond.no rfl ?_; conv => whnf) | (refine ASplit.yes (by decide) ?_; conv => whnf) | (refine ACond.yes (by decide) ?_; conv => whnf) | (refine AReq.mk (by decide) ?_; conv => whnf) | (refine AIdx.iff.2 ⟨by decide, ?_⟩; conv => whnf))
    exact AFin.mk ⟨rfl, rfl⟩

theorem f77 (s : ByteArray) (at_ : Nat) (h : at_ ≤ s.size) : Fun P 77 [sV s, nV at_] (.v (.bool true)) := by
  refine spec_of hT (f := 77) (fn := Go.Proofs.Tryd.f77) (c := body Go.Proofs.Tryd.f77) (by kernel_rfl) (by kernel_rfl) ?_
  conv => whnf
  repeat ((first | refine AO.cons hT ?_ | refine AO.nil ?_ | refine AW.seq ?_ | refine AW.region ?_ | refine AW.cond ?_ | refine AW.block ?_ | refine AW.loop ?_ | refine AW.skip ?_ | refine AW.exit ?_ | refine AW.ret ?_ | refine AF.one hT rfl ?_ | refine AF.nil ?_ | refine AF.imm hT rfl rfl rfl ?_ | refine AH.of hT rfl ?_ | refine AD.cons hT rfl ?_ | refine AD.nil ?_ | refine AQ.cons hT rfl ?_ | refine AQ.nil ?_); conv => whnf)
  refine ASplit.yes (decide_eq_true (by omega)) ?_
  conv => whnf
  repeat ((first | refine AO.cons hT ?_ | refine AO.nil ?_ | refine AW.seq ?_ | refine AW.region ?_ | refine AW.cond ?_ | refine AW.block ?_ | refine AW.loop ?_ | refine AW.skip ?_ | refine AW.exit ?_ | refine AW.ret ?_ | refine AF.one hT rfl ?_ | refine AF.nil ?_ | refine AF.imm hT rfl rfl rfl ?_ | refine AH.of hT rfl ?_ | refine AD.cons hT rfl ?_ | refine AD.nil ?_ | refine AQ.cons hT rfl ?_ | refine AQ.nil ?_); conv => whnf)
  refine AFin.mk ⟨?_, rfl⟩
  congr 2; simp; omega

theorem f78 (e : Int) : Fun P 78 [nV e] (.tup [.agg [nV 0, nV 0], nV e]) := by
  refine spec_of hT (f := 78) (fn := Go.Proofs.Tryd.f78) (c := body Go.Proofs.Tryd.f78) (by kernel_rfl) (by kernel_rfl) ?_
  conv => whnf
  repeat ((first | refine AO.cons hT ?_ | refine AO.nil ?_ | refine AW.seq ?_ | refine AW.region ?_ | refine AW.cond ?_ | refine AW.block ?_ | refine AW.loop ?_ | refine AW.skip ?_ | refine AW.exit ?_ | refine AW.ret ?_ | refine AF.one hT rfl ?_ | refine AF.nil ?_ | refine AF.imm hT rfl rfl rfl ?_ | refine AH.of hT rfl ?_ | refine AD.cons hT rfl ?_ | refine AD.nil ?_ | refine AQ.cons hT rfl ?_ | refine AQ.nil ?_); conv => whnf)
  exact AFin.val rfl ⟨rfl, rfl⟩
theorem f79 (a b : Int) : Fun P 79 [nV a, nV b] (.tup [.agg [nV a, nV b], nV 0]) := by
  refine spec_of hT (f := 79) (fn := Go.Proofs.Tryd.f79) (c := body Go.Proofs.Tryd.f79) (by kernel_rfl) (by kernel_rfl) ?_
  conv => whnf
  repeat ((first | refine AO.cons hT ?_ | refine AO.nil ?_ | refine AW.seq ?_ | refine AW.region ?_ | refine AW.cond ?_ | refine AW.block ?_ | refine AW.loop ?_ | refine AW.skip ?_ | refine AW.exit ?_ | refine AW.ret ?_ | refine AF.one hT rfl ?_ | refine AF.nil ?_ | refine AF.imm hT rfl rfl rfl ?_ | refine AH.of hT rfl ?_ | refine AD.cons hT rfl ?_ | refine AD.nil ?_ | refine AQ.cons hT rfl ?_ | refine AQ.nil ?_); conv => whnf)
  exact AFin.val rfl ⟨rfl, rfl⟩

/-- the bytes of a number, the highest first -/
def be (w n : Nat) : List UInt8 := (List.range w).map fun j => UInt8.ofNat (n / 256 ^ (w - 1 - j))
def beP (w n i : Nat) : List AV := (List.range w).map fun j => if i ≤ j then byteC (UInt8.ofNat (n / 256 ^ (w - 1 - j))) else .v (.int .u8 0)
theorem beP_len (w n i : Nat) : (beP w n i).length = w := by simp [beP]
theorem be_len (w n : Nat) : (be w n).length = w := by simp [be]
theorem beP_full (w n : Nat) : beP w n w = List.replicate w (.v (.int .u8 0)) := by
  apply List.ext_getElem (by simp [beP])
  intro j h1 h2
  rw [beP_len] at h1
  rw [List.getElem_replicate]
  simp only [beP, List.getElem_map, List.getElem_range]
  rw [if_neg (by omega)]
theorem beP_zero (w n : Nat) : beP w n 0 = (be w n).map byteC := by simp [beP, be]
theorem beP_set (w n i : Nat) (h : i < w) : (beP w n (i + 1)).set i (byteC (UInt8.ofNat (n / 256 ^ (w - 1 - i)))) = beP w n i := by
  apply List.ext_getElem (by simp [beP])
  intro j h1 h2
  simp only [List.getElem_set, beP, List.getElem_map, List.getElem_range]
  by_cases e : i = j
  · subst e; simp
  · simp only [e, if_false]
    have : (i + 1 ≤ j) = (i ≤ j) := by apply propext; omega
    simp only [this]
theorem byteC_wrap (n : Nat) : AV.v (.int .u8 (IntKind.wrap .u8 (n : Int))) = byteC (UInt8.ofNat n) := by
  rw [wrap_u8]; rfl
theorem shr8 (n : Nat) : (n : Int).fdiv (2 ^ min (Int.toNat 8) IntKind.i64.bits) = ((n / 256 : Nat) : Int) := by
  rw [show ((2 : Int) ^ min (Int.toNat 8) IntKind.i64.bits) = 256 from rfl, Int.fdiv_eq_ediv_of_nonneg _ (by decide)]
  rfl

theorem f29 (n w : Nat) (hw : w = 4 ∨ w = 8) (hn : n ≤ 1000000000) : Fun P 29 [nV n, nV w] (.tup [sV ⟨(be w n).toArray⟩, nV 0]) := by
  refine spec_of hT (f := 29) (fn := Go.Proofs.Tryd.f29) (c := body Go.Proofs.Tryd.f29) (by kernel_rfl) (by kernel_rfl) ?_
  conv => whnf
  repeat ((first | refine AO.cons hT ?_ | refine AO.nil ?_ | refine AW.seq ?_ | refine AW.region ?_ | refine AW.cond ?_ | refine AW.block ?_ | refine AW.loop ?_ | refine AW.skip ?_ | refine AW.exit ?_ | refine AW.ret ?_ | refine AF.one hT rfl ?_ | refine AF.nil ?_ | refine AF.imm hT rfl rfl rfl ?_ | refine AH.of hT rfl ?_ | refine AD.cons hT rfl ?_ | refine AD.nil ?_ | refine AQ.cons hT rfl ?_ | refine AQ.nil ?_ | (refine ACall.val (by kernel_rfl) (f51 w hw) rfl rfl ?_)); conv => whnf)
  refine ACond.no (rfl) ?_
  conv => whnf
  refine AW.skip ?_
  conv => whnf
  refine AW.seqJ (fun E H => E = pad [nV n, nV w, .any, .any, sV ⟨#[]⟩, nV 0] 41 ∧ H = []) ?_ ?_
  · conv => whnf
    repeat ((first | refine AO.cons hT ?_ | refine AO.nil ?_ | refine AW.seq ?_ | refine AW.region ?_ | refine AW.cond ?_ | refine AW.block ?_ | refine AW.loop ?_ | refine AW.skip ?_ | refine AW.exit ?_ | refine AW.ret ?_ | refine AF.one hT rfl ?_ | refine AF.nil ?_ | refine AF.imm hT rfl rfl rfl ?_ | refine AH.of hT rfl ?_ | refine AD.cons hT rfl ?_ | refine AD.nil ?_ | refine AQ.cons hT rfl ?_ | refine AQ.nil ?_ | (refine ACall.val (by kernel_rfl) (f51 w hw) rfl rfl ?_)); conv => whnf)
    refine ASplit.no (decide_eq_false (by omega)) ?_
    conv => whnf
    repeat ((first | refine AO.cons hT ?_ | refine AO.nil ?_ | refine AW.seq ?_ | refine AW.region ?_ | refine AW.cond ?_ | refine AW.block ?_ | refine AW.loop ?_ | refine AW.skip ?_ | refine AW.exit ?_ | refine AW.ret ?_ | refine AF.one hT rfl ?_ | refine AF.nil ?_ | refine AF.imm hT rfl rfl rfl ?_ | refine AH.of hT rfl ?_ | refine AD.cons hT rfl ?_ | refine AD.nil ?_ | refine AQ.cons hT rfl ?_ | refine AQ.nil ?_ | (refine ACall.val (by kernel_rfl) (f51 w hw) rfl rfl ?_)); conv => whnf)
    refine ASplit.dec (fun h => ?_) (fun h => ?_)
    · obtain rfl : w = 4 := by omega
      conv => whnf
      repeat (first | (refine AO.cons hT ?_; conv => whnf) | (refine AO.nil ?_; conv => whnf) | (refine AW.seq ?_; conv => whnf) | (refine AW.region ?_; conv => whnf) | (refine AW.cond ?_; conv => whnf) | (refine AW.block ?_; conv => whnf) | (refine AW.loop ?_; conv => whnf) | (refine AW.skip ?_; conv => whnf) | (refine AW.exit ?_; conv => whnf) | (refine AW.ret ?_; conv => whnf) | (refine AF.one hT rfl ?_; conv => whnf) | (refine AF.nil ?_; conv => whnf) | (refine AF.imm hT rfl rfl rfl ?_; conv => whnf) | (refine AH.of hT rfl ?_; conv => whnf) | (refine ASplit.yes rfl ?_; conv => whnf) | (refine ACond.yes rfl ?_; conv => whnf) | (refine ASplit.no rfl ?_; conv => whnf) | (refine ACond.no rfl ?_; conv => whnf) | (refine ASplit.yes (by decide) ?_; conv => whnf) | (refine ACond.yes (by decide) ?_; conv => whnf) | (refine AReq.mk (by decide) ?_; conv => whnf) | (refine AIdx.iff.2 ⟨by decide, ?_⟩; conv => whnf) | (refine ACall.val (by kernel_rfl) (f51 w hw) rfl rfl ?_; conv => whnf))
      rw [show (IntKind.i64.wrap (8 * ((4 : Nat) : Int))) = 32 from rfl]
      refine ACond.no (decide_eq_false ?_) ?_
      · rw [show ((2 : Int) ^ min (Int.toNat 32) IntKind.i64.bits) = 4294967296 from rfl]
        have : (n : Int).fdiv 4294967296 = 0 := by rw [Int.fdiv_eq_ediv_of_nonneg _ (by decide)]; omega
        omega
      conv => whnf
      repeat (first | (refine AO.cons hT ?_; conv => whnf) | (refine AO.nil ?_; conv => whnf) | (refine AW.seq ?_; conv => whnf) | (refine AW.region ?_; conv => whnf) | (refine AW.cond ?_; conv => whnf) | (refine AW.block ?_; conv => whnf) | (refine AW.loop ?_; conv => whnf) | (refine AW.skip ?_; conv => whnf) | (refine AW.exit ?_; conv => whnf) | (refine AW.ret ?_; conv => whnf) | (refine AF.one hT rfl ?_; conv => whnf) | (refine AF.nil ?_; conv => whnf) | (refine AF.imm hT rfl rfl rfl ?_; conv => whnf) | (refine AH.of hT rfl ?_; conv => whnf) | (refine ASplit.yes rfl ?_; conv => whnf) | (refine ACond.yes rfl ?_; conv => whnf) | (refine ASplit.no rfl ?_; conv => whnf) | (refine ACond.no rfl ?_; conv => whnf) | (refine ASplit.yes (by decide) ?_; conv => whnf) | (refine ACond.yes (by decide) ?_; conv => whnf) | (refine AReq.mk (by decide) ?_; conv => whnf) | (refine AIdx.iff.2 ⟨by decide, ?_⟩; conv => whnf) | (refine ACall.val (by kernel_rfl) (f51 w hw) rfl rfl ?_; conv => whnf))
      exact AOut.to _ _ (Conv.fit (by repeat' (first | exact Fit.nil | refine Fit.any ?_ | refine Fit.same ?_))) ⟨rfl, rfl⟩
    · conv => whnf
      repeat (first | (refine AO.cons hT ?_; conv => whnf) | (refine AO.nil ?_; conv => whnf) | (refine AW.seq ?_; conv => whnf) | (refine AW.region ?_; conv => whnf) | (refine AW.cond ?_; conv => whnf) | (refine AW.block ?_; conv => whnf) | (refine AW.loop ?_; conv => whnf) | (refine AW.skip ?_; conv => whnf) | (refine AW.exit ?_; conv => whnf) | (refine AW.ret ?_; conv => whnf) | (refine AF.one hT rfl ?_; conv => whnf) | (refine AF.nil ?_; conv => whnf) | (refine AF.imm hT rfl rfl rfl ?_; conv => whnf) | (refine AH.of hT rfl ?_; conv => whnf) | (refine ASplit.yes rfl ?_; conv => whnf) | (refine ACond.yes rfl ?_; conv => whnf) | (refine ASplit.no rfl ?_; conv => whnf) | (refine ACond.no rfl ?_; conv => whnf) | (refine ASplit.yes (by decide) ?_; conv => whnf) | (refine ACond.yes (by decide) ?_; conv => whnf) | (refine AReq.mk (by decide) ?_; conv => whnf) | (refine AIdx.iff.2 ⟨by decide, ?_⟩; conv => whnf) | (refine ACall.val (by kernel_rfl) (f51 w hw) rfl rfl ?_; conv => whnf))
      exact AOut.to _ _ (Conv.fit (by repeat' (first | exact Fit.nil | refine Fit.any ?_ | refine Fit.same ?_))) ⟨rfl, rfl⟩
  rintro _ _ ⟨rfl, rfl⟩
  conv => whnf
  repeat ((first | refine AO.cons hT ?_ | refine AO.nil ?_ | refine AW.seq ?_ | refine AW.region ?_ | refine AW.cond ?_ | refine AW.block ?_ | refine AW.loop ?_ | refine AW.skip ?_ | refine AW.exit ?_ | refine AW.ret ?_ | refine AF.one hT rfl ?_ | refine AF.nil ?_ | refine AF.imm hT rfl rfl rfl ?_ | refine AH.of hT rfl ?_ | refine AD.cons hT rfl ?_ | refine AD.nil ?_ | refine AQ.cons hT rfl ?_ | refine AQ.nil ?_ | (refine ACall.val (by kernel_rfl) (f51 w hw) rfl rfl ?_)); conv => whnf)
  have eb : (T 5).bytes = 1 := rfl
  refine AReq.mk (by rw [eb]; omega) ?_
  conv => whnf
  repeat ((first | refine AO.cons hT ?_ | refine AO.nil ?_ | refine AW.seq ?_ | refine AW.region ?_ | refine AW.cond ?_ | refine AW.block ?_ | refine AW.loop ?_ | refine AW.skip ?_ | refine AW.exit ?_ | refine AW.ret ?_ | refine AF.one hT rfl ?_ | refine AF.nil ?_ | refine AF.imm hT rfl rfl rfl ?_ | refine AH.of hT rfl ?_ | refine AD.cons hT rfl ?_ | refine AD.nil ?_ | refine AQ.cons hT rfl ?_ | refine AQ.nil ?_ | (refine ACall.val (by kernel_rfl) (f51 w hw) rfl rfl ?_)); conv => whnf)
  rw [wrap_i64 ((w : Int) - 1) (by omega) (by omega), show ((w : Int).toNat) = w by omega]
  refine ALoop.mk (fun k E H => ∃ i : Nat, i ≤ w ∧ k = i ∧ E = pad [nV (n / 256 ^ (w - i) : Nat), nV w, .any, .any, sV ⟨#[]⟩, nV 0, .ms 1 0 0 w, nV ((i : Int) - 1)] 41 ∧ H = [.cells 5 (beP w n i)]) (n := w) (pad [nV (n / 256 ^ (w - w) : Nat), nV w, .any, .any, sV ⟨#[]⟩, nV 0, .ms 1 0 0 w, nV ((w : Int) - 1)] 41) [.cells 5 (beP w n w)] ⟨w, by omega, rfl, rfl, rfl⟩ ?_ ?_
  · rw [beP_full, Nat.sub_self, Nat.pow_zero, Nat.div_one]
    refine Conv.trans (Conv.fit ?_) (by rw [show (List.replicate w [AV.v (Value.int IntKind.u8 0)]).flatten = List.replicate w (.v (.int .u8 0)) by simp [List.flatten_replicate_singleton]]; exact Conv.refl _ _ _)
    repeat' (first | exact Fit.nil | refine Fit.any ?_ | refine Fit.same ?_)
  rintro k _ _ ⟨i, hi, hk, rfl, rfl⟩
  conv => whnf
  repeat ((first | refine AO.cons hT ?_ | refine AO.nil ?_ | refine AW.seq ?_ | refine AW.region ?_ | refine AW.cond ?_ | refine AW.block ?_ | refine AW.loop ?_ | refine AW.skip ?_ | refine AW.exit ?_ | refine AW.ret ?_ | refine AF.one hT rfl ?_ | refine AF.nil ?_ | refine AF.imm hT rfl rfl rfl ?_ | refine AH.of hT rfl ?_ | refine AD.cons hT rfl ?_ | refine AD.nil ?_ | refine AQ.cons hT rfl ?_ | refine AQ.nil ?_ | (refine ACall.val (by kernel_rfl) (f51 w hw) rfl rfl ?_)); conv => whnf)
  refine ACond.dec (fun h => ?_) (fun h => ?_)
  · obtain ⟨j, rfl⟩ : ∃ j, i = j + 1 := ⟨i - 1, by omega⟩
    have ej : ((j + 1 : Nat) : Int) - 1 = j := by omega
    rw [ej]
    conv => whnf
    repeat ((first | refine AO.cons hT ?_ | refine AO.nil ?_ | refine AW.seq ?_ | refine AW.region ?_ | refine AW.cond ?_ | refine AW.block ?_ | refine AW.loop ?_ | refine AW.skip ?_ | refine AW.exit ?_ | refine AW.ret ?_ | refine AF.one hT rfl ?_ | refine AF.nil ?_ | refine AF.imm hT rfl rfl rfl ?_ | refine AH.of hT rfl ?_ | refine AD.cons hT rfl ?_ | refine AD.nil ?_ | refine AQ.cons hT rfl ?_ | refine AQ.nil ?_ | (refine ACall.val (by kernel_rfl) (f51 w hw) rfl rfl ?_) | (refine AReq.mk (by omega) ?_) | (refine AReq.mk (by decide) ?_)); conv => whnf)
    refine AReq.mk rfl ?_
    rw [byteC_wrap]
    refine AUpd.setAt j (by omega) (by rw [beP_len]; omega) ?_
    rw [show w - (j + 1) = w - 1 - j by omega, beP_set w n j (by omega)]
    conv => whnf
    repeat ((first | refine AO.cons hT ?_ | refine AO.nil ?_ | refine AW.seq ?_ | refine AW.region ?_ | refine AW.cond ?_ | refine AW.block ?_ | refine AW.loop ?_ | refine AW.skip ?_ | refine AW.exit ?_ | refine AW.ret ?_ | refine AF.one hT rfl ?_ | refine AF.nil ?_ | refine AF.imm hT rfl rfl rfl ?_ | refine AH.of hT rfl ?_ | refine AD.cons hT rfl ?_ | refine AD.nil ?_ | refine AQ.cons hT rfl ?_ | refine AQ.nil ?_ | (refine ACall.val (by kernel_rfl) (f51 w hw) rfl rfl ?_) | (refine AReq.mk (by omega) ?_) | (refine AReq.mk (by decide) ?_)); conv => whnf)
    rw [shr8, Nat.div_div_eq_div_mul, ← Nat.pow_succ, show (w - 1 - j).succ = w - j by omega, wrap_i64 ((j : Int) - 1) (by omega) (by omega)]
    refine AHead.mk j _ _ (by omega) ⟨j, by omega, rfl, rfl, rfl⟩ (Conv.fit ?_)
    repeat' (first | exact Fit.nil | refine Fit.any ?_ | refine Fit.same ?_)
  · obtain rfl : i = 0 := by omega
    conv => whnf
    repeat ((first | refine AO.cons hT ?_ | refine AO.nil ?_ | refine AW.seq ?_ | refine AW.region ?_ | refine AW.cond ?_ | refine AW.block ?_ | refine AW.loop ?_ | refine AW.skip ?_ | refine AW.exit ?_ | refine AW.ret ?_ | refine AF.one hT rfl ?_ | refine AF.nil ?_ | refine AF.imm hT rfl rfl rfl ?_ | refine AH.of hT rfl ?_ | refine AD.cons hT rfl ?_ | refine AD.nil ?_ | refine AQ.cons hT rfl ?_ | refine AQ.nil ?_ | (refine ACall.val (by kernel_rfl) (f51 w hw) rfl rfl ?_) | (refine AReq.mk (by omega) ?_) | (refine AReq.mk (by decide) ?_)); conv => whnf)
    refine AOut.stay ?_
    conv => whnf
    repeat ((first | refine AO.cons hT ?_ | refine AO.nil ?_ | refine AW.seq ?_ | refine AW.region ?_ | refine AW.cond ?_ | refine AW.block ?_ | refine AW.loop ?_ | refine AW.skip ?_ | refine AW.exit ?_ | refine AW.ret ?_ | refine AF.one hT rfl ?_ | refine AF.nil ?_ | refine AF.imm hT rfl rfl rfl ?_ | refine AH.of hT rfl ?_ | refine AD.cons hT rfl ?_ | refine AD.nil ?_ | refine AQ.cons hT rfl ?_ | refine AQ.nil ?_ | (refine ACall.val (by kernel_rfl) (f51 w hw) rfl rfl ?_) | (refine AReq.mk (by omega) ?_) | (refine AReq.mk (by decide) ?_)); conv => whnf)
    refine ACut.all (by rw [beP_len, Nat.mul_one]) ?_
    conv => whnf
    repeat ((first | refine AO.cons hT ?_ | refine AO.nil ?_ | refine AW.seq ?_ | refine AW.region ?_ | refine AW.cond ?_ | refine AW.block ?_ | refine AW.loop ?_ | refine AW.skip ?_ | refine AW.exit ?_ | refine AW.ret ?_ | refine AF.one hT rfl ?_ | refine AF.nil ?_ | refine AF.imm hT rfl rfl rfl ?_ | refine AH.of hT rfl ?_ | refine AD.cons hT rfl ?_ | refine AD.nil ?_ | refine AQ.cons hT rfl ?_ | refine AQ.nil ?_ | (refine ACall.val (by kernel_rfl) (f51 w hw) rfl rfl ?_) | (refine AReq.mk (by omega) ?_) | (refine AReq.mk (by decide) ?_)); conv => whnf)
    rw [beP_zero]
    refine AStr.mk ?_
    conv => whnf
    repeat ((first | refine AO.cons hT ?_ | refine AO.nil ?_ | refine AW.seq ?_ | refine AW.region ?_ | refine AW.cond ?_ | refine AW.block ?_ | refine AW.loop ?_ | refine AW.skip ?_ | refine AW.exit ?_ | refine AW.ret ?_ | refine AF.one hT rfl ?_ | refine AF.nil ?_ | refine AF.imm hT rfl rfl rfl ?_ | refine AH.of hT rfl ?_ | refine AD.cons hT rfl ?_ | refine AD.nil ?_ | refine AQ.cons hT rfl ?_ | refine AQ.nil ?_ | (refine ACall.val (by kernel_rfl) (f51 w hw) rfl rfl ?_) | (refine AReq.mk (by omega) ?_) | (refine AReq.mk (by decide) ?_)); conv => whnf)
    exact AFin.val rfl ⟨rfl, rfl⟩
end Go.Aw.D1

set_option linter.unusedSimpArgs false
set_option linter.unusedVariables false
set_option maxHeartbeats 4000000
namespace Go.Aw.D1
open Go
def beVal (l : List UInt8) : Nat := l.foldl (fun n b => n * 256 + b.toNat) 0
theorem beVal_snoc (l : List UInt8) (b : UInt8) : beVal (l ++ [b]) = beVal l * 256 + b.toNat := by simp [beVal]
theorem beVal_lt (l : List UInt8) : beVal l < 256 ^ l.length := by
  have h : ∀ (l : List UInt8) (n : Nat), l.foldl (fun n b => n * 256 + b.toNat) n < (n + 1) * 256 ^ l.length := by
    intro l
    induction l with
    | nil => intro n; simp
    | cons b l ih =>
      intro n
      have h1 := ih (n * 256 + b.toNat)
      have h2 := b.toNat_lt
      have h3 : (n * 256 + b.toNat + 1) * 256 ^ l.length ≤ ((n + 1) * 256) * 256 ^ l.length := Nat.mul_le_mul_right _ (by omega)
      rw [List.length_cons, Nat.pow_succ, Nat.mul_comm (256 ^ l.length) 256, ← Nat.mul_assoc]
      exact Nat.lt_of_lt_of_le h1 h3
  have := h l 0
  rw [Nat.zero_add, Nat.one_mul] at this
  exact this
theorem wrap_u64n (n : Nat) (h : n < 18446744073709551616) : IntKind.wrap .u64 (n : Int) = n := by
  simp [IntKind.wrap, IntKind.bits, IntKind.signed]; omega
theorem or_shl (a b : Nat) (ha : a < 72057594037927936) (hb : b < 256) : bitop .or .u64 (IntKind.wrap .u64 ((a : Int) * 2 ^ min (Int.toNat 8) IntKind.u64.bits)) (IntKind.wrap .u64 (b : Int)) = ((a * 256 + b : Nat) : Int) := by
  rw [show ((a : Int) * 2 ^ min (Int.toNat 8) IntKind.u64.bits) = ((a * 256 : Nat) : Int) by rw [show (2 : Int) ^ min (Int.toNat 8) IntKind.u64.bits = 256 from rfl]; omega, wrap_u64n _ (by omega), wrap_u64n _ (by omega)]
  have h1 : a * 256 ||| b = a * 256 + b := by
    have := Nat.shiftLeft_add_eq_or_of_lt (show b < 2 ^ 8 from hb) a
    rw [Nat.shiftLeft_eq] at this
    exact this.symm
  unfold bitop
  show IntKind.wrap .u64 (((BitVec.ofInt 64 ((a * 256 : Nat) : Int)) ||| (BitVec.ofInt 64 ((b : Nat) : Int))).toNat : Int) = _
  rw [BitVec.ofInt_natCast, BitVec.ofInt_natCast, BitVec.toNat_or, BitVec.toNat_ofNat, BitVec.toNat_ofNat, Nat.mod_eq_of_lt (by omega), Nat.mod_eq_of_lt (by omega), h1, wrap_u64n _ (by omega)]

def bytesAt (s : ByteArray) (o w : Nat) : List UInt8 := (s.data.toList.drop o).take w
def getV (s : ByteArray) (o w : Nat) : Nat := beVal (bytesAt s o w)
def getR (s : ByteArray) (o w : Nat) : AV := if 9223372036854775807 < getV s o w then .tup [.agg [nV 0, nV 0], nV 8] else .tup [.agg [nV (getV s o w), nV ((o + w : Nat) : Int)], nV 0]

theorem f59 (s : ByteArray) (o w : Nat) (hw : w = 4 ∨ w = 8) (h : o + w ≤ s.size) (hs : s.size ≤ 4611686018427387904) : Fun P 59 [sV s, nV o, nV w] (getR s o w) := by
  refine spec_of hT (f := 59) (fn := Go.Proofs.Tryd.f59) (c := body Go.Proofs.Tryd.f59) (by kernel_rfl) (by kernel_rfl) ?_
  conv => whnf
  repeat ((first | refine AO.cons hT ?_ | refine AO.nil ?_ | refine AW.seq ?_ | refine AW.region ?_ | refine AW.cond ?_ | refine AW.block ?_ | refine AW.loop ?_ | refine AW.skip ?_ | refine AW.exit ?_ | refine AW.ret ?_ | refine AF.one hT rfl ?_ | refine AF.nil ?_ | refine AF.imm hT rfl rfl rfl ?_ | refine AH.of hT rfl ?_ | refine AD.cons hT rfl ?_ | refine AD.nil ?_ | refine AQ.cons hT rfl ?_ | refine AQ.nil ?_ | (refine ACall.val (by kernel_rfl) (f51 w hw) rfl rfl ?_) | (refine ACall.val (by kernel_rfl) (f77 s o (by omega)) rfl rfl ?_) | (refine ACall.val (by kernel_rfl) (f78 8) rfl rfl ?_) | (refine ACond.no rfl ?_) | (refine ASplit.no rfl ?_)); conv => whnf)
  rw [wrap_i64 ((s.size : Int) - o) (by omega) (by omega)]
  refine ACond.no (decide_eq_false (by omega)) ?_
  conv => whnf
  repeat ((first | refine AO.cons hT ?_ | refine AO.nil ?_ | refine AW.seq ?_ | refine AW.region ?_ | refine AW.cond ?_ | refine AW.block ?_ | refine AW.loop ?_ | refine AW.skip ?_ | refine AW.exit ?_ | refine AW.ret ?_ | refine AF.one hT rfl ?_ | refine AF.nil ?_ | refine AF.imm hT rfl rfl rfl ?_ | refine AH.of hT rfl ?_ | refine AD.cons hT rfl ?_ | refine AD.nil ?_ | refine AQ.cons hT rfl ?_ | refine AQ.nil ?_ | (refine ACall.val (by kernel_rfl) (f51 w hw) rfl rfl ?_) | (refine ACall.val (by kernel_rfl) (f77 s o (by omega)) rfl rfl ?_) | (refine ACall.val (by kernel_rfl) (f78 8) rfl rfl ?_) | (refine ACond.no rfl ?_) | (refine ASplit.no rfl ?_)); conv => whnf)
  have hbl : (bytesAt s o w).length = w := by rw [bytesAt, List.length_take, List.length_drop, size_list]; omega
  refine ALoop.mk (fun k E H => ∃ i : Nat, i ≤ w ∧ k = w - i ∧ E = pad [sV s, nV o, nV w, .any, .any, .any, .ptr 0 0, nV 0, .v (.int .u64 (beVal ((bytesAt s o w).take i))), .any, .any, .any, .any, .any, .any, .any, .any, .any, .any, .any, .any, .any, .any, .any, .any, .any, .any, .any, .any, .any, .any, .any, .any, nV w, nV i] 60 ∧ H = [.cells 101 [nV 0, nV 0]]) (n := w) _ _ ⟨0, by omega, rfl, rfl, rfl⟩ (Conv.fit ?_) ?_
  · repeat' (first | exact Fit.nil | refine Fit.any ?_ | refine Fit.same ?_)
  rintro _ _ _ ⟨i, hi, rfl, rfl, rfl⟩
  conv => whnf
  repeat ((first | refine AO.cons hT ?_ | refine AO.nil ?_ | refine AW.seq ?_ | refine AW.region ?_ | refine AW.cond ?_ | refine AW.block ?_ | refine AW.loop ?_ | refine AW.skip ?_ | refine AW.exit ?_ | refine AW.ret ?_ | refine AF.one hT rfl ?_ | refine AF.nil ?_ | refine AF.imm hT rfl rfl rfl ?_ | refine AH.of hT rfl ?_ | refine AD.cons hT rfl ?_ | refine AD.nil ?_ | refine AQ.cons hT rfl ?_ | refine AQ.nil ?_); conv => whnf)
  refine ACond.dec (fun h => ?_) (fun h => ?_)
  · have hil : i < w := by omega
    have e1 : IntKind.i64.wrap ((o : Int) + i) = ((o + i : Nat) : Int) := by rw [wrap_i64 _ (by omega) (by omega)]; omega
    have hget : o + i < s.data.toList.length := by rw [size_list]; omega
    have hlast : (bytesAt s o w)[i]'(by omega) = s.data.toList[o + i] := by simp [bytesAt]
    have hsn := beVal_snoc ((bytesAt s o w).take i) ((bytesAt s o w)[i]'(by omega))
    rw [← List.take_succ_eq_append_getElem (by omega), hlast] at hsn
    have hbv := beVal_lt ((bytesAt s o w).take i)
    rw [List.length_take, Nat.min_eq_left (by omega)] at hbv
    conv => whnf
    repeat ((first | refine AO.cons hT ?_ | refine AO.nil ?_ | refine AW.seq ?_ | refine AW.region ?_ | refine AW.cond ?_ | refine AW.block ?_ | refine AW.loop ?_ | refine AW.skip ?_ | refine AW.exit ?_ | refine AW.ret ?_ | refine AF.one hT rfl ?_ | refine AF.nil ?_ | refine AF.imm hT rfl rfl rfl ?_ | refine AH.of hT rfl ?_ | refine AD.cons hT rfl ?_ | refine AD.nil ?_ | refine AQ.cons hT rfl ?_ | refine AQ.nil ?_ | (refine AReq.mk (by omega) ?_)); conv => whnf)
    have hp : (256 : Nat) ^ i ≤ 256 ^ 7 := Nat.pow_le_pow_right (by decide) (by omega)
    have hb8 := (s.data.toList[o + i]).toNat_lt
    rw [e1, bt_get s (o + i) hget, show (s.data.toList[o + i]).toBitVec.toNat = (s.data.toList[o + i]).toNat from rfl, or_shl _ _ (by omega) hb8, ← hsn, wrap_i64 ((i : Int) + 1) (by omega) (by omega)]
    refine AHead.mk (w - (i + 1)) _ _ (by omega) ⟨i + 1, by omega, rfl, rfl, rfl⟩ (Conv.fit ?_)
    repeat' (first | exact Fit.nil | refine Fit.any ?_ | refine Fit.same ?_)
  · obtain rfl : i = w := by omega
    conv => whnf
    repeat ((first | refine AO.cons hT ?_ | refine AO.nil ?_ | refine AW.seq ?_ | refine AW.region ?_ | refine AW.cond ?_ | refine AW.block ?_ | refine AW.loop ?_ | refine AW.skip ?_ | refine AW.exit ?_ | refine AW.ret ?_ | refine AF.one hT rfl ?_ | refine AF.nil ?_ | refine AF.imm hT rfl rfl rfl ?_ | refine AH.of hT rfl ?_ | refine AD.cons hT rfl ?_ | refine AD.nil ?_ | refine AQ.cons hT rfl ?_ | refine AQ.nil ?_ | (refine AReq.mk (by omega) ?_)); conv => whnf)
    refine AOut.stay ?_
    rw [List.take_of_length_le (by omega)]
    conv => whnf
    repeat ((first | refine AO.cons hT ?_ | refine AO.nil ?_ | refine AW.seq ?_ | refine AW.region ?_ | refine AW.cond ?_ | refine AW.block ?_ | refine AW.loop ?_ | refine AW.skip ?_ | refine AW.exit ?_ | refine AW.ret ?_ | refine AF.one hT rfl ?_ | refine AF.nil ?_ | refine AF.imm hT rfl rfl rfl ?_ | refine AH.of hT rfl ?_ | refine AD.cons hT rfl ?_ | refine AD.nil ?_ | refine AQ.cons hT rfl ?_ | refine AQ.nil ?_ | (refine AReq.mk (by omega) ?_)); conv => whnf)
    refine ACond.dec (fun h => ?_) (fun h => ?_)
    · conv => whnf
      repeat ((first | refine AO.cons hT ?_ | refine AO.nil ?_ | refine AW.seq ?_ | refine AW.region ?_ | refine AW.cond ?_ | refine AW.block ?_ | refine AW.loop ?_ | refine AW.skip ?_ | refine AW.exit ?_ | refine AW.ret ?_ | refine AF.one hT rfl ?_ | refine AF.nil ?_ | refine AF.imm hT rfl rfl rfl ?_ | refine AH.of hT rfl ?_ | refine AD.cons hT rfl ?_ | refine AD.nil ?_ | refine AQ.cons hT rfl ?_ | refine AQ.nil ?_ | (refine AReq.mk (by omega) ?_)); conv => whnf)
      refine ACall.val (by kernel_rfl) (f78 8) rfl rfl ?_
      conv => whnf
      repeat ((first | refine AO.cons hT ?_ | refine AO.nil ?_ | refine AW.seq ?_ | refine AW.region ?_ | refine AW.cond ?_ | refine AW.block ?_ | refine AW.loop ?_ | refine AW.skip ?_ | refine AW.exit ?_ | refine AW.ret ?_ | refine AF.one hT rfl ?_ | refine AF.nil ?_ | refine AF.imm hT rfl rfl rfl ?_ | refine AH.of hT rfl ?_ | refine AD.cons hT rfl ?_ | refine AD.nil ?_ | refine AQ.cons hT rfl ?_ | refine AQ.nil ?_ | (refine AReq.mk (by omega) ?_)); conv => whnf)
      refine AFin.val rfl ⟨?_, rfl⟩
      unfold getR getV
      rw [if_pos (by omega)]; rfl
    · conv => whnf
      repeat ((first | refine AO.cons hT ?_ | refine AO.nil ?_ | refine AW.seq ?_ | refine AW.region ?_ | refine AW.cond ?_ | refine AW.block ?_ | refine AW.loop ?_ | refine AW.skip ?_ | refine AW.exit ?_ | refine AW.ret ?_ | refine AF.one hT rfl ?_ | refine AF.nil ?_ | refine AF.imm hT rfl rfl rfl ?_ | refine AH.of hT rfl ?_ | refine AD.cons hT rfl ?_ | refine AD.nil ?_ | refine AQ.cons hT rfl ?_ | refine AQ.nil ?_ | (refine AReq.mk (by omega) ?_)); conv => whnf)
      rw [wrap_i64 ((o : Int) + i) (by omega) (by omega), wrap_i64 (beVal (bytesAt s o i) : Int) (by omega) (by omega)]
      refine ACall.val (by kernel_rfl) (f79 _ _) rfl rfl ?_
      conv => whnf
      repeat ((first | refine AO.cons hT ?_ | refine AO.nil ?_ | refine AW.seq ?_ | refine AW.region ?_ | refine AW.cond ?_ | refine AW.block ?_ | refine AW.loop ?_ | refine AW.skip ?_ | refine AW.exit ?_ | refine AW.ret ?_ | refine AF.one hT rfl ?_ | refine AF.nil ?_ | refine AF.imm hT rfl rfl rfl ?_ | refine AH.of hT rfl ?_ | refine AD.cons hT rfl ?_ | refine AD.nil ?_ | refine AQ.cons hT rfl ?_ | refine AQ.nil ?_ | (refine AReq.mk (by omega) ?_)); conv => whnf)
      refine AFin.val rfl ⟨?_, rfl⟩
      unfold getR getV
      rw [if_neg (by omega), Int.natCast_add]; rfl
end Go.Aw.D1

set_option linter.unusedSimpArgs false
set_option linter.unusedVariables false
set_option maxHeartbeats 4000000
namespace Go.Aw.D1
open Go
theorem f67 (w : Nat) (hw : w = 4 ∨ w = 8) : Fun P 67 [nV w] (.v (.bool true)) := by
  refine spec_of hT (f := 67) (fn := Go.Proofs.Tryd.f67) (c := body Go.Proofs.Tryd.f67) (by kernel_rfl) (by kernel_rfl) ?_
  rcases hw with rfl | rfl
  · conv => whnf
    repeat (first | (refine AO.cons hT ?_; conv => whnf) | (refine AO.nil ?_; conv => whnf) | (refine AW.seq ?_; conv => whnf) | (refine AW.region ?_; conv => whnf) | (refine AW.cond ?_; conv => whnf) | (refine AW.block ?_; conv => whnf) | (refine AW.loop ?_; conv => whnf) | (refine AW.skip ?_; conv => whnf) | (refine AW.exit ?_; conv => whnf) | (refine AW.ret ?_; conv => whnf) | (refine AF.one hT rfl ?_; conv => whnf) | (refine AF.nil ?_; conv => whnf) | (refine AF.imm hT rfl rfl rfl ?_; conv => whnf) | (refine AH.of hT rfl ?_; conv => whnf) | (refine ASplit.yes rfl ?_; conv => whnf) | (refine ACond.yes rfl ?_; conv => whnf) | (refine ASplit.no rfl ?_; conv => whnf) | (refine ACond.no rfl ?_; conv => whnf) | (refine ASplit.yes (by decide) ?_; conv => whnf) | (refine ACond.yes (by decide) ?_; conv => whnf) | (refine AReq.mk (by decide) ?_; conv => whnf) | (refine AIdx.iff.2 ⟨by decide, ?_⟩; conv => whnf))
    exact AFin.mk ⟨rfl, rfl⟩
  · conv => whnf
    repeat (first | (refine AO.cons hT ?_; conv => whnf) | (refine AO.nil ?_; conv => whnf) | (refine AW.seq ?_; conv => whnf) | (refine AW.region ?_; conv => whnf) | (refine AW.cond ?_; conv => whnf) | (refine AW.block ?_; conv => whnf) | (refine AW.loop ?_; conv => whnf) | (refine AW.skip ?_; conv => whnf) | (refine AW.exit ?_; conv => whnf) | (refine AW.ret ?_; conv => whnf) | (refine AF.one hT rfl ?_; conv => whnf) | (refine AF.nil ?_; conv => whnf) | (refine AF.imm hT rfl rfl rfl ?_; conv => whnf) | (refine AH.of hT rfl ?_; conv => whnf) | (refine ASplit.yes rfl ?_; conv => whnf) | (refine ACond.yes rfl ?_; conv => whnf) | (refine ASplit.no rfl ?_; conv => whnf) | (refine ACond.no rfl ?_; conv => whnf) | (refine ASplit.yes (by decide) ?_; conv => whnf) | (refine ACond.yes (by decide) ?_; conv => whnf) | (refine AReq.mk (by decide) ?_; conv => whnf) | (refine AIdx.iff.2 ⟨by decide, ?_⟩; conv => whnf))
    exact AFin.mk ⟨rfl, rfl⟩

def getR' (s : ByteArray) (o w : Nat) : AV := if 9223372036854775807 < getV s o w then .tup [nV 0, nV 0, nV 8] else .tup [nV (getV s o w), nV ((o + w : Nat) : Int), nV 0]

theorem beVal_top (l : List UInt8) (b : UInt8) : beVal (b :: l) = b.toNat * 256 ^ l.length + beVal l := by
  have h : ∀ (l : List UInt8) (n : Nat), l.foldl (fun n b => n * 256 + b.toNat) n = n * 256 ^ l.length + beVal l := by
    intro l
    induction l with
    | nil => intro n; simp [beVal]
    | cons c l ih =>
      intro n
      have e1 : (c :: l).foldl (fun n b => n * 256 + b.toNat) n = l.foldl (fun n b => n * 256 + b.toNat) (n * 256 + c.toNat) := rfl
      have e2 : beVal (c :: l) = l.foldl (fun n b => n * 256 + b.toNat) (0 * 256 + c.toNat) := rfl
      rw [e1, e2, ih, ih, List.length_cons, Nat.pow_succ, Nat.add_mul, Nat.zero_mul, Nat.zero_add, Nat.add_assoc, Nat.mul_assoc, Nat.mul_comm 256]
  have := h l b.toNat
  show (b :: l).foldl (fun n b => n * 256 + b.toNat) 0 = _
  rw [← this]
  simp

theorem beVal_mono (b : List UInt8) : ∀ a : List UInt8, beVal a ≤ beVal (a ++ b) := by
  induction b with
  | nil => intro a; simp
  | cons c b ih =>
    intro a
    have := ih (a ++ [c])
    rw [List.append_assoc] at this
    have h2 := beVal_snoc a c
    exact Nat.le_trans (by omega) this

theorem f40 (s : ByteArray) (o w : Nat) (hw : w = 4 ∨ w = 8) (h : o + w ≤ s.size) (hs : s.size ≤ 4611686018427387904) : Fun P 40 [sV s, nV o, nV w] (getR' s o w) := by
  refine spec_of hT (f := 40) (fn := Go.Proofs.Tryd.f40) (c := body Go.Proofs.Tryd.f40) (by kernel_rfl) (by kernel_rfl) ?_
  have hbl : (bytesAt s o w).length = w := by rw [bytesAt, List.length_take, List.length_drop, size_list]; omega
  have hrest : ∀ {E : List AV}, 1 = 1 := fun {_} => rfl
  conv => whnf
  repeat ((first | refine AO.cons hT ?_ | refine AO.nil ?_ | refine AW.seq ?_ | refine AW.region ?_ | refine AW.cond ?_ | refine AW.block ?_ | refine AW.loop ?_ | refine AW.skip ?_ | refine AW.exit ?_ | refine AW.ret ?_ | refine AF.one hT rfl ?_ | refine AF.nil ?_ | refine AF.imm hT rfl rfl rfl ?_ | refine AH.of hT rfl ?_ | refine AD.cons hT rfl ?_ | refine AD.nil ?_ | refine AQ.cons hT rfl ?_ | refine AQ.nil ?_ | (refine ACall.val (by kernel_rfl) (f67 w hw) rfl rfl ?_) | (refine ASplit.no (decide_eq_false (by omega)) ?_) | (refine ACond.no (decide_eq_false (by omega)) ?_)); conv => whnf)
  refine ASplit.no rfl ?_
  conv => whnf
  repeat ((first | refine AO.cons hT ?_ | refine AO.nil ?_ | refine AW.seq ?_ | refine AW.region ?_ | refine AW.cond ?_ | refine AW.block ?_ | refine AW.loop ?_ | refine AW.skip ?_ | refine AW.exit ?_ | refine AW.ret ?_ | refine AF.one hT rfl ?_ | refine AF.nil ?_ | refine AF.imm hT rfl rfl rfl ?_ | refine AH.of hT rfl ?_ | refine AD.cons hT rfl ?_ | refine AD.nil ?_ | refine AQ.cons hT rfl ?_ | refine AQ.nil ?_ | (refine ACall.val (by kernel_rfl) (f67 w hw) rfl rfl ?_) | (refine ASplit.no (decide_eq_false (by omega)) ?_) | (refine ACond.no (decide_eq_false (by omega)) ?_)); conv => whnf)
  rw [wrap_i64 ((s.size : Int) - o) (by omega) (by omega)]
  refine ACond.no (decide_eq_false (by omega)) ?_
  conv => whnf
  refine AW.skip ?_
  conv => whnf
  refine AW.seqJ (fun E H => ¬ 9223372036854775807 < getV s o w ∧ E = pad [sV s, nV o, nV w, .any, .any, .any, nV 0, nV 0, nV 0] 57 ∧ H = []) ?_ ?_
  · conv => whnf
    repeat ((first | refine AO.cons hT ?_ | refine AO.nil ?_ | refine AW.seq ?_ | refine AW.region ?_ | refine AW.cond ?_ | refine AW.block ?_ | refine AW.loop ?_ | refine AW.skip ?_ | refine AW.exit ?_ | refine AW.ret ?_ | refine AF.one hT rfl ?_ | refine AF.nil ?_ | refine AF.imm hT rfl rfl rfl ?_ | refine AH.of hT rfl ?_ | refine AD.cons hT rfl ?_ | refine AD.nil ?_ | refine AQ.cons hT rfl ?_ | refine AQ.nil ?_ | (refine ACall.val (by kernel_rfl) (f67 w hw) rfl rfl ?_) | (refine ASplit.no (decide_eq_false (by omega)) ?_) | (refine ACond.no (decide_eq_false (by omega)) ?_)); conv => whnf)
    rcases hw with rfl | rfl
    · refine ASplit.no rfl ?_
      conv => whnf
      repeat (first | (refine AO.cons hT ?_; conv => whnf) | (refine AO.nil ?_; conv => whnf) | (refine AW.seq ?_; conv => whnf) | (refine AW.region ?_; conv => whnf) | (refine AW.cond ?_; conv => whnf) | (refine AW.block ?_; conv => whnf) | (refine AW.loop ?_; conv => whnf) | (refine AW.skip ?_; conv => whnf) | (refine AW.exit ?_; conv => whnf) | (refine AW.ret ?_; conv => whnf) | (refine AF.one hT rfl ?_; conv => whnf) | (refine AF.nil ?_; conv => whnf) | (refine AF.imm hT rfl rfl rfl ?_; conv => whnf) | (refine AH.of hT rfl ?_; conv => whnf) | (refine ASplit.yes rfl ?_; conv => whnf) | (refine ACond.yes rfl ?_; conv => whnf) | (refine ASplit.no rfl ?_; conv => whnf) | (refine ACond.no rfl ?_; conv => whnf) | (refine ASplit.yes (by decide) ?_; conv => whnf) | (refine ACond.yes (by decide) ?_; conv => whnf) | (refine AReq.mk (by decide) ?_; conv => whnf) | (refine AIdx.iff.2 ⟨by decide, ?_⟩; conv => whnf) | (refine ACall.val (by kernel_rfl) (f67 w hw) rfl rfl ?_; conv => whnf) | (refine ASplit.no (decide_eq_false (by omega)) ?_; conv => whnf) | (refine ACond.no (decide_eq_false (by omega)) ?_; conv => whnf))
      refine AOut.to _ _ (Conv.fit (by repeat' (first | exact Fit.nil | refine Fit.any ?_ | refine Fit.same ?_))) ⟨?_, rfl, rfl⟩
      have := beVal_lt (bytesAt s o 4)
      rw [hbl] at this
      unfold getV; omega
    · refine ASplit.yes rfl ?_
      conv => whnf
      repeat ((first | refine AO.cons hT ?_ | refine AO.nil ?_ | refine AW.seq ?_ | refine AW.region ?_ | refine AW.cond ?_ | refine AW.block ?_ | refine AW.loop ?_ | refine AW.skip ?_ | refine AW.exit ?_ | refine AW.ret ?_ | refine AF.one hT rfl ?_ | refine AF.nil ?_ | refine AF.imm hT rfl rfl rfl ?_ | refine AH.of hT rfl ?_ | refine AD.cons hT rfl ?_ | refine AD.nil ?_ | refine AQ.cons hT rfl ?_ | refine AQ.nil ?_ | (refine ACall.val (by kernel_rfl) (f67 w hw) rfl rfl ?_) | (refine ASplit.no (decide_eq_false (by omega)) ?_) | (refine ACond.no (decide_eq_false (by omega)) ?_) | (refine AReq.mk (by omega) ?_)); conv => whnf)
      have hc : ∃ l, bytesAt s o 8 = s.data.toList[o]'(by rw [size_list]; omega) :: l := by
        unfold bytesAt
        rw [List.drop_eq_getElem_cons (by rw [size_list]; omega)]
        exact ⟨_, rfl⟩
      obtain ⟨l, hc⟩ := hc
      have hv := beVal_top l (s.data.toList[o]'(by rw [size_list]; omega))
      rw [← hc] at hv
      have hll : l.length = 7 := by rw [hc] at hbl; simpa using hbl
      have hl7 := beVal_lt l
      rw [hll] at hv hl7
      rw [bt_get s o (by rw [size_list]; omega), show (s.data.toList[o]'(by rw [size_list]; omega)).toBitVec.toNat = (s.data.toList[o]'(by rw [size_list]; omega)).toNat from rfl]
      refine ACond.dec (fun h => ?_) (fun h => ?_)
      · conv => whnf
        repeat ((first | refine AO.cons hT ?_ | refine AO.nil ?_ | refine AW.seq ?_ | refine AW.region ?_ | refine AW.cond ?_ | refine AW.block ?_ | refine AW.loop ?_ | refine AW.skip ?_ | refine AW.exit ?_ | refine AW.ret ?_ | refine AF.one hT rfl ?_ | refine AF.nil ?_ | refine AF.imm hT rfl rfl rfl ?_ | refine AH.of hT rfl ?_ | refine AD.cons hT rfl ?_ | refine AD.nil ?_ | refine AQ.cons hT rfl ?_ | refine AQ.nil ?_ | (refine ACall.val (by kernel_rfl) (f67 w hw) rfl rfl ?_) | (refine ASplit.no (decide_eq_false (by omega)) ?_) | (refine ACond.no (decide_eq_false (by omega)) ?_) | (refine AReq.mk (by omega) ?_)); conv => whnf)
        refine AFin.val rfl ⟨?_, rfl⟩
        unfold getR'
        rw [if_pos (by unfold getV; omega)]; rfl
      · conv => whnf
        repeat ((first | refine AO.cons hT ?_ | refine AO.nil ?_ | refine AW.seq ?_ | refine AW.region ?_ | refine AW.cond ?_ | refine AW.block ?_ | refine AW.loop ?_ | refine AW.skip ?_ | refine AW.exit ?_ | refine AW.ret ?_ | refine AF.one hT rfl ?_ | refine AF.nil ?_ | refine AF.imm hT rfl rfl rfl ?_ | refine AH.of hT rfl ?_ | refine AD.cons hT rfl ?_ | refine AD.nil ?_ | refine AQ.cons hT rfl ?_ | refine AQ.nil ?_ | (refine ACall.val (by kernel_rfl) (f67 w hw) rfl rfl ?_) | (refine ASplit.no (decide_eq_false (by omega)) ?_) | (refine ACond.no (decide_eq_false (by omega)) ?_) | (refine AReq.mk (by omega) ?_)); conv => whnf)
        refine AOut.to _ _ (Conv.fit (by repeat' (first | exact Fit.nil | refine Fit.any ?_ | refine Fit.same ?_))) ⟨?_, rfl, rfl⟩
        unfold getV; omega
  rintro _ _ ⟨hv, rfl, rfl⟩
  conv => whnf
  repeat ((first | refine AO.cons hT ?_ | refine AO.nil ?_ | refine AW.seq ?_ | refine AW.region ?_ | refine AW.cond ?_ | refine AW.block ?_ | refine AW.loop ?_ | refine AW.skip ?_ | refine AW.exit ?_ | refine AW.ret ?_ | refine AF.one hT rfl ?_ | refine AF.nil ?_ | refine AF.imm hT rfl rfl rfl ?_ | refine AH.of hT rfl ?_ | refine AD.cons hT rfl ?_ | refine AD.nil ?_ | refine AQ.cons hT rfl ?_ | refine AQ.nil ?_ | (refine ACall.val (by kernel_rfl) (f67 w hw) rfl rfl ?_) | (refine ASplit.no (decide_eq_false (by omega)) ?_) | (refine ACond.no (decide_eq_false (by omega)) ?_) | (refine AReq.mk (by omega) ?_)); conv => whnf)
  refine ALoop.mk (fun k E H => ∃ i : Nat, i ≤ w ∧ k = w - i ∧ E = pad [sV s, nV o, nV w, .any, .any, .any, nV 0, nV 0, nV 0, nV (beVal ((bytesAt s o w).take i)), nV (o + i : Nat)] 57 ∧ H = []) (n := w) _ _ ⟨0, by omega, rfl, rfl, rfl⟩ (Conv.fit ?_) ?_
  · repeat' (first | exact Fit.nil | refine Fit.any ?_ | refine Fit.same ?_)
  rintro _ _ _ ⟨i, hi, rfl, rfl, rfl⟩
  conv => whnf
  repeat ((first | refine AO.cons hT ?_ | refine AO.nil ?_ | refine AW.seq ?_ | refine AW.region ?_ | refine AW.cond ?_ | refine AW.block ?_ | refine AW.loop ?_ | refine AW.skip ?_ | refine AW.exit ?_ | refine AW.ret ?_ | refine AF.one hT rfl ?_ | refine AF.nil ?_ | refine AF.imm hT rfl rfl rfl ?_ | refine AH.of hT rfl ?_ | refine AD.cons hT rfl ?_ | refine AD.nil ?_ | refine AQ.cons hT rfl ?_ | refine AQ.nil ?_); conv => whnf)
  rw [wrap_i64 ((o : Int) + w) (by omega) (by omega)]
  refine ACond.dec (fun h => ?_) (fun h => ?_)
  · have hil : i < w := by omega
    have hget : o + i < s.data.toList.length := by rw [size_list]; omega
    have hlast : (bytesAt s o w)[i]'(by omega) = s.data.toList[o + i] := by simp [bytesAt]
    have hsn := beVal_snoc ((bytesAt s o w).take i) ((bytesAt s o w)[i]'(by omega))
    rw [← List.take_succ_eq_append_getElem (by omega), hlast] at hsn
    have hmono : beVal ((bytesAt s o w).take (i + 1)) ≤ getV s o w := by
      have e := List.take_append_drop (i + 1) (bytesAt s o w)
      unfold getV
      conv => rhs; rw [← e]
      exact beVal_mono _ _
    conv => whnf
    repeat ((first | refine AO.cons hT ?_ | refine AO.nil ?_ | refine AW.seq ?_ | refine AW.region ?_ | refine AW.cond ?_ | refine AW.block ?_ | refine AW.loop ?_ | refine AW.skip ?_ | refine AW.exit ?_ | refine AW.ret ?_ | refine AF.one hT rfl ?_ | refine AF.nil ?_ | refine AF.imm hT rfl rfl rfl ?_ | refine AH.of hT rfl ?_ | refine AD.cons hT rfl ?_ | refine AD.nil ?_ | refine AQ.cons hT rfl ?_ | refine AQ.nil ?_ | (refine AReq.mk (by omega) ?_)); conv => whnf)
    have hb8 := (s.data.toList[o + i]).toNat_lt
    rw [bt_get s (o + i) hget, show (s.data.toList[o + i]).toBitVec.toNat = (s.data.toList[o + i]).toNat from rfl, wrap_i64 ((o + i : Nat) + 1 : Int) (by omega) (by omega), wrap_i64 (256 * (beVal ((bytesAt s o w).take i) : Int)) (by omega) (by omega), wrap_i64 ((s.data.toList[o + i]).toNat : Int) (by omega) (by omega), wrap_i64 (256 * (beVal ((bytesAt s o w).take i) : Int) + ((s.data.toList[o + i]).toNat : Int)) (by omega) (by omega), show 256 * (beVal ((bytesAt s o w).take i) : Int) + ((s.data.toList[o + i]).toNat : Int) = ((beVal ((bytesAt s o w).take (i + 1)) : Nat) : Int) by omega]
    refine AHead.mk (w - (i + 1)) _ _ (by omega) ⟨i + 1, by omega, rfl, rfl, rfl⟩ (Conv.fit ?_)
    repeat' (first | exact Fit.nil | refine Fit.any ?_ | refine Fit.same ?_)
  · obtain rfl : i = w := by omega
    conv => whnf
    repeat ((first | refine AO.cons hT ?_ | refine AO.nil ?_ | refine AW.seq ?_ | refine AW.region ?_ | refine AW.cond ?_ | refine AW.block ?_ | refine AW.loop ?_ | refine AW.skip ?_ | refine AW.exit ?_ | refine AW.ret ?_ | refine AF.one hT rfl ?_ | refine AF.nil ?_ | refine AF.imm hT rfl rfl rfl ?_ | refine AH.of hT rfl ?_ | refine AD.cons hT rfl ?_ | refine AD.nil ?_ | refine AQ.cons hT rfl ?_ | refine AQ.nil ?_ | (refine AReq.mk (by omega) ?_)); conv => whnf)
    refine AOut.stay ?_
    rw [List.take_of_length_le (by omega)]
    conv => whnf
    repeat ((first | refine AO.cons hT ?_ | refine AO.nil ?_ | refine AW.seq ?_ | refine AW.region ?_ | refine AW.cond ?_ | refine AW.block ?_ | refine AW.loop ?_ | refine AW.skip ?_ | refine AW.exit ?_ | refine AW.ret ?_ | refine AF.one hT rfl ?_ | refine AF.nil ?_ | refine AF.imm hT rfl rfl rfl ?_ | refine AH.of hT rfl ?_ | refine AD.cons hT rfl ?_ | refine AD.nil ?_ | refine AQ.cons hT rfl ?_ | refine AQ.nil ?_ | (refine AReq.mk (by omega) ?_)); conv => whnf)
    rw [wrap_i64 ((o : Int) + i) (by omega) (by omega)]
    refine AFin.val rfl ⟨?_, rfl⟩
    unfold getR'
    rw [if_neg hv, Int.natCast_add]; rfl
end Go.Aw.D1

set_option linter.unusedSimpArgs false
set_option linter.unusedVariables false
set_option maxHeartbeats 4000000
namespace Go.Aw.D1
open Go
theorem ext_list (s : ByteArray) (a b : Nat) : (s.extract a b).data.toList = (s.data.toList.drop a).take (b - a) := by
  rw [ByteArray.data_extract, Array.toList_extract]

theorem take_snoc {α : Type} (l : List α) (i : Nat) (h : i < l.length) : l.take (i + 1) = l.take i ++ [l[i]] := List.take_succ_eq_append_getElem h
def all0 (s : ByteArray) : Prop := ∀ b ∈ s.data.toList, b = 0

theorem byte0 (b : UInt8) : ((b.toBitVec.toNat : Int) = 0) ↔ b = 0 := by
  constructor
  · intro h
    have : b.toNat = 0 := by have : b.toBitVec.toNat = b.toNat := rfl; omega
    exact UInt8.toNat_inj.1 this
  · rintro rfl; rfl

theorem f61 (s : ByteArray) (hs : s.size ≤ 4611686018427387904) : Spec P 61 [sV s, .v (.int .u8 0)] [] fun r H => (∃ t : ByteArray, r = sV t ∧ t.size ≤ s.size ∧ (all0 t ↔ all0 s)) ∧ H = [] := by
  refine spec_of hT (f := 61) (fn := Go.Proofs.Tryd.f61) (c := body Go.Proofs.Tryd.f61) (by kernel_rfl) (by kernel_rfl) ?_
  conv => whnf
  repeat ((first | refine AO.cons hT ?_ | refine AO.nil ?_ | refine AW.seq ?_ | refine AW.region ?_ | refine AW.cond ?_ | refine AW.block ?_ | refine AW.loop ?_ | refine AW.skip ?_ | refine AW.exit ?_ | refine AW.ret ?_ | refine AF.one hT rfl ?_ | refine AF.nil ?_ | refine AF.imm hT rfl rfl rfl ?_ | refine AH.of hT rfl ?_ | refine AD.cons hT rfl ?_ | refine AD.nil ?_ | refine AQ.cons hT rfl ?_ | refine AQ.nil ?_); conv => whnf)
  refine ALoop.mk (fun k E H => ∃ t : ByteArray, t.size ≤ s.size ∧ (all0 t ↔ all0 s) ∧ k = t.size ∧ E = pad [sV t, .v (.int .u8 0), .any, .any, sV ⟨#[]⟩] 23 ∧ H = []) (n := s.size) _ _ ⟨s, Nat.le_refl _, Iff.rfl, rfl, rfl, rfl⟩ (Conv.fit ?_) ?_
  · repeat' (first | exact Fit.nil | refine Fit.any ?_ | refine Fit.same ?_)
  rintro _ _ _ ⟨t, ht, hz, rfl, rfl, rfl⟩
  conv => whnf
  repeat ((first | refine AO.cons hT ?_ | refine AO.nil ?_ | refine AW.seq ?_ | refine AW.region ?_ | refine AW.cond ?_ | refine AW.block ?_ | refine AW.loop ?_ | refine AW.skip ?_ | refine AW.exit ?_ | refine AW.ret ?_ | refine AF.one hT rfl ?_ | refine AF.nil ?_ | refine AF.imm hT rfl rfl rfl ?_ | refine AH.of hT rfl ?_ | refine AD.cons hT rfl ?_ | refine AD.nil ?_ | refine AQ.cons hT rfl ?_ | refine AQ.nil ?_); conv => whnf)
  refine ASplit.dec (fun h => ?_) (fun h => ?_)
  · have hl := size_list t
    have e1 : IntKind.i64.wrap ((t.size : Int) - 1) = ((t.size - 1 : Nat) : Int) := by rw [wrap_i64 _ (by omega) (by omega)]; omega
    have hlt : t.size - 1 < t.data.toList.length := by omega
    conv => whnf
    repeat ((first | refine AO.cons hT ?_ | refine AO.nil ?_ | refine AW.seq ?_ | refine AW.region ?_ | refine AW.cond ?_ | refine AW.block ?_ | refine AW.loop ?_ | refine AW.skip ?_ | refine AW.exit ?_ | refine AW.ret ?_ | refine AF.one hT rfl ?_ | refine AF.nil ?_ | refine AF.imm hT rfl rfl rfl ?_ | refine AH.of hT rfl ?_ | refine AD.cons hT rfl ?_ | refine AD.nil ?_ | refine AQ.cons hT rfl ?_ | refine AQ.nil ?_); conv => whnf)
    rw [e1]
    refine AReq.mk (by omega) ?_
    conv => whnf
    repeat ((first | refine AO.cons hT ?_ | refine AO.nil ?_ | refine AW.seq ?_ | refine AW.region ?_ | refine AW.cond ?_ | refine AW.block ?_ | refine AW.loop ?_ | refine AW.skip ?_ | refine AW.exit ?_ | refine AW.ret ?_ | refine AF.one hT rfl ?_ | refine AF.nil ?_ | refine AF.imm hT rfl rfl rfl ?_ | refine AH.of hT rfl ?_ | refine AD.cons hT rfl ?_ | refine AD.nil ?_ | refine AQ.cons hT rfl ?_ | refine AQ.nil ?_); conv => whnf)
    rw [bt_get t (t.size - 1) hlt]
    refine ACond.dec (fun h2 => ?_) (fun h2 => ?_)
    · conv => whnf
      repeat ((first | refine AO.cons hT ?_ | refine AO.nil ?_ | refine AW.seq ?_ | refine AW.region ?_ | refine AW.cond ?_ | refine AW.block ?_ | refine AW.loop ?_ | refine AW.skip ?_ | refine AW.exit ?_ | refine AW.ret ?_ | refine AF.one hT rfl ?_ | refine AF.nil ?_ | refine AF.imm hT rfl rfl rfl ?_ | refine AH.of hT rfl ?_ | refine AD.cons hT rfl ?_ | refine AD.nil ?_ | refine AQ.cons hT rfl ?_ | refine AQ.nil ?_); conv => whnf)
      rw [e1]
      refine AReq.mk (by omega) ?_
      conv => whnf
      repeat ((first | refine AO.cons hT ?_ | refine AO.nil ?_ | refine AW.seq ?_ | refine AW.region ?_ | refine AW.cond ?_ | refine AW.block ?_ | refine AW.loop ?_ | refine AW.skip ?_ | refine AW.exit ?_ | refine AW.ret ?_ | refine AF.one hT rfl ?_ | refine AF.nil ?_ | refine AF.imm hT rfl rfl rfl ?_ | refine AH.of hT rfl ?_ | refine AD.cons hT rfl ?_ | refine AD.nil ?_ | refine AQ.cons hT rfl ?_ | refine AQ.nil ?_); conv => whnf)
      rw [show Int.toNat ((t.size - 1 : Nat) : Int) = t.size - 1 from rfl]
      have hsz := size_extract t 0 (t.size - 1)
      refine AHead.mk (t.size - 1) (pad [sV (t.extract 0 (t.size - 1)), .v (.int .u8 0), .any, .any, sV ⟨#[]⟩] 23) [] (by omega) ⟨t.extract 0 (t.size - 1), by omega, ?_, by omega, rfl, rfl⟩ (Conv.fit ?_)
      · rw [← hz]
        have hlast := (byte0 _).1 h2
        have hcat : t.data.toList = (t.extract 0 (t.size - 1)).data.toList ++ [t.data.toList[t.size - 1]] := by
          rw [ext_list, List.drop_zero, Nat.sub_zero, ← take_snoc _ _ hlt, List.take_of_length_le (by omega)]
        constructor
        · intro h0 b hb
          rw [hcat] at hb
          rcases List.mem_append.1 hb with hb | hb
          · exact h0 b hb
          · simp at hb; rw [hb]; exact hlast
        · intro h0 b hb
          exact h0 b (by rw [hcat]; exact List.mem_append_left _ hb)
      · repeat' (first | exact Fit.nil | refine Fit.any ?_ | refine Fit.same ?_)
    · conv => whnf
      repeat ((first | refine AO.cons hT ?_ | refine AO.nil ?_ | refine AW.seq ?_ | refine AW.region ?_ | refine AW.cond ?_ | refine AW.block ?_ | refine AW.loop ?_ | refine AW.skip ?_ | refine AW.exit ?_ | refine AW.ret ?_ | refine AF.one hT rfl ?_ | refine AF.nil ?_ | refine AF.imm hT rfl rfl rfl ?_ | refine AH.of hT rfl ?_ | refine AD.cons hT rfl ?_ | refine AD.nil ?_ | refine AQ.cons hT rfl ?_ | refine AQ.nil ?_); conv => whnf)
      refine AOut.stay ?_
      conv => whnf
      repeat ((first | refine AO.cons hT ?_ | refine AO.nil ?_ | refine AW.seq ?_ | refine AW.region ?_ | refine AW.cond ?_ | refine AW.block ?_ | refine AW.loop ?_ | refine AW.skip ?_ | refine AW.exit ?_ | refine AW.ret ?_ | refine AF.one hT rfl ?_ | refine AF.nil ?_ | refine AF.imm hT rfl rfl rfl ?_ | refine AH.of hT rfl ?_ | refine AD.cons hT rfl ?_ | refine AD.nil ?_ | refine AQ.cons hT rfl ?_ | refine AQ.nil ?_); conv => whnf)
      exact AFin.val rfl ⟨⟨t, rfl, ht, hz⟩, rfl⟩
  · conv => whnf
    repeat (first | (refine AO.cons hT ?_; conv => whnf) | (refine AO.nil ?_; conv => whnf) | (refine AW.seq ?_; conv => whnf) | (refine AW.region ?_; conv => whnf) | (refine AW.cond ?_; conv => whnf) | (refine AW.block ?_; conv => whnf) | (refine AW.loop ?_; conv => whnf) | (refine AW.skip ?_; conv => whnf) | (refine AW.exit ?_; conv => whnf) | (refine AW.ret ?_; conv => whnf) | (refine AF.one hT rfl ?_; conv => whnf) | (refine AF.nil ?_; conv => whnf) | (refine AF.imm hT rfl rfl rfl ?_; conv => whnf) | (refine AH.of hT rfl ?_; conv => whnf) | (refine ASplit.yes rfl ?_; conv => whnf) | (refine ACond.yes rfl ?_; conv => whnf) | (refine ASplit.no rfl ?_; conv => whnf) | (refine ACond.no rfl ?_; conv => whnf) | (refine ASplit.yes (by decide) ?_; conv => whnf) | (refine ACond.yes (by decide) ?_; conv => whnf) | (refine AReq.mk (by decide) ?_; conv => whnf) | (refine AIdx.iff.2 ⟨by decide, ?_⟩; conv => whnf))
    refine AOut.stay ?_
    conv => whnf
    repeat ((first | refine AO.cons hT ?_ | refine AO.nil ?_ | refine AW.seq ?_ | refine AW.region ?_ | refine AW.cond ?_ | refine AW.block ?_ | refine AW.loop ?_ | refine AW.skip ?_ | refine AW.exit ?_ | refine AW.ret ?_ | refine AF.one hT rfl ?_ | refine AF.nil ?_ | refine AF.imm hT rfl rfl rfl ?_ | refine AH.of hT rfl ?_ | refine AD.cons hT rfl ?_ | refine AD.nil ?_ | refine AQ.cons hT rfl ?_ | refine AQ.nil ?_); conv => whnf)
    exact AFin.val rfl ⟨⟨t, rfl, ht, hz⟩, rfl⟩

theorem f60 (s : ByteArray) (hs : s.size ≤ 4611686018427387904) : Spec P 60 [sV s, .v (.int .u8 0)] [] fun r H => (∃ t : ByteArray, r = sV t ∧ (t = ⟨#[]⟩ ↔ all0 s)) ∧ H = [] := by
  refine spec_of hT (f := 60) (fn := Go.Proofs.Tryd.f60) (c := body Go.Proofs.Tryd.f60) (by kernel_rfl) (by kernel_rfl) ?_
  conv => whnf
  repeat ((first | refine AO.cons hT ?_ | refine AO.nil ?_ | refine AW.seq ?_ | refine AW.region ?_ | refine AW.cond ?_ | refine AW.block ?_ | refine AW.loop ?_ | refine AW.skip ?_ | refine AW.exit ?_ | refine AW.ret ?_ | refine AF.one hT rfl ?_ | refine AF.nil ?_ | refine AF.imm hT rfl rfl rfl ?_ | refine AH.of hT rfl ?_ | refine AD.cons hT rfl ?_ | refine AD.nil ?_ | refine AQ.cons hT rfl ?_ | refine AQ.nil ?_); conv => whnf)
  refine ALoop.mk (fun k E H => ∃ t : ByteArray, t.size ≤ s.size ∧ (all0 t ↔ all0 s) ∧ k = t.size ∧ E = pad [sV t, .v (.int .u8 0), .any, .any, sV ⟨#[]⟩] 17 ∧ H = []) (n := s.size) _ _ ⟨s, Nat.le_refl _, Iff.rfl, rfl, rfl, rfl⟩ (Conv.fit ?_) ?_
  · repeat' (first | exact Fit.nil | refine Fit.any ?_ | refine Fit.same ?_)
  rintro _ _ _ ⟨t, ht, hz, rfl, rfl, rfl⟩
  conv => whnf
  repeat ((first | refine AO.cons hT ?_ | refine AO.nil ?_ | refine AW.seq ?_ | refine AW.region ?_ | refine AW.cond ?_ | refine AW.block ?_ | refine AW.loop ?_ | refine AW.skip ?_ | refine AW.exit ?_ | refine AW.ret ?_ | refine AF.one hT rfl ?_ | refine AF.nil ?_ | refine AF.imm hT rfl rfl rfl ?_ | refine AH.of hT rfl ?_ | refine AD.cons hT rfl ?_ | refine AD.nil ?_ | refine AQ.cons hT rfl ?_ | refine AQ.nil ?_); conv => whnf)
  have hl := size_list t
  refine ASplit.dec (fun h => ?_) (fun h => ?_)
  · have hlt : 0 < t.data.toList.length := by omega
    conv => whnf
    repeat ((first | refine AO.cons hT ?_ | refine AO.nil ?_ | refine AW.seq ?_ | refine AW.region ?_ | refine AW.cond ?_ | refine AW.block ?_ | refine AW.loop ?_ | refine AW.skip ?_ | refine AW.exit ?_ | refine AW.ret ?_ | refine AF.one hT rfl ?_ | refine AF.nil ?_ | refine AF.imm hT rfl rfl rfl ?_ | refine AH.of hT rfl ?_ | refine AD.cons hT rfl ?_ | refine AD.nil ?_ | refine AQ.cons hT rfl ?_ | refine AQ.nil ?_); conv => whnf)
    refine AReq.mk (by omega) ?_
    conv => whnf
    repeat ((first | refine AO.cons hT ?_ | refine AO.nil ?_ | refine AW.seq ?_ | refine AW.region ?_ | refine AW.cond ?_ | refine AW.block ?_ | refine AW.loop ?_ | refine AW.skip ?_ | refine AW.exit ?_ | refine AW.ret ?_ | refine AF.one hT rfl ?_ | refine AF.nil ?_ | refine AF.imm hT rfl rfl rfl ?_ | refine AH.of hT rfl ?_ | refine AD.cons hT rfl ?_ | refine AD.nil ?_ | refine AQ.cons hT rfl ?_ | refine AQ.nil ?_); conv => whnf)
    rw [show bt t 0 = _ from bt_get t 0 hlt]
    refine ACond.dec (fun h2 => ?_) (fun h2 => ?_)
    · conv => whnf
      repeat ((first | refine AO.cons hT ?_ | refine AO.nil ?_ | refine AW.seq ?_ | refine AW.region ?_ | refine AW.cond ?_ | refine AW.block ?_ | refine AW.loop ?_ | refine AW.skip ?_ | refine AW.exit ?_ | refine AW.ret ?_ | refine AF.one hT rfl ?_ | refine AF.nil ?_ | refine AF.imm hT rfl rfl rfl ?_ | refine AH.of hT rfl ?_ | refine AD.cons hT rfl ?_ | refine AD.nil ?_ | refine AQ.cons hT rfl ?_ | refine AQ.nil ?_); conv => whnf)
      refine AReq.mk (by omega) ?_
      conv => whnf
      repeat ((first | refine AO.cons hT ?_ | refine AO.nil ?_ | refine AW.seq ?_ | refine AW.region ?_ | refine AW.cond ?_ | refine AW.block ?_ | refine AW.loop ?_ | refine AW.skip ?_ | refine AW.exit ?_ | refine AW.ret ?_ | refine AF.one hT rfl ?_ | refine AF.nil ?_ | refine AF.imm hT rfl rfl rfl ?_ | refine AH.of hT rfl ?_ | refine AD.cons hT rfl ?_ | refine AD.nil ?_ | refine AQ.cons hT rfl ?_ | refine AQ.nil ?_); conv => whnf)
      rw [show Int.toNat 1 = 1 from rfl]
      have hsz := size_extract t 1 t.size
      refine AHead.mk (t.size - 1) (pad [sV (t.extract 1 t.size), .v (.int .u8 0), .any, .any, sV ⟨#[]⟩] 17) [] (by omega) ⟨t.extract 1 t.size, by omega, ?_, by omega, rfl, rfl⟩ (Conv.fit ?_)
      · rw [← hz]
        have hfirst := (byte0 _).1 h2
        have hcat : t.data.toList = t.data.toList[0] :: (t.extract 1 t.size).data.toList := by
          rw [ext_list, List.take_of_length_le (by rw [List.length_drop]; omega)]
          have := List.drop_eq_getElem_cons hlt
          simpa using this
        constructor
        · intro h0 b hb
          rw [hcat] at hb
          rcases List.mem_cons.1 hb with rfl | hb
          · exact hfirst
          · exact h0 b hb
        · intro h0 b hb
          exact h0 b (by rw [hcat]; exact List.mem_cons_of_mem _ hb)
      · repeat' (first | exact Fit.nil | refine Fit.any ?_ | refine Fit.same ?_)
    · conv => whnf
      repeat ((first | refine AO.cons hT ?_ | refine AO.nil ?_ | refine AW.seq ?_ | refine AW.region ?_ | refine AW.cond ?_ | refine AW.block ?_ | refine AW.loop ?_ | refine AW.skip ?_ | refine AW.exit ?_ | refine AW.ret ?_ | refine AF.one hT rfl ?_ | refine AF.nil ?_ | refine AF.imm hT rfl rfl rfl ?_ | refine AH.of hT rfl ?_ | refine AD.cons hT rfl ?_ | refine AD.nil ?_ | refine AQ.cons hT rfl ?_ | refine AQ.nil ?_); conv => whnf)
      refine AOut.stay ?_
      conv => whnf
      repeat ((first | refine AO.cons hT ?_ | refine AO.nil ?_ | refine AW.seq ?_ | refine AW.region ?_ | refine AW.cond ?_ | refine AW.block ?_ | refine AW.loop ?_ | refine AW.skip ?_ | refine AW.exit ?_ | refine AW.ret ?_ | refine AF.one hT rfl ?_ | refine AF.nil ?_ | refine AF.imm hT rfl rfl rfl ?_ | refine AH.of hT rfl ?_ | refine AD.cons hT rfl ?_ | refine AD.nil ?_ | refine AQ.cons hT rfl ?_ | refine AQ.nil ?_); conv => whnf)
      refine AFin.val rfl ⟨⟨t, rfl, ?_⟩, rfl⟩
      rw [← hz]
      constructor
      · rintro rfl; simp at hlt
      · intro h0
        exact absurd (h0 _ (List.getElem_mem hlt)) (fun hc => h2 ((byte0 _).2 hc))
  · conv => whnf
    repeat (first | (refine AO.cons hT ?_; conv => whnf) | (refine AO.nil ?_; conv => whnf) | (refine AW.seq ?_; conv => whnf) | (refine AW.region ?_; conv => whnf) | (refine AW.cond ?_; conv => whnf) | (refine AW.block ?_; conv => whnf) | (refine AW.loop ?_; conv => whnf) | (refine AW.skip ?_; conv => whnf) | (refine AW.exit ?_; conv => whnf) | (refine AW.ret ?_; conv => whnf) | (refine AF.one hT rfl ?_; conv => whnf) | (refine AF.nil ?_; conv => whnf) | (refine AF.imm hT rfl rfl rfl ?_; conv => whnf) | (refine AH.of hT rfl ?_; conv => whnf) | (refine ASplit.yes rfl ?_; conv => whnf) | (refine ACond.yes rfl ?_; conv => whnf) | (refine ASplit.no rfl ?_; conv => whnf) | (refine ACond.no rfl ?_; conv => whnf) | (refine ASplit.yes (by decide) ?_; conv => whnf) | (refine ACond.yes (by decide) ?_; conv => whnf) | (refine AReq.mk (by decide) ?_; conv => whnf) | (refine AIdx.iff.2 ⟨by decide, ?_⟩; conv => whnf))
    refine AOut.stay ?_
    conv => whnf
    repeat ((first | refine AO.cons hT ?_ | refine AO.nil ?_ | refine AW.seq ?_ | refine AW.region ?_ | refine AW.cond ?_ | refine AW.block ?_ | refine AW.loop ?_ | refine AW.skip ?_ | refine AW.exit ?_ | refine AW.ret ?_ | refine AF.one hT rfl ?_ | refine AF.nil ?_ | refine AF.imm hT rfl rfl rfl ?_ | refine AH.of hT rfl ?_ | refine AD.cons hT rfl ?_ | refine AD.nil ?_ | refine AQ.cons hT rfl ?_ | refine AQ.nil ?_); conv => whnf)
    refine AFin.val rfl ⟨⟨t, rfl, ?_⟩, rfl⟩
    rw [← hz]
    have : t.data.toList = [] := List.eq_nil_of_length_eq_zero (by omega)
    refine ⟨fun _ b hb => by rw [this] at hb; simp at hb, fun _ => ?_⟩
    apply ByteArray.ext
    exact Array.toList_inj.1 this

theorem list_inj {a b : ByteArray} (h : a.data.toList = b.data.toList) : a = b := by
  cases a; cases b; simp at h; simp [h]
theorem str_eq (s t : ByteArray) : (s.toList == t.toList) = decide (s = t) := by
  rw [Go.ByteArray.toList_eq, Go.ByteArray.toList_eq, Bool.eq_iff_iff, beq_iff_eq, decide_eq_true_iff]
  exact ⟨list_inj, fun h => by rw [h]⟩

theorem f36 (s : ByteArray) (hs : s.size ≤ 4611686018427387904) : Spec P 36 [sV s, .v (.string ⟨#[0]⟩)] [] fun r H => (∃ t : ByteArray, r = sV t ∧ (t = ⟨#[]⟩ ↔ all0 s)) ∧ H = [] := by
  refine spec_of hT (f := 36) (fn := Go.Proofs.Tryd.f36) (c := body Go.Proofs.Tryd.f36) (by kernel_rfl) (by kernel_rfl) ?_
  conv => whnf
  repeat ((first | refine AO.cons hT ?_ | refine AO.nil ?_ | refine AW.seq ?_ | refine AW.region ?_ | refine AW.cond ?_ | refine AW.block ?_ | refine AW.loop ?_ | refine AW.skip ?_ | refine AW.exit ?_ | refine AW.ret ?_ | refine AF.one hT rfl ?_ | refine AF.nil ?_ | refine AF.imm hT rfl rfl rfl ?_ | refine AH.of hT rfl ?_ | refine AD.cons hT rfl ?_ | refine AD.nil ?_ | refine AQ.cons hT rfl ?_ | refine AQ.nil ?_); conv => whnf)
  rw [str_eq]
  refine ASplit.dec (fun h => ?_) (fun h => ?_)
  · subst h
    conv => whnf
    repeat (first | (refine AO.cons hT ?_; conv => whnf) | (refine AO.nil ?_; conv => whnf) | (refine AW.seq ?_; conv => whnf) | (refine AW.region ?_; conv => whnf) | (refine AW.cond ?_; conv => whnf) | (refine AW.block ?_; conv => whnf) | (refine AW.loop ?_; conv => whnf) | (refine AW.skip ?_; conv => whnf) | (refine AW.exit ?_; conv => whnf) | (refine AW.ret ?_; conv => whnf) | (refine AF.one hT rfl ?_; conv => whnf) | (refine AF.nil ?_; conv => whnf) | (refine AF.imm hT rfl rfl rfl ?_; conv => whnf) | (refine AH.of hT rfl ?_; conv => whnf) | (refine ASplit.yes rfl ?_; conv => whnf) | (refine ACond.yes rfl ?_; conv => whnf) | (refine ASplit.no rfl ?_; conv => whnf) | (refine ACond.no rfl ?_; conv => whnf) | (refine ASplit.yes (by decide) ?_; conv => whnf) | (refine ACond.yes (by decide) ?_; conv => whnf) | (refine AReq.mk (by decide) ?_; conv => whnf) | (refine AIdx.iff.2 ⟨by decide, ?_⟩; conv => whnf))
    exact AFin.val rfl ⟨⟨⟨#[]⟩, rfl, ⟨fun _ b hb => by simp at hb, fun _ => rfl⟩⟩, rfl⟩
  · --! alt refine AReq.mk (by decide) ?_
    conv => whnf
    repeat (first | (refine AO.cons hT ?_; conv => whnf) | (refine AO.nil ?_; conv => whnf) | (refine AW.seq ?_; conv => whnf) | (refine AW.region ?_; conv => whnf) | (refine AW.cond ?_; conv => whnf) | (refine AW.block ?_; conv => whnf) | (refine AW.loop ?_; conv => whnf) | (refine AW.skip ?_; conv => whnf) | (refine AW.exit ?_; conv => whnf) | (refine AW.ret ?_; conv => whnf) | (refine AF.one hT rfl ?_; conv => whnf) | (refine AF.nil ?_; conv => whnf) | (refine AF.imm hT rfl rfl rfl ?_; conv => whnf) | (refine AH.of hT rfl ?_; conv => whnf) | (refine ASplit.yes rfl ?_; conv => whnf) | (refine ACond.yes rfl ?_; conv => whnf) | (refine ASplit.no rfl ?_; conv => whnf) | (refine ACond.no rfl ?_; conv => whnf) | (refine ASplit.yes (by decide) ?_; conv => whnf) | (refine ACond.yes (by decide) ?_; conv => whnf) | (refine AReq.mk (by decide) ?_; conv => whnf) | (refine AIdx.iff.2 ⟨by decide, ?_⟩; conv => whnf))
    refine ACond.no (by rw [str_eq]; exact decide_eq_false (fun h => by cases h)) ?_
    conv => whnf
    repeat ((first | refine AO.cons hT ?_ | refine AO.nil ?_ | refine AW.seq ?_ | refine AW.region ?_ | refine AW.cond ?_ | refine AW.block ?_ | refine AW.loop ?_ | refine AW.skip ?_ | refine AW.exit ?_ | refine AW.ret ?_ | refine AF.one hT rfl ?_ | refine AF.nil ?_ | refine AF.imm hT rfl rfl rfl ?_ | refine AH.of hT rfl ?_ | refine AD.cons hT rfl ?_ | refine AD.nil ?_ | refine AQ.cons hT rfl ?_ | refine AQ.nil ?_); conv => whnf)
    refine ASplit.yes rfl ?_
    conv => whnf
    repeat ((first | refine AO.cons hT ?_ | refine AO.nil ?_ | refine AW.seq ?_ | refine AW.region ?_ | refine AW.cond ?_ | refine AW.block ?_ | refine AW.loop ?_ | refine AW.skip ?_ | refine AW.exit ?_ | refine AW.ret ?_ | refine AF.one hT rfl ?_ | refine AF.nil ?_ | refine AF.imm hT rfl rfl rfl ?_ | refine AH.of hT rfl ?_ | refine AD.cons hT rfl ?_ | refine AD.nil ?_ | refine AQ.cons hT rfl ?_ | refine AQ.nil ?_); conv => whnf)
    refine AReq.mk (by decide) ?_
    conv => whnf
    repeat ((first | refine AO.cons hT ?_ | refine AO.nil ?_ | refine AW.seq ?_ | refine AW.region ?_ | refine AW.cond ?_ | refine AW.block ?_ | refine AW.loop ?_ | refine AW.skip ?_ | refine AW.exit ?_ | refine AW.ret ?_ | refine AF.one hT rfl ?_ | refine AF.nil ?_ | refine AF.imm hT rfl rfl rfl ?_ | refine AH.of hT rfl ?_ | refine AD.cons hT rfl ?_ | refine AD.nil ?_ | refine AQ.cons hT rfl ?_ | refine AQ.nil ?_); conv => whnf)
    have hb : bt ⟨#[0]⟩ 0 = 0 := by simp [bt]
    rw [hb]
    refine ACond.yes (decide_eq_true (by omega)) ?_
    conv => whnf
    repeat ((first | refine AO.cons hT ?_ | refine AO.nil ?_ | refine AW.seq ?_ | refine AW.region ?_ | refine AW.cond ?_ | refine AW.block ?_ | refine AW.loop ?_ | refine AW.skip ?_ | refine AW.exit ?_ | refine AW.ret ?_ | refine AF.one hT rfl ?_ | refine AF.nil ?_ | refine AF.imm hT rfl rfl rfl ?_ | refine AH.of hT rfl ?_ | refine AD.cons hT rfl ?_ | refine AD.nil ?_ | refine AQ.cons hT rfl ?_ | refine AQ.nil ?_); conv => whnf)
    refine AW.plan hm (.one 0 (.one 1 (.one 2 (.one 4 (.one 5 (.one 3 (.one 6 (.one 7 .nil)))))))) (by kernel_rfl) ?_
    conv => whnf
    repeat ((first | refine AO.cons hT ?_ | refine AO.nil ?_ | refine AW.seq ?_ | refine AW.region ?_ | refine AW.cond ?_ | refine AW.block ?_ | refine AW.loop ?_ | refine AW.skip ?_ | refine AW.exit ?_ | refine AW.ret ?_ | refine AF.one hT rfl ?_ | refine AF.nil ?_ | refine AF.imm hT rfl rfl rfl ?_ | refine AH.of hT rfl ?_ | refine AD.cons hT rfl ?_ | refine AD.nil ?_ | refine AQ.cons hT rfl ?_ | refine AQ.nil ?_ | (refine AReq.mk (by decide) ?_)); conv => whnf)
    refine ACall.out (by kernel_rfl) (f61 s hs) rfl ?_
    rintro _ ⟨t, rfl, ht, hz⟩
    conv => whnf
    repeat ((first | refine AO.cons hT ?_ | refine AO.nil ?_ | refine AW.seq ?_ | refine AW.region ?_ | refine AW.cond ?_ | refine AW.block ?_ | refine AW.loop ?_ | refine AW.skip ?_ | refine AW.exit ?_ | refine AW.ret ?_ | refine AF.one hT rfl ?_ | refine AF.nil ?_ | refine AF.imm hT rfl rfl rfl ?_ | refine AH.of hT rfl ?_ | refine AD.cons hT rfl ?_ | refine AD.nil ?_ | refine AQ.cons hT rfl ?_ | refine AQ.nil ?_ | (refine AReq.mk (by decide) ?_)); conv => whnf)
    refine ACall.out (by kernel_rfl) (f60 t (by omega)) rfl ?_
    rintro _ ⟨u, rfl, hu⟩
    conv => whnf
    repeat ((first | refine AO.cons hT ?_ | refine AO.nil ?_ | refine AW.seq ?_ | refine AW.region ?_ | refine AW.cond ?_ | refine AW.block ?_ | refine AW.loop ?_ | refine AW.skip ?_ | refine AW.exit ?_ | refine AW.ret ?_ | refine AF.one hT rfl ?_ | refine AF.nil ?_ | refine AF.imm hT rfl rfl rfl ?_ | refine AH.of hT rfl ?_ | refine AD.cons hT rfl ?_ | refine AD.nil ?_ | refine AQ.cons hT rfl ?_ | refine AQ.nil ?_ | (refine AReq.mk (by decide) ?_)); conv => whnf)
    exact AFin.val rfl ⟨⟨u, rfl, hu.trans hz⟩, rfl⟩
end Go.Aw.D1

set_option linter.unusedSimpArgs false
set_option linter.unusedVariables false
set_option maxHeartbeats 4000000
namespace Go.Aw.D1
open Go Go.Proofs Go.RowKit

theorem repeatExtra : Builder.Extra Tryd.prog Tryd.repeatLaid_ren where
  sizeBuilder := by kernel_rfl
  liesBuilder := by kernel_rfl
  t5 := Tryd.repeatLaid.t5
  a5 := Tryd.repeatLaid.a5
  z5 := Tryd.repeatLaid.z5
  v5 := Tryd.repeatLaid.v5
  infoByte := by kernel_rfl
  cellsByte := by kernel_rfl
  sizeByte := by kernel_rfl
  neB5 := by decide

def zs (c : Nat) : List UInt8 := List.replicate c 0
theorem f31 (c : Nat) (hc : c ≤ 100000) : Fun P 31 [.v (.string ⟨#[0]⟩), nV c] (sV ⟨(zs c).toArray⟩) := by
  refine Fun.below (vs := [.string ⟨#[0]⟩, .int .i64 c]) (fun w m I ys h => ?_) (fun w => ?_)
  · simp only [RepL, Rep, nV] at h
    obtain ⟨y, zs, rfl, rfl, y2, z2, rfl, rfl, rfl⟩ := h
    rfl
  · have := Any.strings_Repeat Tryd.repeatLaid repeatExtra ⟨#[0]⟩ c w (by omega) (by show 1 * c ≤ _; omega)
    change Calls Tryd.prog 31 _ _ _ at this
    refine this.mono fun e w' ⟨he, hw⟩ => ⟨?_, ⟨hw.size, hw.block⟩, hw.os, hw.output⟩
    rw [he]
    have h2 : Lib.repeatL [(0 : UInt8)] c = zs c := by
      have := Lib.repeatL_replicate (0 : UInt8) 1 c
      rw [Nat.mul_one] at this
      exact this
    rw [← h2]

theorem quo64 (m : Nat) : ((m : Int)).tdiv 64 = ((m / 64 : Nat) : Int) := rfl
def whole (n : Nat) : Nat := (n + 63) / 64 * 64
theorem f32 (n : Nat) (hn : n ≤ 1000000000000) : Fun P 32 [nV n] (nV (whole n)) := by
  refine spec_of hT (f := 32) (fn := Go.Proofs.Tryd.f32) (c := body Go.Proofs.Tryd.f32) (by kernel_rfl) (by kernel_rfl) ?_
  conv => whnf
  repeat ((first | refine AO.cons hT ?_ | refine AO.nil ?_ | refine AW.seq ?_ | refine AW.region ?_ | refine AW.cond ?_ | refine AW.block ?_ | refine AW.loop ?_ | refine AW.skip ?_ | refine AW.exit ?_ | refine AW.ret ?_ | refine AF.one hT rfl ?_ | refine AF.nil ?_ | refine AF.imm hT rfl rfl rfl ?_ | refine AH.of hT rfl ?_ | refine AD.cons hT rfl ?_ | refine AD.nil ?_ | refine AQ.cons hT rfl ?_ | refine AQ.nil ?_); conv => whnf)
  refine AReq.mk (by decide) ?_
  conv => whnf
  repeat ((first | refine AO.cons hT ?_ | refine AO.nil ?_ | refine AW.seq ?_ | refine AW.region ?_ | refine AW.cond ?_ | refine AW.block ?_ | refine AW.loop ?_ | refine AW.skip ?_ | refine AW.exit ?_ | refine AW.ret ?_ | refine AF.one hT rfl ?_ | refine AF.nil ?_ | refine AF.imm hT rfl rfl rfl ?_ | refine AH.of hT rfl ?_ | refine AD.cons hT rfl ?_ | refine AD.nil ?_ | refine AQ.cons hT rfl ?_ | refine AQ.nil ?_); conv => whnf)
  refine AFin.mk ⟨?_, rfl⟩
  rw [wrap_i64 ((n : Int) + 64) (by omega) (by omega), show (n : Int) + 64 - 1 = ((n + 63 : Nat) : Int) by omega, wrap_i64 ((n + 63 : Nat) : Int) (by omega) (by omega), quo64, wrap_i64 (((n + 63) / 64 : Nat) : Int) (by omega) (by omega), wrap_i64 _ (by omega) (by omega)]
  rfl
theorem f34 (n : Nat) (hn : n ≤ 100000000000) : Fun P 34 [nV n] (nV (whole (n + 16))) := by
  refine spec_of hT (f := 34) (fn := Go.Proofs.Tryd.f34) (c := body Go.Proofs.Tryd.f34) (by kernel_rfl) (by kernel_rfl) ?_
  conv => whnf
  repeat ((first | refine AO.cons hT ?_ | refine AO.nil ?_ | refine AW.seq ?_ | refine AW.region ?_ | refine AW.cond ?_ | refine AW.block ?_ | refine AW.loop ?_ | refine AW.skip ?_ | refine AW.exit ?_ | refine AW.ret ?_ | refine AF.one hT rfl ?_ | refine AF.nil ?_ | refine AF.imm hT rfl rfl rfl ?_ | refine AH.of hT rfl ?_ | refine AD.cons hT rfl ?_ | refine AD.nil ?_ | refine AQ.cons hT rfl ?_ | refine AQ.nil ?_); conv => whnf)
  rw [wrap_i64 (12 + (n : Int)) (by omega) (by omega), wrap_i64 (12 + (n : Int) + 4) (by omega) (by omega), show 12 + (n : Int) + 4 = ((n + 16 : Nat) : Int) by omega]
  refine ACall.val (by kernel_rfl) (f32 (n + 16) (by omega)) rfl rfl ?_
  conv => whnf
  repeat ((first | refine AO.cons hT ?_ | refine AO.nil ?_ | refine AW.seq ?_ | refine AW.region ?_ | refine AW.cond ?_ | refine AW.block ?_ | refine AW.loop ?_ | refine AW.skip ?_ | refine AW.exit ?_ | refine AW.ret ?_ | refine AF.one hT rfl ?_ | refine AF.nil ?_ | refine AF.imm hT rfl rfl rfl ?_ | refine AH.of hT rfl ?_ | refine AD.cons hT rfl ?_ | refine AD.nil ?_ | refine AQ.cons hT rfl ?_ | refine AQ.nil ?_); conv => whnf)
  exact AFin.mk ⟨rfl, rfl⟩
theorem f18 (s : ByteArray) (hs : s.size ≤ 100000000000) : Fun P 18 [sV s] (nV ((s.size + 16 + 63) / 64 : Nat)) := by
  refine spec_of hT (f := 18) (fn := Go.Proofs.Tryd.f18) (c := body Go.Proofs.Tryd.f18) (by kernel_rfl) (by kernel_rfl) ?_
  conv => whnf
  repeat ((first | refine AO.cons hT ?_ | refine AO.nil ?_ | refine AW.seq ?_ | refine AW.region ?_ | refine AW.cond ?_ | refine AW.block ?_ | refine AW.loop ?_ | refine AW.skip ?_ | refine AW.exit ?_ | refine AW.ret ?_ | refine AF.one hT rfl ?_ | refine AF.nil ?_ | refine AF.imm hT rfl rfl rfl ?_ | refine AH.of hT rfl ?_ | refine AD.cons hT rfl ?_ | refine AD.nil ?_ | refine AQ.cons hT rfl ?_ | refine AQ.nil ?_); conv => whnf)
  refine ACall.val (by kernel_rfl) (f34 s.size (by omega)) rfl rfl ?_
  conv => whnf
  repeat ((first | refine AO.cons hT ?_ | refine AO.nil ?_ | refine AW.seq ?_ | refine AW.region ?_ | refine AW.cond ?_ | refine AW.block ?_ | refine AW.loop ?_ | refine AW.skip ?_ | refine AW.exit ?_ | refine AW.ret ?_ | refine AF.one hT rfl ?_ | refine AF.nil ?_ | refine AF.imm hT rfl rfl rfl ?_ | refine AH.of hT rfl ?_ | refine AD.cons hT rfl ?_ | refine AD.nil ?_ | refine AQ.cons hT rfl ?_ | refine AQ.nil ?_); conv => whnf)
  refine AReq.mk (by decide) ?_
  conv => whnf
  repeat ((first | refine AO.cons hT ?_ | refine AO.nil ?_ | refine AW.seq ?_ | refine AW.region ?_ | refine AW.cond ?_ | refine AW.block ?_ | refine AW.loop ?_ | refine AW.skip ?_ | refine AW.exit ?_ | refine AW.ret ?_ | refine AF.one hT rfl ?_ | refine AF.nil ?_ | refine AF.imm hT rfl rfl rfl ?_ | refine AH.of hT rfl ?_ | refine AD.cons hT rfl ?_ | refine AD.nil ?_ | refine AQ.cons hT rfl ?_ | refine AQ.nil ?_); conv => whnf)
  refine AFin.mk ⟨?_, rfl⟩
  rw [quo64, wrap_i64 _ (by unfold whole; omega) (by unfold whole; omega)]
  have : whole (s.size + 16) / 64 = (s.size + 16 + 63) / 64 := by unfold whole; omega
  rw [this]; rfl
theorem f50 (n : Nat) (hn : n ≤ 100000000000) : Fun P 50 [nV n] (nV ((n + 16 + 63) / 64 : Nat)) := by
  refine spec_of hT (f := 50) (fn := Go.Proofs.Tryd.f50) (c := body Go.Proofs.Tryd.f50) (by kernel_rfl) (by kernel_rfl) ?_
  conv => whnf
  repeat ((first | refine AO.cons hT ?_ | refine AO.nil ?_ | refine AW.seq ?_ | refine AW.region ?_ | refine AW.cond ?_ | refine AW.block ?_ | refine AW.loop ?_ | refine AW.skip ?_ | refine AW.exit ?_ | refine AW.ret ?_ | refine AF.one hT rfl ?_ | refine AF.nil ?_ | refine AF.imm hT rfl rfl rfl ?_ | refine AH.of hT rfl ?_ | refine AD.cons hT rfl ?_ | refine AD.nil ?_ | refine AQ.cons hT rfl ?_ | refine AQ.nil ?_); conv => whnf)
  refine AReq.mk (by decide) ?_
  conv => whnf
  repeat ((first | refine AO.cons hT ?_ | refine AO.nil ?_ | refine AW.seq ?_ | refine AW.region ?_ | refine AW.cond ?_ | refine AW.block ?_ | refine AW.loop ?_ | refine AW.skip ?_ | refine AW.exit ?_ | refine AW.ret ?_ | refine AF.one hT rfl ?_ | refine AF.nil ?_ | refine AF.imm hT rfl rfl rfl ?_ | refine AH.of hT rfl ?_ | refine AD.cons hT rfl ?_ | refine AD.nil ?_ | refine AQ.cons hT rfl ?_ | refine AQ.nil ?_); conv => whnf)
  refine AFin.mk ⟨?_, rfl⟩
  rw [wrap_i64 ((n : Int) + 16) (by omega) (by omega), wrap_i64 ((n : Int) + 16 + 63) (by omega) (by omega), show (n : Int) + 16 + 63 = ((n + 16 + 63 : Nat) : Int) by omega, quo64, wrap_i64 _ (by omega) (by omega)]
  rfl
end Go.Aw.D1

set_option linter.unusedSimpArgs false
set_option linter.unusedVariables false
set_option maxHeartbeats 4000000
namespace Go.Aw.D1
open Go
def getG (s : ByteArray) (o w : Nat) : Nat := if 9223372036854775807 < getV s o w then 0 else getV s o w
def getE (s : ByteArray) (o w : Nat) : Int := if 9223372036854775807 < getV s o w then 8 else 0
def getT (s : ByteArray) (o w : Nat) : Nat := if 9223372036854775807 < getV s o w then 0 else o + w
theorem getR_eq (s : ByteArray) (o w : Nat) : getR s o w = .tup [.agg [nV (getG s o w), nV (getT s o w)], nV (getE s o w)] := by
  unfold getR getG getT getE; split <;> rfl
theorem getR'_eq (s : ByteArray) (o w : Nat) : getR' s o w = .tup [nV (getG s o w), nV (getT s o w), nV (getE s o w)] := by
  unfold getR' getG getT getE; split <;> rfl

theorem f58 (s : ByteArray) (o w : Nat) (e : Int) (hw : w = 4 ∨ w = 8) (h : o + w ≤ s.size) (hs : s.size ≤ 4611686018427387904) :
    Spec P 58 [nV w, .ptr 0 0, .ptr 1 0, .ptr 2 0] [.cells 9 [sV s], .cells 3 [nV o], .cells 34 [nV e]] fun r H => r = nV (getG s o w) ∧ H = [.cells 9 [sV s], .cells 3 [nV (o + w : Nat)], .cells 34 [nV (if e = 0 then getE s o w else e)]] := by
  refine spec_of hT (f := 58) (fn := Go.Proofs.Tryd.f58) (c := body Go.Proofs.Tryd.f58) (by kernel_rfl) (by kernel_rfl) ?_
  conv => whnf
  repeat ((first | refine AO.cons hT ?_ | refine AO.nil ?_ | refine AW.seq ?_ | refine AW.region ?_ | refine AW.cond ?_ | refine AW.block ?_ | refine AW.loop ?_ | refine AW.skip ?_ | refine AW.exit ?_ | refine AW.ret ?_ | refine AF.one hT rfl ?_ | refine AF.nil ?_ | refine AF.imm hT rfl rfl rfl ?_ | refine AH.of hT rfl ?_ | refine AD.cons hT rfl ?_ | refine AD.nil ?_ | refine AQ.cons hT rfl ?_ | refine AQ.nil ?_); conv => whnf)
  refine ACall.val (by kernel_rfl) (f59 s o w hw h hs) rfl (by rw [getR_eq]; rfl) ?_
  rw [getR_eq]
  have hk3 : ∀ i, i < 3 → ([0, 1, 2] : List Nat)[i]? = some i := by
    intro i hi
    rcases i with _ | _ | _ | i
    · rfl
    · rfl
    · rfl
    · omega
  conv => whnf
  repeat ((first | refine AO.cons hT ?_ | refine AO.nil ?_ | refine AW.seq ?_ | refine AW.region ?_ | refine AW.cond ?_ | refine AW.block ?_ | refine AW.loop ?_ | refine AW.skip ?_ | refine AW.exit ?_ | refine AW.ret ?_ | refine AF.one hT rfl ?_ | refine AF.nil ?_ | refine AF.imm hT rfl rfl rfl ?_ | refine AH.of hT rfl ?_ | refine AD.cons hT rfl ?_ | refine AD.nil ?_ | refine AQ.cons hT rfl ?_ | refine AQ.nil ?_); conv => whnf)
  refine ACond.dec (fun he => ?_) (fun he => ?_)
  · conv => whnf
    repeat ((first | refine AO.cons hT ?_ | refine AO.nil ?_ | refine AW.seq ?_ | refine AW.region ?_ | refine AW.cond ?_ | refine AW.block ?_ | refine AW.loop ?_ | refine AW.skip ?_ | refine AW.exit ?_ | refine AW.ret ?_ | refine AF.one hT rfl ?_ | refine AF.nil ?_ | refine AF.imm hT rfl rfl rfl ?_ | refine AH.of hT rfl ?_ | refine AD.cons hT rfl ?_ | refine AD.nil ?_ | refine AQ.cons hT rfl ?_ | refine AQ.nil ?_); conv => whnf)
    rw [wrap_i64 ((o : Int) + w) (by omega) (by omega), ← Int.natCast_add]
    refine AFin.to (nV (getG s o w)) [.cells 9 [sV s], .cells 3 [nV (o + w : Nat)], .cells 34 [nV (getE s o w)]] (Conv.ren [0, 1, 2] [nV (getG s o w)] hk3 (by simp) (Fit.refl _) (.same rfl (.same rfl (.same rfl .nil)))) ⟨rfl, ?_⟩
    rw [if_pos he]
  · conv => whnf
    repeat ((first | refine AO.cons hT ?_ | refine AO.nil ?_ | refine AW.seq ?_ | refine AW.region ?_ | refine AW.cond ?_ | refine AW.block ?_ | refine AW.loop ?_ | refine AW.skip ?_ | refine AW.exit ?_ | refine AW.ret ?_ | refine AF.one hT rfl ?_ | refine AF.nil ?_ | refine AF.imm hT rfl rfl rfl ?_ | refine AH.of hT rfl ?_ | refine AD.cons hT rfl ?_ | refine AD.nil ?_ | refine AQ.cons hT rfl ?_ | refine AQ.nil ?_); conv => whnf)
    rw [wrap_i64 ((o : Int) + w) (by omega) (by omega), ← Int.natCast_add]
    refine AFin.to (nV (getG s o w)) [.cells 9 [sV s], .cells 3 [nV (o + w : Nat)], .cells 34 [nV e]] (Conv.ren [0, 1, 2] [nV (getG s o w)] hk3 (by simp) (Fit.refl _) (.same rfl (.same rfl (.same rfl .nil)))) ⟨rfl, ?_⟩
    rw [if_neg he]

theorem f33 (s : ByteArray) (h : 12 ≤ s.size) (hs : s.size ≤ 4611686018427387904) : Fun P 33 [sV s] (.tup [nV (getG s 0 8), nV (getG s 8 4), nV (getE s 0 8)]) := by
  refine spec_of hT (f := 33) (fn := Go.Proofs.Tryd.f33) (c := body Go.Proofs.Tryd.f33) (by kernel_rfl) (by kernel_rfl) ?_
  have hpk : ∀ (x y z : AV), (∀ ρ, x.ren ρ = x) → (∀ ρ, y.ren ρ = y) → (∀ ρ, z.ren ρ = z) → Picks (nm [0, 2, 1] 3) [.cells 9 [x], .cells 34 [z], .cells 3 [y]] [0, 2, 1] [.cells 9 [x], .cells 3 [y], .cells 34 [z]] := fun x y z hx hy hz =>
    .same (by show _ = some (ABlk.cells 9 (renL _ [x])); simp only [renL, hx]; rfl) (.same (by show _ = some (ABlk.cells 3 (renL _ [y])); simp only [renL, hy]; rfl) (.same (by show _ = some (ABlk.cells 34 (renL _ [z])); simp only [renL, hz]; rfl) .nil))
  have hE4 : getE s 8 4 = 0 := by
    have := beVal_lt (bytesAt s 8 4)
    have hl : (bytesAt s 8 4).length ≤ 4 := by rw [bytesAt, List.length_take]; omega
    have hp : (256 : Nat) ^ (bytesAt s 8 4).length ≤ 256 ^ 4 := Nat.pow_le_pow_right (by decide) hl
    unfold getE getV
    rw [if_neg (by omega)]
  conv => whnf
  repeat ((first | refine AW.plan (id := 4) hm (.one 0 (.one 1 (.one 3 (.one 4 (.one 2 (.one 5 .nil)))))) (by kernel_rfl) ?_ | refine AO.cons hT ?_ | refine AO.nil ?_ | refine AW.seq ?_ | refine AW.region ?_ | refine AW.cond ?_ | refine AW.block ?_ | refine AW.loop ?_ | refine AW.skip ?_ | refine AW.exit ?_ | refine AW.ret ?_ | refine AF.one hT rfl ?_ | refine AF.nil ?_ | refine AF.imm hT rfl rfl rfl ?_ | refine AH.of hT rfl ?_ | refine AD.cons hT rfl ?_ | refine AD.nil ?_ | refine AQ.cons hT rfl ?_ | refine AQ.nil ?_); conv => whnf)
  refine ACall.of (by kernel_rfl) (f58 s 0 8 0 (.inr rfl) (by omega) hs) [0, 2, 1] [] (by simp) (hpk (sV s) (nV 0) (nV 0) (fun _ => rfl) (fun _ => rfl) (fun _ => rfl)) (by simp) (by simp) (LendL.same [nV 8, .ptr 0 0, .ptr 1 0, .ptr 2 0]) (.inl rfl) ?_
  rintro _ _ ⟨rfl, rfl⟩
  conv => whnf
  repeat ((first | refine AW.plan (id := 4) hm (.one 0 (.one 1 (.one 3 (.one 4 (.one 2 (.one 5 .nil)))))) (by kernel_rfl) ?_ | refine AO.cons hT ?_ | refine AO.nil ?_ | refine AW.seq ?_ | refine AW.region ?_ | refine AW.cond ?_ | refine AW.block ?_ | refine AW.loop ?_ | refine AW.skip ?_ | refine AW.exit ?_ | refine AW.ret ?_ | refine AF.one hT rfl ?_ | refine AF.nil ?_ | refine AF.imm hT rfl rfl rfl ?_ | refine AH.of hT rfl ?_ | refine AD.cons hT rfl ?_ | refine AD.nil ?_ | refine AQ.cons hT rfl ?_ | refine AQ.nil ?_); conv => whnf)
  rw [if_pos rfl]
  refine ACall.of (by kernel_rfl) (f58 s 8 4 (getE s 0 8) (.inl rfl) (by omega) hs) [0, 2, 1] [] (by simp) (hpk (sV s) (nV 8) (nV (getE s 0 8)) (fun _ => rfl) (fun _ => rfl) (fun _ => rfl)) (by simp) (by simp) (LendL.same [nV 4, .ptr 0 0, .ptr 1 0, .ptr 2 0]) (.inl rfl) ?_
  rintro _ _ ⟨rfl, rfl⟩
  rw [show (if getE s 0 8 = 0 then getE s 8 4 else getE s 0 8) = getE s 0 8 by rw [hE4]; split <;> simp_all]
  conv => whnf
  repeat ((first | refine AW.plan (id := 4) hm (.one 0 (.one 1 (.one 3 (.one 4 (.one 2 (.one 5 .nil)))))) (by kernel_rfl) ?_ | refine AO.cons hT ?_ | refine AO.nil ?_ | refine AW.seq ?_ | refine AW.region ?_ | refine AW.cond ?_ | refine AW.block ?_ | refine AW.loop ?_ | refine AW.skip ?_ | refine AW.exit ?_ | refine AW.ret ?_ | refine AF.one hT rfl ?_ | refine AF.nil ?_ | refine AF.imm hT rfl rfl rfl ?_ | refine AH.of hT rfl ?_ | refine AD.cons hT rfl ?_ | refine AD.nil ?_ | refine AQ.cons hT rfl ?_ | refine AQ.nil ?_); conv => whnf)
  exact AFin.val rfl ⟨rfl, rfl⟩
end Go.Aw.D1

set_option linter.unusedSimpArgs false
set_option linter.unusedVariables false
set_option maxHeartbeats 4000000
namespace Go.Aw.D1
open Go
instance (s : ByteArray) : Decidable (all0 s) := inferInstanceAs (Decidable (∀ b ∈ s.data.toList, b = 0))
def e0 : ByteArray := ⟨#[]⟩
def slotF (s : ByteArray) : Nat × ByteArray × Int :=
  if s.size < 16 then (0, e0, 4) else
  if getE s 0 8 ≠ 0 then (0, e0, 8) else
  if getG s 0 8 < 1 ∨ 1000000000 < getG s 0 8 then (0, e0, 2) else
  if 100000 < getG s 8 4 then (0, e0, 3) else
  if s.size < whole (getG s 8 4 + 16) then (0, e0, 4) else
  if (unsealF (s.extract 0 (getG s 8 4 + 16))).2 ≠ 0 then (0, e0, (unsealF (s.extract 0 (getG s 8 4 + 16))).2) else
  if ¬ all0 (s.extract (getG s 8 4 + 16) (whole (getG s 8 4 + 16))) then (0, e0, 5) else
  (getG s 0 8, (unsealF (s.extract 0 (getG s 8 4 + 16))).1.extract 12 (unsealF (s.extract 0 (getG s 8 4 + 16))).1.size, 0)
def slotR (x : Nat × ByteArray × Int) : AV := .tup [.agg [nV x.1, sV x.2.1], nV x.2.2]

theorem unseal_size {s : ByteArray} (h : (unsealF s).2 = 0) : (unsealF s).1.size = s.size - 4 ∧ 4 ≤ s.size := by
  unfold unsealF at h ⊢
  split at h
  · exact absurd h (by decide)
  · rename_i h1
    rw [if_neg h1]
    simp only at h ⊢
    split at h
    · rename_i h2
      rw [if_pos h2]
      have := size_extract s 0 (s.size - 4)
      simp only
      omega
    · exact absurd h (by decide)
theorem getE_or (s : ByteArray) (o w : Nat) : getE s o w = 0 ∨ getE s o w = 8 := by
  unfold getE; split
  · exact .inr rfl
  · exact .inl rfl

theorem f17 (s : ByteArray) (hs : s.size ≤ 4611686018427387904) : Fun P 17 [sV s] (slotR (slotF s)) := by
  refine spec_of hT (f := 17) (fn := Go.Proofs.Tryd.f17) (c := body Go.Proofs.Tryd.f17) (by kernel_rfl) (by kernel_rfl) ?_
  unfold slotF
  conv => whnf
  repeat ((first | refine AW.plan (id := 12) hm (.one 0 (.one 1 (.one 2 (.one 3 (.one 4 (.one 5 (.one 6 (.one 7 (.one 8 (.one 9 (.one 10 (.one 11 (.one 12 (.one 13 .nil)))))))))))))) (by kernel_rfl) ?_ | refine AO.cons hT ?_ | refine AO.nil ?_ | refine AW.seq ?_ | refine AW.region ?_ | refine AW.cond ?_ | refine AW.block ?_ | refine AW.loop ?_ | refine AW.skip ?_ | refine AW.exit ?_ | refine AW.ret ?_ | refine AF.one hT rfl ?_ | refine AF.nil ?_ | refine AF.imm hT rfl rfl rfl ?_ | refine AH.of hT rfl ?_ | refine AD.cons hT rfl ?_ | refine AD.nil ?_ | refine AQ.cons hT rfl ?_ | refine AQ.nil ?_); conv => whnf)
  refine ACond.dec (fun h => ?_) (fun h => ?_)
  · conv => whnf
    repeat ((first | refine AW.plan (id := 12) hm (.one 0 (.one 1 (.one 2 (.one 3 (.one 4 (.one 5 (.one 6 (.one 7 (.one 8 (.one 9 (.one 10 (.one 11 (.one 12 (.one 13 .nil)))))))))))))) (by kernel_rfl) ?_ | refine AO.cons hT ?_ | refine AO.nil ?_ | refine AW.seq ?_ | refine AW.region ?_ | refine AW.cond ?_ | refine AW.block ?_ | refine AW.loop ?_ | refine AW.skip ?_ | refine AW.exit ?_ | refine AW.ret ?_ | refine AF.one hT rfl ?_ | refine AF.nil ?_ | refine AF.imm hT rfl rfl rfl ?_ | refine AH.of hT rfl ?_ | refine AD.cons hT rfl ?_ | refine AD.nil ?_ | refine AQ.cons hT rfl ?_ | refine AQ.nil ?_); conv => whnf)
    rw [if_pos (by omega)]
    exact AFin.val rfl ⟨rfl, rfl⟩
  rw [if_neg (show ¬ s.size < 16 by omega)]
  conv => whnf
  repeat ((first | refine AW.plan (id := 12) hm (.one 0 (.one 1 (.one 2 (.one 3 (.one 4 (.one 5 (.one 6 (.one 7 (.one 8 (.one 9 (.one 10 (.one 11 (.one 12 (.one 13 .nil)))))))))))))) (by kernel_rfl) ?_ | refine AO.cons hT ?_ | refine AO.nil ?_ | refine AW.seq ?_ | refine AW.region ?_ | refine AW.cond ?_ | refine AW.block ?_ | refine AW.loop ?_ | refine AW.skip ?_ | refine AW.exit ?_ | refine AW.ret ?_ | refine AF.one hT rfl ?_ | refine AF.nil ?_ | refine AF.imm hT rfl rfl rfl ?_ | refine AH.of hT rfl ?_ | refine AD.cons hT rfl ?_ | refine AD.nil ?_ | refine AQ.cons hT rfl ?_ | refine AQ.nil ?_); conv => whnf)
  refine ACall.val (by kernel_rfl) (f33 s (by omega) hs) rfl rfl ?_
  generalize hn : getG s 8 4 = n
  generalize hg : getG s 0 8 = g
  conv => whnf
  repeat ((first | refine AW.plan (id := 12) hm (.one 0 (.one 1 (.one 2 (.one 3 (.one 4 (.one 5 (.one 6 (.one 7 (.one 8 (.one 9 (.one 10 (.one 11 (.one 12 (.one 13 .nil)))))))))))))) (by kernel_rfl) ?_ | refine AO.cons hT ?_ | refine AO.nil ?_ | refine AW.seq ?_ | refine AW.region ?_ | refine AW.cond ?_ | refine AW.block ?_ | refine AW.loop ?_ | refine AW.skip ?_ | refine AW.exit ?_ | refine AW.ret ?_ | refine AF.one hT rfl ?_ | refine AF.nil ?_ | refine AF.imm hT rfl rfl rfl ?_ | refine AH.of hT rfl ?_ | refine AD.cons hT rfl ?_ | refine AD.nil ?_ | refine AQ.cons hT rfl ?_ | refine AQ.nil ?_); conv => whnf)
  refine ACond.ndec (fun h => ?_) (fun h => ?_)
  · rw [if_pos h]
    conv => whnf
    repeat ((first | refine AW.plan (id := 12) hm (.one 0 (.one 1 (.one 2 (.one 3 (.one 4 (.one 5 (.one 6 (.one 7 (.one 8 (.one 9 (.one 10 (.one 11 (.one 12 (.one 13 .nil)))))))))))))) (by kernel_rfl) ?_ | refine AO.cons hT ?_ | refine AO.nil ?_ | refine AW.seq ?_ | refine AW.region ?_ | refine AW.cond ?_ | refine AW.block ?_ | refine AW.loop ?_ | refine AW.skip ?_ | refine AW.exit ?_ | refine AW.ret ?_ | refine AF.one hT rfl ?_ | refine AF.nil ?_ | refine AF.imm hT rfl rfl rfl ?_ | refine AH.of hT rfl ?_ | refine AD.cons hT rfl ?_ | refine AD.nil ?_ | refine AQ.cons hT rfl ?_ | refine AQ.nil ?_); conv => whnf)
    have := getE_or s 0 8
    rw [show getE s 0 8 = 8 by omega]
    exact AFin.val rfl ⟨rfl, rfl⟩
  rw [if_neg (show ¬ (getE s 0 8 ≠ 0) by simpa using h), h]
  conv => whnf
  repeat ((first | refine AW.plan (id := 12) hm (.one 0 (.one 1 (.one 2 (.one 3 (.one 4 (.one 5 (.one 6 (.one 7 (.one 8 (.one 9 (.one 10 (.one 11 (.one 12 (.one 13 .nil)))))))))))))) (by kernel_rfl) ?_ | refine AO.cons hT ?_ | refine AO.nil ?_ | refine AW.seq ?_ | refine AW.region ?_ | refine AW.cond ?_ | refine AW.block ?_ | refine AW.loop ?_ | refine AW.skip ?_ | refine AW.exit ?_ | refine AW.ret ?_ | refine AF.one hT rfl ?_ | refine AF.nil ?_ | refine AF.imm hT rfl rfl rfl ?_ | refine AH.of hT rfl ?_ | refine AD.cons hT rfl ?_ | refine AD.nil ?_ | refine AQ.cons hT rfl ?_ | refine AQ.nil ?_); conv => whnf)
  refine ASplit.dec (fun h1 => ?_) (fun h1 => ?_)
  · conv => whnf
    repeat (first | (refine AW.plan (id := 12) hm (.one 0 (.one 1 (.one 2 (.one 3 (.one 4 (.one 5 (.one 6 (.one 7 (.one 8 (.one 9 (.one 10 (.one 11 (.one 12 (.one 13 .nil)))))))))))))) (by kernel_rfl) ?_; conv => whnf) | (refine AO.cons hT ?_; conv => whnf) | (refine AO.nil ?_; conv => whnf) | (refine AW.seq ?_; conv => whnf) | (refine AW.region ?_; conv => whnf) | (refine AW.cond ?_; conv => whnf) | (refine AW.block ?_; conv => whnf) | (refine AW.loop ?_; conv => whnf) | (refine AW.skip ?_; conv => whnf) | (refine AW.exit ?_; conv => whnf) | (refine AW.ret ?_; conv => whnf) | (refine AF.one hT rfl ?_; conv => whnf) | (refine AF.nil ?_; conv => whnf) | (refine AF.imm hT rfl rfl rfl ?_; conv => whnf) | (refine AH.of hT rfl ?_; conv => whnf) | (refine ASplit.yes rfl ?_; conv => whnf) | (refine ACond.yes rfl ?_; conv => whnf) | (refine ASplit.no rfl ?_; conv => whnf) | (refine ACond.no rfl ?_; conv => whnf) | (refine ASplit.yes (by decide) ?_; conv => whnf) | (refine ACond.yes (by decide) ?_; conv => whnf) | (refine AReq.mk (by decide) ?_; conv => whnf) | (refine AIdx.iff.2 ⟨by decide, ?_⟩; conv => whnf))
    rw [if_pos (.inl (by omega))]
    exact AFin.val rfl ⟨rfl, rfl⟩
  conv => whnf
  repeat ((first | refine AW.plan (id := 12) hm (.one 0 (.one 1 (.one 2 (.one 3 (.one 4 (.one 5 (.one 6 (.one 7 (.one 8 (.one 9 (.one 10 (.one 11 (.one 12 (.one 13 .nil)))))))))))))) (by kernel_rfl) ?_ | refine AO.cons hT ?_ | refine AO.nil ?_ | refine AW.seq ?_ | refine AW.region ?_ | refine AW.cond ?_ | refine AW.block ?_ | refine AW.loop ?_ | refine AW.skip ?_ | refine AW.exit ?_ | refine AW.ret ?_ | refine AF.one hT rfl ?_ | refine AF.nil ?_ | refine AF.imm hT rfl rfl rfl ?_ | refine AH.of hT rfl ?_ | refine AD.cons hT rfl ?_ | refine AD.nil ?_ | refine AQ.cons hT rfl ?_ | refine AQ.nil ?_); conv => whnf)
  refine ACond.dec (fun h2 => ?_) (fun h2 => ?_)
  · conv => whnf
    repeat ((first | refine AW.plan (id := 12) hm (.one 0 (.one 1 (.one 2 (.one 3 (.one 4 (.one 5 (.one 6 (.one 7 (.one 8 (.one 9 (.one 10 (.one 11 (.one 12 (.one 13 .nil)))))))))))))) (by kernel_rfl) ?_ | refine AO.cons hT ?_ | refine AO.nil ?_ | refine AW.seq ?_ | refine AW.region ?_ | refine AW.cond ?_ | refine AW.block ?_ | refine AW.loop ?_ | refine AW.skip ?_ | refine AW.exit ?_ | refine AW.ret ?_ | refine AF.one hT rfl ?_ | refine AF.nil ?_ | refine AF.imm hT rfl rfl rfl ?_ | refine AH.of hT rfl ?_ | refine AD.cons hT rfl ?_ | refine AD.nil ?_ | refine AQ.cons hT rfl ?_ | refine AQ.nil ?_); conv => whnf)
    rw [if_pos (.inr (by omega))]
    exact AFin.val rfl ⟨rfl, rfl⟩
  rw [if_neg (show ¬ (g < 1 ∨ 1000000000 < g) by omega)]
  conv => whnf
  repeat ((first | refine AW.plan (id := 12) hm (.one 0 (.one 1 (.one 2 (.one 3 (.one 4 (.one 5 (.one 6 (.one 7 (.one 8 (.one 9 (.one 10 (.one 11 (.one 12 (.one 13 .nil)))))))))))))) (by kernel_rfl) ?_ | refine AO.cons hT ?_ | refine AO.nil ?_ | refine AW.seq ?_ | refine AW.region ?_ | refine AW.cond ?_ | refine AW.block ?_ | refine AW.loop ?_ | refine AW.skip ?_ | refine AW.exit ?_ | refine AW.ret ?_ | refine AF.one hT rfl ?_ | refine AF.nil ?_ | refine AF.imm hT rfl rfl rfl ?_ | refine AH.of hT rfl ?_ | refine AD.cons hT rfl ?_ | refine AD.nil ?_ | refine AQ.cons hT rfl ?_ | refine AQ.nil ?_); conv => whnf)
  refine ACond.dec (fun h3 => ?_) (fun h3 => ?_)
  · conv => whnf
    repeat ((first | refine AW.plan (id := 12) hm (.one 0 (.one 1 (.one 2 (.one 3 (.one 4 (.one 5 (.one 6 (.one 7 (.one 8 (.one 9 (.one 10 (.one 11 (.one 12 (.one 13 .nil)))))))))))))) (by kernel_rfl) ?_ | refine AO.cons hT ?_ | refine AO.nil ?_ | refine AW.seq ?_ | refine AW.region ?_ | refine AW.cond ?_ | refine AW.block ?_ | refine AW.loop ?_ | refine AW.skip ?_ | refine AW.exit ?_ | refine AW.ret ?_ | refine AF.one hT rfl ?_ | refine AF.nil ?_ | refine AF.imm hT rfl rfl rfl ?_ | refine AH.of hT rfl ?_ | refine AD.cons hT rfl ?_ | refine AD.nil ?_ | refine AQ.cons hT rfl ?_ | refine AQ.nil ?_); conv => whnf)
    rw [if_pos (by omega)]
    exact AFin.val rfl ⟨rfl, rfl⟩
  rw [if_neg (show ¬ (100000 < n) by omega)]
  conv => whnf
  repeat ((first | refine AW.plan (id := 12) hm (.one 0 (.one 1 (.one 2 (.one 3 (.one 4 (.one 5 (.one 6 (.one 7 (.one 8 (.one 9 (.one 10 (.one 11 (.one 12 (.one 13 .nil)))))))))))))) (by kernel_rfl) ?_ | refine AO.cons hT ?_ | refine AO.nil ?_ | refine AW.seq ?_ | refine AW.region ?_ | refine AW.cond ?_ | refine AW.block ?_ | refine AW.loop ?_ | refine AW.skip ?_ | refine AW.exit ?_ | refine AW.ret ?_ | refine AF.one hT rfl ?_ | refine AF.nil ?_ | refine AF.imm hT rfl rfl rfl ?_ | refine AH.of hT rfl ?_ | refine AD.cons hT rfl ?_ | refine AD.nil ?_ | refine AQ.cons hT rfl ?_ | refine AQ.nil ?_); conv => whnf)
  refine ACall.val (by kernel_rfl) (f34 n (by omega)) rfl rfl ?_
  conv => whnf
  repeat ((first | refine AW.plan (id := 12) hm (.one 0 (.one 1 (.one 2 (.one 3 (.one 4 (.one 5 (.one 6 (.one 7 (.one 8 (.one 9 (.one 10 (.one 11 (.one 12 (.one 13 .nil)))))))))))))) (by kernel_rfl) ?_ | refine AO.cons hT ?_ | refine AO.nil ?_ | refine AW.seq ?_ | refine AW.region ?_ | refine AW.cond ?_ | refine AW.block ?_ | refine AW.loop ?_ | refine AW.skip ?_ | refine AW.exit ?_ | refine AW.ret ?_ | refine AF.one hT rfl ?_ | refine AF.nil ?_ | refine AF.imm hT rfl rfl rfl ?_ | refine AH.of hT rfl ?_ | refine AD.cons hT rfl ?_ | refine AD.nil ?_ | refine AQ.cons hT rfl ?_ | refine AQ.nil ?_); conv => whnf)
  have hwl : n + 16 ≤ whole (n + 16) := by unfold whole; omega
  have h34 := f34 n (by omega)
  generalize hwn : whole (n + 16) = wn at hwl h34 ⊢
  have e12 : IntKind.i64.wrap (IntKind.i64.wrap (12 + (n : Int)) + 4) = ((n + 16 : Nat) : Int) := by rw [wrap_i64 (12 + (n : Int)) (by omega) (by omega), wrap_i64 _ (by omega) (by omega)]; omega
  refine ACond.dec (fun h4 => ?_) (fun h4 => ?_)
  · conv => whnf
    repeat ((first | refine AW.plan (id := 12) hm (.one 0 (.one 1 (.one 2 (.one 3 (.one 4 (.one 5 (.one 6 (.one 7 (.one 8 (.one 9 (.one 10 (.one 11 (.one 12 (.one 13 .nil)))))))))))))) (by kernel_rfl) ?_ | refine AO.cons hT ?_ | refine AO.nil ?_ | refine AW.seq ?_ | refine AW.region ?_ | refine AW.cond ?_ | refine AW.block ?_ | refine AW.loop ?_ | refine AW.skip ?_ | refine AW.exit ?_ | refine AW.ret ?_ | refine AF.one hT rfl ?_ | refine AF.nil ?_ | refine AF.imm hT rfl rfl rfl ?_ | refine AH.of hT rfl ?_ | refine AD.cons hT rfl ?_ | refine AD.nil ?_ | refine AQ.cons hT rfl ?_ | refine AQ.nil ?_); conv => whnf)
    rw [if_pos (by omega)]
    exact AFin.val rfl ⟨rfl, rfl⟩
  rw [if_neg (show ¬ (s.size < wn) by omega)]
  conv => whnf
  repeat ((first | refine AW.plan (id := 12) hm (.one 0 (.one 1 (.one 2 (.one 3 (.one 4 (.one 5 (.one 6 (.one 7 (.one 8 (.one 9 (.one 10 (.one 11 (.one 12 (.one 13 .nil)))))))))))))) (by kernel_rfl) ?_ | refine AO.cons hT ?_ | refine AO.nil ?_ | refine AW.seq ?_ | refine AW.region ?_ | refine AW.cond ?_ | refine AW.block ?_ | refine AW.loop ?_ | refine AW.skip ?_ | refine AW.exit ?_ | refine AW.ret ?_ | refine AF.one hT rfl ?_ | refine AF.nil ?_ | refine AF.imm hT rfl rfl rfl ?_ | refine AH.of hT rfl ?_ | refine AD.cons hT rfl ?_ | refine AD.nil ?_ | refine AQ.cons hT rfl ?_ | refine AQ.nil ?_); conv => whnf)
  rw [e12]
  refine AReq.mk (by omega) ?_
  conv => whnf
  repeat ((first | refine AW.plan (id := 12) hm (.one 0 (.one 1 (.one 2 (.one 3 (.one 4 (.one 5 (.one 6 (.one 7 (.one 8 (.one 9 (.one 10 (.one 11 (.one 12 (.one 13 .nil)))))))))))))) (by kernel_rfl) ?_ | refine AO.cons hT ?_ | refine AO.nil ?_ | refine AW.seq ?_ | refine AW.region ?_ | refine AW.cond ?_ | refine AW.block ?_ | refine AW.loop ?_ | refine AW.skip ?_ | refine AW.exit ?_ | refine AW.ret ?_ | refine AF.one hT rfl ?_ | refine AF.nil ?_ | refine AF.imm hT rfl rfl rfl ?_ | refine AH.of hT rfl ?_ | refine AD.cons hT rfl ?_ | refine AD.nil ?_ | refine AQ.cons hT rfl ?_ | refine AQ.nil ?_ | (refine ACall.val (by kernel_rfl) h34 rfl rfl ?_)); conv => whnf)
  rw [e12]
  refine AReq.mk (by omega) ?_
  rw [show Int.toNat ((n + 16 : Nat) : Int) = n + 16 from rfl, show Int.toNat (wn : Int) = wn from rfl]
  generalize hsd : s.extract 0 (n + 16) = sd
  generalize hrs : s.extract (n + 16) wn = rs
  have hsz := size_extract s 0 (n + 16)
  rw [hsd] at hsz
  have hsz2 := size_extract s (n + 16) wn
  rw [hrs] at hsz2
  conv => whnf
  repeat ((first | refine AW.plan (id := 12) hm (.one 0 (.one 1 (.one 2 (.one 3 (.one 4 (.one 5 (.one 6 (.one 7 (.one 8 (.one 9 (.one 10 (.one 11 (.one 12 (.one 13 .nil)))))))))))))) (by kernel_rfl) ?_ | refine AO.cons hT ?_ | refine AO.nil ?_ | refine AW.seq ?_ | refine AW.region ?_ | refine AW.cond ?_ | refine AW.block ?_ | refine AW.loop ?_ | refine AW.skip ?_ | refine AW.exit ?_ | refine AW.ret ?_ | refine AF.one hT rfl ?_ | refine AF.nil ?_ | refine AF.imm hT rfl rfl rfl ?_ | refine AH.of hT rfl ?_ | refine AD.cons hT rfl ?_ | refine AD.nil ?_ | refine AQ.cons hT rfl ?_ | refine AQ.nil ?_ | (refine ACall.val (by kernel_rfl) h34 rfl rfl ?_)); conv => whnf)
  refine ACall.val (by kernel_rfl) (f35 sd (by omega)) rfl rfl ?_
  conv => whnf
  repeat ((first | refine AW.plan (id := 12) hm (.one 0 (.one 1 (.one 2 (.one 3 (.one 4 (.one 5 (.one 6 (.one 7 (.one 8 (.one 9 (.one 10 (.one 11 (.one 12 (.one 13 .nil)))))))))))))) (by kernel_rfl) ?_ | refine AO.cons hT ?_ | refine AO.nil ?_ | refine AW.seq ?_ | refine AW.region ?_ | refine AW.cond ?_ | refine AW.block ?_ | refine AW.loop ?_ | refine AW.skip ?_ | refine AW.exit ?_ | refine AW.ret ?_ | refine AF.one hT rfl ?_ | refine AF.nil ?_ | refine AF.imm hT rfl rfl rfl ?_ | refine AH.of hT rfl ?_ | refine AD.cons hT rfl ?_ | refine AD.nil ?_ | refine AQ.cons hT rfl ?_ | refine AQ.nil ?_ | (refine ACall.val (by kernel_rfl) h34 rfl rfl ?_)); conv => whnf)
  refine ACond.ndec (fun h5 => ?_) (fun h5 => ?_)
  · conv => whnf
    repeat ((first | refine AW.plan (id := 12) hm (.one 0 (.one 1 (.one 2 (.one 3 (.one 4 (.one 5 (.one 6 (.one 7 (.one 8 (.one 9 (.one 10 (.one 11 (.one 12 (.one 13 .nil)))))))))))))) (by kernel_rfl) ?_ | refine AO.cons hT ?_ | refine AO.nil ?_ | refine AW.seq ?_ | refine AW.region ?_ | refine AW.cond ?_ | refine AW.block ?_ | refine AW.loop ?_ | refine AW.skip ?_ | refine AW.exit ?_ | refine AW.ret ?_ | refine AF.one hT rfl ?_ | refine AF.nil ?_ | refine AF.imm hT rfl rfl rfl ?_ | refine AH.of hT rfl ?_ | refine AD.cons hT rfl ?_ | refine AD.nil ?_ | refine AQ.cons hT rfl ?_ | refine AQ.nil ?_ | (refine ACall.val (by kernel_rfl) h34 rfl rfl ?_)); conv => whnf)
    rw [if_pos h5]
    exact AFin.val rfl ⟨rfl, rfl⟩
  have hus := unseal_size h5
  rw [if_neg (show ¬ ((unsealF sd).2 ≠ 0) by simpa using h5)]
  conv => whnf
  repeat ((first | refine AW.plan (id := 12) hm (.one 0 (.one 1 (.one 2 (.one 3 (.one 4 (.one 5 (.one 6 (.one 7 (.one 8 (.one 9 (.one 10 (.one 11 (.one 12 (.one 13 .nil)))))))))))))) (by kernel_rfl) ?_ | refine AO.cons hT ?_ | refine AO.nil ?_ | refine AW.seq ?_ | refine AW.region ?_ | refine AW.cond ?_ | refine AW.block ?_ | refine AW.loop ?_ | refine AW.skip ?_ | refine AW.exit ?_ | refine AW.ret ?_ | refine AF.one hT rfl ?_ | refine AF.nil ?_ | refine AF.imm hT rfl rfl rfl ?_ | refine AH.of hT rfl ?_ | refine AD.cons hT rfl ?_ | refine AD.nil ?_ | refine AQ.cons hT rfl ?_ | refine AQ.nil ?_ | (refine ACall.val (by kernel_rfl) h34 rfl rfl ?_)); conv => whnf)
  refine ACall.out (by kernel_rfl) (f36 rs (by omega)) rfl ?_
  rintro _ ⟨t, rfl, ht⟩
  conv => whnf
  repeat ((first | refine AW.plan (id := 12) hm (.one 0 (.one 1 (.one 2 (.one 3 (.one 4 (.one 5 (.one 6 (.one 7 (.one 8 (.one 9 (.one 10 (.one 11 (.one 12 (.one 13 .nil)))))))))))))) (by kernel_rfl) ?_ | refine AO.cons hT ?_ | refine AO.nil ?_ | refine AW.seq ?_ | refine AW.region ?_ | refine AW.cond ?_ | refine AW.block ?_ | refine AW.loop ?_ | refine AW.skip ?_ | refine AW.exit ?_ | refine AW.ret ?_ | refine AF.one hT rfl ?_ | refine AF.nil ?_ | refine AF.imm hT rfl rfl rfl ?_ | refine AH.of hT rfl ?_ | refine AD.cons hT rfl ?_ | refine AD.nil ?_ | refine AQ.cons hT rfl ?_ | refine AQ.nil ?_ | (refine ACall.val (by kernel_rfl) h34 rfl rfl ?_)); conv => whnf)
  rw [str_eq]
  refine ACond.ndec (fun h6 => ?_) (fun h6 => ?_)
  · conv => whnf
    repeat ((first | refine AW.plan (id := 12) hm (.one 0 (.one 1 (.one 2 (.one 3 (.one 4 (.one 5 (.one 6 (.one 7 (.one 8 (.one 9 (.one 10 (.one 11 (.one 12 (.one 13 .nil)))))))))))))) (by kernel_rfl) ?_ | refine AO.cons hT ?_ | refine AO.nil ?_ | refine AW.seq ?_ | refine AW.region ?_ | refine AW.cond ?_ | refine AW.block ?_ | refine AW.loop ?_ | refine AW.skip ?_ | refine AW.exit ?_ | refine AW.ret ?_ | refine AF.one hT rfl ?_ | refine AF.nil ?_ | refine AF.imm hT rfl rfl rfl ?_ | refine AH.of hT rfl ?_ | refine AD.cons hT rfl ?_ | refine AD.nil ?_ | refine AQ.cons hT rfl ?_ | refine AQ.nil ?_ | (refine ACall.val (by kernel_rfl) h34 rfl rfl ?_)); conv => whnf)
    rw [if_pos (fun hc => h6 (ht.2 hc))]
    exact AFin.val rfl ⟨rfl, rfl⟩
  rw [if_neg (show ¬ ¬ all0 rs from fun hc => hc (ht.1 h6))]
  conv => whnf
  repeat ((first | refine AW.plan (id := 12) hm (.one 0 (.one 1 (.one 2 (.one 3 (.one 4 (.one 5 (.one 6 (.one 7 (.one 8 (.one 9 (.one 10 (.one 11 (.one 12 (.one 13 .nil)))))))))))))) (by kernel_rfl) ?_ | refine AO.cons hT ?_ | refine AO.nil ?_ | refine AW.seq ?_ | refine AW.region ?_ | refine AW.cond ?_ | refine AW.block ?_ | refine AW.loop ?_ | refine AW.skip ?_ | refine AW.exit ?_ | refine AW.ret ?_ | refine AF.one hT rfl ?_ | refine AF.nil ?_ | refine AF.imm hT rfl rfl rfl ?_ | refine AH.of hT rfl ?_ | refine AD.cons hT rfl ?_ | refine AD.nil ?_ | refine AQ.cons hT rfl ?_ | refine AQ.nil ?_ | (refine ACall.val (by kernel_rfl) h34 rfl rfl ?_)); conv => whnf)
  refine AReq.mk (by omega) ?_
  conv => whnf
  repeat ((first | refine AW.plan (id := 12) hm (.one 0 (.one 1 (.one 2 (.one 3 (.one 4 (.one 5 (.one 6 (.one 7 (.one 8 (.one 9 (.one 10 (.one 11 (.one 12 (.one 13 .nil)))))))))))))) (by kernel_rfl) ?_ | refine AO.cons hT ?_ | refine AO.nil ?_ | refine AW.seq ?_ | refine AW.region ?_ | refine AW.cond ?_ | refine AW.block ?_ | refine AW.loop ?_ | refine AW.skip ?_ | refine AW.exit ?_ | refine AW.ret ?_ | refine AF.one hT rfl ?_ | refine AF.nil ?_ | refine AF.imm hT rfl rfl rfl ?_ | refine AH.of hT rfl ?_ | refine AD.cons hT rfl ?_ | refine AD.nil ?_ | refine AQ.cons hT rfl ?_ | refine AQ.nil ?_ | (refine ACall.val (by kernel_rfl) h34 rfl rfl ?_)); conv => whnf)
  exact AFin.val rfl ⟨rfl, rfl⟩
end Go.Aw.D1

set_option linter.unusedSimpArgs false
set_option linter.unusedVariables false
set_option maxHeartbeats 4000000
namespace Go.Aw.D1
open Go
theorem f28 (s : ByteArray) (hs : s.size ≤ 4611686018427387904) : Fun P 28 [sV s] (slotR (slotF s)) := by
  refine spec_of hT (f := 28) (fn := Go.Proofs.Tryd.f28) (c := body Go.Proofs.Tryd.f28) (by kernel_rfl) (by kernel_rfl) ?_
  unfold slotF
  conv => whnf
  repeat ((first | refine AO.cons hT ?_ | refine AO.nil ?_ | refine AW.seq ?_ | refine AW.region ?_ | refine AW.cond ?_ | refine AW.block ?_ | refine AW.loop ?_ | refine AW.skip ?_ | refine AW.exit ?_ | refine AW.ret ?_ | refine AF.one hT rfl ?_ | refine AF.nil ?_ | refine AF.imm hT rfl rfl rfl ?_ | refine AH.of hT rfl ?_ | refine AD.cons hT rfl ?_ | refine AD.nil ?_ | refine AQ.cons hT rfl ?_ | refine AQ.nil ?_); conv => whnf)
  refine ACond.dec (fun h => ?_) (fun h => ?_)
  · conv => whnf
    repeat ((first | refine AO.cons hT ?_ | refine AO.nil ?_ | refine AW.seq ?_ | refine AW.region ?_ | refine AW.cond ?_ | refine AW.block ?_ | refine AW.loop ?_ | refine AW.skip ?_ | refine AW.exit ?_ | refine AW.ret ?_ | refine AF.one hT rfl ?_ | refine AF.nil ?_ | refine AF.imm hT rfl rfl rfl ?_ | refine AH.of hT rfl ?_ | refine AD.cons hT rfl ?_ | refine AD.nil ?_ | refine AQ.cons hT rfl ?_ | refine AQ.nil ?_); conv => whnf)
    rw [if_pos (by omega)]
    exact AFin.val rfl ⟨rfl, rfl⟩
  rw [if_neg (show ¬ s.size < 16 by omega)]
  have hR8 := getR'_eq s 0 8
  have hR4 := getR'_eq s 8 4
  conv => whnf
  repeat ((first | refine AO.cons hT ?_ | refine AO.nil ?_ | refine AW.seq ?_ | refine AW.region ?_ | refine AW.cond ?_ | refine AW.block ?_ | refine AW.loop ?_ | refine AW.skip ?_ | refine AW.exit ?_ | refine AW.ret ?_ | refine AF.one hT rfl ?_ | refine AF.nil ?_ | refine AF.imm hT rfl rfl rfl ?_ | refine AH.of hT rfl ?_ | refine AD.cons hT rfl ?_ | refine AD.nil ?_ | refine AQ.cons hT rfl ?_ | refine AQ.nil ?_); conv => whnf)
  refine ACall.val (by kernel_rfl) (f40 s 0 8 (.inr rfl) (by omega) hs) rfl (by rw [hR8]; rfl) ?_
  rw [hR8]
  generalize hn : getG s 8 4 = n at hR4 ⊢
  generalize hg : getG s 0 8 = g
  conv => whnf
  repeat ((first | refine AO.cons hT ?_ | refine AO.nil ?_ | refine AW.seq ?_ | refine AW.region ?_ | refine AW.cond ?_ | refine AW.block ?_ | refine AW.loop ?_ | refine AW.skip ?_ | refine AW.exit ?_ | refine AW.ret ?_ | refine AF.one hT rfl ?_ | refine AF.nil ?_ | refine AF.imm hT rfl rfl rfl ?_ | refine AH.of hT rfl ?_ | refine AD.cons hT rfl ?_ | refine AD.nil ?_ | refine AQ.cons hT rfl ?_ | refine AQ.nil ?_); conv => whnf)
  refine ACond.ndec (fun h => ?_) (fun h => ?_)
  · rw [if_pos h]
    conv => whnf
    repeat ((first | refine AO.cons hT ?_ | refine AO.nil ?_ | refine AW.seq ?_ | refine AW.region ?_ | refine AW.cond ?_ | refine AW.block ?_ | refine AW.loop ?_ | refine AW.skip ?_ | refine AW.exit ?_ | refine AW.ret ?_ | refine AF.one hT rfl ?_ | refine AF.nil ?_ | refine AF.imm hT rfl rfl rfl ?_ | refine AH.of hT rfl ?_ | refine AD.cons hT rfl ?_ | refine AD.nil ?_ | refine AQ.cons hT rfl ?_ | refine AQ.nil ?_); conv => whnf)
    have := getE_or s 0 8
    rw [show getE s 0 8 = 8 by omega]
    exact AFin.val rfl ⟨rfl, rfl⟩
  rw [if_neg (show ¬ (getE s 0 8 ≠ 0) by simpa using h), h]
  conv => whnf
  repeat ((first | refine AO.cons hT ?_ | refine AO.nil ?_ | refine AW.seq ?_ | refine AW.region ?_ | refine AW.cond ?_ | refine AW.block ?_ | refine AW.loop ?_ | refine AW.skip ?_ | refine AW.exit ?_ | refine AW.ret ?_ | refine AF.one hT rfl ?_ | refine AF.nil ?_ | refine AF.imm hT rfl rfl rfl ?_ | refine AH.of hT rfl ?_ | refine AD.cons hT rfl ?_ | refine AD.nil ?_ | refine AQ.cons hT rfl ?_ | refine AQ.nil ?_); conv => whnf)
  refine ACall.val (by kernel_rfl) (f40 s 8 4 (.inl rfl) (by omega) hs) rfl (by rw [hR4]; rfl) ?_
  rw [hR4]
  conv => whnf
  repeat ((first | refine AO.cons hT ?_ | refine AO.nil ?_ | refine AW.seq ?_ | refine AW.region ?_ | refine AW.cond ?_ | refine AW.block ?_ | refine AW.loop ?_ | refine AW.skip ?_ | refine AW.exit ?_ | refine AW.ret ?_ | refine AF.one hT rfl ?_ | refine AF.nil ?_ | refine AF.imm hT rfl rfl rfl ?_ | refine AH.of hT rfl ?_ | refine AD.cons hT rfl ?_ | refine AD.nil ?_ | refine AQ.cons hT rfl ?_ | refine AQ.nil ?_); conv => whnf)
  refine ASplit.dec (fun h1 => ?_) (fun h1 => ?_)
  · conv => whnf
    repeat (first | (refine AO.cons hT ?_; conv => whnf) | (refine AO.nil ?_; conv => whnf) | (refine AW.seq ?_; conv => whnf) | (refine AW.region ?_; conv => whnf) | (refine AW.cond ?_; conv => whnf) | (refine AW.block ?_; conv => whnf) | (refine AW.loop ?_; conv => whnf) | (refine AW.skip ?_; conv => whnf) | (refine AW.exit ?_; conv => whnf) | (refine AW.ret ?_; conv => whnf) | (refine AF.one hT rfl ?_; conv => whnf) | (refine AF.nil ?_; conv => whnf) | (refine AF.imm hT rfl rfl rfl ?_; conv => whnf) | (refine AH.of hT rfl ?_; conv => whnf) | (refine ASplit.yes rfl ?_; conv => whnf) | (refine ACond.yes rfl ?_; conv => whnf) | (refine ASplit.no rfl ?_; conv => whnf) | (refine ACond.no rfl ?_; conv => whnf) | (refine ASplit.yes (by decide) ?_; conv => whnf) | (refine ACond.yes (by decide) ?_; conv => whnf) | (refine AReq.mk (by decide) ?_; conv => whnf) | (refine AIdx.iff.2 ⟨by decide, ?_⟩; conv => whnf))
    rw [if_pos (.inl (by omega))]
    exact AFin.val rfl ⟨rfl, rfl⟩
  conv => whnf
  repeat ((first | refine AO.cons hT ?_ | refine AO.nil ?_ | refine AW.seq ?_ | refine AW.region ?_ | refine AW.cond ?_ | refine AW.block ?_ | refine AW.loop ?_ | refine AW.skip ?_ | refine AW.exit ?_ | refine AW.ret ?_ | refine AF.one hT rfl ?_ | refine AF.nil ?_ | refine AF.imm hT rfl rfl rfl ?_ | refine AH.of hT rfl ?_ | refine AD.cons hT rfl ?_ | refine AD.nil ?_ | refine AQ.cons hT rfl ?_ | refine AQ.nil ?_); conv => whnf)
  refine ACond.dec (fun h2 => ?_) (fun h2 => ?_)
  · conv => whnf
    repeat ((first | refine AO.cons hT ?_ | refine AO.nil ?_ | refine AW.seq ?_ | refine AW.region ?_ | refine AW.cond ?_ | refine AW.block ?_ | refine AW.loop ?_ | refine AW.skip ?_ | refine AW.exit ?_ | refine AW.ret ?_ | refine AF.one hT rfl ?_ | refine AF.nil ?_ | refine AF.imm hT rfl rfl rfl ?_ | refine AH.of hT rfl ?_ | refine AD.cons hT rfl ?_ | refine AD.nil ?_ | refine AQ.cons hT rfl ?_ | refine AQ.nil ?_); conv => whnf)
    rw [if_pos (.inr (by omega))]
    exact AFin.val rfl ⟨rfl, rfl⟩
  rw [if_neg (show ¬ (g < 1 ∨ 1000000000 < g) by omega)]
  conv => whnf
  repeat ((first | refine AO.cons hT ?_ | refine AO.nil ?_ | refine AW.seq ?_ | refine AW.region ?_ | refine AW.cond ?_ | refine AW.block ?_ | refine AW.loop ?_ | refine AW.skip ?_ | refine AW.exit ?_ | refine AW.ret ?_ | refine AF.one hT rfl ?_ | refine AF.nil ?_ | refine AF.imm hT rfl rfl rfl ?_ | refine AH.of hT rfl ?_ | refine AD.cons hT rfl ?_ | refine AD.nil ?_ | refine AQ.cons hT rfl ?_ | refine AQ.nil ?_); conv => whnf)
  refine ACond.dec (fun h3 => ?_) (fun h3 => ?_)
  · conv => whnf
    repeat ((first | refine AO.cons hT ?_ | refine AO.nil ?_ | refine AW.seq ?_ | refine AW.region ?_ | refine AW.cond ?_ | refine AW.block ?_ | refine AW.loop ?_ | refine AW.skip ?_ | refine AW.exit ?_ | refine AW.ret ?_ | refine AF.one hT rfl ?_ | refine AF.nil ?_ | refine AF.imm hT rfl rfl rfl ?_ | refine AH.of hT rfl ?_ | refine AD.cons hT rfl ?_ | refine AD.nil ?_ | refine AQ.cons hT rfl ?_ | refine AQ.nil ?_); conv => whnf)
    rw [if_pos (by omega)]
    exact AFin.val rfl ⟨rfl, rfl⟩
  rw [if_neg (show ¬ (100000 < n) by omega)]
  have hwl : n + 16 ≤ whole (n + 16) := by unfold whole; omega
  have h50 := f50 n (by omega)
  have hw64 : whole (n + 16) = (n + 16 + 63) / 64 * 64 := rfl
  have hwb : whole (n + 16) ≤ n + 80 := by unfold whole; omega
  generalize hwn : whole (n + 16) = wn at hwl hw64 hwb ⊢
  generalize hq : (n + 16 + 63) / 64 = q at h50 hw64
  conv => whnf
  repeat ((first | refine AO.cons hT ?_ | refine AO.nil ?_ | refine AW.seq ?_ | refine AW.region ?_ | refine AW.cond ?_ | refine AW.block ?_ | refine AW.loop ?_ | refine AW.skip ?_ | refine AW.exit ?_ | refine AW.ret ?_ | refine AF.one hT rfl ?_ | refine AF.nil ?_ | refine AF.imm hT rfl rfl rfl ?_ | refine AH.of hT rfl ?_ | refine AD.cons hT rfl ?_ | refine AD.nil ?_ | refine AQ.cons hT rfl ?_ | refine AQ.nil ?_ | (refine ACall.val (by kernel_rfl) h50 rfl rfl ?_)); conv => whnf)
  rw [wrap_i64 (64 * (q : Int)) (by omega) (by omega)]
  refine ACond.dec (fun h4 => ?_) (fun h4 => ?_)
  · conv => whnf
    repeat ((first | refine AO.cons hT ?_ | refine AO.nil ?_ | refine AW.seq ?_ | refine AW.region ?_ | refine AW.cond ?_ | refine AW.block ?_ | refine AW.loop ?_ | refine AW.skip ?_ | refine AW.exit ?_ | refine AW.ret ?_ | refine AF.one hT rfl ?_ | refine AF.nil ?_ | refine AF.imm hT rfl rfl rfl ?_ | refine AH.of hT rfl ?_ | refine AD.cons hT rfl ?_ | refine AD.nil ?_ | refine AQ.cons hT rfl ?_ | refine AQ.nil ?_ | (refine ACall.val (by kernel_rfl) h50 rfl rfl ?_)); conv => whnf)
    rw [if_pos (by omega)]
    exact AFin.val rfl ⟨rfl, rfl⟩
  rw [if_neg (show ¬ (s.size < wn) by omega)]
  conv => whnf
  repeat ((first | refine AO.cons hT ?_ | refine AO.nil ?_ | refine AW.seq ?_ | refine AW.region ?_ | refine AW.cond ?_ | refine AW.block ?_ | refine AW.loop ?_ | refine AW.skip ?_ | refine AW.exit ?_ | refine AW.ret ?_ | refine AF.one hT rfl ?_ | refine AF.nil ?_ | refine AF.imm hT rfl rfl rfl ?_ | refine AH.of hT rfl ?_ | refine AD.cons hT rfl ?_ | refine AD.nil ?_ | refine AQ.cons hT rfl ?_ | refine AQ.nil ?_ | (refine ACall.val (by kernel_rfl) h50 rfl rfl ?_)); conv => whnf)
  rw [wrap_i64 ((n : Int) + 16) (by omega) (by omega)]
  refine AReq.mk (by omega) ?_
  conv => whnf
  repeat ((first | refine AO.cons hT ?_ | refine AO.nil ?_ | refine AW.seq ?_ | refine AW.region ?_ | refine AW.cond ?_ | refine AW.block ?_ | refine AW.loop ?_ | refine AW.skip ?_ | refine AW.exit ?_ | refine AW.ret ?_ | refine AF.one hT rfl ?_ | refine AF.nil ?_ | refine AF.imm hT rfl rfl rfl ?_ | refine AH.of hT rfl ?_ | refine AD.cons hT rfl ?_ | refine AD.nil ?_ | refine AQ.cons hT rfl ?_ | refine AQ.nil ?_ | (refine ACall.val (by kernel_rfl) h50 rfl rfl ?_)); conv => whnf)
  rw [show Int.toNat ((n : Int) + 16) = n + 16 by omega]
  generalize hsd : s.extract 0 (n + 16) = sd
  have hsz := size_extract s 0 (n + 16)
  rw [hsd] at hsz
  refine ACall.val (by kernel_rfl) (f43 sd (by omega)) rfl rfl ?_
  conv => whnf
  repeat ((first | refine AO.cons hT ?_ | refine AO.nil ?_ | refine AW.seq ?_ | refine AW.region ?_ | refine AW.cond ?_ | refine AW.block ?_ | refine AW.loop ?_ | refine AW.skip ?_ | refine AW.exit ?_ | refine AW.ret ?_ | refine AF.one hT rfl ?_ | refine AF.nil ?_ | refine AF.imm hT rfl rfl rfl ?_ | refine AH.of hT rfl ?_ | refine AD.cons hT rfl ?_ | refine AD.nil ?_ | refine AQ.cons hT rfl ?_ | refine AQ.nil ?_ | (refine ACall.val (by kernel_rfl) h50 rfl rfl ?_)); conv => whnf)
  refine ACond.ndec (fun h5 => ?_) (fun h5 => ?_)
  · conv => whnf
    repeat ((first | refine AO.cons hT ?_ | refine AO.nil ?_ | refine AW.seq ?_ | refine AW.region ?_ | refine AW.cond ?_ | refine AW.block ?_ | refine AW.loop ?_ | refine AW.skip ?_ | refine AW.exit ?_ | refine AW.ret ?_ | refine AF.one hT rfl ?_ | refine AF.nil ?_ | refine AF.imm hT rfl rfl rfl ?_ | refine AH.of hT rfl ?_ | refine AD.cons hT rfl ?_ | refine AD.nil ?_ | refine AQ.cons hT rfl ?_ | refine AQ.nil ?_ | (refine ACall.val (by kernel_rfl) h50 rfl rfl ?_)); conv => whnf)
    rw [if_pos h5]
    exact AFin.val rfl ⟨rfl, rfl⟩
  have hus := unseal_size h5
  rw [if_neg (show ¬ ((unsealF sd).2 ≠ 0) by simpa using h5)]
  conv => whnf
  repeat ((first | refine AO.cons hT ?_ | refine AO.nil ?_ | refine AW.seq ?_ | refine AW.region ?_ | refine AW.cond ?_ | refine AW.block ?_ | refine AW.loop ?_ | refine AW.skip ?_ | refine AW.exit ?_ | refine AW.ret ?_ | refine AF.one hT rfl ?_ | refine AF.nil ?_ | refine AF.imm hT rfl rfl rfl ?_ | refine AH.of hT rfl ?_ | refine AD.cons hT rfl ?_ | refine AD.nil ?_ | refine AQ.cons hT rfl ?_ | refine AQ.nil ?_ | (refine ACall.val (by kernel_rfl) h50 rfl rfl ?_)); conv => whnf)
  rw [wrap_i64 ((n : Int) + 16) (by omega) (by omega)]
  refine ALoop.mk (fun k E H => ∃ i : Nat, n + 16 ≤ i ∧ i ≤ wn ∧ all0 (s.extract (n + 16) i) ∧ k = wn - i ∧ E = pad [sV s, .any, .ptr 0 0, nV 0, nV g, .any, .any, nV n, .any, .any, sV (unsealF sd).1, nV i] 79 ∧ H = [.cells 27 [nV 0, sV e0]]) (n := wn - (n + 16)) _ _ ⟨n + 16, by omega, by omega, ?_, rfl, rfl, rfl⟩ (Conv.fit ?_) ?_
  · intro b hb
    rw [ext_list, Nat.sub_self, List.take_zero] at hb; simp at hb
  · repeat' (first | exact Fit.nil | refine Fit.any ?_ | refine Fit.same ?_)
  rintro _ _ _ ⟨i, hi1, hi2, hz, rfl, rfl, rfl⟩
  conv => whnf
  repeat ((first | refine AO.cons hT ?_ | refine AO.nil ?_ | refine AW.seq ?_ | refine AW.region ?_ | refine AW.cond ?_ | refine AW.block ?_ | refine AW.loop ?_ | refine AW.skip ?_ | refine AW.exit ?_ | refine AW.ret ?_ | refine AF.one hT rfl ?_ | refine AF.nil ?_ | refine AF.imm hT rfl rfl rfl ?_ | refine AH.of hT rfl ?_ | refine AD.cons hT rfl ?_ | refine AD.nil ?_ | refine AQ.cons hT rfl ?_ | refine AQ.nil ?_ | (refine ACall.val (by kernel_rfl) h50 rfl rfl ?_)); conv => whnf)
  rw [wrap_i64 (64 * (q : Int)) (by omega) (by omega)]
  have hl := size_list s
  refine ACond.dec (fun h6 => ?_) (fun h6 => ?_)
  · have hil : i < s.data.toList.length := by omega
    have hcat : (s.extract (n + 16) (i + 1)).data.toList = (s.extract (n + 16) i).data.toList ++ [s.data.toList[i]] := by
      rw [ext_list, ext_list, show i + 1 - (n + 16) = (i - (n + 16)) + 1 by omega, take_snoc _ _ (by rw [List.length_drop]; omega), List.getElem_drop]
      congr 2
      congr 1; omega
    conv => whnf
    repeat ((first | refine AO.cons hT ?_ | refine AO.nil ?_ | refine AW.seq ?_ | refine AW.region ?_ | refine AW.cond ?_ | refine AW.block ?_ | refine AW.loop ?_ | refine AW.skip ?_ | refine AW.exit ?_ | refine AW.ret ?_ | refine AF.one hT rfl ?_ | refine AF.nil ?_ | refine AF.imm hT rfl rfl rfl ?_ | refine AH.of hT rfl ?_ | refine AD.cons hT rfl ?_ | refine AD.nil ?_ | refine AQ.cons hT rfl ?_ | refine AQ.nil ?_ | (refine ACall.val (by kernel_rfl) h50 rfl rfl ?_)); conv => whnf)
    refine AReq.mk (by omega) ?_
    conv => whnf
    repeat ((first | refine AO.cons hT ?_ | refine AO.nil ?_ | refine AW.seq ?_ | refine AW.region ?_ | refine AW.cond ?_ | refine AW.block ?_ | refine AW.loop ?_ | refine AW.skip ?_ | refine AW.exit ?_ | refine AW.ret ?_ | refine AF.one hT rfl ?_ | refine AF.nil ?_ | refine AF.imm hT rfl rfl rfl ?_ | refine AH.of hT rfl ?_ | refine AD.cons hT rfl ?_ | refine AD.nil ?_ | refine AQ.cons hT rfl ?_ | refine AQ.nil ?_ | (refine ACall.val (by kernel_rfl) h50 rfl rfl ?_)); conv => whnf)
    rw [bt_get s i hil]
    refine ACond.ndec (fun h7 => ?_) (fun h7 => ?_)
    · conv => whnf
      repeat ((first | refine AO.cons hT ?_ | refine AO.nil ?_ | refine AW.seq ?_ | refine AW.region ?_ | refine AW.cond ?_ | refine AW.block ?_ | refine AW.loop ?_ | refine AW.skip ?_ | refine AW.exit ?_ | refine AW.ret ?_ | refine AF.one hT rfl ?_ | refine AF.nil ?_ | refine AF.imm hT rfl rfl rfl ?_ | refine AH.of hT rfl ?_ | refine AD.cons hT rfl ?_ | refine AD.nil ?_ | refine AQ.cons hT rfl ?_ | refine AQ.nil ?_ | (refine ACall.val (by kernel_rfl) h50 rfl rfl ?_)); conv => whnf)
      refine AOut.stay ?_
      conv => whnf
      repeat ((first | refine AO.cons hT ?_ | refine AO.nil ?_ | refine AW.seq ?_ | refine AW.region ?_ | refine AW.cond ?_ | refine AW.block ?_ | refine AW.loop ?_ | refine AW.skip ?_ | refine AW.exit ?_ | refine AW.ret ?_ | refine AF.one hT rfl ?_ | refine AF.nil ?_ | refine AF.imm hT rfl rfl rfl ?_ | refine AH.of hT rfl ?_ | refine AD.cons hT rfl ?_ | refine AD.nil ?_ | refine AQ.cons hT rfl ?_ | refine AQ.nil ?_ | (refine ACall.val (by kernel_rfl) h50 rfl rfl ?_)); conv => whnf)
      rw [if_pos (fun hc => h7 ((byte0 _).2 ?_))]
      · exact AFin.val rfl ⟨rfl, rfl⟩
      · have hcat2 : s.data.toList[i] ∈ (s.extract (n + 16) wn).data.toList := by
          rw [ext_list]
          refine List.mem_iff_getElem.2 ⟨i - (n + 16), by rw [List.length_take, List.length_drop]; omega, ?_⟩
          rw [List.getElem_take, List.getElem_drop]
          congr 1; omega
        exact hc _ hcat2
    · conv => whnf
      repeat ((first | refine AO.cons hT ?_ | refine AO.nil ?_ | refine AW.seq ?_ | refine AW.region ?_ | refine AW.cond ?_ | refine AW.block ?_ | refine AW.loop ?_ | refine AW.skip ?_ | refine AW.exit ?_ | refine AW.ret ?_ | refine AF.one hT rfl ?_ | refine AF.nil ?_ | refine AF.imm hT rfl rfl rfl ?_ | refine AH.of hT rfl ?_ | refine AD.cons hT rfl ?_ | refine AD.nil ?_ | refine AQ.cons hT rfl ?_ | refine AQ.nil ?_ | (refine ACall.val (by kernel_rfl) h50 rfl rfl ?_)); conv => whnf)
      rw [wrap_i64 ((i : Int) + 1) (by omega) (by omega)]
      refine AHead.mk (wn - (i + 1)) _ _ (by omega) ⟨i + 1, by omega, by omega, ?_, rfl, rfl, rfl⟩ (Conv.fit ?_)
      · intro b hb
        rw [hcat] at hb
        rcases List.mem_append.1 hb with hb | hb
        · exact hz b hb
        · simp at hb; rw [hb]; exact (byte0 _).1 h7
      repeat' (first | exact Fit.nil | refine Fit.any ?_ | refine Fit.same ?_)
  obtain rfl : i = wn := by omega
  rw [if_neg (show ¬ ¬ all0 _ from fun hc => hc hz)]
  conv => whnf
  repeat ((first | refine AO.cons hT ?_ | refine AO.nil ?_ | refine AW.seq ?_ | refine AW.region ?_ | refine AW.cond ?_ | refine AW.block ?_ | refine AW.loop ?_ | refine AW.skip ?_ | refine AW.exit ?_ | refine AW.ret ?_ | refine AF.one hT rfl ?_ | refine AF.nil ?_ | refine AF.imm hT rfl rfl rfl ?_ | refine AH.of hT rfl ?_ | refine AD.cons hT rfl ?_ | refine AD.nil ?_ | refine AQ.cons hT rfl ?_ | refine AQ.nil ?_ | (refine ACall.val (by kernel_rfl) h50 rfl rfl ?_)); conv => whnf)
  refine AOut.stay ?_
  conv => whnf
  repeat ((first | refine AO.cons hT ?_ | refine AO.nil ?_ | refine AW.seq ?_ | refine AW.region ?_ | refine AW.cond ?_ | refine AW.block ?_ | refine AW.loop ?_ | refine AW.skip ?_ | refine AW.exit ?_ | refine AW.ret ?_ | refine AF.one hT rfl ?_ | refine AF.nil ?_ | refine AF.imm hT rfl rfl rfl ?_ | refine AH.of hT rfl ?_ | refine AD.cons hT rfl ?_ | refine AD.nil ?_ | refine AQ.cons hT rfl ?_ | refine AQ.nil ?_ | (refine ACall.val (by kernel_rfl) h50 rfl rfl ?_)); conv => whnf)
  refine AReq.mk (by omega) ?_
  conv => whnf
  repeat ((first | refine AO.cons hT ?_ | refine AO.nil ?_ | refine AW.seq ?_ | refine AW.region ?_ | refine AW.cond ?_ | refine AW.block ?_ | refine AW.loop ?_ | refine AW.skip ?_ | refine AW.exit ?_ | refine AW.ret ?_ | refine AF.one hT rfl ?_ | refine AF.nil ?_ | refine AF.imm hT rfl rfl rfl ?_ | refine AH.of hT rfl ?_ | refine AD.cons hT rfl ?_ | refine AD.nil ?_ | refine AQ.cons hT rfl ?_ | refine AQ.nil ?_ | (refine ACall.val (by kernel_rfl) h50 rfl rfl ?_)); conv => whnf)
  exact AFin.val rfl ⟨rfl, rfl⟩
end Go.Aw.D1

