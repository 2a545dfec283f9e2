/-
  The statement VaultKeeps: opened again, a vault tells the text that was laid last, and all bodies behind that, without any condition.
-/
import Derived.Test.YtllchkemgjmjiaaGreatDoorVcD
import Derived.Test.YtllchkemgjmjiaaGreatDoorVdF
import Derived.Test.YtllchkemgjmjiaaGreatDoorVdG
set_option linter.unusedSimpArgs false
set_option linter.unusedVariables false
set_option linter.unusedSimpArgs false
set_option linter.unusedVariables false
set_option maxHeartbeats 4000000
namespace Go.Aw.VE
open Go Go.Proofs

def arA (fr ns : Int) : AV := .agg [nV fr, nV ns]
def checkF (x : Dd) (fr ns : Int) : Int := if fr < 0 ∨ ns < 1 ∨ (x.n : Int) ≤ fr ∨ (x.n : Int) - fr < ns then 2 else 0
theorem f48 (x : Dd) (hx : Dok x) (fr ns : Int) (h1 : nOk fr) (h2 : nOk ns) : DSpec 48 [arA fr ns] x fun r y => r = nV (checkF x fr ns) ∧ y = x := by
  intro bs ck
  have hle := hx.le
  have hpos := hx.pos
  refine spec_of hT (f := 48) (fn := Go.Proofs.Tryz.f48) (c := body Go.Proofs.Tryz.f48) (by kernel_rfl) (by kernel_rfl) ?_
  unfold arA
  conv => whnf
  repeat ((first | refine AO.cons hT ?_ | refine AO.nil ?_ | refine AW.seq ?_ | refine AW.region ?_ | refine AW.cond ?_ | refine AW.block ?_ | refine AW.loop ?_ | refine AW.skip ?_ | refine AW.exit ?_ | refine AW.ret ?_ | refine AW.label ?_ | refine AW.scope ?_ | refine AF.one hT rfl ?_ | refine AF.nil ?_ | refine AF.imm hT rfl rfl rfl ?_ | refine AH.of hT rfl ?_ | refine AD.cons hT rfl ?_ | refine AD.nil ?_ | refine AQ.cons hT rfl ?_ | refine AQ.nil ?_); conv => whnf)
  refine ACall.dev (by kernel_rfl) (f44 x hpos) rfl rfl rfl (by decide) (fun _ => rfl) (by rintro _ _ ⟨rfl, _⟩ _; rfl) ?_
  rintro _ x bs' ck' ⟨rfl, rfl⟩
  conv => whnf
  repeat ((first | refine AO.cons hT ?_ | refine AO.nil ?_ | refine AW.seq ?_ | refine AW.region ?_ | refine AW.cond ?_ | refine AW.block ?_ | refine AW.loop ?_ | refine AW.skip ?_ | refine AW.exit ?_ | refine AW.ret ?_ | refine AW.label ?_ | refine AW.scope ?_ | refine AF.one hT rfl ?_ | refine AF.nil ?_ | refine AF.imm hT rfl rfl rfl ?_ | refine AH.of hT rfl ?_ | refine AD.cons hT rfl ?_ | refine AD.nil ?_ | refine AQ.cons hT rfl ?_ | refine AQ.nil ?_); conv => whnf)
  refine ACond.no (by simp; omega) ?_
  unfold checkF
  have hw : (x.n : Int) - fr ≤ 9223372036854775807 → -9223372036854775808 ≤ (x.n : Int) - fr → IntKind.wrap .i64 ((x.n : Int) - fr) = (x.n : Int) - fr := fun a b => wrap_i64' b a
  conv => whnf
  repeat' (first | (refine AW.label ?_; conv => whnf) | (refine AW.scope ?_; conv => whnf) | (refine AO.cons hT ?_; conv => whnf) | (refine AO.nil ?_; conv => whnf) | (refine AW.seq ?_; conv => whnf) | (refine AW.region ?_; conv => whnf) | (refine AW.cond ?_; conv => whnf) | (refine AW.block ?_; conv => whnf) | (refine AW.loop ?_; conv => whnf) | (refine AW.skip ?_; conv => whnf) | (refine AW.exit ?_; conv => whnf) | (refine AW.ret ?_; conv => whnf) | (refine AF.one hT rfl ?_; conv => whnf) | (refine AF.nil ?_; conv => whnf) | (refine AF.imm hT rfl rfl rfl ?_; conv => whnf) | (refine AH.of hT rfl ?_; conv => whnf) | (refine ASplit.yes rfl ?_ <;> conv => whnf) | (refine ASplit.no rfl ?_ <;> conv => whnf) | (refine ACond.yes rfl ?_ <;> conv => whnf) | (refine ACond.no rfl ?_ <;> conv => whnf) | (refine ASplit.dec (fun _ => ?_) (fun _ => ?_) <;> conv => whnf) | (refine ASplit.ndec (fun _ => ?_) (fun _ => ?_) <;> conv => whnf) | (refine ACond.dec (fun _ => ?_) (fun _ => ?_) <;> conv => whnf) | (refine ACond.ndec (fun _ => ?_) (fun _ => ?_) <;> conv => whnf))
  all_goals (refine AFin.dev (y := x) (fun _ => rfl) ⟨_, bs', ck', ⟨?_, rfl⟩, rfl⟩; split <;> first | rfl | (exfalso; first | omega | (rw [hw (by omega) (by omega)] at *; omega)))
def roomF (ns at_ : Int) (b : ByteArray) : Bool := decide (0 ≤ at_ ∧ at_ ≤ ns ∧ (VD.pcs b.size : Int) ≤ ns - at_)
theorem f75 (x : Dd) (hx : Dok x) (at_ : Int) (s : ByteArray) (ha : (Lit.int .i64 at_).wf = true) (hs : s.size ≤ 9223372036854775807) (bs : List Nat) (ck : Nat) :
    Spec P 75 [.ptr 3 0, .ptr 4 0, .ptr 5 0] (dvH x bs ck ++ [.cells 24 [.ptr 0 0], .cells 3 [nV at_], .cells 9 [sV s]]) fun r H' => r = nV (writeF x at_ s).2 ∧ ∃ bs' ck', H' = dvH (writeF x at_ s).1 bs' ck' ++ [.cells 24 [.ptr 0 0], .cells 3 [nV at_], .cells 9 [sV s]] := by
  refine spec_of hT (f := 75) (fn := Go.Proofs.Tryz.f75) (c := body Go.Proofs.Tryz.f75) (by kernel_rfl) (by kernel_rfl) ?_
  conv => whnf
  repeat ((first | refine AO.cons hT ?_ | refine AO.nil ?_ | refine AW.seq ?_ | refine AW.region ?_ | refine AW.cond ?_ | refine AW.block ?_ | refine AW.loop ?_ | refine AW.skip ?_ | refine AW.exit ?_ | refine AW.ret ?_ | refine AW.label ?_ | refine AW.scope ?_ | refine AF.one hT rfl ?_ | refine AF.nil ?_ | refine AF.imm hT rfl rfl rfl ?_ | refine AH.of hT rfl ?_ | refine AD.cons hT rfl ?_ | refine AD.nil ?_ | refine AQ.cons hT rfl ?_ | refine AQ.nil ?_); conv => whnf)
  refine ACall.dev (by kernel_rfl) (f27 x hx at_ s ha hs) rfl rfl rfl (by decide) (fun _ => rfl) (by rintro _ _ ⟨rfl, _⟩ _; rfl) ?_
  rintro _ _ bs' ck' ⟨rfl, rfl⟩
  conv => whnf
  repeat (first | (refine AW.label ?_; conv => whnf) | (refine AW.scope ?_; conv => whnf) | (refine AO.cons hT ?_; conv => whnf) | (refine AO.nil ?_; conv => whnf) | (refine AW.seq ?_; conv => whnf) | (refine AW.region ?_; conv => whnf) | (refine AW.cond ?_; conv => whnf) | (refine AW.block ?_; conv => whnf) | (refine AW.loop ?_; conv => whnf) | (refine AW.skip ?_; conv => whnf) | (refine AW.exit ?_; conv => whnf) | (refine AW.ret ?_; conv => whnf) | (refine AF.one hT rfl ?_; conv => whnf) | (refine AF.nil ?_; conv => whnf) | (refine AF.imm hT rfl rfl rfl ?_; conv => whnf) | (refine AH.of hT rfl ?_; conv => whnf) | (refine ASplit.yes rfl ?_; conv => whnf) | (refine ACond.yes rfl ?_; conv => whnf) | (refine ASplit.no rfl ?_; conv => whnf) | (refine ACond.no rfl ?_; conv => whnf) | (refine ASplit.yes (by decide) ?_; conv => whnf) | (refine ACond.yes (by decide) ?_; conv => whnf) | (refine AReq.mk (by decide) ?_; conv => whnf) | (refine AIdx.iff.2 ⟨by decide, ?_⟩; conv => whnf))
  exact AFin.mk ⟨rfl, bs', ck', rfl⟩
def lastF (x : Dd) (at_ : Int) (s : ByteArray) : Dd × Int := if (writeF x at_ s).2 ≠ 0 then writeF x at_ s else (flushD (writeF x at_ s).1, flushE (writeF x at_ s).1)
theorem f49 (x : Dd) (hx : Dok x) (at_ : Int) (s : ByteArray) (ha : (Lit.int .i64 at_).wf = true) (hs : s.size ≤ 9223372036854775807) : DSpec 49 [nV at_, sV s] x fun r y => r = nV (lastF x at_ s).2 ∧ y = (lastF x at_ s).1 := by
  intro bs ck
  refine spec_of hT (f := 49) (fn := Go.Proofs.Tryz.f49) (c := body Go.Proofs.Tryz.f49) (by kernel_rfl) (by kernel_rfl) ?_
  have hw := write_ok hx at_ s
  conv => whnf
  repeat (first | (refine AW.label ?_; conv => whnf) | (refine AW.scope ?_; conv => whnf) | (refine AO.cons hT ?_; conv => whnf) | (refine AO.nil ?_; conv => whnf) | (refine AW.seq ?_; conv => whnf) | (refine AW.region ?_; conv => whnf) | (refine AW.cond ?_; conv => whnf) | (refine AW.block ?_; conv => whnf) | (refine AW.loop ?_; conv => whnf) | (refine AW.skip ?_; conv => whnf) | (refine AW.exit ?_; conv => whnf) | (refine AW.ret ?_; conv => whnf) | (refine AF.one hT rfl ?_; conv => whnf) | (refine AF.nil ?_; conv => whnf) | (refine AF.imm hT rfl rfl rfl ?_; conv => whnf) | (refine AH.of hT rfl ?_; conv => whnf) | (refine ASplit.yes rfl ?_; conv => whnf) | (refine ACond.yes rfl ?_; conv => whnf) | (refine ASplit.no rfl ?_; conv => whnf) | (refine ACond.no rfl ?_; conv => whnf) | (refine ASplit.yes (by decide) ?_; conv => whnf) | (refine ACond.yes (by decide) ?_; conv => whnf) | (refine AReq.mk (by decide) ?_; conv => whnf) | (refine AIdx.iff.2 ⟨by decide, ?_⟩; conv => whnf) | (refine ALoop.un ?_; conv => whnf) | (refine ALp.step (T := T) ?_; conv => whnf))
  refine ACall.all (by kernel_rfl) (f75 x hx at_ s ha hs bs ck) ?_
  rintro _ _ ⟨rfl, bs1, ck1, rfl⟩
  unfold lastF
  conv => whnf
  repeat (first | (refine AW.label ?_; conv => whnf) | (refine AW.scope ?_; conv => whnf) | (refine AO.cons hT ?_; conv => whnf) | (refine AO.nil ?_; conv => whnf) | (refine AW.seq ?_; conv => whnf) | (refine AW.region ?_; conv => whnf) | (refine AW.cond ?_; conv => whnf) | (refine AW.block ?_; conv => whnf) | (refine AW.loop ?_; conv => whnf) | (refine AW.skip ?_; conv => whnf) | (refine AW.exit ?_; conv => whnf) | (refine AW.ret ?_; conv => whnf) | (refine AF.one hT rfl ?_; conv => whnf) | (refine AF.nil ?_; conv => whnf) | (refine AF.imm hT rfl rfl rfl ?_; conv => whnf) | (refine AH.of hT rfl ?_; conv => whnf) | (refine ASplit.yes rfl ?_; conv => whnf) | (refine ACond.yes rfl ?_; conv => whnf) | (refine ASplit.no rfl ?_; conv => whnf) | (refine ACond.no rfl ?_; conv => whnf) | (refine ASplit.yes (by decide) ?_; conv => whnf) | (refine ACond.yes (by decide) ?_; conv => whnf) | (refine AReq.mk (by decide) ?_; conv => whnf) | (refine AIdx.iff.2 ⟨by decide, ?_⟩; conv => whnf) | (refine ALoop.un ?_; conv => whnf) | (refine ALp.step (T := T) ?_; conv => whnf))
  refine ACond.ndec (fun h => ?_) (fun h => ?_)
  · conv => whnf
    repeat (first | (refine AW.label ?_; conv => whnf) | (refine AW.scope ?_; conv => whnf) | (refine AO.cons hT ?_; conv => whnf) | (refine AO.nil ?_; conv => whnf) | (refine AW.seq ?_; conv => whnf) | (refine AW.region ?_; conv => whnf) | (refine AW.cond ?_; conv => whnf) | (refine AW.block ?_; conv => whnf) | (refine AW.loop ?_; conv => whnf) | (refine AW.skip ?_; conv => whnf) | (refine AW.exit ?_; conv => whnf) | (refine AW.ret ?_; conv => whnf) | (refine AF.one hT rfl ?_; conv => whnf) | (refine AF.nil ?_; conv => whnf) | (refine AF.imm hT rfl rfl rfl ?_; conv => whnf) | (refine AH.of hT rfl ?_; conv => whnf) | (refine ASplit.yes rfl ?_; conv => whnf) | (refine ACond.yes rfl ?_; conv => whnf) | (refine ASplit.no rfl ?_; conv => whnf) | (refine ACond.no rfl ?_; conv => whnf) | (refine ASplit.yes (by decide) ?_; conv => whnf) | (refine ACond.yes (by decide) ?_; conv => whnf) | (refine AReq.mk (by decide) ?_; conv => whnf) | (refine AIdx.iff.2 ⟨by decide, ?_⟩; conv => whnf) | (refine ALoop.un ?_; conv => whnf) | (refine ALp.step (T := T) ?_; conv => whnf))
    rw [if_pos h]
    exact AFin.dev (fun _ => rfl) ⟨_, _, _, ⟨rfl, rfl⟩, rfl⟩
  rw [if_neg (fun e => e h)]
  conv => whnf
  repeat (first | (refine AW.label ?_; conv => whnf) | (refine AW.scope ?_; conv => whnf) | (refine AO.cons hT ?_; conv => whnf) | (refine AO.nil ?_; conv => whnf) | (refine AW.seq ?_; conv => whnf) | (refine AW.region ?_; conv => whnf) | (refine AW.cond ?_; conv => whnf) | (refine AW.block ?_; conv => whnf) | (refine AW.loop ?_; conv => whnf) | (refine AW.skip ?_; conv => whnf) | (refine AW.exit ?_; conv => whnf) | (refine AW.ret ?_; conv => whnf) | (refine AF.one hT rfl ?_; conv => whnf) | (refine AF.nil ?_; conv => whnf) | (refine AF.imm hT rfl rfl rfl ?_; conv => whnf) | (refine AH.of hT rfl ?_; conv => whnf) | (refine ASplit.yes rfl ?_; conv => whnf) | (refine ACond.yes rfl ?_; conv => whnf) | (refine ASplit.no rfl ?_; conv => whnf) | (refine ACond.no rfl ?_; conv => whnf) | (refine ASplit.yes (by decide) ?_; conv => whnf) | (refine ACond.yes (by decide) ?_; conv => whnf) | (refine AReq.mk (by decide) ?_; conv => whnf) | (refine AIdx.iff.2 ⟨by decide, ?_⟩; conv => whnf) | (refine ALoop.un ?_; conv => whnf) | (refine ALp.step (T := T) ?_; conv => whnf))
  refine ACall.dev (by kernel_rfl) (f28 _ hw.1.pos) rfl rfl rfl (by decide) (fun _ => rfl) (by rintro _ _ ⟨rfl, _⟩ _; rfl) ?_
  rintro _ _ bs2 ck2 ⟨rfl, rfl⟩
  conv => whnf
  repeat (first | (refine AW.label ?_; conv => whnf) | (refine AW.scope ?_; conv => whnf) | (refine AO.cons hT ?_; conv => whnf) | (refine AO.nil ?_; conv => whnf) | (refine AW.seq ?_; conv => whnf) | (refine AW.region ?_; conv => whnf) | (refine AW.cond ?_; conv => whnf) | (refine AW.block ?_; conv => whnf) | (refine AW.loop ?_; conv => whnf) | (refine AW.skip ?_; conv => whnf) | (refine AW.exit ?_; conv => whnf) | (refine AW.ret ?_; conv => whnf) | (refine AF.one hT rfl ?_; conv => whnf) | (refine AF.nil ?_; conv => whnf) | (refine AF.imm hT rfl rfl rfl ?_; conv => whnf) | (refine AH.of hT rfl ?_; conv => whnf) | (refine ASplit.yes rfl ?_; conv => whnf) | (refine ACond.yes rfl ?_; conv => whnf) | (refine ASplit.no rfl ?_; conv => whnf) | (refine ACond.no rfl ?_; conv => whnf) | (refine ASplit.yes (by decide) ?_; conv => whnf) | (refine ACond.yes (by decide) ?_; conv => whnf) | (refine AReq.mk (by decide) ?_; conv => whnf) | (refine AIdx.iff.2 ⟨by decide, ?_⟩; conv => whnf) | (refine ALoop.un ?_; conv => whnf) | (refine ALp.step (T := T) ?_; conv => whnf))
  refine ACond.ndec (fun h => ?_) (fun h => ?_)
  · conv => whnf
    repeat (first | (refine AW.label ?_; conv => whnf) | (refine AW.scope ?_; conv => whnf) | (refine AO.cons hT ?_; conv => whnf) | (refine AO.nil ?_; conv => whnf) | (refine AW.seq ?_; conv => whnf) | (refine AW.region ?_; conv => whnf) | (refine AW.cond ?_; conv => whnf) | (refine AW.block ?_; conv => whnf) | (refine AW.loop ?_; conv => whnf) | (refine AW.skip ?_; conv => whnf) | (refine AW.exit ?_; conv => whnf) | (refine AW.ret ?_; conv => whnf) | (refine AF.one hT rfl ?_; conv => whnf) | (refine AF.nil ?_; conv => whnf) | (refine AF.imm hT rfl rfl rfl ?_; conv => whnf) | (refine AH.of hT rfl ?_; conv => whnf) | (refine ASplit.yes rfl ?_; conv => whnf) | (refine ACond.yes rfl ?_; conv => whnf) | (refine ASplit.no rfl ?_; conv => whnf) | (refine ACond.no rfl ?_; conv => whnf) | (refine ASplit.yes (by decide) ?_; conv => whnf) | (refine ACond.yes (by decide) ?_; conv => whnf) | (refine AReq.mk (by decide) ?_; conv => whnf) | (refine AIdx.iff.2 ⟨by decide, ?_⟩; conv => whnf) | (refine ALoop.un ?_; conv => whnf) | (refine ALp.step (T := T) ?_; conv => whnf))
    exact AFin.dev (fun _ => rfl) ⟨_, _, _, ⟨rfl, rfl⟩, rfl⟩
  conv => whnf
  repeat (first | (refine AW.label ?_; conv => whnf) | (refine AW.scope ?_; conv => whnf) | (refine AO.cons hT ?_; conv => whnf) | (refine AO.nil ?_; conv => whnf) | (refine AW.seq ?_; conv => whnf) | (refine AW.region ?_; conv => whnf) | (refine AW.cond ?_; conv => whnf) | (refine AW.block ?_; conv => whnf) | (refine AW.loop ?_; conv => whnf) | (refine AW.skip ?_; conv => whnf) | (refine AW.exit ?_; conv => whnf) | (refine AW.ret ?_; conv => whnf) | (refine AF.one hT rfl ?_; conv => whnf) | (refine AF.nil ?_; conv => whnf) | (refine AF.imm hT rfl rfl rfl ?_; conv => whnf) | (refine AH.of hT rfl ?_; conv => whnf) | (refine ASplit.yes rfl ?_; conv => whnf) | (refine ACond.yes rfl ?_; conv => whnf) | (refine ASplit.no rfl ?_; conv => whnf) | (refine ACond.no rfl ?_; conv => whnf) | (refine ASplit.yes (by decide) ?_; conv => whnf) | (refine ACond.yes (by decide) ?_; conv => whnf) | (refine AReq.mk (by decide) ?_; conv => whnf) | (refine AIdx.iff.2 ⟨by decide, ?_⟩; conv => whnf) | (refine ALoop.un ?_; conv => whnf) | (refine ALp.step (T := T) ?_; conv => whnf))
  exact AFin.dev (fun _ => rfl) ⟨_, _, _, ⟨by rw [h], rfl⟩, rfl⟩
end Go.Aw.VE

set_option linter.unusedSimpArgs false
set_option linter.unusedVariables false
set_option maxHeartbeats 4000000
namespace Go.Aw.VE
open Go Go.Proofs

theorem f41 (fr ns at_ : Int) (b : ByteArray) (hb : b.size ≤ 1000000000000) (hn : ns ≤ 9223372036854775807) : Fun P 41 [arA fr ns, nV at_, sV b] (.v (.bool (roomF ns at_ b))) := by
  have hp : VD.pcs b.size ≤ 1000000000000 := by unfold VD.pcs; omega
  refine spec_of hT (f := 41) (fn := Go.Proofs.Tryz.f41) (c := body Go.Proofs.Tryz.f41) (by kernel_rfl) (by kernel_rfl) ?_
  unfold arA roomF
  conv => whnf
  repeat ((first | refine AO.cons hT ?_ | refine AO.nil ?_ | refine AW.seq ?_ | refine AW.region ?_ | refine AW.cond ?_ | refine AW.block ?_ | refine AW.loop ?_ | refine AW.skip ?_ | refine AW.exit ?_ | refine AW.ret ?_ | refine AW.label ?_ | refine AW.scope ?_ | refine AF.one hT rfl ?_ | refine AF.nil ?_ | refine AF.imm hT rfl rfl rfl ?_ | refine AH.of hT rfl ?_ | refine AD.cons hT rfl ?_ | refine AD.nil ?_ | refine AQ.cons hT rfl ?_ | refine AQ.nil ?_); conv => whnf)
  refine AW.plan hm (.one 0 (.one 1 (.one 2 (.one 3 (.one 4 (.one 5 (.one 6 (.one 7 (.one 8 (.one 9 (.one 11 (.one 13 (.fork 10 (.one 12 (.one 14 .nil)) 12 (.fork 10 (.one 14 .nil) 14 (.one 10 .nil) .nil) (.one 15 (.one 16 (.one 17 .nil)))))))))))))))) (by kernel_rfl) ?_
  conv => whnf
  repeat ((first | refine AO.cons hT ?_ | refine AO.nil ?_ | refine AW.seq ?_ | refine AW.region ?_ | refine AW.cond ?_ | refine AW.block ?_ | refine AW.loop ?_ | refine AW.skip ?_ | refine AW.exit ?_ | refine AW.ret ?_ | refine AW.label ?_ | refine AW.scope ?_ | refine AF.one hT rfl ?_ | refine AF.nil ?_ | refine AF.imm hT rfl rfl rfl ?_ | refine AH.of hT rfl ?_ | refine AD.cons hT rfl ?_ | refine AD.nil ?_ | refine AQ.cons hT rfl ?_ | refine AQ.nil ?_ | (refine ACall.val (by kernel_rfl) (VD.f21 b hb) rfl rfl ?_)); conv => whnf)
  refine ASplit.dec (fun g1 => ?_) (fun g1 => ?_)
  · conv => whnf
    repeat ((first | refine AO.cons hT ?_ | refine AO.nil ?_ | refine AW.seq ?_ | refine AW.region ?_ | refine AW.cond ?_ | refine AW.block ?_ | refine AW.loop ?_ | refine AW.skip ?_ | refine AW.exit ?_ | refine AW.ret ?_ | refine AW.label ?_ | refine AW.scope ?_ | refine AF.one hT rfl ?_ | refine AF.nil ?_ | refine AF.imm hT rfl rfl rfl ?_ | refine AH.of hT rfl ?_ | refine AD.cons hT rfl ?_ | refine AD.nil ?_ | refine AQ.cons hT rfl ?_ | refine AQ.nil ?_ | (refine ACall.val (by kernel_rfl) (VD.f21 b hb) rfl rfl ?_)); conv => whnf)
    refine ASplit.dec (fun g2 => ?_) (fun g2 => ?_)
    · conv => whnf
      repeat ((first | refine AO.cons hT ?_ | refine AO.nil ?_ | refine AW.seq ?_ | refine AW.region ?_ | refine AW.cond ?_ | refine AW.block ?_ | refine AW.loop ?_ | refine AW.skip ?_ | refine AW.exit ?_ | refine AW.ret ?_ | refine AW.label ?_ | refine AW.scope ?_ | refine AF.one hT rfl ?_ | refine AF.nil ?_ | refine AF.imm hT rfl rfl rfl ?_ | refine AH.of hT rfl ?_ | refine AD.cons hT rfl ?_ | refine AD.nil ?_ | refine AQ.cons hT rfl ?_ | refine AQ.nil ?_ | (refine ACall.val (by kernel_rfl) (VD.f21 b hb) rfl rfl ?_)); conv => whnf)
      apply AF.forkE
      · conv => whnf
        repeat ((first | refine AO.cons hT ?_ | refine AO.nil ?_ | refine AW.seq ?_ | refine AW.region ?_ | refine AW.cond ?_ | refine AW.block ?_ | refine AW.loop ?_ | refine AW.skip ?_ | refine AW.exit ?_ | refine AW.ret ?_ | refine AW.label ?_ | refine AW.scope ?_ | refine AF.one hT rfl ?_ | refine AF.nil ?_ | refine AF.imm hT rfl rfl rfl ?_ | refine AH.of hT rfl ?_ | refine AD.cons hT rfl ?_ | refine AD.nil ?_ | refine AQ.cons hT rfl ?_ | refine AQ.nil ?_ | (refine ACall.val (by kernel_rfl) (VD.f21 b hb) rfl rfl ?_)); conv => whnf)
        exact ⟨rfl, rfl, rfl⟩
      · conv => whnf
        repeat ((first | refine AO.cons hT ?_ | refine AO.nil ?_ | refine AW.seq ?_ | refine AW.region ?_ | refine AW.cond ?_ | refine AW.block ?_ | refine AW.loop ?_ | refine AW.skip ?_ | refine AW.exit ?_ | refine AW.ret ?_ | refine AW.label ?_ | refine AW.scope ?_ | refine AF.one hT rfl ?_ | refine AF.nil ?_ | refine AF.imm hT rfl rfl rfl ?_ | refine AH.of hT rfl ?_ | refine AD.cons hT rfl ?_ | refine AD.nil ?_ | refine AQ.cons hT rfl ?_ | refine AQ.nil ?_ | (refine ACall.val (by kernel_rfl) (VD.f21 b hb) rfl rfl ?_)); conv => whnf)
        apply AF.forkE
        · conv => whnf
          repeat ((first | refine AO.cons hT ?_ | refine AO.nil ?_ | refine AW.seq ?_ | refine AW.region ?_ | refine AW.cond ?_ | refine AW.block ?_ | refine AW.loop ?_ | refine AW.skip ?_ | refine AW.exit ?_ | refine AW.ret ?_ | refine AW.label ?_ | refine AW.scope ?_ | refine AF.one hT rfl ?_ | refine AF.nil ?_ | refine AF.imm hT rfl rfl rfl ?_ | refine AH.of hT rfl ?_ | refine AD.cons hT rfl ?_ | refine AD.nil ?_ | refine AQ.cons hT rfl ?_ | refine AQ.nil ?_ | (refine ACall.val (by kernel_rfl) (VD.f21 b hb) rfl rfl ?_)); conv => whnf)
          exact ⟨rfl, rfl, rfl⟩
        · conv => whnf
          repeat ((first | refine AO.cons hT ?_ | refine AO.nil ?_ | refine AW.seq ?_ | refine AW.region ?_ | refine AW.cond ?_ | refine AW.block ?_ | refine AW.loop ?_ | refine AW.skip ?_ | refine AW.exit ?_ | refine AW.ret ?_ | refine AW.label ?_ | refine AW.scope ?_ | refine AF.one hT rfl ?_ | refine AF.nil ?_ | refine AF.imm hT rfl rfl rfl ?_ | refine AH.of hT rfl ?_ | refine AD.cons hT rfl ?_ | refine AD.nil ?_ | refine AQ.cons hT rfl ?_ | refine AQ.nil ?_ | (refine ACall.val (by kernel_rfl) (VD.f21 b hb) rfl rfl ?_)); conv => whnf)
          exact ⟨rfl, rfl, rfl⟩
        conv => whnf
        repeat ((first | refine AO.cons hT ?_ | refine AO.nil ?_ | refine AW.seq ?_ | refine AW.region ?_ | refine AW.cond ?_ | refine AW.block ?_ | refine AW.loop ?_ | refine AW.skip ?_ | refine AW.exit ?_ | refine AW.ret ?_ | refine AW.label ?_ | refine AW.scope ?_ | refine AF.one hT rfl ?_ | refine AF.nil ?_ | refine AF.imm hT rfl rfl rfl ?_ | refine AH.of hT rfl ?_ | refine AD.cons hT rfl ?_ | refine AD.nil ?_ | refine AQ.cons hT rfl ?_ | refine AQ.nil ?_ | (refine ACall.val (by kernel_rfl) (VD.f21 b hb) rfl rfl ?_)); conv => whnf)
        exact ⟨rfl, rfl, rfl⟩
      conv => whnf
      repeat ((first | refine AO.cons hT ?_ | refine AO.nil ?_ | refine AW.seq ?_ | refine AW.region ?_ | refine AW.cond ?_ | refine AW.block ?_ | refine AW.loop ?_ | refine AW.skip ?_ | refine AW.exit ?_ | refine AW.ret ?_ | refine AW.label ?_ | refine AW.scope ?_ | refine AF.one hT rfl ?_ | refine AF.nil ?_ | refine AF.imm hT rfl rfl rfl ?_ | refine AH.of hT rfl ?_ | refine AD.cons hT rfl ?_ | refine AD.nil ?_ | refine AQ.cons hT rfl ?_ | refine AQ.nil ?_ | (refine ACall.val (by kernel_rfl) (VD.f21 b hb) rfl rfl ?_)); conv => whnf)
      rw [wrap_i64' (by omega) (by omega)]
      exact AFin.val rfl ⟨by simp [g1, g2], rfl⟩
    · conv => whnf
      repeat ((first | refine AO.cons hT ?_ | refine AO.nil ?_ | refine AW.seq ?_ | refine AW.region ?_ | refine AW.cond ?_ | refine AW.block ?_ | refine AW.loop ?_ | refine AW.skip ?_ | refine AW.exit ?_ | refine AW.ret ?_ | refine AW.label ?_ | refine AW.scope ?_ | refine AF.one hT rfl ?_ | refine AF.nil ?_ | refine AF.imm hT rfl rfl rfl ?_ | refine AH.of hT rfl ?_ | refine AD.cons hT rfl ?_ | refine AD.nil ?_ | refine AQ.cons hT rfl ?_ | refine AQ.nil ?_ | (refine ACall.val (by kernel_rfl) (VD.f21 b hb) rfl rfl ?_)); conv => whnf)
      apply AF.forkE
      · conv => whnf
        repeat ((first | refine AO.cons hT ?_ | refine AO.nil ?_ | refine AW.seq ?_ | refine AW.region ?_ | refine AW.cond ?_ | refine AW.block ?_ | refine AW.loop ?_ | refine AW.skip ?_ | refine AW.exit ?_ | refine AW.ret ?_ | refine AW.label ?_ | refine AW.scope ?_ | refine AF.one hT rfl ?_ | refine AF.nil ?_ | refine AF.imm hT rfl rfl rfl ?_ | refine AH.of hT rfl ?_ | refine AD.cons hT rfl ?_ | refine AD.nil ?_ | refine AQ.cons hT rfl ?_ | refine AQ.nil ?_ | (refine ACall.val (by kernel_rfl) (VD.f21 b hb) rfl rfl ?_)); conv => whnf)
        exact ⟨rfl, rfl, rfl⟩
      · conv => whnf
        repeat ((first | refine AO.cons hT ?_ | refine AO.nil ?_ | refine AW.seq ?_ | refine AW.region ?_ | refine AW.cond ?_ | refine AW.block ?_ | refine AW.loop ?_ | refine AW.skip ?_ | refine AW.exit ?_ | refine AW.ret ?_ | refine AW.label ?_ | refine AW.scope ?_ | refine AF.one hT rfl ?_ | refine AF.nil ?_ | refine AF.imm hT rfl rfl rfl ?_ | refine AH.of hT rfl ?_ | refine AD.cons hT rfl ?_ | refine AD.nil ?_ | refine AQ.cons hT rfl ?_ | refine AQ.nil ?_ | (refine ACall.val (by kernel_rfl) (VD.f21 b hb) rfl rfl ?_)); conv => whnf)
        apply AF.forkE
        · conv => whnf
          repeat ((first | refine AO.cons hT ?_ | refine AO.nil ?_ | refine AW.seq ?_ | refine AW.region ?_ | refine AW.cond ?_ | refine AW.block ?_ | refine AW.loop ?_ | refine AW.skip ?_ | refine AW.exit ?_ | refine AW.ret ?_ | refine AW.label ?_ | refine AW.scope ?_ | refine AF.one hT rfl ?_ | refine AF.nil ?_ | refine AF.imm hT rfl rfl rfl ?_ | refine AH.of hT rfl ?_ | refine AD.cons hT rfl ?_ | refine AD.nil ?_ | refine AQ.cons hT rfl ?_ | refine AQ.nil ?_ | (refine ACall.val (by kernel_rfl) (VD.f21 b hb) rfl rfl ?_)); conv => whnf)
          exact ⟨rfl, rfl, rfl⟩
        · conv => whnf
          repeat ((first | refine AO.cons hT ?_ | refine AO.nil ?_ | refine AW.seq ?_ | refine AW.region ?_ | refine AW.cond ?_ | refine AW.block ?_ | refine AW.loop ?_ | refine AW.skip ?_ | refine AW.exit ?_ | refine AW.ret ?_ | refine AW.label ?_ | refine AW.scope ?_ | refine AF.one hT rfl ?_ | refine AF.nil ?_ | refine AF.imm hT rfl rfl rfl ?_ | refine AH.of hT rfl ?_ | refine AD.cons hT rfl ?_ | refine AD.nil ?_ | refine AQ.cons hT rfl ?_ | refine AQ.nil ?_ | (refine ACall.val (by kernel_rfl) (VD.f21 b hb) rfl rfl ?_)); conv => whnf)
          exact ⟨rfl, rfl, rfl⟩
        conv => whnf
        repeat ((first | refine AO.cons hT ?_ | refine AO.nil ?_ | refine AW.seq ?_ | refine AW.region ?_ | refine AW.cond ?_ | refine AW.block ?_ | refine AW.loop ?_ | refine AW.skip ?_ | refine AW.exit ?_ | refine AW.ret ?_ | refine AW.label ?_ | refine AW.scope ?_ | refine AF.one hT rfl ?_ | refine AF.nil ?_ | refine AF.imm hT rfl rfl rfl ?_ | refine AH.of hT rfl ?_ | refine AD.cons hT rfl ?_ | refine AD.nil ?_ | refine AQ.cons hT rfl ?_ | refine AQ.nil ?_ | (refine ACall.val (by kernel_rfl) (VD.f21 b hb) rfl rfl ?_)); conv => whnf)
        exact ⟨rfl, rfl, rfl⟩
      conv => whnf
      repeat ((first | refine AO.cons hT ?_ | refine AO.nil ?_ | refine AW.seq ?_ | refine AW.region ?_ | refine AW.cond ?_ | refine AW.block ?_ | refine AW.loop ?_ | refine AW.skip ?_ | refine AW.exit ?_ | refine AW.ret ?_ | refine AW.label ?_ | refine AW.scope ?_ | refine AF.one hT rfl ?_ | refine AF.nil ?_ | refine AF.imm hT rfl rfl rfl ?_ | refine AH.of hT rfl ?_ | refine AD.cons hT rfl ?_ | refine AD.nil ?_ | refine AQ.cons hT rfl ?_ | refine AQ.nil ?_ | (refine ACall.val (by kernel_rfl) (VD.f21 b hb) rfl rfl ?_)); conv => whnf)
      exact AFin.val rfl ⟨by simp [g1, g2], rfl⟩
  · conv => whnf
    repeat ((first | refine AO.cons hT ?_ | refine AO.nil ?_ | refine AW.seq ?_ | refine AW.region ?_ | refine AW.cond ?_ | refine AW.block ?_ | refine AW.loop ?_ | refine AW.skip ?_ | refine AW.exit ?_ | refine AW.ret ?_ | refine AW.label ?_ | refine AW.scope ?_ | refine AF.one hT rfl ?_ | refine AF.nil ?_ | refine AF.imm hT rfl rfl rfl ?_ | refine AH.of hT rfl ?_ | refine AD.cons hT rfl ?_ | refine AD.nil ?_ | refine AQ.cons hT rfl ?_ | refine AQ.nil ?_ | (refine ACall.val (by kernel_rfl) (VD.f21 b hb) rfl rfl ?_)); conv => whnf)
    refine ASplit.no rfl ?_
    conv => whnf
    repeat ((first | refine AO.cons hT ?_ | refine AO.nil ?_ | refine AW.seq ?_ | refine AW.region ?_ | refine AW.cond ?_ | refine AW.block ?_ | refine AW.loop ?_ | refine AW.skip ?_ | refine AW.exit ?_ | refine AW.ret ?_ | refine AW.label ?_ | refine AW.scope ?_ | refine AF.one hT rfl ?_ | refine AF.nil ?_ | refine AF.imm hT rfl rfl rfl ?_ | refine AH.of hT rfl ?_ | refine AD.cons hT rfl ?_ | refine AD.nil ?_ | refine AQ.cons hT rfl ?_ | refine AQ.nil ?_ | (refine ACall.val (by kernel_rfl) (VD.f21 b hb) rfl rfl ?_)); conv => whnf)
    apply AF.forkE
    · conv => whnf
      repeat ((first | refine AO.cons hT ?_ | refine AO.nil ?_ | refine AW.seq ?_ | refine AW.region ?_ | refine AW.cond ?_ | refine AW.block ?_ | refine AW.loop ?_ | refine AW.skip ?_ | refine AW.exit ?_ | refine AW.ret ?_ | refine AW.label ?_ | refine AW.scope ?_ | refine AF.one hT rfl ?_ | refine AF.nil ?_ | refine AF.imm hT rfl rfl rfl ?_ | refine AH.of hT rfl ?_ | refine AD.cons hT rfl ?_ | refine AD.nil ?_ | refine AQ.cons hT rfl ?_ | refine AQ.nil ?_ | (refine ACall.val (by kernel_rfl) (VD.f21 b hb) rfl rfl ?_)); conv => whnf)
      exact ⟨rfl, rfl, rfl⟩
    · conv => whnf
      repeat ((first | refine AO.cons hT ?_ | refine AO.nil ?_ | refine AW.seq ?_ | refine AW.region ?_ | refine AW.cond ?_ | refine AW.block ?_ | refine AW.loop ?_ | refine AW.skip ?_ | refine AW.exit ?_ | refine AW.ret ?_ | refine AW.label ?_ | refine AW.scope ?_ | refine AF.one hT rfl ?_ | refine AF.nil ?_ | refine AF.imm hT rfl rfl rfl ?_ | refine AH.of hT rfl ?_ | refine AD.cons hT rfl ?_ | refine AD.nil ?_ | refine AQ.cons hT rfl ?_ | refine AQ.nil ?_ | (refine ACall.val (by kernel_rfl) (VD.f21 b hb) rfl rfl ?_)); conv => whnf)
      apply AF.forkE
      · conv => whnf
        repeat ((first | refine AO.cons hT ?_ | refine AO.nil ?_ | refine AW.seq ?_ | refine AW.region ?_ | refine AW.cond ?_ | refine AW.block ?_ | refine AW.loop ?_ | refine AW.skip ?_ | refine AW.exit ?_ | refine AW.ret ?_ | refine AW.label ?_ | refine AW.scope ?_ | refine AF.one hT rfl ?_ | refine AF.nil ?_ | refine AF.imm hT rfl rfl rfl ?_ | refine AH.of hT rfl ?_ | refine AD.cons hT rfl ?_ | refine AD.nil ?_ | refine AQ.cons hT rfl ?_ | refine AQ.nil ?_ | (refine ACall.val (by kernel_rfl) (VD.f21 b hb) rfl rfl ?_)); conv => whnf)
        exact ⟨rfl, rfl, rfl⟩
      · conv => whnf
        repeat ((first | refine AO.cons hT ?_ | refine AO.nil ?_ | refine AW.seq ?_ | refine AW.region ?_ | refine AW.cond ?_ | refine AW.block ?_ | refine AW.loop ?_ | refine AW.skip ?_ | refine AW.exit ?_ | refine AW.ret ?_ | refine AW.label ?_ | refine AW.scope ?_ | refine AF.one hT rfl ?_ | refine AF.nil ?_ | refine AF.imm hT rfl rfl rfl ?_ | refine AH.of hT rfl ?_ | refine AD.cons hT rfl ?_ | refine AD.nil ?_ | refine AQ.cons hT rfl ?_ | refine AQ.nil ?_ | (refine ACall.val (by kernel_rfl) (VD.f21 b hb) rfl rfl ?_)); conv => whnf)
        exact ⟨rfl, rfl, rfl⟩
      conv => whnf
      repeat ((first | refine AO.cons hT ?_ | refine AO.nil ?_ | refine AW.seq ?_ | refine AW.region ?_ | refine AW.cond ?_ | refine AW.block ?_ | refine AW.loop ?_ | refine AW.skip ?_ | refine AW.exit ?_ | refine AW.ret ?_ | refine AW.label ?_ | refine AW.scope ?_ | refine AF.one hT rfl ?_ | refine AF.nil ?_ | refine AF.imm hT rfl rfl rfl ?_ | refine AH.of hT rfl ?_ | refine AD.cons hT rfl ?_ | refine AD.nil ?_ | refine AQ.cons hT rfl ?_ | refine AQ.nil ?_ | (refine ACall.val (by kernel_rfl) (VD.f21 b hb) rfl rfl ?_)); conv => whnf)
      exact ⟨rfl, rfl, rfl⟩
    conv => whnf
    repeat ((first | refine AO.cons hT ?_ | refine AO.nil ?_ | refine AW.seq ?_ | refine AW.region ?_ | refine AW.cond ?_ | refine AW.block ?_ | refine AW.loop ?_ | refine AW.skip ?_ | refine AW.exit ?_ | refine AW.ret ?_ | refine AW.label ?_ | refine AW.scope ?_ | refine AF.one hT rfl ?_ | refine AF.nil ?_ | refine AF.imm hT rfl rfl rfl ?_ | refine AH.of hT rfl ?_ | refine AD.cons hT rfl ?_ | refine AD.nil ?_ | refine AQ.cons hT rfl ?_ | refine AQ.nil ?_ | (refine ACall.val (by kernel_rfl) (VD.f21 b hb) rfl rfl ?_)); conv => whnf)
    exact AFin.val rfl ⟨by simp [g1], rfl⟩

theorem fput_le (e q : Int) (b : ByteArray) (hb : b.size ≤ 4000000) : (VD.fputF e q b).1.size ≤ 9223372036854775807 := by
  unfold VD.fputF
  split
  · show (0 : Nat) ≤ _; omega
  · show (VD.fputB _ _ _).size ≤ _
    rw [VD.fputB_size]; unfold VD.pcs; omega
noncomputable def appF (x : Dd) (fr ns at_ e q : Int) (b : ByteArray) : (Int × Int) × Dd :=
  if checkF x fr ns ≠ 0 then ((0, checkF x fr ns), x)
  else if (VD.fputF e q b).2 ≠ 0 then ((0, (VD.fputF e q b).2), x)
  else if roomF ns at_ b = false then ((0, 22), x)
  else if (lastF x (fr + at_) (VD.fputF e q b).1).2 ≠ 0 then ((0, (lastF x (fr + at_) (VD.fputF e q b).1).2), (lastF x (fr + at_) (VD.fputF e q b).1).1)
  else ((at_ + VD.pcs b.size, 0), (lastF x (fr + at_) (VD.fputF e q b).1).1)
theorem f20 (x : Dd) (hx : Dok x) (fr ns at_ e q : Int) (b : ByteArray) (h1 : nOk fr) (h2 : nOk ns) (hn : ns ≤ 9223372036854775807) (ha : nOk at_) (hb : b.size ≤ 4000000) : DSpec 20 [arA fr ns, nV at_, .agg [nV e, nV q, sV b]] x fun r y => r = .tup [nV (appF x fr ns at_ e q b).1.1, nV (appF x fr ns at_ e q b).1.2] ∧ y = (appF x fr ns at_ e q b).2 := by
  intro bs ck
  have hle := hx.le
  have hpos := hx.pos
  refine spec_of hT (f := 20) (fn := Go.Proofs.Tryz.f20) (c := body Go.Proofs.Tryz.f20) (by kernel_rfl) (by kernel_rfl) ?_
  unfold appF
  conv => whnf
  repeat ((first | refine AO.cons hT ?_ | refine AO.nil ?_ | refine AW.seq ?_ | refine AW.region ?_ | refine AW.cond ?_ | refine AW.block ?_ | refine AW.loop ?_ | refine AW.skip ?_ | refine AW.exit ?_ | refine AW.ret ?_ | refine AW.label ?_ | refine AW.scope ?_ | refine AF.one hT rfl ?_ | refine AF.nil ?_ | refine AF.imm hT rfl rfl rfl ?_ | refine AH.of hT rfl ?_ | refine AD.cons hT rfl ?_ | refine AD.nil ?_ | refine AQ.cons hT rfl ?_ | refine AQ.nil ?_ | (refine ACall.val (by kernel_rfl) (VD.f21 b hb) rfl rfl ?_)); conv => whnf)
  refine ACall.dev (by kernel_rfl) (f48 x hx fr ns h1 h2) rfl rfl rfl (by decide) (fun _ => rfl) (by rintro _ _ ⟨rfl, _⟩ _; rfl) ?_
  rintro _ x bs1 ck1 ⟨rfl, rfl⟩
  conv => whnf
  repeat ((first | refine AO.cons hT ?_ | refine AO.nil ?_ | refine AW.seq ?_ | refine AW.region ?_ | refine AW.cond ?_ | refine AW.block ?_ | refine AW.loop ?_ | refine AW.skip ?_ | refine AW.exit ?_ | refine AW.ret ?_ | refine AW.label ?_ | refine AW.scope ?_ | refine AF.one hT rfl ?_ | refine AF.nil ?_ | refine AF.imm hT rfl rfl rfl ?_ | refine AH.of hT rfl ?_ | refine AD.cons hT rfl ?_ | refine AD.nil ?_ | refine AQ.cons hT rfl ?_ | refine AQ.nil ?_ | (refine ACall.val (by kernel_rfl) (VD.f21 b hb) rfl rfl ?_)); conv => whnf)
  refine ACond.ndec (fun c1 => ?_) (fun c1 => ?_)
  · rw [if_pos c1]
    conv => whnf
    repeat ((first | refine AO.cons hT ?_ | refine AO.nil ?_ | refine AW.seq ?_ | refine AW.region ?_ | refine AW.cond ?_ | refine AW.block ?_ | refine AW.loop ?_ | refine AW.skip ?_ | refine AW.exit ?_ | refine AW.ret ?_ | refine AW.label ?_ | refine AW.scope ?_ | refine AF.one hT rfl ?_ | refine AF.nil ?_ | refine AF.imm hT rfl rfl rfl ?_ | refine AH.of hT rfl ?_ | refine AD.cons hT rfl ?_ | refine AD.nil ?_ | refine AQ.cons hT rfl ?_ | refine AQ.nil ?_ | (refine ACall.val (by kernel_rfl) (VD.f21 b hb) rfl rfl ?_)); conv => whnf)
    exact AFin.dev (fun _ => rfl) ⟨_, _, _, ⟨rfl, rfl⟩, rfl⟩
  rw [if_neg (fun e => e c1)]
  conv => whnf
  repeat ((first | refine AO.cons hT ?_ | refine AO.nil ?_ | refine AW.seq ?_ | refine AW.region ?_ | refine AW.cond ?_ | refine AW.block ?_ | refine AW.loop ?_ | refine AW.skip ?_ | refine AW.exit ?_ | refine AW.ret ?_ | refine AW.label ?_ | refine AW.scope ?_ | refine AF.one hT rfl ?_ | refine AF.nil ?_ | refine AF.imm hT rfl rfl rfl ?_ | refine AH.of hT rfl ?_ | refine AD.cons hT rfl ?_ | refine AD.nil ?_ | refine AQ.cons hT rfl ?_ | refine AQ.nil ?_ | (refine ACall.val (by kernel_rfl) (VD.f21 b hb) rfl rfl ?_) | (refine ACall.val (by kernel_rfl) (VD.f26 e q b hb) rfl rfl ?_) | (refine ACall.val (by kernel_rfl) (f41 fr ns at_ b (by omega) hn) rfl rfl ?_) | (refine ACall.val (by kernel_rfl) (VD.f21 b (by omega)) rfl rfl ?_)); conv => whnf)
  refine ACond.ndec (fun c2 => ?_) (fun c2 => ?_)
  · rw [if_pos c2]
    conv => whnf
    repeat ((first | refine AO.cons hT ?_ | refine AO.nil ?_ | refine AW.seq ?_ | refine AW.region ?_ | refine AW.cond ?_ | refine AW.block ?_ | refine AW.loop ?_ | refine AW.skip ?_ | refine AW.exit ?_ | refine AW.ret ?_ | refine AW.label ?_ | refine AW.scope ?_ | refine AF.one hT rfl ?_ | refine AF.nil ?_ | refine AF.imm hT rfl rfl rfl ?_ | refine AH.of hT rfl ?_ | refine AD.cons hT rfl ?_ | refine AD.nil ?_ | refine AQ.cons hT rfl ?_ | refine AQ.nil ?_ | (refine ACall.val (by kernel_rfl) (VD.f21 b hb) rfl rfl ?_) | (refine ACall.val (by kernel_rfl) (VD.f26 e q b hb) rfl rfl ?_) | (refine ACall.val (by kernel_rfl) (f41 fr ns at_ b (by omega) hn) rfl rfl ?_) | (refine ACall.val (by kernel_rfl) (VD.f21 b (by omega)) rfl rfl ?_)); conv => whnf)
    exact AFin.dev (fun _ => rfl) ⟨_, _, _, ⟨rfl, rfl⟩, rfl⟩
  rw [if_neg (fun e => e c2)]
  rcases hroom : roomF ns at_ b with _ | _
  · rw [if_pos rfl]
    conv => whnf
    repeat ((first | refine AO.cons hT ?_ | refine AO.nil ?_ | refine AW.seq ?_ | refine AW.region ?_ | refine AW.cond ?_ | refine AW.block ?_ | refine AW.loop ?_ | refine AW.skip ?_ | refine AW.exit ?_ | refine AW.ret ?_ | refine AW.label ?_ | refine AW.scope ?_ | refine AF.one hT rfl ?_ | refine AF.nil ?_ | refine AF.imm hT rfl rfl rfl ?_ | refine AH.of hT rfl ?_ | refine AD.cons hT rfl ?_ | refine AD.nil ?_ | refine AQ.cons hT rfl ?_ | refine AQ.nil ?_ | (refine ACall.val (by kernel_rfl) (VD.f21 b hb) rfl rfl ?_) | (refine ACall.val (by kernel_rfl) (VD.f26 e q b hb) rfl rfl ?_) | (refine ACall.val (by kernel_rfl) (f41 fr ns at_ b (by omega) hn) rfl rfl ?_) | (refine ACall.val (by kernel_rfl) (VD.f21 b (by omega)) rfl rfl ?_)); conv => whnf)
    refine ACond.yes (by rw [hroom]; rfl) ?_
    conv => whnf
    repeat ((first | refine AO.cons hT ?_ | refine AO.nil ?_ | refine AW.seq ?_ | refine AW.region ?_ | refine AW.cond ?_ | refine AW.block ?_ | refine AW.loop ?_ | refine AW.skip ?_ | refine AW.exit ?_ | refine AW.ret ?_ | refine AW.label ?_ | refine AW.scope ?_ | refine AF.one hT rfl ?_ | refine AF.nil ?_ | refine AF.imm hT rfl rfl rfl ?_ | refine AH.of hT rfl ?_ | refine AD.cons hT rfl ?_ | refine AD.nil ?_ | refine AQ.cons hT rfl ?_ | refine AQ.nil ?_ | (refine ACall.val (by kernel_rfl) (VD.f21 b hb) rfl rfl ?_) | (refine ACall.val (by kernel_rfl) (VD.f26 e q b hb) rfl rfl ?_) | (refine ACall.val (by kernel_rfl) (f41 fr ns at_ b (by omega) hn) rfl rfl ?_) | (refine ACall.val (by kernel_rfl) (VD.f21 b (by omega)) rfl rfl ?_)); conv => whnf)
    exact AFin.dev (fun _ => rfl) ⟨_, _, _, ⟨rfl, rfl⟩, rfl⟩
  rw [if_neg (by decide)]
  have hc1 : ¬(fr < 0 ∨ ns < 1 ∨ (x.n : Int) ≤ fr ∨ (x.n : Int) - fr < ns) := fun e => by unfold checkF at c1; rw [if_pos e] at c1; cases c1
  have hr1 : 0 ≤ at_ ∧ at_ ≤ ns ∧ (VD.pcs b.size : Int) ≤ ns - at_ := of_decide_eq_true hroom
  have hfs : (VD.fputF e q b).1.size ≤ 9223372036854775807 := fput_le e q b hb
  conv => whnf
  repeat ((first | refine AO.cons hT ?_ | refine AO.nil ?_ | refine AW.seq ?_ | refine AW.region ?_ | refine AW.cond ?_ | refine AW.block ?_ | refine AW.loop ?_ | refine AW.skip ?_ | refine AW.exit ?_ | refine AW.ret ?_ | refine AW.label ?_ | refine AW.scope ?_ | refine AF.one hT rfl ?_ | refine AF.nil ?_ | refine AF.imm hT rfl rfl rfl ?_ | refine AH.of hT rfl ?_ | refine AD.cons hT rfl ?_ | refine AD.nil ?_ | refine AQ.cons hT rfl ?_ | refine AQ.nil ?_ | (refine ACall.val (by kernel_rfl) (VD.f21 b hb) rfl rfl ?_) | (refine ACall.val (by kernel_rfl) (VD.f26 e q b hb) rfl rfl ?_) | (refine ACall.val (by kernel_rfl) (f41 fr ns at_ b (by omega) hn) rfl rfl ?_) | (refine ACall.val (by kernel_rfl) (VD.f21 b (by omega)) rfl rfl ?_)); conv => whnf)
  refine ACond.no (by rw [hroom]; rfl) ?_
  conv => whnf
  repeat ((first | refine AO.cons hT ?_ | refine AO.nil ?_ | refine AW.seq ?_ | refine AW.region ?_ | refine AW.cond ?_ | refine AW.block ?_ | refine AW.loop ?_ | refine AW.skip ?_ | refine AW.exit ?_ | refine AW.ret ?_ | refine AW.label ?_ | refine AW.scope ?_ | refine AF.one hT rfl ?_ | refine AF.nil ?_ | refine AF.imm hT rfl rfl rfl ?_ | refine AH.of hT rfl ?_ | refine AD.cons hT rfl ?_ | refine AD.nil ?_ | refine AQ.cons hT rfl ?_ | refine AQ.nil ?_ | (refine ACall.val (by kernel_rfl) (VD.f21 b hb) rfl rfl ?_) | (refine ACall.val (by kernel_rfl) (VD.f26 e q b hb) rfl rfl ?_) | (refine ACall.val (by kernel_rfl) (f41 fr ns at_ b (by omega) hn) rfl rfl ?_) | (refine ACall.val (by kernel_rfl) (VD.f21 b (by omega)) rfl rfl ?_)); conv => whnf)
  rw [wrap_i64' (n := fr + at_) (by omega) (by omega)]
  conv => whnf
  repeat ((first | refine AO.cons hT ?_ | refine AO.nil ?_ | refine AW.seq ?_ | refine AW.region ?_ | refine AW.cond ?_ | refine AW.block ?_ | refine AW.loop ?_ | refine AW.skip ?_ | refine AW.exit ?_ | refine AW.ret ?_ | refine AW.label ?_ | refine AW.scope ?_ | refine AF.one hT rfl ?_ | refine AF.nil ?_ | refine AF.imm hT rfl rfl rfl ?_ | refine AH.of hT rfl ?_ | refine AD.cons hT rfl ?_ | refine AD.nil ?_ | refine AQ.cons hT rfl ?_ | refine AQ.nil ?_ | (refine ACall.val (by kernel_rfl) (VD.f21 b hb) rfl rfl ?_) | (refine ACall.val (by kernel_rfl) (VD.f26 e q b hb) rfl rfl ?_) | (refine ACall.val (by kernel_rfl) (f41 fr ns at_ b (by omega) hn) rfl rfl ?_) | (refine ACall.val (by kernel_rfl) (VD.f21 b (by omega)) rfl rfl ?_)); conv => whnf)
  refine ACall.dev (by kernel_rfl) (f49 x hx (fr + at_) _ (nOk_of (by omega) (by omega)) hfs) rfl rfl rfl (by decide) (fun _ => rfl) (by rintro _ _ ⟨rfl, _⟩ _; rfl) ?_
  rintro _ _ bs2 ck2 ⟨rfl, rfl⟩
  conv => whnf
  repeat ((first | refine AO.cons hT ?_ | refine AO.nil ?_ | refine AW.seq ?_ | refine AW.region ?_ | refine AW.cond ?_ | refine AW.block ?_ | refine AW.loop ?_ | refine AW.skip ?_ | refine AW.exit ?_ | refine AW.ret ?_ | refine AW.label ?_ | refine AW.scope ?_ | refine AF.one hT rfl ?_ | refine AF.nil ?_ | refine AF.imm hT rfl rfl rfl ?_ | refine AH.of hT rfl ?_ | refine AD.cons hT rfl ?_ | refine AD.nil ?_ | refine AQ.cons hT rfl ?_ | refine AQ.nil ?_ | (refine ACall.val (by kernel_rfl) (VD.f21 b hb) rfl rfl ?_) | (refine ACall.val (by kernel_rfl) (VD.f26 e q b hb) rfl rfl ?_) | (refine ACall.val (by kernel_rfl) (f41 fr ns at_ b (by omega) hn) rfl rfl ?_) | (refine ACall.val (by kernel_rfl) (VD.f21 b (by omega)) rfl rfl ?_)); conv => whnf)
  refine ACond.ndec (fun c3 => ?_) (fun c3 => ?_)
  · rw [if_pos c3]
    conv => whnf
    repeat ((first | refine AO.cons hT ?_ | refine AO.nil ?_ | refine AW.seq ?_ | refine AW.region ?_ | refine AW.cond ?_ | refine AW.block ?_ | refine AW.loop ?_ | refine AW.skip ?_ | refine AW.exit ?_ | refine AW.ret ?_ | refine AW.label ?_ | refine AW.scope ?_ | refine AF.one hT rfl ?_ | refine AF.nil ?_ | refine AF.imm hT rfl rfl rfl ?_ | refine AH.of hT rfl ?_ | refine AD.cons hT rfl ?_ | refine AD.nil ?_ | refine AQ.cons hT rfl ?_ | refine AQ.nil ?_ | (refine ACall.val (by kernel_rfl) (VD.f21 b hb) rfl rfl ?_) | (refine ACall.val (by kernel_rfl) (VD.f26 e q b hb) rfl rfl ?_) | (refine ACall.val (by kernel_rfl) (f41 fr ns at_ b (by omega) hn) rfl rfl ?_) | (refine ACall.val (by kernel_rfl) (VD.f21 b (by omega)) rfl rfl ?_)); conv => whnf)
    exact AFin.dev (fun _ => rfl) ⟨_, _, _, ⟨rfl, rfl⟩, rfl⟩
  rw [if_neg (fun e => e c3)]
  conv => whnf
  repeat ((first | refine AO.cons hT ?_ | refine AO.nil ?_ | refine AW.seq ?_ | refine AW.region ?_ | refine AW.cond ?_ | refine AW.block ?_ | refine AW.loop ?_ | refine AW.skip ?_ | refine AW.exit ?_ | refine AW.ret ?_ | refine AW.label ?_ | refine AW.scope ?_ | refine AF.one hT rfl ?_ | refine AF.nil ?_ | refine AF.imm hT rfl rfl rfl ?_ | refine AH.of hT rfl ?_ | refine AD.cons hT rfl ?_ | refine AD.nil ?_ | refine AQ.cons hT rfl ?_ | refine AQ.nil ?_ | (refine ACall.val (by kernel_rfl) (VD.f21 b hb) rfl rfl ?_) | (refine ACall.val (by kernel_rfl) (VD.f26 e q b hb) rfl rfl ?_) | (refine ACall.val (by kernel_rfl) (f41 fr ns at_ b (by omega) hn) rfl rfl ?_) | (refine ACall.val (by kernel_rfl) (VD.f21 b (by omega)) rfl rfl ?_)); conv => whnf)
  rw [wrap_i64' (n := at_ + VD.pcs b.size) (by omega) (by omega)]
  exact AFin.dev (fun _ => rfl) ⟨_, _, _, ⟨rfl, rfl⟩, rfl⟩

noncomputable def loadV (x : Dd) (fr ns ep : Int) : AV :=
  if checkF x fr ns ≠ 0 then .tup [.v (.slice none 0 0), nV 0, nV (checkF x fr ns)]
  else if (readF x fr ns).2 ≠ 0 then .tup [.v (.slice none 0 0), nV 0, nV (readF x fr ns).2]
  else .tup [VD.tV (VD.scanA (readF x fr ns).1 ep).1, nV (VD.scanA (readF x fr ns).1 ep).2, nV 0]
theorem read_le (x : Dd) (hx : Dok x) (a n : Int) : (readF x a n).1.size ≤ 1000000 := by
  unfold readF
  have h := hx.len
  have h2 := hx.le
  repeat' split
  all_goals first | (show (0 : Nat) ≤ _; omega) | (show (List.toArray _).size ≤ _; rw [List.size_toArray, List.length_take, List.length_drop]; omega)
theorem f24 (x : Dd) (hx : Dok x) (fr ns ep : Int) (h1 : nOk fr) (h2 : nOk ns) : DSpec 24 [arA fr ns, nV ep] x fun r y => r = loadV x fr ns ep ∧ y = x := by
  intro bs ck
  have hle := hx.le
  have hpos := hx.pos
  refine spec_of hT (f := 24) (fn := Go.Proofs.Tryz.f24) (c := body Go.Proofs.Tryz.f24) (by kernel_rfl) (by kernel_rfl) ?_
  unfold loadV
  have hrl := read_le x hx fr ns
  conv => whnf
  repeat ((first | refine AO.cons hT ?_ | refine AO.nil ?_ | refine AW.seq ?_ | refine AW.region ?_ | refine AW.cond ?_ | refine AW.block ?_ | refine AW.loop ?_ | refine AW.skip ?_ | refine AW.exit ?_ | refine AW.ret ?_ | refine AW.label ?_ | refine AW.scope ?_ | refine AF.one hT rfl ?_ | refine AF.nil ?_ | refine AF.imm hT rfl rfl rfl ?_ | refine AH.of hT rfl ?_ | refine AD.cons hT rfl ?_ | refine AD.nil ?_ | refine AQ.cons hT rfl ?_ | refine AQ.nil ?_ | (refine ACall.val (by kernel_rfl) (VD.f21 b hb) rfl rfl ?_) | (refine ACall.val (by kernel_rfl) (VD.f26 e q b hb) rfl rfl ?_) | (refine ACall.val (by kernel_rfl) (f41 fr ns at_ b (by omega) hn) rfl rfl ?_) | (refine ACall.val (by kernel_rfl) (VD.f21 b (by omega)) rfl rfl ?_)); conv => whnf)
  refine ACall.dev (by kernel_rfl) (f48 x hx fr ns h1 h2) rfl rfl rfl (by decide) (fun _ => rfl) (by rintro _ _ ⟨rfl, _⟩ _; rfl) ?_
  rintro _ x bs1 ck1 ⟨rfl, rfl⟩
  conv => whnf
  repeat ((first | refine AO.cons hT ?_ | refine AO.nil ?_ | refine AW.seq ?_ | refine AW.region ?_ | refine AW.cond ?_ | refine AW.block ?_ | refine AW.loop ?_ | refine AW.skip ?_ | refine AW.exit ?_ | refine AW.ret ?_ | refine AW.label ?_ | refine AW.scope ?_ | refine AF.one hT rfl ?_ | refine AF.nil ?_ | refine AF.imm hT rfl rfl rfl ?_ | refine AH.of hT rfl ?_ | refine AD.cons hT rfl ?_ | refine AD.nil ?_ | refine AQ.cons hT rfl ?_ | refine AQ.nil ?_ | (refine ACall.val (by kernel_rfl) (VD.f21 b hb) rfl rfl ?_) | (refine ACall.val (by kernel_rfl) (VD.f26 e q b hb) rfl rfl ?_) | (refine ACall.val (by kernel_rfl) (f41 fr ns at_ b (by omega) hn) rfl rfl ?_) | (refine ACall.val (by kernel_rfl) (VD.f21 b (by omega)) rfl rfl ?_)); conv => whnf)
  refine ACond.ndec (fun c1 => ?_) (fun c1 => ?_)
  · rw [if_pos c1]
    conv => whnf
    repeat ((first | refine AO.cons hT ?_ | refine AO.nil ?_ | refine AW.seq ?_ | refine AW.region ?_ | refine AW.cond ?_ | refine AW.block ?_ | refine AW.loop ?_ | refine AW.skip ?_ | refine AW.exit ?_ | refine AW.ret ?_ | refine AW.label ?_ | refine AW.scope ?_ | refine AF.one hT rfl ?_ | refine AF.nil ?_ | refine AF.imm hT rfl rfl rfl ?_ | refine AH.of hT rfl ?_ | refine AD.cons hT rfl ?_ | refine AD.nil ?_ | refine AQ.cons hT rfl ?_ | refine AQ.nil ?_ | (refine ACall.val (by kernel_rfl) (VD.f21 b hb) rfl rfl ?_) | (refine ACall.val (by kernel_rfl) (VD.f26 e q b hb) rfl rfl ?_) | (refine ACall.val (by kernel_rfl) (f41 fr ns at_ b (by omega) hn) rfl rfl ?_) | (refine ACall.val (by kernel_rfl) (VD.f21 b (by omega)) rfl rfl ?_)); conv => whnf)
    exact AFin.dev (fun _ => rfl) ⟨_, _, _, ⟨rfl, rfl⟩, rfl⟩
  rw [if_neg (fun e => e c1)]
  conv => whnf
  repeat ((first | refine AO.cons hT ?_ | refine AO.nil ?_ | refine AW.seq ?_ | refine AW.region ?_ | refine AW.cond ?_ | refine AW.block ?_ | refine AW.loop ?_ | refine AW.skip ?_ | refine AW.exit ?_ | refine AW.ret ?_ | refine AW.label ?_ | refine AW.scope ?_ | refine AF.one hT rfl ?_ | refine AF.nil ?_ | refine AF.imm hT rfl rfl rfl ?_ | refine AH.of hT rfl ?_ | refine AD.cons hT rfl ?_ | refine AD.nil ?_ | refine AQ.cons hT rfl ?_ | refine AQ.nil ?_ | (refine ACall.val (by kernel_rfl) (VD.f21 b hb) rfl rfl ?_) | (refine ACall.val (by kernel_rfl) (VD.f26 e q b hb) rfl rfl ?_) | (refine ACall.val (by kernel_rfl) (f41 fr ns at_ b (by omega) hn) rfl rfl ?_) | (refine ACall.val (by kernel_rfl) (VD.f21 b (by omega)) rfl rfl ?_)); conv => whnf)
  refine ACall.dev (by kernel_rfl) (f29 x hx fr ns h1 h2) rfl rfl rfl (by decide) (fun _ => rfl) (by rintro _ _ ⟨rfl, _⟩ _; rfl) ?_
  rintro _ x bs2 ck2 ⟨rfl, rfl⟩
  conv => whnf
  repeat ((first | refine AO.cons hT ?_ | refine AO.nil ?_ | refine AW.seq ?_ | refine AW.region ?_ | refine AW.cond ?_ | refine AW.block ?_ | refine AW.loop ?_ | refine AW.skip ?_ | refine AW.exit ?_ | refine AW.ret ?_ | refine AW.label ?_ | refine AW.scope ?_ | refine AF.one hT rfl ?_ | refine AF.nil ?_ | refine AF.imm hT rfl rfl rfl ?_ | refine AH.of hT rfl ?_ | refine AD.cons hT rfl ?_ | refine AD.nil ?_ | refine AQ.cons hT rfl ?_ | refine AQ.nil ?_ | (refine ACall.val (by kernel_rfl) (VD.f21 b hb) rfl rfl ?_) | (refine ACall.val (by kernel_rfl) (VD.f26 e q b hb) rfl rfl ?_) | (refine ACall.val (by kernel_rfl) (f41 fr ns at_ b (by omega) hn) rfl rfl ?_) | (refine ACall.val (by kernel_rfl) (VD.f21 b (by omega)) rfl rfl ?_)); conv => whnf)
  refine ACond.ndec (fun c2 => ?_) (fun c2 => ?_)
  · rw [if_pos c2]
    conv => whnf
    repeat ((first | refine AO.cons hT ?_ | refine AO.nil ?_ | refine AW.seq ?_ | refine AW.region ?_ | refine AW.cond ?_ | refine AW.block ?_ | refine AW.loop ?_ | refine AW.skip ?_ | refine AW.exit ?_ | refine AW.ret ?_ | refine AW.label ?_ | refine AW.scope ?_ | refine AF.one hT rfl ?_ | refine AF.nil ?_ | refine AF.imm hT rfl rfl rfl ?_ | refine AH.of hT rfl ?_ | refine AD.cons hT rfl ?_ | refine AD.nil ?_ | refine AQ.cons hT rfl ?_ | refine AQ.nil ?_ | (refine ACall.val (by kernel_rfl) (VD.f21 b hb) rfl rfl ?_) | (refine ACall.val (by kernel_rfl) (VD.f26 e q b hb) rfl rfl ?_) | (refine ACall.val (by kernel_rfl) (f41 fr ns at_ b (by omega) hn) rfl rfl ?_) | (refine ACall.val (by kernel_rfl) (VD.f21 b (by omega)) rfl rfl ?_)); conv => whnf)
    exact AFin.dev (fun _ => rfl) ⟨_, _, _, ⟨rfl, rfl⟩, rfl⟩
  rw [if_neg (fun e => e c2)]
  conv => whnf
  repeat ((first | refine AO.cons hT ?_ | refine AO.nil ?_ | refine AW.seq ?_ | refine AW.region ?_ | refine AW.cond ?_ | refine AW.block ?_ | refine AW.loop ?_ | refine AW.skip ?_ | refine AW.exit ?_ | refine AW.ret ?_ | refine AW.label ?_ | refine AW.scope ?_ | refine AF.one hT rfl ?_ | refine AF.nil ?_ | refine AF.imm hT rfl rfl rfl ?_ | refine AH.of hT rfl ?_ | refine AD.cons hT rfl ?_ | refine AD.nil ?_ | refine AQ.cons hT rfl ?_ | refine AQ.nil ?_ | (refine ACall.val (by kernel_rfl) (VD.f21 b hb) rfl rfl ?_) | (refine ACall.val (by kernel_rfl) (VD.f26 e q b hb) rfl rfl ?_) | (refine ACall.val (by kernel_rfl) (f41 fr ns at_ b (by omega) hn) rfl rfl ?_) | (refine ACall.val (by kernel_rfl) (VD.f21 b (by omega)) rfl rfl ?_)); conv => whnf)
  refine ACall.val (by kernel_rfl) (VD.f53 _ ep hrl) rfl (by unfold VD.scanR VD.tV; simp only [AV.ren, renL, VD.texts_ren]; rfl) ?_
  unfold VD.scanR
  conv => whnf
  repeat ((first | refine AO.cons hT ?_ | refine AO.nil ?_ | refine AW.seq ?_ | refine AW.region ?_ | refine AW.cond ?_ | refine AW.block ?_ | refine AW.loop ?_ | refine AW.skip ?_ | refine AW.exit ?_ | refine AW.ret ?_ | refine AW.label ?_ | refine AW.scope ?_ | refine AF.one hT rfl ?_ | refine AF.nil ?_ | refine AF.imm hT rfl rfl rfl ?_ | refine AH.of hT rfl ?_ | refine AD.cons hT rfl ?_ | refine AD.nil ?_ | refine AQ.cons hT rfl ?_ | refine AQ.nil ?_ | (refine ACall.val (by kernel_rfl) (VD.f21 b hb) rfl rfl ?_) | (refine ACall.val (by kernel_rfl) (VD.f26 e q b hb) rfl rfl ?_) | (refine ACall.val (by kernel_rfl) (f41 fr ns at_ b (by omega) hn) rfl rfl ?_) | (refine ACall.val (by kernel_rfl) (VD.f21 b (by omega)) rfl rfl ?_)); conv => whnf)
  exact AFin.dev (fun ρ => by simp only [AV.ren, renL, VD.texts_ren]) ⟨_, _, _, ⟨rfl, rfl⟩, rfl⟩
end Go.Aw.VE

set_option linter.unusedSimpArgs false
set_option linter.unusedVariables false
set_option maxHeartbeats 1000000
namespace Go.Aw.VE
open Go Go.Proofs

theorem putC_two (cs u v : List UInt8) (k : Nat) (hu : u.length = 64) (hk : 64 * k + 64 ≤ cs.length) : putC (putC cs k u) (k + 1) v = putC cs k (u ++ v) := by
  unfold putC
  have h1 : (cs.take (64 * k) ++ u).length = 64 * (k + 1) := by rw [List.length_append, List.length_take]; omega
  rw [List.take_left' h1, List.drop_append, List.drop_eq_nil_of_le (by omega), h1, List.drop_drop, List.length_append, List.nil_append, List.append_assoc (List.take _ _)]
  congr 2; omega
theorem wrF0 : ∀ (m : Nat) (x : Dd) (k : Nat) (t : List UInt8), x.a = 0 → t.length = 64 * m → 64 * (k + m) ≤ x.cs.length → (wrF m x k t).2 = 0 ∧ (wrF m x k t).1.a = 0 ∧ (wrF m x k t).1.f = x.f ∧ (wrF m x k t).1.cs = putC x.cs k t
  | 0, x, k, t, ha, ht, hk => by
    have : t = [] := List.eq_nil_of_length_eq_zero (by omega)
    subst this
    refine ⟨rfl, ha, rfl, ?_⟩
    show x.cs = x.cs.take (64 * k) ++ [] ++ x.cs.drop (64 * k + 0)
    rw [List.append_nil, Nat.add_zero, List.take_append_drop]
  | m + 1, x, k, t, ha, ht, hk => by
    obtain ⟨h1, h2⟩ := last0 ha
    unfold wrF
    rw [h1, h2]
    simp only [Bool.false_eq_true, if_false]
    have hl : (t.take 64).length = 64 := by rw [List.length_take]; omega
    have := wrF0 m (putD { x with o := IntKind.wrap .i64 (x.o + 1) } k (t.take 64)) (k + 1) (t.drop 64) ha (by rw [List.length_drop]; omega) (by
      show 64 * (k + 1 + m) ≤ (putC x.cs k (t.take 64)).length
      rw [putC_len (by omega)]; omega)
    refine ⟨this.1, this.2.1, this.2.2.1, this.2.2.2.trans ?_⟩
    show putC (putC x.cs k (t.take 64)) (k + 1) (t.drop 64) = _
    rw [putC_two _ _ _ _ hl (by omega), List.take_append_drop]

/-- a device at rest: nothing is armed, nothing is loose -/
structure Cl (x : Dd) (cs : List UInt8) : Prop where
  ok : Dok x
  a : x.a = 0
  f : x.f = false
  L : x.L = []
  cs : x.cs = cs
theorem last_cl {x : Dd} {cs : List UInt8} (h : Cl x cs) (k m : Nat) (s : ByteArray) (hs : s.size = 64 * m) (hm : 0 < m) (hk : k + m ≤ x.n) :
    (lastF x k s).2 = 0 ∧ Cl (lastF x k s).1 (putC cs k s.data.toList) ∧ (lastF x k s).1.n = x.n := by
  have hl := h.ok.len
  have hw : writeF x k s = wrF m x k s.data.toList := by
    unfold writeF
    rw [h.f, if_neg (by decide), if_neg (by omega), if_pos (by omega), show s.size / 64 = m by omega, Int.toNat_natCast]
  obtain ⟨g1, g2, g3, g4⟩ := wrF0 m x k s.data.toList h.a (by rw [size_list, hs]) (by omega)
  have hok := write_ok h.ok k s
  have h0 : (writeF x k s).2 = 0 := by rw [hw]; exact g1
  have e : lastF x k s = (flushD (writeF x k s).1, flushE (writeF x k s).1) := by
    unfold lastF
    rw [if_neg (fun e => e h0)]
  rw [hw] at e hok
  obtain ⟨f1, f2⟩ := flush0 g2 (g3.trans h.f)
  have hfo := flush_ok hok.1
  rw [e]
  refine ⟨f2, ⟨hfo.1, ?_, ?_, ?_, ?_⟩, hfo.2.trans hok.2⟩
  · show (flushD _).a = 0
    rw [f1]; exact g2
  · show (flushD _).f = false
    rw [f1]; exact g3.trans h.f
  · show (flushD _).L = []
    rw [f1]
  · show (flushD _).cs = _
    rw [f1, ← h.cs]; exact g4
theorem new_cl {n : Nat} (h : 0 < n) (h2 : n ≤ 2000) : Cl (newD n) (List.replicate (64 * n) 0) := ⟨new_ok h h2, rfl, rfl, rfl, rfl⟩
theorem boot_cl {x : Dd} {cs : List UInt8} (h : Cl x cs) (c : Ch) : Cl (bootD c { x with f := true, a := 0 }) cs ∧ (bootD c { x with f := true, a := 0 }).n = x.n := by
  have hb := boot_ok (off_ok h.ok) c
  refine ⟨⟨hb.1, rfl, rfl, hb.2.2, ?_⟩, hb.2.1⟩
  unfold bootD
  show (bootL c 0 (kS x.L) { x with f := true, a := 0 }).cs = cs
  rw [h.L, kS_nil]
  exact h.cs

/-- a part of a device -/
def arL (cs : List UInt8) (A N : Nat) : List UInt8 := (cs.drop (64 * A)).take (64 * N)
theorem arL_len {cs : List UInt8} {A N : Nat} (h : 64 * (A + N) ≤ cs.length) : (arL cs A N).length = 64 * N := by
  unfold arL
  rw [List.length_take, List.length_drop]; omega
theorem arL_put {cs t : List UInt8} {A N z : Nat} (h : 64 * (A + N) ≤ cs.length) (ht : 64 * z + t.length ≤ 64 * N) : arL (putC cs (A + z) t) A N = putC (arL cs A N) z t := by
  have hS : cs = cs.take (64 * A) ++ (arL cs A N ++ cs.drop (64 * (A + N))) := by
    unfold arL
    rw [show 64 * (A + N) = 64 * A + 64 * N by omega, ← List.drop_drop, List.take_append_drop, List.take_append_drop]
  have hQ := arL_len h
  have hP : (cs.take (64 * A)).length = 64 * A := by rw [List.length_take]; omega
  generalize arL cs A N = Q at *
  generalize cs.take (64 * A) = P at *
  generalize cs.drop (64 * (A + N)) = S at *
  subst hS
  have e : putC (P ++ (Q ++ S)) (A + z) t = P ++ (putC Q z t ++ S) := by
    unfold putC
    rw [List.take_append, List.drop_append, List.take_of_length_le (by omega), List.drop_eq_nil_of_le (by omega), hP, show 64 * (A + z) - 64 * A = 64 * z by omega, show 64 * (A + z) + t.length - 64 * A = 64 * z + t.length by omega, List.nil_append, List.take_append, List.drop_append, show 64 * z - Q.length = 0 by omega, show 64 * z + t.length - Q.length = 0 by omega, List.take_zero, List.drop_zero, List.append_nil]
    simp only [List.append_assoc]
  rw [e]
  unfold arL
  rw [List.drop_left' hP, List.take_left' (by rw [putC_len (by omega), hQ])]
end Go.Aw.VE

