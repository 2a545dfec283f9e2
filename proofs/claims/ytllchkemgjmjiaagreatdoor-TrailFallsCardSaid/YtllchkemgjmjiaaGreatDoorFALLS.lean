/-
  The statement TrailFalls: wherever the power goes while a frame is appended, the frames ahead are loaded, and that one, or not, without any condition.
-/
import Derived.Test.YtllchkemgjmjiaaGreatDoorVfB
import Derived.Test.YtllchkemgjmjiaaGreatDoorVfC
import Derived.Test.YtllchkemgjmjiaaGreatDoorRows
import Derived.Test.YtllchkemgjmjiaaGreatDoorCards
import Derived.Test.YtllchkemgjmjiaaGreatDoorTie
import Derived.LaidMore
import Derived.Lay
import Derived.SevenTiedAt
import Derived.Stop.Joined
set_option linter.unusedSimpArgs false
set_option linter.unusedVariables false
set_option linter.unusedSimpArgs false
set_option linter.unusedVariables false
set_option maxHeartbeats 4000000
set_option maxRecDepth 20000
namespace Go.Aw.VE
open Go Go.Proofs

def atF (l : List ByteArray) (i : Nat) : Nat := ((l.take i).map fun b => VD.pcs b.size).sum
theorem atF_succ (l : List ByteArray) (i : Nat) (h : i < l.length) : atF l (i + 1) = atF l i + VD.pcs (l[i]).size := VD.sum_take_succ l i h
theorem atF_le (l : List ByteArray) (hl : ∀ b ∈ l, b.size ≤ 400) : ∀ i, i ≤ l.length → atF l i ≤ 7 * i
  | 0, _ => Nat.le_refl 0
  | i + 1, h => by
    have := atF_le l hl i (by omega)
    have h1 := hl l[i] (List.getElem_mem (by omega))
    have h2 := VD.pcs_bound (l[i]).size
    rw [atF_succ l i (by omega)]
    omega
theorem tl_ren (ρ : Nat → Nat) (l : List ByteArray) : renL ρ [AV.vs 1 l.length (l.map VD.sV)] = [AV.vs 1 l.length (l.map VD.sV)] := by
  simp only [renL, AV.ren, VD.texts_ren]
theorem tl2_ren (ρ : Nat → Nat) (l m : List ByteArray) : renL ρ [AV.vs 1 l.length (l.map VD.sV), AV.vs 1 m.length (m.map VD.sV)] = [AV.vs 1 l.length (l.map VD.sV), AV.vs 1 m.length (m.map VD.sV)] := by
  simp only [renL, AV.ren, VD.texts_ren]
theorem may_ok {e i n : Nat} (h1 : 1 ≤ e) (h2 : e ≤ 1000000000) (h3 : i < 1000000) (h4 : n ≤ 3000) : VD.mayF e (i + 1 : Nat) n = 0 := by
  unfold VD.mayF
  rw [if_neg (by omega), if_neg (by omega)]
theorem f4 (l : List ByteArray) (hl : l.length ≤ maxLen) (ep : Int) (hep : nOk ep) (c : Ch) (hc : c.keep.length ≤ maxLen) : Fun P 4 [VD.tV l, nV ep, .agg (chC c)] (.v (.bool true)) := by
  have hml : maxLen ≤ 9223372036854775807 := by decide
  refine spec_of hT (f := 4) (fn := Go.Proofs.Tryz.f4) (c := body Go.Proofs.Tryz.f4) (by kernel_rfl) (by kernel_rfl) ?_
  have h17 := f17 l (by omega)
  unfold VD.tV at *
  conv => whnf
  repeat ((first | refine AW.plan (id := 11) hm (.one 0 (.one 2 (.one 3 (.one 4 (.one 5 (.one 6 (.one 7 (.one 8 (.one 9 (.one 10 (.one 1 (.one 11 (.one 12 (.one 13 (.one 14 (.one 15 (.one 16 .nil))))))))))))))))) (by kernel_rfl) ?_ | refine AO.cons hT ?_ | refine AO.nil ?_ | refine AW.seq ?_ | refine AW.region ?_ | refine AW.cond ?_ | refine AW.block ?_ | refine AW.loop ?_ | refine AW.skip ?_ | refine AW.exit ?_ | refine AW.ret ?_ | refine AW.label ?_ | refine AW.scope ?_ | refine AF.one hT rfl ?_ | refine AF.nil ?_ | refine AF.imm hT rfl rfl rfl ?_ | refine AH.of hT rfl ?_ | refine AD.cons hT rfl ?_ | refine AD.nil ?_ | refine AQ.cons hT rfl ?_ | refine AQ.nil ?_ | (refine ACall.val (by kernel_rfl) f18 rfl rfl ?_)); conv => whnf)
  refine ACall.val (by kernel_rfl) h17 (tl_ren _ l) rfl ?_
  have hfin : ∀ {H : List ABlk}, AFin 0 (.v (.bool true)) H (fun r H => r = .v (.bool true) ∧ H = []) := AFin.val rfl ⟨rfl, rfl⟩
  rcases hsm : smallF l with _ | _
  · conv => whnf
    repeat (first | (refine AW.plan (id := 11) hm (.one 0 (.one 2 (.one 3 (.one 4 (.one 5 (.one 6 (.one 7 (.one 8 (.one 9 (.one 10 (.one 1 (.one 11 (.one 12 (.one 13 (.one 14 (.one 15 (.one 16 .nil))))))))))))))))) (by kernel_rfl) ?_; conv => whnf) | (refine AW.label ?_; conv => whnf) | (refine AW.scope ?_; conv => whnf) | (refine AO.cons hT ?_; conv => whnf) | (refine AO.nil ?_; conv => whnf) | (refine AW.seq ?_; conv => whnf) | (refine AW.region ?_; conv => whnf) | (refine AW.cond ?_; conv => whnf) | (refine AW.block ?_; conv => whnf) | (refine AW.loop ?_; conv => whnf) | (refine AW.skip ?_; conv => whnf) | (refine AW.exit ?_; conv => whnf) | (refine AW.ret ?_; conv => whnf) | (refine AF.one hT rfl ?_; conv => whnf) | (refine AF.nil ?_; conv => whnf) | (refine AF.imm hT rfl rfl rfl ?_; conv => whnf) | (refine AH.of hT rfl ?_; conv => whnf) | (refine ASplit.yes rfl ?_; conv => whnf) | (refine ACond.yes rfl ?_; conv => whnf) | (refine ASplit.no rfl ?_; conv => whnf) | (refine ACond.no rfl ?_; conv => whnf) | (refine ASplit.yes (by decide) ?_; conv => whnf) | (refine ACond.yes (by decide) ?_; conv => whnf) | (refine AReq.mk (by decide) ?_; conv => whnf) | (refine AIdx.iff.2 ⟨by decide, ?_⟩; conv => whnf) | (refine ACall.val (by kernel_rfl) f18 rfl rfl ?_; conv => whnf))
    exact hfin
  have hs2 : l.length ≤ 20 ∧ ∀ b ∈ l, b.size ≤ 400 := of_decide_eq_true hsm
  conv => whnf
  repeat (first | (refine AW.plan (id := 11) hm (.one 0 (.one 2 (.one 3 (.one 4 (.one 5 (.one 6 (.one 7 (.one 8 (.one 9 (.one 10 (.one 1 (.one 11 (.one 12 (.one 13 (.one 14 (.one 15 (.one 16 .nil))))))))))))))))) (by kernel_rfl) ?_; conv => whnf) | (refine AW.label ?_; conv => whnf) | (refine AW.scope ?_; conv => whnf) | (refine AO.cons hT ?_; conv => whnf) | (refine AO.nil ?_; conv => whnf) | (refine AW.seq ?_; conv => whnf) | (refine AW.region ?_; conv => whnf) | (refine AW.cond ?_; conv => whnf) | (refine AW.block ?_; conv => whnf) | (refine AW.loop ?_; conv => whnf) | (refine AW.skip ?_; conv => whnf) | (refine AW.exit ?_; conv => whnf) | (refine AW.ret ?_; conv => whnf) | (refine AF.one hT rfl ?_; conv => whnf) | (refine AF.nil ?_; conv => whnf) | (refine AF.imm hT rfl rfl rfl ?_; conv => whnf) | (refine AH.of hT rfl ?_; conv => whnf) | (refine ASplit.yes rfl ?_; conv => whnf) | (refine ACond.yes rfl ?_; conv => whnf) | (refine ASplit.no rfl ?_; conv => whnf) | (refine ACond.no rfl ?_; conv => whnf) | (refine ASplit.yes (by decide) ?_; conv => whnf) | (refine ACond.yes (by decide) ?_; conv => whnf) | (refine AReq.mk (by decide) ?_; conv => whnf) | (refine AIdx.iff.2 ⟨by decide, ?_⟩; conv => whnf) | (refine ACall.val (by kernel_rfl) f18 rfl rfl ?_; conv => whnf))
  refine ASplit.dec (fun g1 => ?_) (fun g1 => ?_)
  · conv => whnf
    repeat (first | (refine AW.plan (id := 11) hm (.one 0 (.one 2 (.one 3 (.one 4 (.one 5 (.one 6 (.one 7 (.one 8 (.one 9 (.one 10 (.one 1 (.one 11 (.one 12 (.one 13 (.one 14 (.one 15 (.one 16 .nil))))))))))))))))) (by kernel_rfl) ?_; conv => whnf) | (refine AW.label ?_; conv => whnf) | (refine AW.scope ?_; conv => whnf) | (refine AO.cons hT ?_; conv => whnf) | (refine AO.nil ?_; conv => whnf) | (refine AW.seq ?_; conv => whnf) | (refine AW.region ?_; conv => whnf) | (refine AW.cond ?_; conv => whnf) | (refine AW.block ?_; conv => whnf) | (refine AW.loop ?_; conv => whnf) | (refine AW.skip ?_; conv => whnf) | (refine AW.exit ?_; conv => whnf) | (refine AW.ret ?_; conv => whnf) | (refine AF.one hT rfl ?_; conv => whnf) | (refine AF.nil ?_; conv => whnf) | (refine AF.imm hT rfl rfl rfl ?_; conv => whnf) | (refine AH.of hT rfl ?_; conv => whnf) | (refine ASplit.yes rfl ?_; conv => whnf) | (refine ACond.yes rfl ?_; conv => whnf) | (refine ASplit.no rfl ?_; conv => whnf) | (refine ACond.no rfl ?_; conv => whnf) | (refine ASplit.yes (by decide) ?_; conv => whnf) | (refine ACond.yes (by decide) ?_; conv => whnf) | (refine AReq.mk (by decide) ?_; conv => whnf) | (refine AIdx.iff.2 ⟨by decide, ?_⟩; conv => whnf) | (refine ACall.val (by kernel_rfl) f18 rfl rfl ?_; conv => whnf))
    exact hfin
  conv => whnf
  repeat (first | (refine AW.plan (id := 11) hm (.one 0 (.one 2 (.one 3 (.one 4 (.one 5 (.one 6 (.one 7 (.one 8 (.one 9 (.one 10 (.one 1 (.one 11 (.one 12 (.one 13 (.one 14 (.one 15 (.one 16 .nil))))))))))))))))) (by kernel_rfl) ?_; conv => whnf) | (refine AW.label ?_; conv => whnf) | (refine AW.scope ?_; conv => whnf) | (refine AO.cons hT ?_; conv => whnf) | (refine AO.nil ?_; conv => whnf) | (refine AW.seq ?_; conv => whnf) | (refine AW.region ?_; conv => whnf) | (refine AW.cond ?_; conv => whnf) | (refine AW.block ?_; conv => whnf) | (refine AW.loop ?_; conv => whnf) | (refine AW.skip ?_; conv => whnf) | (refine AW.exit ?_; conv => whnf) | (refine AW.ret ?_; conv => whnf) | (refine AF.one hT rfl ?_; conv => whnf) | (refine AF.nil ?_; conv => whnf) | (refine AF.imm hT rfl rfl rfl ?_; conv => whnf) | (refine AH.of hT rfl ?_; conv => whnf) | (refine ASplit.yes rfl ?_; conv => whnf) | (refine ACond.yes rfl ?_; conv => whnf) | (refine ASplit.no rfl ?_; conv => whnf) | (refine ACond.no rfl ?_; conv => whnf) | (refine ASplit.yes (by decide) ?_; conv => whnf) | (refine ACond.yes (by decide) ?_; conv => whnf) | (refine AReq.mk (by decide) ?_; conv => whnf) | (refine AIdx.iff.2 ⟨by decide, ?_⟩; conv => whnf) | (refine ACall.val (by kernel_rfl) f18 rfl rfl ?_; conv => whnf))
  refine ASplit.dec (fun g2 => ?_) (fun g2 => ?_)
  · conv => whnf
    repeat (first | (refine AW.plan (id := 11) hm (.one 0 (.one 2 (.one 3 (.one 4 (.one 5 (.one 6 (.one 7 (.one 8 (.one 9 (.one 10 (.one 1 (.one 11 (.one 12 (.one 13 (.one 14 (.one 15 (.one 16 .nil))))))))))))))))) (by kernel_rfl) ?_; conv => whnf) | (refine AW.label ?_; conv => whnf) | (refine AW.scope ?_; conv => whnf) | (refine AO.cons hT ?_; conv => whnf) | (refine AO.nil ?_; conv => whnf) | (refine AW.seq ?_; conv => whnf) | (refine AW.region ?_; conv => whnf) | (refine AW.cond ?_; conv => whnf) | (refine AW.block ?_; conv => whnf) | (refine AW.loop ?_; conv => whnf) | (refine AW.skip ?_; conv => whnf) | (refine AW.exit ?_; conv => whnf) | (refine AW.ret ?_; conv => whnf) | (refine AF.one hT rfl ?_; conv => whnf) | (refine AF.nil ?_; conv => whnf) | (refine AF.imm hT rfl rfl rfl ?_; conv => whnf) | (refine AH.of hT rfl ?_; conv => whnf) | (refine ASplit.yes rfl ?_; conv => whnf) | (refine ACond.yes rfl ?_; conv => whnf) | (refine ASplit.no rfl ?_; conv => whnf) | (refine ACond.no rfl ?_; conv => whnf) | (refine ASplit.yes (by decide) ?_; conv => whnf) | (refine ACond.yes (by decide) ?_; conv => whnf) | (refine AReq.mk (by decide) ?_; conv => whnf) | (refine AIdx.iff.2 ⟨by decide, ?_⟩; conv => whnf) | (refine ACall.val (by kernel_rfl) f18 rfl rfl ?_; conv => whnf))
    exact hfin
  conv => whnf
  repeat (first | (refine AW.plan (id := 11) hm (.one 0 (.one 2 (.one 3 (.one 4 (.one 5 (.one 6 (.one 7 (.one 8 (.one 9 (.one 10 (.one 1 (.one 11 (.one 12 (.one 13 (.one 14 (.one 15 (.one 16 .nil))))))))))))))))) (by kernel_rfl) ?_; conv => whnf) | (refine AW.label ?_; conv => whnf) | (refine AW.scope ?_; conv => whnf) | (refine AO.cons hT ?_; conv => whnf) | (refine AO.nil ?_; conv => whnf) | (refine AW.seq ?_; conv => whnf) | (refine AW.region ?_; conv => whnf) | (refine AW.cond ?_; conv => whnf) | (refine AW.block ?_; conv => whnf) | (refine AW.loop ?_; conv => whnf) | (refine AW.skip ?_; conv => whnf) | (refine AW.exit ?_; conv => whnf) | (refine AW.ret ?_; conv => whnf) | (refine AF.one hT rfl ?_; conv => whnf) | (refine AF.nil ?_; conv => whnf) | (refine AF.imm hT rfl rfl rfl ?_; conv => whnf) | (refine AH.of hT rfl ?_; conv => whnf) | (refine ASplit.yes rfl ?_; conv => whnf) | (refine ACond.yes rfl ?_; conv => whnf) | (refine ASplit.no rfl ?_; conv => whnf) | (refine ACond.no rfl ?_; conv => whnf) | (refine ASplit.yes (by decide) ?_; conv => whnf) | (refine ACond.yes (by decide) ?_; conv => whnf) | (refine AReq.mk (by decide) ?_; conv => whnf) | (refine AIdx.iff.2 ⟨by decide, ?_⟩; conv => whnf) | (refine ACall.val (by kernel_rfl) f18 rfl rfl ?_; conv => whnf))
  refine ACond.dec (fun g3 => ?_) (fun g3 => ?_)
  · conv => whnf
    repeat (first | (refine AW.plan (id := 11) hm (.one 0 (.one 2 (.one 3 (.one 4 (.one 5 (.one 6 (.one 7 (.one 8 (.one 9 (.one 10 (.one 1 (.one 11 (.one 12 (.one 13 (.one 14 (.one 15 (.one 16 .nil))))))))))))))))) (by kernel_rfl) ?_; conv => whnf) | (refine AW.label ?_; conv => whnf) | (refine AW.scope ?_; conv => whnf) | (refine AO.cons hT ?_; conv => whnf) | (refine AO.nil ?_; conv => whnf) | (refine AW.seq ?_; conv => whnf) | (refine AW.region ?_; conv => whnf) | (refine AW.cond ?_; conv => whnf) | (refine AW.block ?_; conv => whnf) | (refine AW.loop ?_; conv => whnf) | (refine AW.skip ?_; conv => whnf) | (refine AW.exit ?_; conv => whnf) | (refine AW.ret ?_; conv => whnf) | (refine AF.one hT rfl ?_; conv => whnf) | (refine AF.nil ?_; conv => whnf) | (refine AF.imm hT rfl rfl rfl ?_; conv => whnf) | (refine AH.of hT rfl ?_; conv => whnf) | (refine ASplit.yes rfl ?_; conv => whnf) | (refine ACond.yes rfl ?_; conv => whnf) | (refine ASplit.no rfl ?_; conv => whnf) | (refine ACond.no rfl ?_; conv => whnf) | (refine ASplit.yes (by decide) ?_; conv => whnf) | (refine ACond.yes (by decide) ?_; conv => whnf) | (refine AReq.mk (by decide) ?_; conv => whnf) | (refine AIdx.iff.2 ⟨by decide, ?_⟩; conv => whnf) | (refine ACall.val (by kernel_rfl) f18 rfl rfl ?_; conv => whnf))
    exact hfin
  obtain ⟨e, rfl⟩ : ∃ e : Nat, ep = e := ⟨ep.toNat, by omega⟩
  conv => whnf
  repeat (first | (refine AW.plan (id := 11) hm (.one 0 (.one 2 (.one 3 (.one 4 (.one 5 (.one 6 (.one 7 (.one 8 (.one 9 (.one 10 (.one 1 (.one 11 (.one 12 (.one 13 (.one 14 (.one 15 (.one 16 .nil))))))))))))))))) (by kernel_rfl) ?_; conv => whnf) | (refine AW.label ?_; conv => whnf) | (refine AW.scope ?_; conv => whnf) | (refine AO.cons hT ?_; conv => whnf) | (refine AO.nil ?_; conv => whnf) | (refine AW.seq ?_; conv => whnf) | (refine AW.region ?_; conv => whnf) | (refine AW.cond ?_; conv => whnf) | (refine AW.block ?_; conv => whnf) | (refine AW.loop ?_; conv => whnf) | (refine AW.skip ?_; conv => whnf) | (refine AW.exit ?_; conv => whnf) | (refine AW.ret ?_; conv => whnf) | (refine AF.one hT rfl ?_; conv => whnf) | (refine AF.nil ?_; conv => whnf) | (refine AF.imm hT rfl rfl rfl ?_; conv => whnf) | (refine AH.of hT rfl ?_; conv => whnf) | (refine ASplit.yes rfl ?_; conv => whnf) | (refine ACond.yes rfl ?_; conv => whnf) | (refine ASplit.no rfl ?_; conv => whnf) | (refine ACond.no rfl ?_; conv => whnf) | (refine ASplit.yes (by decide) ?_; conv => whnf) | (refine ACond.yes (by decide) ?_; conv => whnf) | (refine AReq.mk (by decide) ?_; conv => whnf) | (refine AIdx.iff.2 ⟨by decide, ?_⟩; conv => whnf) | (refine ACall.val (by kernel_rfl) f18 rfl rfl ?_; conv => whnf))
  refine callNew 200 (by decide) (by decide) ?_
  simp only [List.length_cons, List.length_nil, Nat.zero_add, List.nil_append, List.cons_append, List.set_cons_zero, List.set_cons_succ]
  have K0 : Kp (newD 200) _ 3 190 e [] 0 := kp_new (by decide) (by decide) (by decide)
  have hn0 : (newD 200).n = 200 := rfl
  generalize newD 200 = y0 at *
  generalize List.replicate (64 * 200) (0 : UInt8) = cs0 at *
  conv => whnf
  repeat (first | (refine AW.plan (id := 11) hm (.one 0 (.one 2 (.one 3 (.one 4 (.one 5 (.one 6 (.one 7 (.one 8 (.one 9 (.one 10 (.one 1 (.one 11 (.one 12 (.one 13 (.one 14 (.one 15 (.one 16 .nil))))))))))))))))) (by kernel_rfl) ?_; conv => whnf) | (refine AW.label ?_; conv => whnf) | (refine AW.scope ?_; conv => whnf) | (refine AO.cons hT ?_; conv => whnf) | (refine AO.nil ?_; conv => whnf) | (refine AW.seq ?_; conv => whnf) | (refine AW.region ?_; conv => whnf) | (refine AW.cond ?_; conv => whnf) | (refine AW.block ?_; conv => whnf) | (refine AW.loop ?_; conv => whnf) | (refine AW.skip ?_; conv => whnf) | (refine AW.exit ?_; conv => whnf) | (refine AW.ret ?_; conv => whnf) | (refine AF.one hT rfl ?_; conv => whnf) | (refine AF.nil ?_; conv => whnf) | (refine AF.imm hT rfl rfl rfl ?_; conv => whnf) | (refine AH.of hT rfl ?_; conv => whnf) | (refine ASplit.yes rfl ?_; conv => whnf) | (refine ACond.yes rfl ?_; conv => whnf) | (refine ASplit.no rfl ?_; conv => whnf) | (refine ACond.no rfl ?_; conv => whnf) | (refine ASplit.yes (by decide) ?_; conv => whnf) | (refine ACond.yes (by decide) ?_; conv => whnf) | (refine AReq.mk (by decide) ?_; conv => whnf) | (refine AIdx.iff.2 ⟨by decide, ?_⟩; conv => whnf) | (refine ACall.val (by kernel_rfl) f18 rfl rfl ?_; conv => whnf))
  refine ALoop.mk (fun j E H => ∃ (i : Nat) (y : Dd) (cs : List UInt8) (bs : List Nat) (ck : Nat), i ≤ l.length ∧ j = l.length - i ∧ y.n = 200 ∧ Kp y cs 3 190 e (l.take i) (atF l i) ∧
      E = pad [.vs 1 l.length (l.map VD.sV), nV e, .agg (chC c), .any, .any, .ptr 0 0, .v (.bool false), .ptr 1 0, nV 0, .ptr 4 0, nV (atF l i : Nat), nV i] 130 ∧ H = [.cells 38 (chC c), dD 2 3 y, dC y, dM y bs ck, .cells 43 [nV 3, nV 190]])
    (n := l.length) _ _ ⟨0, y0, cs0, [], 0, by omega, rfl, hn0, K0, rfl, rfl⟩ (Conv.fit ?_) ?_
  · repeat' (first | exact Fit.nil | refine Fit.any ?_ | refine Fit.same ?_)
  rintro _ _ _ ⟨i, y, cs, bs, ck, hi, rfl, hyn, hK, rfl, rfl⟩
  conv => whnf
  repeat ((first | refine AW.plan (id := 11) hm (.one 0 (.one 2 (.one 3 (.one 4 (.one 5 (.one 6 (.one 7 (.one 8 (.one 9 (.one 10 (.one 1 (.one 11 (.one 12 (.one 13 (.one 14 (.one 15 (.one 16 .nil))))))))))))))))) (by kernel_rfl) ?_ | refine AO.cons hT ?_ | refine AO.nil ?_ | refine AW.seq ?_ | refine AW.region ?_ | refine AW.cond ?_ | refine AW.block ?_ | refine AW.loop ?_ | refine AW.skip ?_ | refine AW.exit ?_ | refine AW.ret ?_ | refine AW.label ?_ | refine AW.scope ?_ | refine AF.one hT rfl ?_ | refine AF.nil ?_ | refine AF.imm hT rfl rfl rfl ?_ | refine AH.of hT rfl ?_ | refine AD.cons hT rfl ?_ | refine AD.nil ?_ | refine AQ.cons hT rfl ?_ | refine AQ.nil ?_ | (refine ACall.val (by kernel_rfl) f18 rfl rfl ?_)); conv => whnf)
  refine ACond.dec (fun g4 => ?_) (fun g4 => ?_)
  · have hil : i < l.length := by omega
    have hsz := hs2.2 l[i] (List.getElem_mem hil)
    have hle := atF_le l hs2.2 (i + 1) (by omega)
    have hsu := atF_succ l i hil
    have htl : (l.take i).length = i := by rw [List.length_take]; omega
    obtain ⟨a1, K1⟩ := app_kp hK l[i] (may_ok (by omega) (by omega) (by omega) (by omega)) (by omega)
    have s1 := f20 y hK.cl.ok (3 : Nat) (190 : Nat) (atF l i : Nat) e (((l.take i).length : Int) + 1) l[i] rfl rfl (by decide) (nOk_of (by omega) (by omega)) (by omega)
    have n1 := (app_ok hK.cl.ok (3 : Nat) (190 : Nat) (atF l i : Nat) e (((l.take i).length : Int) + 1) l[i]).2
    generalize appF y (3 : Nat) (190 : Nat) (atF l i : Nat) e (((l.take i).length : Int) + 1) l[i] = r1 at *
    obtain ⟨r1, y1⟩ := r1
    simp only at a1 K1 s1 n1
    subst a1
    rw [htl] at s1
    have h21 := VD.f21 l[i] (by omega)
    conv => whnf
    repeat ((first | refine AW.plan (id := 11) hm (.one 0 (.one 2 (.one 3 (.one 4 (.one 5 (.one 6 (.one 7 (.one 8 (.one 9 (.one 10 (.one 1 (.one 11 (.one 12 (.one 13 (.one 14 (.one 15 (.one 16 .nil))))))))))))))))) (by kernel_rfl) ?_ | refine AO.cons hT ?_ | refine AO.nil ?_ | refine AW.seq ?_ | refine AW.region ?_ | refine AW.cond ?_ | refine AW.block ?_ | refine AW.loop ?_ | refine AW.skip ?_ | refine AW.exit ?_ | refine AW.ret ?_ | refine AW.label ?_ | refine AW.scope ?_ | refine AF.one hT rfl ?_ | refine AF.nil ?_ | refine AF.imm hT rfl rfl rfl ?_ | refine AH.of hT rfl ?_ | refine AD.cons hT rfl ?_ | refine AD.nil ?_ | refine AQ.cons hT rfl ?_ | refine AQ.nil ?_ | (refine ACall.val (by kernel_rfl) f18 rfl rfl ?_) | (refine AReq.mk ⟨by omega, by omega⟩ ?_) | (refine AIdx.map1 hil ?_)); conv => whnf)
    rw [wrap_i64' (n := (i : Int) + 1) (by omega) (by omega)]
    refine ACall.dev (by kernel_rfl) s1 rfl rfl rfl (by decide) (fun _ => rfl) (by rintro _ _ ⟨rfl, _⟩ _; rfl) ?_
    rintro _ yy bs1 ck1 ⟨rfl, hyy⟩
    rw [hyy]
    simp only [List.length_nil, Nat.zero_add, List.nil_append, List.set_cons_zero, List.set_cons_succ]
    conv => whnf
    repeat ((first | refine AW.plan (id := 11) hm (.one 0 (.one 2 (.one 3 (.one 4 (.one 5 (.one 6 (.one 7 (.one 8 (.one 9 (.one 10 (.one 1 (.one 11 (.one 12 (.one 13 (.one 14 (.one 15 (.one 16 .nil))))))))))))))))) (by kernel_rfl) ?_ | refine AO.cons hT ?_ | refine AO.nil ?_ | refine AW.seq ?_ | refine AW.region ?_ | refine AW.cond ?_ | refine AW.block ?_ | refine AW.loop ?_ | refine AW.skip ?_ | refine AW.exit ?_ | refine AW.ret ?_ | refine AW.label ?_ | refine AW.scope ?_ | refine AF.one hT rfl ?_ | refine AF.nil ?_ | refine AF.imm hT rfl rfl rfl ?_ | refine AH.of hT rfl ?_ | refine AD.cons hT rfl ?_ | refine AD.nil ?_ | refine AQ.cons hT rfl ?_ | refine AQ.nil ?_ | (refine ACall.val (by kernel_rfl) f18 rfl rfl ?_) | (refine AReq.mk ⟨by omega, by omega⟩ ?_) | (refine AIdx.map1 hil ?_)); conv => whnf)
    refine ASplit.no rfl ?_
    conv => whnf
    repeat ((first | refine AW.plan (id := 11) hm (.one 0 (.one 2 (.one 3 (.one 4 (.one 5 (.one 6 (.one 7 (.one 8 (.one 9 (.one 10 (.one 1 (.one 11 (.one 12 (.one 13 (.one 14 (.one 15 (.one 16 .nil))))))))))))))))) (by kernel_rfl) ?_ | refine AO.cons hT ?_ | refine AO.nil ?_ | refine AW.seq ?_ | refine AW.region ?_ | refine AW.cond ?_ | refine AW.block ?_ | refine AW.loop ?_ | refine AW.skip ?_ | refine AW.exit ?_ | refine AW.ret ?_ | refine AW.label ?_ | refine AW.scope ?_ | refine AF.one hT rfl ?_ | refine AF.nil ?_ | refine AF.imm hT rfl rfl rfl ?_ | refine AH.of hT rfl ?_ | refine AD.cons hT rfl ?_ | refine AD.nil ?_ | refine AQ.cons hT rfl ?_ | refine AQ.nil ?_ | (refine ACall.val (by kernel_rfl) f18 rfl rfl ?_) | (refine AReq.mk ⟨by omega, by omega⟩ ?_) | (refine AIdx.map1 hil ?_)); conv => whnf)
    refine ACall.val (by kernel_rfl) h21 rfl rfl ?_
    conv => whnf
    repeat ((first | refine AW.plan (id := 11) hm (.one 0 (.one 2 (.one 3 (.one 4 (.one 5 (.one 6 (.one 7 (.one 8 (.one 9 (.one 10 (.one 1 (.one 11 (.one 12 (.one 13 (.one 14 (.one 15 (.one 16 .nil))))))))))))))))) (by kernel_rfl) ?_ | refine AO.cons hT ?_ | refine AO.nil ?_ | refine AW.seq ?_ | refine AW.region ?_ | refine AW.cond ?_ | refine AW.block ?_ | refine AW.loop ?_ | refine AW.skip ?_ | refine AW.exit ?_ | refine AW.ret ?_ | refine AW.label ?_ | refine AW.scope ?_ | refine AF.one hT rfl ?_ | refine AF.nil ?_ | refine AF.imm hT rfl rfl rfl ?_ | refine AH.of hT rfl ?_ | refine AD.cons hT rfl ?_ | refine AD.nil ?_ | refine AQ.cons hT rfl ?_ | refine AQ.nil ?_ | (refine ACall.val (by kernel_rfl) f18 rfl rfl ?_) | (refine AReq.mk ⟨by omega, by omega⟩ ?_) | (refine AIdx.map1 hil ?_)); conv => whnf)
    rw [wrap_i64' (n := ((atF l i : Nat) : Int) + (VD.pcs l[i].size : Nat)) (by omega) (by omega)]
    refine ACond.no ?_ ?_
    · simp
    conv => whnf
    repeat ((first | refine AW.plan (id := 11) hm (.one 0 (.one 2 (.one 3 (.one 4 (.one 5 (.one 6 (.one 7 (.one 8 (.one 9 (.one 10 (.one 1 (.one 11 (.one 12 (.one 13 (.one 14 (.one 15 (.one 16 .nil))))))))))))))))) (by kernel_rfl) ?_ | refine AO.cons hT ?_ | refine AO.nil ?_ | refine AW.seq ?_ | refine AW.region ?_ | refine AW.cond ?_ | refine AW.block ?_ | refine AW.loop ?_ | refine AW.skip ?_ | refine AW.exit ?_ | refine AW.ret ?_ | refine AW.label ?_ | refine AW.scope ?_ | refine AF.one hT rfl ?_ | refine AF.nil ?_ | refine AF.imm hT rfl rfl rfl ?_ | refine AH.of hT rfl ?_ | refine AD.cons hT rfl ?_ | refine AD.nil ?_ | refine AQ.cons hT rfl ?_ | refine AQ.nil ?_ | (refine ACall.val (by kernel_rfl) f18 rfl rfl ?_) | (refine AReq.mk ⟨by omega, by omega⟩ ?_) | (refine AIdx.map1 hil ?_)); conv => whnf)
    rw [wrap_i64' (n := (i : Int) + 1) (by omega) (by omega)]
    have K2 : Kp y1 (putC cs (3 + atF l i) (VD.fputB e ((List.take i l).length + 1) l[i]).data.toList) 3 190 e (l.take (i + 1)) (atF l (i + 1)) := by
      rw [hsu, List.take_add_one, List.getElem?_eq_getElem hil]
      exact K1
    refine AHead.mk (l.length - (i + 1)) (pad [.vs 1 l.length (l.map VD.sV), nV e, .agg (chC c), .any, .any, .ptr 0 0, .v (.bool false), .ptr 1 0, nV 0, .ptr 4 0, nV (atF l (i + 1) : Nat), nV (i + 1 : Nat)] 130) _ (by omega) ⟨i + 1, y1, _, bs1, ck1, by omega, rfl, n1.trans hyn, K2, rfl, rfl⟩ (Conv.fit ?_)
    rw [hsu]
    repeat' (first | exact Fit.nil | refine Fit.any ?_ | refine Fit.same ?_)
  obtain rfl : i = l.length := by omega
  conv => whnf
  repeat ((first | refine AW.plan (id := 11) hm (.one 0 (.one 2 (.one 3 (.one 4 (.one 5 (.one 6 (.one 7 (.one 8 (.one 9 (.one 10 (.one 1 (.one 11 (.one 12 (.one 13 (.one 14 (.one 15 (.one 16 .nil))))))))))))))))) (by kernel_rfl) ?_ | refine AO.cons hT ?_ | refine AO.nil ?_ | refine AW.seq ?_ | refine AW.region ?_ | refine AW.cond ?_ | refine AW.block ?_ | refine AW.loop ?_ | refine AW.skip ?_ | refine AW.exit ?_ | refine AW.ret ?_ | refine AW.label ?_ | refine AW.scope ?_ | refine AF.one hT rfl ?_ | refine AF.nil ?_ | refine AF.imm hT rfl rfl rfl ?_ | refine AH.of hT rfl ?_ | refine AD.cons hT rfl ?_ | refine AD.nil ?_ | refine AQ.cons hT rfl ?_ | refine AQ.nil ?_ | (refine ACall.val (by kernel_rfl) f18 rfl rfl ?_) | (refine AReq.mk ⟨by omega, by omega⟩ ?_) | (refine AIdx.map1 hil ?_)); conv => whnf)
  refine AOut.stay ?_
  conv => whnf
  repeat ((first | refine AW.plan (id := 11) hm (.one 0 (.one 2 (.one 3 (.one 4 (.one 5 (.one 6 (.one 7 (.one 8 (.one 9 (.one 10 (.one 1 (.one 11 (.one 12 (.one 13 (.one 14 (.one 15 (.one 16 .nil))))))))))))))))) (by kernel_rfl) ?_ | refine AO.cons hT ?_ | refine AO.nil ?_ | refine AW.seq ?_ | refine AW.region ?_ | refine AW.cond ?_ | refine AW.block ?_ | refine AW.loop ?_ | refine AW.skip ?_ | refine AW.exit ?_ | refine AW.ret ?_ | refine AW.label ?_ | refine AW.scope ?_ | refine AF.one hT rfl ?_ | refine AF.nil ?_ | refine AF.imm hT rfl rfl rfl ?_ | refine AH.of hT rfl ?_ | refine AD.cons hT rfl ?_ | refine AD.nil ?_ | refine AQ.cons hT rfl ?_ | refine AQ.nil ?_ | (refine ACall.val (by kernel_rfl) f18 rfl rfl ?_) | (refine AReq.mk ⟨by omega, by omega⟩ ?_) | (refine AIdx.map1 hil ?_)); conv => whnf)
  refine ACall.dev (by kernel_rfl) (f22 y hK.cl.ok.pos) rfl rfl rfl (by decide) (fun _ => rfl) (by rintro _ _ ⟨rfl, _⟩ _; rfl) ?_
  rintro _ yy bs1 ck1 ⟨rfl, hyy⟩
  rw [hyy]
  have KB := kp_boot hK c
  have hb := f23 { y with f := true, a := 0 } (off_ok hK.cl.ok) c (by omega)
  generalize bootD c { y with f := true, a := 0 } = yb at *
  generalize { y with f := true, a := 0 } = yo at *
  simp only [List.length_nil, Nat.zero_add, List.nil_append, List.set_cons_zero, List.set_cons_succ]
  conv => whnf
  repeat ((first | refine AW.plan (id := 11) hm (.one 0 (.one 2 (.one 3 (.one 4 (.one 5 (.one 6 (.one 7 (.one 8 (.one 9 (.one 10 (.one 1 (.one 11 (.one 12 (.one 13 (.one 14 (.one 15 (.one 16 .nil))))))))))))))))) (by kernel_rfl) ?_ | refine AO.cons hT ?_ | refine AO.nil ?_ | refine AW.seq ?_ | refine AW.region ?_ | refine AW.cond ?_ | refine AW.block ?_ | refine AW.loop ?_ | refine AW.skip ?_ | refine AW.exit ?_ | refine AW.ret ?_ | refine AW.label ?_ | refine AW.scope ?_ | refine AF.one hT rfl ?_ | refine AF.nil ?_ | refine AF.imm hT rfl rfl rfl ?_ | refine AH.of hT rfl ?_ | refine AD.cons hT rfl ?_ | refine AD.nil ?_ | refine AQ.cons hT rfl ?_ | refine AQ.nil ?_ | (refine ACall.val (by kernel_rfl) f18 rfl rfl ?_) | (refine AReq.mk ⟨by omega, by omega⟩ ?_) | (refine AIdx.map1 hil ?_)); conv => whnf)
  refine ACall.devL (by kernel_rfl) hb rfl rfl rfl (by decide) (.cons (.same (show _ = AV.ren _ (.agg (chC c)) by simp only [AV.ren, chC_ren]; rfl)) .nil) (by rintro _ _ ⟨rfl, _⟩ _; rfl) ?_
  rintro _ yy2 bs2 ck2 ⟨rfl, hyy2⟩
  rw [hyy2]
  simp only [List.length_nil, Nat.zero_add, List.nil_append, List.set_cons_zero, List.set_cons_succ]
  rw [List.take_length] at KB
  have s2 := f24 yb KB.cl.ok (3 : Nat) (190 : Nat) (e : Nat) rfl rfl
  rw [load_kp KB (by decide)] at s2
  have s3 := f24 yb KB.cl.ok (3 : Nat) (190 : Nat) ((e : Int) + 1) rfl rfl
  rw [load_kp_other KB (by decide) _ (by omega)] at s3
  unfold VD.tV at s2 s3
  conv => whnf
  repeat ((first | refine AW.plan (id := 11) hm (.one 0 (.one 2 (.one 3 (.one 4 (.one 5 (.one 6 (.one 7 (.one 8 (.one 9 (.one 10 (.one 1 (.one 11 (.one 12 (.one 13 (.one 14 (.one 15 (.one 16 .nil))))))))))))))))) (by kernel_rfl) ?_ | refine AO.cons hT ?_ | refine AO.nil ?_ | refine AW.seq ?_ | refine AW.region ?_ | refine AW.cond ?_ | refine AW.block ?_ | refine AW.loop ?_ | refine AW.skip ?_ | refine AW.exit ?_ | refine AW.ret ?_ | refine AW.label ?_ | refine AW.scope ?_ | refine AF.one hT rfl ?_ | refine AF.nil ?_ | refine AF.imm hT rfl rfl rfl ?_ | refine AH.of hT rfl ?_ | refine AD.cons hT rfl ?_ | refine AD.nil ?_ | refine AQ.cons hT rfl ?_ | refine AQ.nil ?_ | (refine ACall.val (by kernel_rfl) f18 rfl rfl ?_) | (refine AReq.mk ⟨by omega, by omega⟩ ?_) | (refine AIdx.map1 hil ?_)); conv => whnf)
  refine ACall.dev (by kernel_rfl) s2 rfl rfl rfl (by decide) (fun _ => rfl) (by rintro _ _ ⟨rfl, _⟩ ρ; simp only [AV.ren, renL, VD.texts_ren]) ?_
  rintro _ yy3 bs3 ck3 ⟨rfl, hyy3⟩
  rw [hyy3]
  simp only [List.length_nil, Nat.zero_add, List.nil_append, List.set_cons_zero, List.set_cons_succ]
  conv => whnf
  repeat ((first | refine AW.plan (id := 11) hm (.one 0 (.one 2 (.one 3 (.one 4 (.one 5 (.one 6 (.one 7 (.one 8 (.one 9 (.one 10 (.one 1 (.one 11 (.one 12 (.one 13 (.one 14 (.one 15 (.one 16 .nil))))))))))))))))) (by kernel_rfl) ?_ | refine AO.cons hT ?_ | refine AO.nil ?_ | refine AW.seq ?_ | refine AW.region ?_ | refine AW.cond ?_ | refine AW.block ?_ | refine AW.loop ?_ | refine AW.skip ?_ | refine AW.exit ?_ | refine AW.ret ?_ | refine AW.label ?_ | refine AW.scope ?_ | refine AF.one hT rfl ?_ | refine AF.nil ?_ | refine AF.imm hT rfl rfl rfl ?_ | refine AH.of hT rfl ?_ | refine AD.cons hT rfl ?_ | refine AD.nil ?_ | refine AQ.cons hT rfl ?_ | refine AQ.nil ?_ | (refine ACall.val (by kernel_rfl) f18 rfl rfl ?_) | (refine AReq.mk ⟨by omega, by omega⟩ ?_) | (refine AIdx.map1 hil ?_)); conv => whnf)
  rw [wrap_i64' (n := (e : Int) + 1) (by omega) (by omega)]
  refine ACall.dev (by kernel_rfl) s3 rfl rfl rfl (by decide) (fun _ => rfl) (by rintro _ _ ⟨rfl, _⟩ ρ; simp only [AV.ren, renL, VD.texts_ren]) ?_
  rintro _ yy4 bs4 ck4 ⟨rfl, hyy4⟩
  rw [hyy4]
  simp only [List.length_nil, Nat.zero_add, List.nil_append, List.set_cons_zero, List.set_cons_succ]
  have h25 := VD.f25 l l (by omega) (by omega)
  unfold VD.tV at h25
  rw [decide_eq_true rfl] at h25
  conv => whnf
  repeat ((first | refine AW.plan (id := 11) hm (.one 0 (.one 2 (.one 3 (.one 4 (.one 5 (.one 6 (.one 7 (.one 8 (.one 9 (.one 10 (.one 1 (.one 11 (.one 12 (.one 13 (.one 14 (.one 15 (.one 16 .nil))))))))))))))))) (by kernel_rfl) ?_ | refine AO.cons hT ?_ | refine AO.nil ?_ | refine AW.seq ?_ | refine AW.region ?_ | refine AW.cond ?_ | refine AW.block ?_ | refine AW.loop ?_ | refine AW.skip ?_ | refine AW.exit ?_ | refine AW.ret ?_ | refine AW.label ?_ | refine AW.scope ?_ | refine AF.one hT rfl ?_ | refine AF.nil ?_ | refine AF.imm hT rfl rfl rfl ?_ | refine AH.of hT rfl ?_ | refine AD.cons hT rfl ?_ | refine AD.nil ?_ | refine AQ.cons hT rfl ?_ | refine AQ.nil ?_ | (refine ACall.val (by kernel_rfl) f18 rfl rfl ?_) | (refine AReq.mk ⟨by omega, by omega⟩ ?_) | (refine AIdx.map1 hil ?_)); conv => whnf)
  refine ACall.val (by kernel_rfl) h25 (tl2_ren _ l l) rfl ?_
  conv => whnf
  repeat (first | (refine AW.plan (id := 11) hm (.one 0 (.one 2 (.one 3 (.one 4 (.one 5 (.one 6 (.one 7 (.one 8 (.one 9 (.one 10 (.one 1 (.one 11 (.one 12 (.one 13 (.one 14 (.one 15 (.one 16 .nil))))))))))))))))) (by kernel_rfl) ?_; conv => whnf) | (refine AW.label ?_; conv => whnf) | (refine AW.scope ?_; conv => whnf) | (refine AO.cons hT ?_; conv => whnf) | (refine AO.nil ?_; conv => whnf) | (refine AW.seq ?_; conv => whnf) | (refine AW.region ?_; conv => whnf) | (refine AW.cond ?_; conv => whnf) | (refine AW.block ?_; conv => whnf) | (refine AW.loop ?_; conv => whnf) | (refine AW.skip ?_; conv => whnf) | (refine AW.exit ?_; conv => whnf) | (refine AW.ret ?_; conv => whnf) | (refine AF.one hT rfl ?_; conv => whnf) | (refine AF.nil ?_; conv => whnf) | (refine AF.imm hT rfl rfl rfl ?_; conv => whnf) | (refine AH.of hT rfl ?_; conv => whnf) | (refine ASplit.yes rfl ?_; conv => whnf) | (refine ACond.yes rfl ?_; conv => whnf) | (refine ASplit.no rfl ?_; conv => whnf) | (refine ACond.no rfl ?_; conv => whnf) | (refine ASplit.yes (by decide) ?_; conv => whnf) | (refine ACond.yes (by decide) ?_; conv => whnf) | (refine AReq.mk (by decide) ?_; conv => whnf) | (refine AIdx.iff.2 ⟨by decide, ?_⟩; conv => whnf) | (refine ACall.val (by kernel_rfl) f18 rfl rfl ?_; conv => whnf) | (refine AReq.mk ⟨by omega, by omega⟩ ?_; conv => whnf) | (refine AIdx.map1 hil ?_; conv => whnf))
  refine ASplit.yes (decide_eq_true rfl) ?_
  conv => whnf
  repeat (first | (refine AW.plan (id := 11) hm (.one 0 (.one 2 (.one 3 (.one 4 (.one 5 (.one 6 (.one 7 (.one 8 (.one 9 (.one 10 (.one 1 (.one 11 (.one 12 (.one 13 (.one 14 (.one 15 (.one 16 .nil))))))))))))))))) (by kernel_rfl) ?_; conv => whnf) | (refine AW.label ?_; conv => whnf) | (refine AW.scope ?_; conv => whnf) | (refine AO.cons hT ?_; conv => whnf) | (refine AO.nil ?_; conv => whnf) | (refine AW.seq ?_; conv => whnf) | (refine AW.region ?_; conv => whnf) | (refine AW.cond ?_; conv => whnf) | (refine AW.block ?_; conv => whnf) | (refine AW.loop ?_; conv => whnf) | (refine AW.skip ?_; conv => whnf) | (refine AW.exit ?_; conv => whnf) | (refine AW.ret ?_; conv => whnf) | (refine AF.one hT rfl ?_; conv => whnf) | (refine AF.nil ?_; conv => whnf) | (refine AF.imm hT rfl rfl rfl ?_; conv => whnf) | (refine AH.of hT rfl ?_; conv => whnf) | (refine ASplit.yes rfl ?_; conv => whnf) | (refine ACond.yes rfl ?_; conv => whnf) | (refine ASplit.no rfl ?_; conv => whnf) | (refine ACond.no rfl ?_; conv => whnf) | (refine ASplit.yes (by decide) ?_; conv => whnf) | (refine ACond.yes (by decide) ?_; conv => whnf) | (refine AReq.mk (by decide) ?_; conv => whnf) | (refine AIdx.iff.2 ⟨by decide, ?_⟩; conv => whnf) | (refine ACall.val (by kernel_rfl) f18 rfl rfl ?_; conv => whnf) | (refine AReq.mk ⟨by omega, by omega⟩ ?_; conv => whnf) | (refine AIdx.map1 hil ?_; conv => whnf))
  exact hfin
end Go.Aw.VE

set_option linter.unusedSimpArgs false
set_option linter.unusedVariables false
namespace Go.Aw.VE
open Go Go.Proofs
theorem und4 : P.underlying 4 = some .bool := by kernel_rfl
theorem flat_bV (l : List Bool) : l.flatMap (fun b => [AV.v (.bool b)]) = l.map bV := by
  induction l with
  | nil => rfl
  | cons b l ih => rw [List.flatMap_cons, ih]; rfl
theorem flat_sV (l : List ByteArray) : l.flatMap (fun s => [AV.v (.string s)]) = l.map VD.sV := by
  induction l with
  | nil => rfl
  | cons b l ih => rw [List.flatMap_cons, ih]; rfl
def chWf (c : Ch) : Prop := c.keep.length ≤ maxLen ∧ (Lit.int .i64 c.torn).wf = true ∧ (Lit.int .i64 c.cut).wf = true
theorem opens_ch : Opens P 38 chC chWf :=
  Opens.map (opens_struct Tryz.underlying38 (by kernel_rfl) (opensF_cons (sz := 1) rfl (by kernel_rfl) (opens_slice Tryz.underlying36 (sz := 1) (by kernel_rfl) (by decide) (opens_bool und4)) (opensF_cons (sz := 1) rfl (by kernel_rfl) (opens_int und3) (opensF_cons (sz := 1) rfl (by kernel_rfl) (opens_int und3) opensF_nil))))
    chC chWf (fun x => ⟨x.1, x.2.1, x.2.2.1⟩) (fun x _ => by simp only [chC, flat_bV]; rfl) (fun x h => ⟨h.1.1, h.2.1, h.2.2.1⟩)
end Go.Aw.VE

set_option linter.unusedSimpArgs false
set_option linter.unusedVariables false
set_option maxHeartbeats 4000000
set_option maxRecDepth 20000
namespace Go.Aw.VE
open Go Go.Proofs

structure Armd where
  after : Int
  ch : Ch
def armC (a : Armd) : List AV := nV a.after :: chC a.ch
theorem callCopy {A B : ABlk} {y : Dd} {bs : List Nat} {ck : Nat} {K : AV → List ABlk → Prop} (hy : Dok y) (k : ∀ bs1 ck1 bs2 ck2, K (.ptr 5 0) [A, dD 2 3 y, dC y, dM y bs1 ck1, B, dD 6 7 y, dC y, dM y bs2 ck2]) : ACall P 30 [.ptr 1 0] [A, dD 2 3 y, dC y, dM y bs ck, B] K := by
  refine ACall.of (by kernel_rfl) (f30 y hy bs ck) [1, 2, 3] [] (by decide) (.same (by rw [dD_ren]; rfl) (.same (by rw [dC_ren]; rfl) (.same (by rw [dM_ren]; rfl) .nil))) (by simp) (by simp) (.cons (.same rfl) .nil) (.inl rfl) ?_
  rintro _ _ ⟨rfl, bs3, ck3, bs4, ck4, rfl⟩
  simp only [cpH, dvH, List.cons_append, List.nil_append, mergeH, dD_ren, dC_ren, dM_ren, List.map_cons, List.map_nil, List.set_cons_zero, List.set_cons_succ]
  exact k bs3 ck3 bs4 ck4
theorem f5 (l : List ByteArray) (hl : l.length ≤ maxLen) (old : ByteArray) (hold : old.size ≤ maxLen) (arm : Armd) (hn : nOk arm.after) (hc : arm.ch.keep.length ≤ maxLen) : Fun P 5 [VD.tV l, sV old, .agg (armC arm)] (.v (.bool true)) := by
  have hml : maxLen ≤ 9223372036854775807 := by decide
  obtain ⟨after, c⟩ := arm
  simp only at hn hc
  refine spec_of hT (f := 5) (fn := Go.Proofs.Tryz.f5) (c := body Go.Proofs.Tryz.f5) (by kernel_rfl) (by kernel_rfl) ?_
  have h17 := f17 l (by omega)
  unfold VD.tV at *
  conv => whnf
  repeat ((first | refine AW.plan (id := 18) hm (.one 0 (.one 2 (.one 3 (.one 4 (.one 5 (.one 6 (.one 7 (.one 8 (.one 9 (.one 1 (.one 10 (.one 11 (.one 12 (.one 13 (.one 14 (.one 15 .nil)))))))))))))))) (by kernel_rfl) ?_ | refine AO.cons hT ?_ | refine AO.nil ?_ | refine AW.seq ?_ | refine AW.region ?_ | refine AW.cond ?_ | refine AW.block ?_ | refine AW.loop ?_ | refine AW.skip ?_ | refine AW.exit ?_ | refine AW.ret ?_ | refine AW.label ?_ | refine AW.scope ?_ | refine AF.one hT rfl ?_ | refine AF.nil ?_ | refine AF.imm hT rfl rfl rfl ?_ | refine AH.of hT rfl ?_ | refine AD.cons hT rfl ?_ | refine AD.nil ?_ | refine AQ.cons hT rfl ?_ | refine AQ.nil ?_ | (refine ACall.val (by kernel_rfl) f18 rfl rfl ?_)); conv => whnf)
  refine ACall.val (by kernel_rfl) h17 (tl_ren _ l) rfl ?_
  have hfin : ∀ {H : List ABlk}, AFin 0 (.v (.bool true)) H (fun r H => r = .v (.bool true) ∧ H = []) := AFin.val rfl ⟨rfl, rfl⟩
  rcases hsm : smallF l with _ | _
  · conv => whnf
    repeat (first | (refine AW.plan (id := 18) hm (.one 0 (.one 2 (.one 3 (.one 4 (.one 5 (.one 6 (.one 7 (.one 8 (.one 9 (.one 1 (.one 10 (.one 11 (.one 12 (.one 13 (.one 14 (.one 15 .nil)))))))))))))))) (by kernel_rfl) ?_; conv => whnf) | (refine AW.label ?_; conv => whnf) | (refine AW.scope ?_; conv => whnf) | (refine AO.cons hT ?_; conv => whnf) | (refine AO.nil ?_; conv => whnf) | (refine AW.seq ?_; conv => whnf) | (refine AW.region ?_; conv => whnf) | (refine AW.cond ?_; conv => whnf) | (refine AW.block ?_; conv => whnf) | (refine AW.loop ?_; conv => whnf) | (refine AW.skip ?_; conv => whnf) | (refine AW.exit ?_; conv => whnf) | (refine AW.ret ?_; conv => whnf) | (refine AF.one hT rfl ?_; conv => whnf) | (refine AF.nil ?_; conv => whnf) | (refine AF.imm hT rfl rfl rfl ?_; conv => whnf) | (refine AH.of hT rfl ?_; conv => whnf) | (refine ASplit.yes rfl ?_; conv => whnf) | (refine ACond.yes rfl ?_; conv => whnf) | (refine ASplit.no rfl ?_; conv => whnf) | (refine ACond.no rfl ?_; conv => whnf) | (refine ASplit.yes (by decide) ?_; conv => whnf) | (refine ACond.yes (by decide) ?_; conv => whnf) | (refine AReq.mk (by decide) ?_; conv => whnf) | (refine AIdx.iff.2 ⟨by decide, ?_⟩; conv => whnf) | (refine ACall.val (by kernel_rfl) f18 rfl rfl ?_; conv => whnf))
    exact hfin
  have hs2 : l.length ≤ 20 ∧ ∀ b ∈ l, b.size ≤ 400 := of_decide_eq_true hsm
  conv => whnf
  repeat (first | (refine AW.plan (id := 18) hm (.one 0 (.one 2 (.one 3 (.one 4 (.one 5 (.one 6 (.one 7 (.one 8 (.one 9 (.one 1 (.one 10 (.one 11 (.one 12 (.one 13 (.one 14 (.one 15 .nil)))))))))))))))) (by kernel_rfl) ?_; conv => whnf) | (refine AW.label ?_; conv => whnf) | (refine AW.scope ?_; conv => whnf) | (refine AO.cons hT ?_; conv => whnf) | (refine AO.nil ?_; conv => whnf) | (refine AW.seq ?_; conv => whnf) | (refine AW.region ?_; conv => whnf) | (refine AW.cond ?_; conv => whnf) | (refine AW.block ?_; conv => whnf) | (refine AW.loop ?_; conv => whnf) | (refine AW.skip ?_; conv => whnf) | (refine AW.exit ?_; conv => whnf) | (refine AW.ret ?_; conv => whnf) | (refine AF.one hT rfl ?_; conv => whnf) | (refine AF.nil ?_; conv => whnf) | (refine AF.imm hT rfl rfl rfl ?_; conv => whnf) | (refine AH.of hT rfl ?_; conv => whnf) | (refine ASplit.yes rfl ?_; conv => whnf) | (refine ACond.yes rfl ?_; conv => whnf) | (refine ASplit.no rfl ?_; conv => whnf) | (refine ACond.no rfl ?_; conv => whnf) | (refine ASplit.yes (by decide) ?_; conv => whnf) | (refine ACond.yes (by decide) ?_; conv => whnf) | (refine AReq.mk (by decide) ?_; conv => whnf) | (refine AIdx.iff.2 ⟨by decide, ?_⟩; conv => whnf) | (refine ACall.val (by kernel_rfl) f18 rfl rfl ?_; conv => whnf))
  refine ASplit.dec (fun g1 => ?_) (fun g1 => ?_)
  · conv => whnf
    repeat (first | (refine AW.plan (id := 18) hm (.one 0 (.one 2 (.one 3 (.one 4 (.one 5 (.one 6 (.one 7 (.one 8 (.one 9 (.one 1 (.one 10 (.one 11 (.one 12 (.one 13 (.one 14 (.one 15 .nil)))))))))))))))) (by kernel_rfl) ?_; conv => whnf) | (refine AW.label ?_; conv => whnf) | (refine AW.scope ?_; conv => whnf) | (refine AO.cons hT ?_; conv => whnf) | (refine AO.nil ?_; conv => whnf) | (refine AW.seq ?_; conv => whnf) | (refine AW.region ?_; conv => whnf) | (refine AW.cond ?_; conv => whnf) | (refine AW.block ?_; conv => whnf) | (refine AW.loop ?_; conv => whnf) | (refine AW.skip ?_; conv => whnf) | (refine AW.exit ?_; conv => whnf) | (refine AW.ret ?_; conv => whnf) | (refine AF.one hT rfl ?_; conv => whnf) | (refine AF.nil ?_; conv => whnf) | (refine AF.imm hT rfl rfl rfl ?_; conv => whnf) | (refine AH.of hT rfl ?_; conv => whnf) | (refine ASplit.yes rfl ?_; conv => whnf) | (refine ACond.yes rfl ?_; conv => whnf) | (refine ASplit.no rfl ?_; conv => whnf) | (refine ACond.no rfl ?_; conv => whnf) | (refine ASplit.yes (by decide) ?_; conv => whnf) | (refine ACond.yes (by decide) ?_; conv => whnf) | (refine AReq.mk (by decide) ?_; conv => whnf) | (refine AIdx.iff.2 ⟨by decide, ?_⟩; conv => whnf) | (refine ACall.val (by kernel_rfl) f18 rfl rfl ?_; conv => whnf))
    exact hfin
  conv => whnf
  repeat (first | (refine AW.plan (id := 18) hm (.one 0 (.one 2 (.one 3 (.one 4 (.one 5 (.one 6 (.one 7 (.one 8 (.one 9 (.one 1 (.one 10 (.one 11 (.one 12 (.one 13 (.one 14 (.one 15 .nil)))))))))))))))) (by kernel_rfl) ?_; conv => whnf) | (refine AW.label ?_; conv => whnf) | (refine AW.scope ?_; conv => whnf) | (refine AO.cons hT ?_; conv => whnf) | (refine AO.nil ?_; conv => whnf) | (refine AW.seq ?_; conv => whnf) | (refine AW.region ?_; conv => whnf) | (refine AW.cond ?_; conv => whnf) | (refine AW.block ?_; conv => whnf) | (refine AW.loop ?_; conv => whnf) | (refine AW.skip ?_; conv => whnf) | (refine AW.exit ?_; conv => whnf) | (refine AW.ret ?_; conv => whnf) | (refine AF.one hT rfl ?_; conv => whnf) | (refine AF.nil ?_; conv => whnf) | (refine AF.imm hT rfl rfl rfl ?_; conv => whnf) | (refine AH.of hT rfl ?_; conv => whnf) | (refine ASplit.yes rfl ?_; conv => whnf) | (refine ACond.yes rfl ?_; conv => whnf) | (refine ASplit.no rfl ?_; conv => whnf) | (refine ACond.no rfl ?_; conv => whnf) | (refine ASplit.yes (by decide) ?_; conv => whnf) | (refine ACond.yes (by decide) ?_; conv => whnf) | (refine AReq.mk (by decide) ?_; conv => whnf) | (refine AIdx.iff.2 ⟨by decide, ?_⟩; conv => whnf) | (refine ACall.val (by kernel_rfl) f18 rfl rfl ?_; conv => whnf))
  refine ASplit.dec (fun g2 => ?_) (fun g2 => ?_)
  · conv => whnf
    repeat (first | (refine AW.plan (id := 18) hm (.one 0 (.one 2 (.one 3 (.one 4 (.one 5 (.one 6 (.one 7 (.one 8 (.one 9 (.one 1 (.one 10 (.one 11 (.one 12 (.one 13 (.one 14 (.one 15 .nil)))))))))))))))) (by kernel_rfl) ?_; conv => whnf) | (refine AW.label ?_; conv => whnf) | (refine AW.scope ?_; conv => whnf) | (refine AO.cons hT ?_; conv => whnf) | (refine AO.nil ?_; conv => whnf) | (refine AW.seq ?_; conv => whnf) | (refine AW.region ?_; conv => whnf) | (refine AW.cond ?_; conv => whnf) | (refine AW.block ?_; conv => whnf) | (refine AW.loop ?_; conv => whnf) | (refine AW.skip ?_; conv => whnf) | (refine AW.exit ?_; conv => whnf) | (refine AW.ret ?_; conv => whnf) | (refine AF.one hT rfl ?_; conv => whnf) | (refine AF.nil ?_; conv => whnf) | (refine AF.imm hT rfl rfl rfl ?_; conv => whnf) | (refine AH.of hT rfl ?_; conv => whnf) | (refine ASplit.yes rfl ?_; conv => whnf) | (refine ACond.yes rfl ?_; conv => whnf) | (refine ASplit.no rfl ?_; conv => whnf) | (refine ACond.no rfl ?_; conv => whnf) | (refine ASplit.yes (by decide) ?_; conv => whnf) | (refine ACond.yes (by decide) ?_; conv => whnf) | (refine AReq.mk (by decide) ?_; conv => whnf) | (refine AIdx.iff.2 ⟨by decide, ?_⟩; conv => whnf) | (refine ACall.val (by kernel_rfl) f18 rfl rfl ?_; conv => whnf))
    exact hfin
  conv => whnf
  repeat (first | (refine AW.plan (id := 18) hm (.one 0 (.one 2 (.one 3 (.one 4 (.one 5 (.one 6 (.one 7 (.one 8 (.one 9 (.one 1 (.one 10 (.one 11 (.one 12 (.one 13 (.one 14 (.one 15 .nil)))))))))))))))) (by kernel_rfl) ?_; conv => whnf) | (refine AW.label ?_; conv => whnf) | (refine AW.scope ?_; conv => whnf) | (refine AO.cons hT ?_; conv => whnf) | (refine AO.nil ?_; conv => whnf) | (refine AW.seq ?_; conv => whnf) | (refine AW.region ?_; conv => whnf) | (refine AW.cond ?_; conv => whnf) | (refine AW.block ?_; conv => whnf) | (refine AW.loop ?_; conv => whnf) | (refine AW.skip ?_; conv => whnf) | (refine AW.exit ?_; conv => whnf) | (refine AW.ret ?_; conv => whnf) | (refine AF.one hT rfl ?_; conv => whnf) | (refine AF.nil ?_; conv => whnf) | (refine AF.imm hT rfl rfl rfl ?_; conv => whnf) | (refine AH.of hT rfl ?_; conv => whnf) | (refine ASplit.yes rfl ?_; conv => whnf) | (refine ACond.yes rfl ?_; conv => whnf) | (refine ASplit.no rfl ?_; conv => whnf) | (refine ACond.no rfl ?_; conv => whnf) | (refine ASplit.yes (by decide) ?_; conv => whnf) | (refine ACond.yes (by decide) ?_; conv => whnf) | (refine AReq.mk (by decide) ?_; conv => whnf) | (refine AIdx.iff.2 ⟨by decide, ?_⟩; conv => whnf) | (refine ACall.val (by kernel_rfl) f18 rfl rfl ?_; conv => whnf))
  refine ASplit.dec (fun g3 => ?_) (fun g3 => ?_)
  · conv => whnf
    repeat (first | (refine AW.plan (id := 18) hm (.one 0 (.one 2 (.one 3 (.one 4 (.one 5 (.one 6 (.one 7 (.one 8 (.one 9 (.one 1 (.one 10 (.one 11 (.one 12 (.one 13 (.one 14 (.one 15 .nil)))))))))))))))) (by kernel_rfl) ?_; conv => whnf) | (refine AW.label ?_; conv => whnf) | (refine AW.scope ?_; conv => whnf) | (refine AO.cons hT ?_; conv => whnf) | (refine AO.nil ?_; conv => whnf) | (refine AW.seq ?_; conv => whnf) | (refine AW.region ?_; conv => whnf) | (refine AW.cond ?_; conv => whnf) | (refine AW.block ?_; conv => whnf) | (refine AW.loop ?_; conv => whnf) | (refine AW.skip ?_; conv => whnf) | (refine AW.exit ?_; conv => whnf) | (refine AW.ret ?_; conv => whnf) | (refine AF.one hT rfl ?_; conv => whnf) | (refine AF.nil ?_; conv => whnf) | (refine AF.imm hT rfl rfl rfl ?_; conv => whnf) | (refine AH.of hT rfl ?_; conv => whnf) | (refine ASplit.yes rfl ?_; conv => whnf) | (refine ACond.yes rfl ?_; conv => whnf) | (refine ASplit.no rfl ?_; conv => whnf) | (refine ACond.no rfl ?_; conv => whnf) | (refine ASplit.yes (by decide) ?_; conv => whnf) | (refine ACond.yes (by decide) ?_; conv => whnf) | (refine AReq.mk (by decide) ?_; conv => whnf) | (refine AIdx.iff.2 ⟨by decide, ?_⟩; conv => whnf) | (refine ACall.val (by kernel_rfl) f18 rfl rfl ?_; conv => whnf))
    exact hfin
  conv => whnf
  repeat (first | (refine AW.plan (id := 18) hm (.one 0 (.one 2 (.one 3 (.one 4 (.one 5 (.one 6 (.one 7 (.one 8 (.one 9 (.one 1 (.one 10 (.one 11 (.one 12 (.one 13 (.one 14 (.one 15 .nil)))))))))))))))) (by kernel_rfl) ?_; conv => whnf) | (refine AW.label ?_; conv => whnf) | (refine AW.scope ?_; conv => whnf) | (refine AO.cons hT ?_; conv => whnf) | (refine AO.nil ?_; conv => whnf) | (refine AW.seq ?_; conv => whnf) | (refine AW.region ?_; conv => whnf) | (refine AW.cond ?_; conv => whnf) | (refine AW.block ?_; conv => whnf) | (refine AW.loop ?_; conv => whnf) | (refine AW.skip ?_; conv => whnf) | (refine AW.exit ?_; conv => whnf) | (refine AW.ret ?_; conv => whnf) | (refine AF.one hT rfl ?_; conv => whnf) | (refine AF.nil ?_; conv => whnf) | (refine AF.imm hT rfl rfl rfl ?_; conv => whnf) | (refine AH.of hT rfl ?_; conv => whnf) | (refine ASplit.yes rfl ?_; conv => whnf) | (refine ACond.yes rfl ?_; conv => whnf) | (refine ASplit.no rfl ?_; conv => whnf) | (refine ACond.no rfl ?_; conv => whnf) | (refine ASplit.yes (by decide) ?_; conv => whnf) | (refine ACond.yes (by decide) ?_; conv => whnf) | (refine AReq.mk (by decide) ?_; conv => whnf) | (refine AIdx.iff.2 ⟨by decide, ?_⟩; conv => whnf) | (refine ACall.val (by kernel_rfl) f18 rfl rfl ?_; conv => whnf))
  refine ACond.dec (fun g4 => ?_) (fun g4 => ?_)
  · conv => whnf
    repeat (first | (refine AW.plan (id := 18) hm (.one 0 (.one 2 (.one 3 (.one 4 (.one 5 (.one 6 (.one 7 (.one 8 (.one 9 (.one 1 (.one 10 (.one 11 (.one 12 (.one 13 (.one 14 (.one 15 .nil)))))))))))))))) (by kernel_rfl) ?_; conv => whnf) | (refine AW.label ?_; conv => whnf) | (refine AW.scope ?_; conv => whnf) | (refine AO.cons hT ?_; conv => whnf) | (refine AO.nil ?_; conv => whnf) | (refine AW.seq ?_; conv => whnf) | (refine AW.region ?_; conv => whnf) | (refine AW.cond ?_; conv => whnf) | (refine AW.block ?_; conv => whnf) | (refine AW.loop ?_; conv => whnf) | (refine AW.skip ?_; conv => whnf) | (refine AW.exit ?_; conv => whnf) | (refine AW.ret ?_; conv => whnf) | (refine AF.one hT rfl ?_; conv => whnf) | (refine AF.nil ?_; conv => whnf) | (refine AF.imm hT rfl rfl rfl ?_; conv => whnf) | (refine AH.of hT rfl ?_; conv => whnf) | (refine ASplit.yes rfl ?_; conv => whnf) | (refine ACond.yes rfl ?_; conv => whnf) | (refine ASplit.no rfl ?_; conv => whnf) | (refine ACond.no rfl ?_; conv => whnf) | (refine ASplit.yes (by decide) ?_; conv => whnf) | (refine ACond.yes (by decide) ?_; conv => whnf) | (refine AReq.mk (by decide) ?_; conv => whnf) | (refine AIdx.iff.2 ⟨by decide, ?_⟩; conv => whnf) | (refine ACall.val (by kernel_rfl) f18 rfl rfl ?_; conv => whnf))
    exact hfin
  conv => whnf
  repeat (first | (refine AW.plan (id := 18) hm (.one 0 (.one 2 (.one 3 (.one 4 (.one 5 (.one 6 (.one 7 (.one 8 (.one 9 (.one 1 (.one 10 (.one 11 (.one 12 (.one 13 (.one 14 (.one 15 .nil)))))))))))))))) (by kernel_rfl) ?_; conv => whnf) | (refine AW.label ?_; conv => whnf) | (refine AW.scope ?_; conv => whnf) | (refine AO.cons hT ?_; conv => whnf) | (refine AO.nil ?_; conv => whnf) | (refine AW.seq ?_; conv => whnf) | (refine AW.region ?_; conv => whnf) | (refine AW.cond ?_; conv => whnf) | (refine AW.block ?_; conv => whnf) | (refine AW.loop ?_; conv => whnf) | (refine AW.skip ?_; conv => whnf) | (refine AW.exit ?_; conv => whnf) | (refine AW.ret ?_; conv => whnf) | (refine AF.one hT rfl ?_; conv => whnf) | (refine AF.nil ?_; conv => whnf) | (refine AF.imm hT rfl rfl rfl ?_; conv => whnf) | (refine AH.of hT rfl ?_; conv => whnf) | (refine ASplit.yes rfl ?_; conv => whnf) | (refine ACond.yes rfl ?_; conv => whnf) | (refine ASplit.no rfl ?_; conv => whnf) | (refine ACond.no rfl ?_; conv => whnf) | (refine ASplit.yes (by decide) ?_; conv => whnf) | (refine ACond.yes (by decide) ?_; conv => whnf) | (refine AReq.mk (by decide) ?_; conv => whnf) | (refine AIdx.iff.2 ⟨by decide, ?_⟩; conv => whnf) | (refine ACall.val (by kernel_rfl) f18 rfl rfl ?_; conv => whnf))
  refine callNew 200 (by decide) (by decide) ?_
  simp only [List.length_cons, List.length_nil, Nat.zero_add, List.nil_append, List.cons_append, List.set_cons_zero, List.set_cons_succ]
  have K0 := kr_new
  generalize newD 200 = y0 at *
  conv => whnf
  repeat (first | (refine AW.plan (id := 18) hm (.one 0 (.one 2 (.one 3 (.one 4 (.one 5 (.one 6 (.one 7 (.one 8 (.one 9 (.one 1 (.one 10 (.one 11 (.one 12 (.one 13 (.one 14 (.one 15 .nil)))))))))))))))) (by kernel_rfl) ?_; conv => whnf) | (refine AW.label ?_; conv => whnf) | (refine AW.scope ?_; conv => whnf) | (refine AO.cons hT ?_; conv => whnf) | (refine AO.nil ?_; conv => whnf) | (refine AW.seq ?_; conv => whnf) | (refine AW.region ?_; conv => whnf) | (refine AW.cond ?_; conv => whnf) | (refine AW.block ?_; conv => whnf) | (refine AW.loop ?_; conv => whnf) | (refine AW.skip ?_; conv => whnf) | (refine AW.exit ?_; conv => whnf) | (refine AW.ret ?_; conv => whnf) | (refine AF.one hT rfl ?_; conv => whnf) | (refine AF.nil ?_; conv => whnf) | (refine AF.imm hT rfl rfl rfl ?_; conv => whnf) | (refine AH.of hT rfl ?_; conv => whnf) | (refine ASplit.yes rfl ?_; conv => whnf) | (refine ACond.yes rfl ?_; conv => whnf) | (refine ASplit.no rfl ?_; conv => whnf) | (refine ACond.no rfl ?_; conv => whnf) | (refine ASplit.yes (by decide) ?_; conv => whnf) | (refine ACond.yes (by decide) ?_; conv => whnf) | (refine AReq.mk (by decide) ?_; conv => whnf) | (refine AIdx.iff.2 ⟨by decide, ?_⟩; conv => whnf) | (refine ACall.val (by kernel_rfl) f18 rfl rfl ?_; conv => whnf))
  have hpo : VD.pcs old.size ≤ 33 := by unfold VD.pcs; omega
  refine ALoop.mk (fun j E H => ∃ (i : Nat) (y : Dd) (bs : List Nat) (ck : Nat), i ≤ 4 ∧ j = 4 - i ∧ Kr y ∧
      E = pad [.vs 1 l.length (l.map VD.sV), sV old, .agg (armC ⟨after, c⟩), .any, .any, .ptr 0 0, .v (.bool false), .ptr 1 0, nV 0, .ptr 4 0, nV i] 233 ∧ H = [.cells 56 (armC ⟨after, c⟩), dD 2 3 y, dC y, dM y bs ck, .cells 43 [nV 0, nV 200]])
    (n := 4) _ _ ⟨0, y0, [], 0, by omega, rfl, K0, rfl, rfl⟩ (Conv.fit ?_) ?_
  · repeat' (first | exact Fit.nil | refine Fit.any ?_ | refine Fit.same ?_)
  rintro _ _ _ ⟨i, y, bs, ck, hi, rfl, hK, rfl, rfl⟩
  conv => whnf
  repeat ((first | refine AW.plan (id := 18) hm (.one 0 (.one 2 (.one 3 (.one 4 (.one 5 (.one 6 (.one 7 (.one 8 (.one 9 (.one 1 (.one 10 (.one 11 (.one 12 (.one 13 (.one 14 (.one 15 .nil)))))))))))))))) (by kernel_rfl) ?_ | refine AO.cons hT ?_ | refine AO.nil ?_ | refine AW.seq ?_ | refine AW.region ?_ | refine AW.cond ?_ | refine AW.block ?_ | refine AW.loop ?_ | refine AW.skip ?_ | refine AW.exit ?_ | refine AW.ret ?_ | refine AW.label ?_ | refine AW.scope ?_ | refine AF.one hT rfl ?_ | refine AF.nil ?_ | refine AF.imm hT rfl rfl rfl ?_ | refine AH.of hT rfl ?_ | refine AD.cons hT rfl ?_ | refine AD.nil ?_ | refine AQ.cons hT rfl ?_ | refine AQ.nil ?_ | (refine ACall.val (by kernel_rfl) f18 rfl rfl ?_)); conv => whnf)
  refine ACond.dec (fun g5 => ?_) (fun g5 => ?_)
  · have hm : VD.mayF (1 : Nat) (i + 1 : Nat) old.size = 0 := may_ok (by decide) (by decide) (by omega) (by omega)
    have h26 := VD.f26 (1 : Nat) (i + 1 : Nat) old (by omega)
    rw [VD.fputF_ok hm] at h26
    have hsz := VD.fputB_size 1 (i + 1) old
    have h27 := f27 y hK.ok ((37 * i : Nat) : Int) (VD.fputB 1 (i + 1) old) (nOk_of (by omega) (by omega)) (by omega)
    have K1 := kr_write hK (37 * i) (i + 1) old (by omega)
    generalize VD.fputB 1 (i + 1) old = X at *
    generalize writeF y ((37 * i : Nat) : Int) X = r1 at *
    obtain ⟨y1, r1⟩ := r1
    simp only at K1 h27
    conv => whnf
    repeat ((first | refine AW.plan (id := 18) hm (.one 0 (.one 2 (.one 3 (.one 4 (.one 5 (.one 6 (.one 7 (.one 8 (.one 9 (.one 1 (.one 10 (.one 11 (.one 12 (.one 13 (.one 14 (.one 15 .nil)))))))))))))))) (by kernel_rfl) ?_ | refine AO.cons hT ?_ | refine AO.nil ?_ | refine AW.seq ?_ | refine AW.region ?_ | refine AW.cond ?_ | refine AW.block ?_ | refine AW.loop ?_ | refine AW.skip ?_ | refine AW.exit ?_ | refine AW.ret ?_ | refine AW.label ?_ | refine AW.scope ?_ | refine AF.one hT rfl ?_ | refine AF.nil ?_ | refine AF.imm hT rfl rfl rfl ?_ | refine AH.of hT rfl ?_ | refine AD.cons hT rfl ?_ | refine AD.nil ?_ | refine AQ.cons hT rfl ?_ | refine AQ.nil ?_ | (refine ACall.val (by kernel_rfl) f18 rfl rfl ?_)); conv => whnf)
    rw [wrap_i64' (n := (i : Int) + 1) (by omega) (by omega)]
    refine ACall.val (by kernel_rfl) h26 rfl rfl ?_
    conv => whnf
    repeat ((first | refine AW.plan (id := 18) hm (.one 0 (.one 2 (.one 3 (.one 4 (.one 5 (.one 6 (.one 7 (.one 8 (.one 9 (.one 1 (.one 10 (.one 11 (.one 12 (.one 13 (.one 14 (.one 15 .nil)))))))))))))))) (by kernel_rfl) ?_ | refine AO.cons hT ?_ | refine AO.nil ?_ | refine AW.seq ?_ | refine AW.region ?_ | refine AW.cond ?_ | refine AW.block ?_ | refine AW.loop ?_ | refine AW.skip ?_ | refine AW.exit ?_ | refine AW.ret ?_ | refine AW.label ?_ | refine AW.scope ?_ | refine AF.one hT rfl ?_ | refine AF.nil ?_ | refine AF.imm hT rfl rfl rfl ?_ | refine AH.of hT rfl ?_ | refine AD.cons hT rfl ?_ | refine AD.nil ?_ | refine AQ.cons hT rfl ?_ | refine AQ.nil ?_ | (refine ACall.val (by kernel_rfl) f18 rfl rfl ?_)); conv => whnf)
    refine ACond.yes rfl ?_
    conv => whnf
    repeat ((first | refine AW.plan (id := 18) hm (.one 0 (.one 2 (.one 3 (.one 4 (.one 5 (.one 6 (.one 7 (.one 8 (.one 9 (.one 1 (.one 10 (.one 11 (.one 12 (.one 13 (.one 14 (.one 15 .nil)))))))))))))))) (by kernel_rfl) ?_ | refine AO.cons hT ?_ | refine AO.nil ?_ | refine AW.seq ?_ | refine AW.region ?_ | refine AW.cond ?_ | refine AW.block ?_ | refine AW.loop ?_ | refine AW.skip ?_ | refine AW.exit ?_ | refine AW.ret ?_ | refine AW.label ?_ | refine AW.scope ?_ | refine AF.one hT rfl ?_ | refine AF.nil ?_ | refine AF.imm hT rfl rfl rfl ?_ | refine AH.of hT rfl ?_ | refine AD.cons hT rfl ?_ | refine AD.nil ?_ | refine AQ.cons hT rfl ?_ | refine AQ.nil ?_ | (refine ACall.val (by kernel_rfl) f18 rfl rfl ?_)); conv => whnf)
    rw [wrap_i64' (n := 37 * (i : Int)) (by omega) (by omega)]
    refine ACall.dev (by kernel_rfl) h27 rfl rfl rfl (by decide) (fun _ => rfl) (by rintro _ _ ⟨rfl, _⟩ _; rfl) ?_
    rintro _ yy bs1 ck1 ⟨rfl, hyy⟩
    rw [hyy]
    simp only [List.length_nil, Nat.zero_add, List.nil_append, List.set_cons_zero, List.set_cons_succ]
    conv => whnf
    repeat ((first | refine AW.plan (id := 18) hm (.one 0 (.one 2 (.one 3 (.one 4 (.one 5 (.one 6 (.one 7 (.one 8 (.one 9 (.one 1 (.one 10 (.one 11 (.one 12 (.one 13 (.one 14 (.one 15 .nil)))))))))))))))) (by kernel_rfl) ?_ | refine AO.cons hT ?_ | refine AO.nil ?_ | refine AW.seq ?_ | refine AW.region ?_ | refine AW.cond ?_ | refine AW.block ?_ | refine AW.loop ?_ | refine AW.skip ?_ | refine AW.exit ?_ | refine AW.ret ?_ | refine AW.label ?_ | refine AW.scope ?_ | refine AF.one hT rfl ?_ | refine AF.nil ?_ | refine AF.imm hT rfl rfl rfl ?_ | refine AH.of hT rfl ?_ | refine AD.cons hT rfl ?_ | refine AD.nil ?_ | refine AQ.cons hT rfl ?_ | refine AQ.nil ?_ | (refine ACall.val (by kernel_rfl) f18 rfl rfl ?_)); conv => whnf)
    rw [wrap_i64' (n := (i : Int) + 1) (by omega) (by omega)]
    refine AHead.mk (4 - (i + 1)) (pad [.vs 1 l.length (l.map VD.sV), sV old, .agg (armC ⟨after, c⟩), .any, .any, .ptr 0 0, .v (.bool false), .ptr 1 0, nV 0, .ptr 4 0, nV (i + 1 : Nat)] 233) _ (by omega) ⟨i + 1, y1, bs1, ck1, by omega, rfl, K1, rfl, rfl⟩ (Conv.fit ?_)
    repeat' (first | exact Fit.nil | refine Fit.any ?_ | refine Fit.same ?_)
  obtain rfl : i = 4 := by omega
  conv => whnf
  repeat ((first | refine AW.plan (id := 18) hm (.one 0 (.one 2 (.one 3 (.one 4 (.one 5 (.one 6 (.one 7 (.one 8 (.one 9 (.one 1 (.one 10 (.one 11 (.one 12 (.one 13 (.one 14 (.one 15 .nil)))))))))))))))) (by kernel_rfl) ?_ | refine AO.cons hT ?_ | refine AO.nil ?_ | refine AW.seq ?_ | refine AW.region ?_ | refine AW.cond ?_ | refine AW.block ?_ | refine AW.loop ?_ | refine AW.skip ?_ | refine AW.exit ?_ | refine AW.ret ?_ | refine AW.label ?_ | refine AW.scope ?_ | refine AF.one hT rfl ?_ | refine AF.nil ?_ | refine AF.imm hT rfl rfl rfl ?_ | refine AH.of hT rfl ?_ | refine AD.cons hT rfl ?_ | refine AD.nil ?_ | refine AQ.cons hT rfl ?_ | refine AQ.nil ?_ | (refine ACall.val (by kernel_rfl) f18 rfl rfl ?_)); conv => whnf)
  refine AOut.stay ?_
  conv => whnf
  repeat ((first | refine AW.plan (id := 18) hm (.one 0 (.one 2 (.one 3 (.one 4 (.one 5 (.one 6 (.one 7 (.one 8 (.one 9 (.one 1 (.one 10 (.one 11 (.one 12 (.one 13 (.one 14 (.one 15 .nil)))))))))))))))) (by kernel_rfl) ?_ | refine AO.cons hT ?_ | refine AO.nil ?_ | refine AW.seq ?_ | refine AW.region ?_ | refine AW.cond ?_ | refine AW.block ?_ | refine AW.loop ?_ | refine AW.skip ?_ | refine AW.exit ?_ | refine AW.ret ?_ | refine AW.label ?_ | refine AW.scope ?_ | refine AF.one hT rfl ?_ | refine AF.nil ?_ | refine AF.imm hT rfl rfl rfl ?_ | refine AH.of hT rfl ?_ | refine AD.cons hT rfl ?_ | refine AD.nil ?_ | refine AQ.cons hT rfl ?_ | refine AQ.nil ?_ | (refine ACall.val (by kernel_rfl) f18 rfl rfl ?_)); conv => whnf)
  refine ACall.dev (by kernel_rfl) (f28 y hK.ok.pos) rfl rfl rfl (by decide) (fun _ => rfl) (by rintro _ _ ⟨rfl, _⟩ _; rfl) ?_
  rintro _ yy bs1 ck1 ⟨rfl, hyy⟩
  rw [hyy]
  simp only [List.length_nil, Nat.zero_add, List.nil_append, List.set_cons_zero, List.set_cons_succ]
  have KQ := kr_flush hK
  generalize flushD y = y0 at *
  generalize y.cs = cs0 at *
  conv => whnf
  repeat (first | (refine AW.plan (id := 18) hm (.one 0 (.one 2 (.one 3 (.one 4 (.one 5 (.one 6 (.one 7 (.one 8 (.one 9 (.one 1 (.one 10 (.one 11 (.one 12 (.one 13 (.one 14 (.one 15 .nil)))))))))))))))) (by kernel_rfl) ?_; conv => whnf) | (refine AW.label ?_; conv => whnf) | (refine AW.scope ?_; conv => whnf) | (refine AO.cons hT ?_; conv => whnf) | (refine AO.nil ?_; conv => whnf) | (refine AW.seq ?_; conv => whnf) | (refine AW.region ?_; conv => whnf) | (refine AW.cond ?_; conv => whnf) | (refine AW.block ?_; conv => whnf) | (refine AW.loop ?_; conv => whnf) | (refine AW.skip ?_; conv => whnf) | (refine AW.exit ?_; conv => whnf) | (refine AW.ret ?_; conv => whnf) | (refine AF.one hT rfl ?_; conv => whnf) | (refine AF.nil ?_; conv => whnf) | (refine AF.imm hT rfl rfl rfl ?_; conv => whnf) | (refine AH.of hT rfl ?_; conv => whnf) | (refine ASplit.yes rfl ?_; conv => whnf) | (refine ACond.yes rfl ?_; conv => whnf) | (refine ASplit.no rfl ?_; conv => whnf) | (refine ACond.no rfl ?_; conv => whnf) | (refine ASplit.yes (by decide) ?_; conv => whnf) | (refine ACond.yes (by decide) ?_; conv => whnf) | (refine AReq.mk (by decide) ?_; conv => whnf) | (refine AIdx.iff.2 ⟨by decide, ?_⟩; conv => whnf) | (refine ACall.val (by kernel_rfl) f18 rfl rfl ?_; conv => whnf))
  refine ALoop.mk (fun j E H => ∃ (i : Nat) (y : Dd) (cs : List UInt8) (bs : List Nat) (ck : Nat), i + 1 ≤ l.length ∧ j = l.length - i ∧ Kq y cs (l.take i) (atF l i) ∧
      E = pad [.vs 1 l.length (l.map VD.sV), sV old, .agg (armC ⟨after, c⟩), .any, .any, .ptr 0 0, .v (.bool false), .ptr 1 0, nV 0, .ptr 4 0, .any, .any, .any, nV (atF l i : Nat), nV i] 233 ∧ H = [.cells 56 (armC ⟨after, c⟩), dD 2 3 y, dC y, dM y bs ck, .cells 43 [nV 0, nV 200]])
    (n := l.length) _ _ ⟨0, y0, cs0, bs1, ck1, by omega, rfl, KQ, rfl, rfl⟩ (Conv.fit ?_) ?_
  · repeat' (first | exact Fit.nil | refine Fit.any ?_ | refine Fit.same ?_)
  clear KQ hyy hK K0
  rintro _ _ _ ⟨i, y, cs, bs, ck, hi, rfl, hK, rfl, rfl⟩
  conv => whnf
  repeat ((first | refine AW.plan (id := 18) hm (.one 0 (.one 2 (.one 3 (.one 4 (.one 5 (.one 6 (.one 7 (.one 8 (.one 9 (.one 1 (.one 10 (.one 11 (.one 12 (.one 13 (.one 14 (.one 15 .nil)))))))))))))))) (by kernel_rfl) ?_ | refine AO.cons hT ?_ | refine AO.nil ?_ | refine AW.seq ?_ | refine AW.region ?_ | refine AW.cond ?_ | refine AW.block ?_ | refine AW.loop ?_ | refine AW.skip ?_ | refine AW.exit ?_ | refine AW.ret ?_ | refine AW.label ?_ | refine AW.scope ?_ | refine AF.one hT rfl ?_ | refine AF.nil ?_ | refine AF.imm hT rfl rfl rfl ?_ | refine AH.of hT rfl ?_ | refine AD.cons hT rfl ?_ | refine AD.nil ?_ | refine AQ.cons hT rfl ?_ | refine AQ.nil ?_ | (refine ACall.val (by kernel_rfl) f18 rfl rfl ?_)); conv => whnf)
  rw [wrap_i64' (n := (i : Int) + 1) (by omega) (by omega)]
  have hil : i < l.length := by omega
  have hsz := hs2.2 l[i] (List.getElem_mem hil)
  have hle := atF_le l hs2.2 (i + 1) (by omega)
  have hsu := atF_succ l i hil
  have htl : (l.take i).length = i := by rw [List.length_take]; omega
  have hmay : VD.mayF 2 ((l.take i).length + 1 : Nat) l[i].size = 0 := may_ok (e := 2) (by decide) (by decide) (by omega) (by omega)
  refine ACond.dec (fun g5 => ?_) (fun g5 => ?_)
  · obtain ⟨a1, K1⟩ := app_kq hK l[i] hmay (by omega)
    have s1 := f20 y hK.cl.ok 0 200 (atF l i : Nat) 2 (((l.take i).length + 1 : Nat) : Int) l[i] rfl rfl (by decide) (nOk_of (by omega) (by omega)) (by omega)
    generalize appF y 0 200 (atF l i : Nat) 2 (((l.take i).length + 1 : Nat) : Int) l[i] = r1 at *
    obtain ⟨r1, y1⟩ := r1
    simp only at a1 K1 s1
    subst a1
    rw [htl] at s1
    conv => whnf
    repeat ((first | refine AW.plan (id := 18) hm (.one 0 (.one 2 (.one 3 (.one 4 (.one 5 (.one 6 (.one 7 (.one 8 (.one 9 (.one 1 (.one 10 (.one 11 (.one 12 (.one 13 (.one 14 (.one 15 .nil)))))))))))))))) (by kernel_rfl) ?_ | refine AO.cons hT ?_ | refine AO.nil ?_ | refine AW.seq ?_ | refine AW.region ?_ | refine AW.cond ?_ | refine AW.block ?_ | refine AW.loop ?_ | refine AW.skip ?_ | refine AW.exit ?_ | refine AW.ret ?_ | refine AW.label ?_ | refine AW.scope ?_ | refine AF.one hT rfl ?_ | refine AF.nil ?_ | refine AF.imm hT rfl rfl rfl ?_ | refine AH.of hT rfl ?_ | refine AD.cons hT rfl ?_ | refine AD.nil ?_ | refine AQ.cons hT rfl ?_ | refine AQ.nil ?_ | (refine ACall.val (by kernel_rfl) f18 rfl rfl ?_) | (refine AReq.mk ⟨by omega, by omega⟩ ?_) | (refine AIdx.map1 hil ?_)); conv => whnf)
    rw [wrap_i64' (n := (i : Int) + 1) (by omega) (by omega)]
    refine ACall.dev (by kernel_rfl) s1 rfl rfl rfl (by decide) (fun _ => rfl) (by rintro _ _ ⟨rfl, _⟩ _; rfl) ?_
    rintro _ yy bs1 ck1 ⟨rfl, hyy⟩
    rw [hyy]
    simp only [List.length_nil, Nat.zero_add, List.nil_append, List.set_cons_zero, List.set_cons_succ]
    conv => whnf
    repeat ((first | refine AW.plan (id := 18) hm (.one 0 (.one 2 (.one 3 (.one 4 (.one 5 (.one 6 (.one 7 (.one 8 (.one 9 (.one 1 (.one 10 (.one 11 (.one 12 (.one 13 (.one 14 (.one 15 .nil)))))))))))))))) (by kernel_rfl) ?_ | refine AO.cons hT ?_ | refine AO.nil ?_ | refine AW.seq ?_ | refine AW.region ?_ | refine AW.cond ?_ | refine AW.block ?_ | refine AW.loop ?_ | refine AW.skip ?_ | refine AW.exit ?_ | refine AW.ret ?_ | refine AW.label ?_ | refine AW.scope ?_ | refine AF.one hT rfl ?_ | refine AF.nil ?_ | refine AF.imm hT rfl rfl rfl ?_ | refine AH.of hT rfl ?_ | refine AD.cons hT rfl ?_ | refine AD.nil ?_ | refine AQ.cons hT rfl ?_ | refine AQ.nil ?_ | (refine ACall.val (by kernel_rfl) f18 rfl rfl ?_) | (refine AReq.mk ⟨by omega, by omega⟩ ?_) | (refine AIdx.map1 hil ?_)); conv => whnf)
    refine ACond.no rfl ?_
    conv => whnf
    repeat ((first | refine AW.plan (id := 18) hm (.one 0 (.one 2 (.one 3 (.one 4 (.one 5 (.one 6 (.one 7 (.one 8 (.one 9 (.one 1 (.one 10 (.one 11 (.one 12 (.one 13 (.one 14 (.one 15 .nil)))))))))))))))) (by kernel_rfl) ?_ | refine AO.cons hT ?_ | refine AO.nil ?_ | refine AW.seq ?_ | refine AW.region ?_ | refine AW.cond ?_ | refine AW.block ?_ | refine AW.loop ?_ | refine AW.skip ?_ | refine AW.exit ?_ | refine AW.ret ?_ | refine AW.label ?_ | refine AW.scope ?_ | refine AF.one hT rfl ?_ | refine AF.nil ?_ | refine AF.imm hT rfl rfl rfl ?_ | refine AH.of hT rfl ?_ | refine AD.cons hT rfl ?_ | refine AD.nil ?_ | refine AQ.cons hT rfl ?_ | refine AQ.nil ?_ | (refine ACall.val (by kernel_rfl) f18 rfl rfl ?_) | (refine AReq.mk ⟨by omega, by omega⟩ ?_) | (refine AIdx.map1 hil ?_)); conv => whnf)
    rw [wrap_i64' (n := (i : Int) + 1) (by omega) (by omega)]
    have K2 : Kq y1 (putC cs (atF l i) (VD.fputB 2 ((List.take i l).length + 1) l[i]).data.toList) (l.take (i + 1)) (atF l (i + 1)) := by
      rw [hsu, List.take_add_one, List.getElem?_eq_getElem hil]
      exact K1
    refine AHead.mk (l.length - (i + 1)) (pad [.vs 1 l.length (l.map VD.sV), sV old, .agg (armC ⟨after, c⟩), .any, .any, .ptr 0 0, .v (.bool false), .ptr 1 0, nV 0, .ptr 4 0, .any, .any, .any, nV (atF l (i + 1) : Nat), nV (i + 1 : Nat)] 233) _ (by omega) ⟨i + 1, y1, _, bs1, ck1, by omega, rfl, K2, rfl, rfl⟩ (Conv.fit ?_)
    rw [hsu]
    repeat' (first | exact Fit.nil | refine Fit.any ?_ | refine Fit.same ?_)
  have hll : l.length = i + 1 := by omega
  conv => whnf
  repeat ((first | refine AW.plan (id := 18) hm (.one 0 (.one 2 (.one 3 (.one 4 (.one 5 (.one 6 (.one 7 (.one 8 (.one 9 (.one 1 (.one 10 (.one 11 (.one 12 (.one 13 (.one 14 (.one 15 .nil)))))))))))))))) (by kernel_rfl) ?_ | refine AO.cons hT ?_ | refine AO.nil ?_ | refine AW.seq ?_ | refine AW.region ?_ | refine AW.cond ?_ | refine AW.block ?_ | refine AW.loop ?_ | refine AW.skip ?_ | refine AW.exit ?_ | refine AW.ret ?_ | refine AW.label ?_ | refine AW.scope ?_ | refine AF.one hT rfl ?_ | refine AF.nil ?_ | refine AF.imm hT rfl rfl rfl ?_ | refine AH.of hT rfl ?_ | refine AD.cons hT rfl ?_ | refine AD.nil ?_ | refine AQ.cons hT rfl ?_ | refine AQ.nil ?_ | (refine ACall.val (by kernel_rfl) f18 rfl rfl ?_) | (refine AReq.mk ⟨by omega, by omega⟩ ?_) | (refine AIdx.map1 hil ?_)); conv => whnf)
  refine AOut.stay ?_
  conv => whnf
  repeat ((first | refine AW.plan (id := 18) hm (.one 0 (.one 2 (.one 3 (.one 4 (.one 5 (.one 6 (.one 7 (.one 8 (.one 9 (.one 1 (.one 10 (.one 11 (.one 12 (.one 13 (.one 14 (.one 15 .nil)))))))))))))))) (by kernel_rfl) ?_ | refine AO.cons hT ?_ | refine AO.nil ?_ | refine AW.seq ?_ | refine AW.region ?_ | refine AW.cond ?_ | refine AW.block ?_ | refine AW.loop ?_ | refine AW.skip ?_ | refine AW.exit ?_ | refine AW.ret ?_ | refine AW.label ?_ | refine AW.scope ?_ | refine AF.one hT rfl ?_ | refine AF.nil ?_ | refine AF.imm hT rfl rfl rfl ?_ | refine AH.of hT rfl ?_ | refine AD.cons hT rfl ?_ | refine AD.nil ?_ | refine AQ.cons hT rfl ?_ | refine AQ.nil ?_ | (refine ACall.val (by kernel_rfl) f18 rfl rfl ?_) | (refine AReq.mk ⟨by omega, by omega⟩ ?_) | (refine AIdx.map1 hil ?_)); conv => whnf)
  have hlen := hK.len
  have hr : readF y 0 200 = (ofL cs, 0) := by
    rw [show readF y 0 200 = (arS cs 0 200, 0) from read_ar (A := 0) (N := 200) hK.cl (by decide) (by rw [hK.n]; decide), ar_all hlen]
  have h29 := f29 y hK.cl.ok 0 200 rfl rfl
  rw [hr] at h29
  refine ACall.dev (by kernel_rfl) h29 rfl rfl rfl (by decide) (fun _ => rfl) (by rintro _ _ ⟨rfl, _⟩ _; rfl) ?_
  rintro _ yy2 bs2 ck2 ⟨rfl, hyy2⟩
  rw [hyy2]
  simp only [List.length_nil, Nat.zero_add, List.nil_append, List.set_cons_zero, List.set_cons_succ]
  conv => whnf
  repeat ((first | refine AW.plan (id := 18) hm (.one 0 (.one 2 (.one 3 (.one 4 (.one 5 (.one 6 (.one 7 (.one 8 (.one 9 (.one 1 (.one 10 (.one 11 (.one 12 (.one 13 (.one 14 (.one 15 .nil)))))))))))))))) (by kernel_rfl) ?_ | refine AO.cons hT ?_ | refine AO.nil ?_ | refine AW.seq ?_ | refine AW.region ?_ | refine AW.cond ?_ | refine AW.block ?_ | refine AW.loop ?_ | refine AW.skip ?_ | refine AW.exit ?_ | refine AW.ret ?_ | refine AW.label ?_ | refine AW.scope ?_ | refine AF.one hT rfl ?_ | refine AF.nil ?_ | refine AF.imm hT rfl rfl rfl ?_ | refine AH.of hT rfl ?_ | refine AD.cons hT rfl ?_ | refine AD.nil ?_ | refine AQ.cons hT rfl ?_ | refine AQ.nil ?_ | (refine ACall.val (by kernel_rfl) f18 rfl rfl ?_) | (refine AReq.mk ⟨by omega, by omega⟩ ?_) | (refine AIdx.map1 hil ?_)); conv => whnf)
  refine callCopy hK.cl.ok (fun bs3 ck3 bs4 ck4 => ?_)
  conv => whnf
  repeat ((first | refine AW.plan (id := 18) hm (.one 0 (.one 2 (.one 3 (.one 4 (.one 5 (.one 6 (.one 7 (.one 8 (.one 9 (.one 1 (.one 10 (.one 11 (.one 12 (.one 13 (.one 14 (.one 15 .nil)))))))))))))))) (by kernel_rfl) ?_ | refine AO.cons hT ?_ | refine AO.nil ?_ | refine AW.seq ?_ | refine AW.region ?_ | refine AW.cond ?_ | refine AW.block ?_ | refine AW.loop ?_ | refine AW.skip ?_ | refine AW.exit ?_ | refine AW.ret ?_ | refine AW.label ?_ | refine AW.scope ?_ | refine AF.one hT rfl ?_ | refine AF.nil ?_ | refine AF.imm hT rfl rfl rfl ?_ | refine AH.of hT rfl ?_ | refine AD.cons hT rfl ?_ | refine AD.nil ?_ | refine AQ.cons hT rfl ?_ | refine AQ.nil ?_ | (refine ACall.val (by kernel_rfl) f18 rfl rfl ?_) | (refine AReq.mk ⟨by omega, by omega⟩ ?_) | (refine AIdx.map1 hil ?_)); conv => whnf)
  have hwi : IntKind.wrap .i64 ((l.length : Int) - 1) = i := by rw [wrap_i64' (by omega) (by omega)]; omega
  rw [hwi]
  refine AReq.mk ⟨by omega, by omega⟩ ?_
  refine AIdx.map1 hil ?_
  conv => whnf
  repeat ((first | refine AW.plan (id := 18) hm (.one 0 (.one 2 (.one 3 (.one 4 (.one 5 (.one 6 (.one 7 (.one 8 (.one 9 (.one 1 (.one 10 (.one 11 (.one 12 (.one 13 (.one 14 (.one 15 .nil)))))))))))))))) (by kernel_rfl) ?_ | refine AO.cons hT ?_ | refine AO.nil ?_ | refine AW.seq ?_ | refine AW.region ?_ | refine AW.cond ?_ | refine AW.block ?_ | refine AW.loop ?_ | refine AW.skip ?_ | refine AW.exit ?_ | refine AW.ret ?_ | refine AW.label ?_ | refine AW.scope ?_ | refine AF.one hT rfl ?_ | refine AF.nil ?_ | refine AF.imm hT rfl rfl rfl ?_ | refine AH.of hT rfl ?_ | refine AD.cons hT rfl ?_ | refine AD.nil ?_ | refine AQ.cons hT rfl ?_ | refine AQ.nil ?_ | (refine ACall.val (by kernel_rfl) f18 rfl rfl ?_) | (refine AReq.mk ⟨by omega, by omega⟩ ?_) | (refine AIdx.map1 hil ?_)); conv => whnf)
  conv => whnf
  repeat (first | (refine AW.plan (id := 18) hm (.one 0 (.one 2 (.one 3 (.one 4 (.one 5 (.one 6 (.one 7 (.one 8 (.one 9 (.one 1 (.one 10 (.one 11 (.one 12 (.one 13 (.one 14 (.one 15 .nil)))))))))))))))) (by kernel_rfl) ?_; conv => whnf) | (refine AW.label ?_; conv => whnf) | (refine AW.scope ?_; conv => whnf) | (refine AO.cons hT ?_; conv => whnf) | (refine AO.nil ?_; conv => whnf) | (refine AW.seq ?_; conv => whnf) | (refine AW.region ?_; conv => whnf) | (refine AW.cond ?_; conv => whnf) | (refine AW.block ?_; conv => whnf) | (refine AW.loop ?_; conv => whnf) | (refine AW.skip ?_; conv => whnf) | (refine AW.exit ?_; conv => whnf) | (refine AW.ret ?_; conv => whnf) | (refine AF.one hT rfl ?_; conv => whnf) | (refine AF.nil ?_; conv => whnf) | (refine AF.imm hT rfl rfl rfl ?_; conv => whnf) | (refine AH.of hT rfl ?_; conv => whnf) | (refine ASplit.yes rfl ?_; conv => whnf) | (refine ACond.yes rfl ?_; conv => whnf) | (refine ASplit.no rfl ?_; conv => whnf) | (refine ACond.no rfl ?_; conv => whnf) | (refine ASplit.yes (by decide) ?_; conv => whnf) | (refine ACond.yes (by decide) ?_; conv => whnf) | (refine AReq.mk (by decide) ?_; conv => whnf) | (refine AIdx.iff.2 ⟨by decide, ?_⟩; conv => whnf) | (refine ACall.val (by kernel_rfl) f18 rfl rfl ?_; conv => whnf) | (refine AReq.mk ⟨by omega, by omega⟩ ?_; conv => whnf) | (refine AIdx.map1 hil ?_; conv => whnf))
  have h31 : DSpec 31 [nV after] y (fun r y1 => r = nV 0 ∧ y1 = { y with a := after }) := by
    have h := f31 y after hK.cl.ok.pos
    have g4' : ¬ after < 1 := g4
    have hyf : ¬ y.f = true := by rw [hK.cl.f]; decide
    intro b1 c1
    refine (h b1 c1).mono ?_
    rintro r H ⟨y1, b2, c2, ⟨e1, e2⟩, e3⟩
    refine ⟨y1, b2, c2, ⟨?_, ?_⟩, e3⟩
    · rw [e1, if_neg hyf, if_neg g4']
    · rw [e2, if_neg hyf, if_neg g4']
  refine ACall.dev (by kernel_rfl) h31 rfl rfl rfl (by decide) (fun _ => rfl) (by rintro _ _ ⟨rfl, _⟩ _; rfl) ?_
  rintro _ yy3 bs5 ck5 ⟨rfl, hyy3⟩
  rw [hyy3]
  simp only [List.length_nil, Nat.zero_add, List.nil_append, List.set_cons_zero, List.set_cons_succ]
  conv => whnf
  repeat (first | (refine AW.plan (id := 18) hm (.one 0 (.one 2 (.one 3 (.one 4 (.one 5 (.one 6 (.one 7 (.one 8 (.one 9 (.one 1 (.one 10 (.one 11 (.one 12 (.one 13 (.one 14 (.one 15 .nil)))))))))))))))) (by kernel_rfl) ?_; conv => whnf) | (refine AW.label ?_; conv => whnf) | (refine AW.scope ?_; conv => whnf) | (refine AO.cons hT ?_; conv => whnf) | (refine AO.nil ?_; conv => whnf) | (refine AW.seq ?_; conv => whnf) | (refine AW.region ?_; conv => whnf) | (refine AW.cond ?_; conv => whnf) | (refine AW.block ?_; conv => whnf) | (refine AW.loop ?_; conv => whnf) | (refine AW.skip ?_; conv => whnf) | (refine AW.exit ?_; conv => whnf) | (refine AW.ret ?_; conv => whnf) | (refine AF.one hT rfl ?_; conv => whnf) | (refine AF.nil ?_; conv => whnf) | (refine AF.imm hT rfl rfl rfl ?_; conv => whnf) | (refine AH.of hT rfl ?_; conv => whnf) | (refine ASplit.yes rfl ?_; conv => whnf) | (refine ACond.yes rfl ?_; conv => whnf) | (refine ASplit.no rfl ?_; conv => whnf) | (refine ACond.no rfl ?_; conv => whnf) | (refine ASplit.yes (by decide) ?_; conv => whnf) | (refine ACond.yes (by decide) ?_; conv => whnf) | (refine AReq.mk (by decide) ?_; conv => whnf) | (refine AIdx.iff.2 ⟨by decide, ?_⟩; conv => whnf) | (refine ACall.val (by kernel_rfl) f18 rfl rfl ?_; conv => whnf) | (refine AReq.mk ⟨by omega, by omega⟩ ?_; conv => whnf) | (refine AIdx.map1 hil ?_; conv => whnf))
  obtain ⟨a1, K1⟩ := app_kq hK l[i] hmay (by omega)
  have s1 := f20 y hK.cl.ok 0 200 (atF l i : Nat) 2 (((l.take i).length + 1 : Nat) : Int) l[i] rfl rfl (by decide) (nOk_of (by omega) (by omega)) (by omega)
  generalize appF y 0 200 (atF l i : Nat) 2 (((l.take i).length + 1 : Nat) : Int) l[i] = r1 at *
  obtain ⟨r1, y1⟩ := r1
  simp only at a1 K1 s1
  subst a1
  rw [htl, ← hll] at s1
  obtain ⟨d, e, r, hr2, hbt, hdk, hdn, hdf, hlaw⟩ := fall_law hK l[i] hmay (by omega) after c
  have s2 := f20 { y with a := after } (arm_ok hK.cl.ok after) 0 200 (atF l i : Nat) 2 (((l.take i).length + 1 : Nat) : Int) l[i] rfl rfl (by decide) (nOk_of (by omega) (by omega)) (by omega)
  have hok2 := (app_ok (arm_ok hK.cl.ok after) 0 200 (atF l i : Nat) 2 (((l.take i).length + 1 : Nat) : Int) l[i])
  generalize { y with a := after } = ya at *
  generalize appF ya 0 200 (atF l i : Nat) 2 (((l.take i).length + 1 : Nat) : Int) l[i] = r2 at *
  obtain ⟨r2, y2⟩ := r2
  simp only at hr2 hbt s2 hok2
  subst hr2
  rw [htl, ← hll] at s2
  refine ACall.dev (by kernel_rfl) s1 rfl rfl rfl (by decide) (fun _ => rfl) (by rintro _ _ ⟨rfl, _⟩ _; rfl) ?_
  rintro _ yy4 bs6 ck6 ⟨rfl, hyy4⟩
  rw [hyy4]
  simp only [List.length_nil, Nat.zero_add, List.nil_append, List.set_cons_zero, List.set_cons_succ]
  conv => whnf
  repeat ((first | refine AW.plan (id := 18) hm (.one 0 (.one 2 (.one 3 (.one 4 (.one 5 (.one 6 (.one 7 (.one 8 (.one 9 (.one 1 (.one 10 (.one 11 (.one 12 (.one 13 (.one 14 (.one 15 .nil)))))))))))))))) (by kernel_rfl) ?_ | refine AO.cons hT ?_ | refine AO.nil ?_ | refine AW.seq ?_ | refine AW.region ?_ | refine AW.cond ?_ | refine AW.block ?_ | refine AW.loop ?_ | refine AW.skip ?_ | refine AW.exit ?_ | refine AW.ret ?_ | refine AW.label ?_ | refine AW.scope ?_ | refine AF.one hT rfl ?_ | refine AF.nil ?_ | refine AF.imm hT rfl rfl rfl ?_ | refine AH.of hT rfl ?_ | refine AD.cons hT rfl ?_ | refine AD.nil ?_ | refine AQ.cons hT rfl ?_ | refine AQ.nil ?_ | (refine ACall.val (by kernel_rfl) f18 rfl rfl ?_) | (refine AReq.mk ⟨by omega, by omega⟩ ?_) | (refine AIdx.map1 hil ?_)); conv => whnf)
  have hr1 : readF y1 0 200 = (ofL (putC cs (atF l i) (VD.fputB 2 ((List.take i l).length + 1) l[i]).data.toList), 0) := by
    rw [show readF y1 0 200 = (arS _ 0 200, 0) from read_ar (A := 0) (N := 200) K1.cl (by decide) (by rw [K1.n]; decide), ar_all K1.len]
  have h29a := f29 y1 K1.cl.ok 0 200 rfl rfl
  rw [hr1] at h29a
  refine ACall.dev (by kernel_rfl) h29a rfl rfl rfl (by decide) (fun _ => rfl) (by rintro _ _ ⟨rfl, _⟩ _; rfl) ?_
  rintro _ yy5 bs7 ck7 ⟨rfl, hyy5⟩
  rw [hyy5]
  simp only [List.length_nil, Nat.zero_add, List.nil_append, List.set_cons_zero, List.set_cons_succ]
  conv => whnf
  repeat ((first | refine AW.plan (id := 18) hm (.one 0 (.one 2 (.one 3 (.one 4 (.one 5 (.one 6 (.one 7 (.one 8 (.one 9 (.one 1 (.one 10 (.one 11 (.one 12 (.one 13 (.one 14 (.one 15 .nil)))))))))))))))) (by kernel_rfl) ?_ | refine AO.cons hT ?_ | refine AO.nil ?_ | refine AW.seq ?_ | refine AW.region ?_ | refine AW.cond ?_ | refine AW.block ?_ | refine AW.loop ?_ | refine AW.skip ?_ | refine AW.exit ?_ | refine AW.ret ?_ | refine AW.label ?_ | refine AW.scope ?_ | refine AF.one hT rfl ?_ | refine AF.nil ?_ | refine AF.imm hT rfl rfl rfl ?_ | refine AH.of hT rfl ?_ | refine AD.cons hT rfl ?_ | refine AD.nil ?_ | refine AQ.cons hT rfl ?_ | refine AQ.nil ?_ | (refine ACall.val (by kernel_rfl) f18 rfl rfl ?_) | (refine AReq.mk ⟨by omega, by omega⟩ ?_) | (refine AIdx.map1 hil ?_)); conv => whnf)
  refine ACall.dev (by kernel_rfl) s2 rfl rfl rfl (by decide) (fun _ => rfl) (by rintro _ _ ⟨rfl, _⟩ _; rfl) ?_
  rintro _ yy6 bs8 ck8 ⟨rfl, hyy6⟩
  rw [hyy6]
  simp only [List.length_nil, Nat.zero_add, List.nil_append, List.set_cons_zero, List.set_cons_succ]
  conv => whnf
  repeat ((first | refine AW.plan (id := 18) hm (.one 0 (.one 2 (.one 3 (.one 4 (.one 5 (.one 6 (.one 7 (.one 8 (.one 9 (.one 1 (.one 10 (.one 11 (.one 12 (.one 13 (.one 14 (.one 15 .nil)))))))))))))))) (by kernel_rfl) ?_ | refine AO.cons hT ?_ | refine AO.nil ?_ | refine AW.seq ?_ | refine AW.region ?_ | refine AW.cond ?_ | refine AW.block ?_ | refine AW.loop ?_ | refine AW.skip ?_ | refine AW.exit ?_ | refine AW.ret ?_ | refine AW.label ?_ | refine AW.scope ?_ | refine AF.one hT rfl ?_ | refine AF.nil ?_ | refine AF.imm hT rfl rfl rfl ?_ | refine AH.of hT rfl ?_ | refine AD.cons hT rfl ?_ | refine AD.nil ?_ | refine AQ.cons hT rfl ?_ | refine AQ.nil ?_ | (refine ACall.val (by kernel_rfl) f18 rfl rfl ?_) | (refine AReq.mk ⟨by omega, by omega⟩ ?_) | (refine AIdx.map1 hil ?_)); conv => whnf)
  refine ACall.dev (by kernel_rfl) (f22 y2 hok2.1.pos) rfl rfl rfl (by decide) (fun _ => rfl) (by rintro _ _ ⟨rfl, _⟩ _; rfl) ?_
  rintro _ yy7 bs9 ck9 ⟨rfl, hyy7⟩
  rw [hyy7]
  have hb := f23 { y2 with f := true, a := 0 } (off_ok hok2.1) c (by have g3' : ¬ (3000 : Int) < (c.keep.length : Int) := g3; omega)
  rw [hbt] at hb
  generalize { y2 with f := true, a := 0 } = yo at *
  simp only [List.length_nil, Nat.zero_add, List.nil_append, List.set_cons_zero, List.set_cons_succ]
  conv => whnf
  repeat (first | (refine AW.plan (id := 18) hm (.one 0 (.one 2 (.one 3 (.one 4 (.one 5 (.one 6 (.one 7 (.one 8 (.one 9 (.one 1 (.one 10 (.one 11 (.one 12 (.one 13 (.one 14 (.one 15 .nil)))))))))))))))) (by kernel_rfl) ?_; conv => whnf) | (refine AW.label ?_; conv => whnf) | (refine AW.scope ?_; conv => whnf) | (refine AO.cons hT ?_; conv => whnf) | (refine AO.nil ?_; conv => whnf) | (refine AW.seq ?_; conv => whnf) | (refine AW.region ?_; conv => whnf) | (refine AW.cond ?_; conv => whnf) | (refine AW.block ?_; conv => whnf) | (refine AW.loop ?_; conv => whnf) | (refine AW.skip ?_; conv => whnf) | (refine AW.exit ?_; conv => whnf) | (refine AW.ret ?_; conv => whnf) | (refine AF.one hT rfl ?_; conv => whnf) | (refine AF.nil ?_; conv => whnf) | (refine AF.imm hT rfl rfl rfl ?_; conv => whnf) | (refine AH.of hT rfl ?_; conv => whnf) | (refine ASplit.yes rfl ?_; conv => whnf) | (refine ACond.yes rfl ?_; conv => whnf) | (refine ASplit.no rfl ?_; conv => whnf) | (refine ACond.no rfl ?_; conv => whnf) | (refine ASplit.yes (by decide) ?_; conv => whnf) | (refine ACond.yes (by decide) ?_; conv => whnf) | (refine AReq.mk (by decide) ?_; conv => whnf) | (refine AIdx.iff.2 ⟨by decide, ?_⟩; conv => whnf) | (refine ACall.val (by kernel_rfl) f18 rfl rfl ?_; conv => whnf) | (refine AReq.mk ⟨by omega, by omega⟩ ?_; conv => whnf) | (refine AIdx.map1 hil ?_; conv => whnf))
  refine ACall.devL (by kernel_rfl) hb rfl rfl rfl (by decide) (.cons (.same (show _ = AV.ren _ (.agg (chC c)) by simp only [AV.ren, chC_ren]; rfl)) .nil) (by rintro _ _ ⟨rfl, _⟩ _; rfl) ?_
  rintro _ yy8 bs10 ck10 ⟨rfl, hyy8⟩
  rw [hyy8]
  simp only [List.length_nil, Nat.zero_add, List.nil_append, List.set_cons_zero, List.set_cons_succ]
  have hdl : d.cs.length = 12800 := by rw [hdk.len, hdn]
  have hrd : readF d 0 200 = (ofL d.cs, 0) := by
    unfold readF
    rw [hdf, hdn, if_neg (by decide), if_neg (by decide), if_pos (by decide)]
    show (ofL ((d.cs.drop 0).take 12800), (0 : Int)) = _
    rw [List.drop_zero, List.take_of_length_le (by omega)]
  have h29d := f29 d hdk 0 200 rfl rfl
  rw [hrd] at h29d
  conv => whnf
  repeat (first | (refine AW.plan (id := 18) hm (.one 0 (.one 2 (.one 3 (.one 4 (.one 5 (.one 6 (.one 7 (.one 8 (.one 9 (.one 1 (.one 10 (.one 11 (.one 12 (.one 13 (.one 14 (.one 15 .nil)))))))))))))))) (by kernel_rfl) ?_; conv => whnf) | (refine AW.label ?_; conv => whnf) | (refine AW.scope ?_; conv => whnf) | (refine AO.cons hT ?_; conv => whnf) | (refine AO.nil ?_; conv => whnf) | (refine AW.seq ?_; conv => whnf) | (refine AW.region ?_; conv => whnf) | (refine AW.cond ?_; conv => whnf) | (refine AW.block ?_; conv => whnf) | (refine AW.loop ?_; conv => whnf) | (refine AW.skip ?_; conv => whnf) | (refine AW.exit ?_; conv => whnf) | (refine AW.ret ?_; conv => whnf) | (refine AF.one hT rfl ?_; conv => whnf) | (refine AF.nil ?_; conv => whnf) | (refine AF.imm hT rfl rfl rfl ?_; conv => whnf) | (refine AH.of hT rfl ?_; conv => whnf) | (refine ASplit.yes rfl ?_; conv => whnf) | (refine ACond.yes rfl ?_; conv => whnf) | (refine ASplit.no rfl ?_; conv => whnf) | (refine ACond.no rfl ?_; conv => whnf) | (refine ASplit.yes (by decide) ?_; conv => whnf) | (refine ACond.yes (by decide) ?_; conv => whnf) | (refine AReq.mk (by decide) ?_; conv => whnf) | (refine AIdx.iff.2 ⟨by decide, ?_⟩; conv => whnf) | (refine ACall.val (by kernel_rfl) f18 rfl rfl ?_; conv => whnf) | (refine AReq.mk ⟨by omega, by omega⟩ ?_; conv => whnf) | (refine AIdx.map1 hil ?_; conv => whnf))
  refine ACall.dev (by kernel_rfl) h29d rfl rfl rfl (by decide) (fun _ => rfl) (by rintro _ _ ⟨rfl, _⟩ _; rfl) ?_
  rintro _ yy9 bs11 ck11 ⟨rfl, hyy9⟩
  rw [hyy9]
  simp only [List.length_nil, Nat.zero_add, List.nil_append, List.set_cons_zero, List.set_cons_succ]
  conv => whnf
  repeat (first | (refine AW.plan (id := 18) hm (.one 0 (.one 2 (.one 3 (.one 4 (.one 5 (.one 6 (.one 7 (.one 8 (.one 9 (.one 1 (.one 10 (.one 11 (.one 12 (.one 13 (.one 14 (.one 15 .nil)))))))))))))))) (by kernel_rfl) ?_; conv => whnf) | (refine AW.label ?_; conv => whnf) | (refine AW.scope ?_; conv => whnf) | (refine AO.cons hT ?_; conv => whnf) | (refine AO.nil ?_; conv => whnf) | (refine AW.seq ?_; conv => whnf) | (refine AW.region ?_; conv => whnf) | (refine AW.cond ?_; conv => whnf) | (refine AW.block ?_; conv => whnf) | (refine AW.loop ?_; conv => whnf) | (refine AW.skip ?_; conv => whnf) | (refine AW.exit ?_; conv => whnf) | (refine AW.ret ?_; conv => whnf) | (refine AF.one hT rfl ?_; conv => whnf) | (refine AF.nil ?_; conv => whnf) | (refine AF.imm hT rfl rfl rfl ?_; conv => whnf) | (refine AH.of hT rfl ?_; conv => whnf) | (refine ASplit.yes rfl ?_; conv => whnf) | (refine ACond.yes rfl ?_; conv => whnf) | (refine ASplit.no rfl ?_; conv => whnf) | (refine ACond.no rfl ?_; conv => whnf) | (refine ASplit.yes (by decide) ?_; conv => whnf) | (refine ACond.yes (by decide) ?_; conv => whnf) | (refine AReq.mk (by decide) ?_; conv => whnf) | (refine AIdx.iff.2 ⟨by decide, ?_⟩; conv => whnf) | (refine ACall.val (by kernel_rfl) f18 rfl rfl ?_; conv => whnf) | (refine AReq.mk ⟨by omega, by omega⟩ ?_; conv => whnf) | (refine AIdx.map1 hil ?_; conv => whnf))
  have hpl := K1.len
  have h32 := f32 (ofL d.cs) (ofL cs) (ofL (putC cs (atF l i) (VD.fputB 2 ((List.take i l).length + 1) l[i]).data.toList)) (atF l i) (by rw [ofL_size]; omega) (by rw [ofL_size]; omega) (by rw [ofL_size]; omega) (by omega)
  refine ACall.val (by kernel_rfl) h32 rfl rfl ?_
  rcases hmx : mixedF (ofL d.cs) (ofL cs) (ofL (putC cs (atF l i) (VD.fputB 2 ((List.take i l).length + 1) l[i]).data.toList)) (atF l i) with _ | _
  rotate_left
  · conv => whnf
    repeat (first | (refine AW.plan (id := 18) hm (.one 0 (.one 2 (.one 3 (.one 4 (.one 5 (.one 6 (.one 7 (.one 8 (.one 9 (.one 1 (.one 10 (.one 11 (.one 12 (.one 13 (.one 14 (.one 15 .nil)))))))))))))))) (by kernel_rfl) ?_; conv => whnf) | (refine AW.label ?_; conv => whnf) | (refine AW.scope ?_; conv => whnf) | (refine AO.cons hT ?_; conv => whnf) | (refine AO.nil ?_; conv => whnf) | (refine AW.seq ?_; conv => whnf) | (refine AW.region ?_; conv => whnf) | (refine AW.cond ?_; conv => whnf) | (refine AW.block ?_; conv => whnf) | (refine AW.loop ?_; conv => whnf) | (refine AW.skip ?_; conv => whnf) | (refine AW.exit ?_; conv => whnf) | (refine AW.ret ?_; conv => whnf) | (refine AF.one hT rfl ?_; conv => whnf) | (refine AF.nil ?_; conv => whnf) | (refine AF.imm hT rfl rfl rfl ?_; conv => whnf) | (refine AH.of hT rfl ?_; conv => whnf) | (refine ASplit.yes rfl ?_; conv => whnf) | (refine ACond.yes rfl ?_; conv => whnf) | (refine ASplit.no rfl ?_; conv => whnf) | (refine ACond.no rfl ?_; conv => whnf) | (refine ASplit.yes (by decide) ?_; conv => whnf) | (refine ACond.yes (by decide) ?_; conv => whnf) | (refine AReq.mk (by decide) ?_; conv => whnf) | (refine AIdx.iff.2 ⟨by decide, ?_⟩; conv => whnf) | (refine ACall.val (by kernel_rfl) f18 rfl rfl ?_; conv => whnf) | (refine AReq.mk ⟨by omega, by omega⟩ ?_; conv => whnf) | (refine AIdx.map1 hil ?_; conv => whnf))
    exact hfin
  rw [hmx] at hlaw
  have hlv : loadV d 0 200 2 = .tup [VD.tV (VD.scanA (ofL d.cs) 2).1, nV (VD.scanA (ofL d.cs) 2).2, nV 0] := by
    unfold loadV
    rw [show checkF d 0 200 = 0 from check_ok (A := 0) (N := 200) (by decide) (by omega), if_neg (by decide), hrd, if_neg (fun e => e rfl)]
  have h24 := f24 d hdk 0 200 2 rfl rfl
  rw [hlv] at h24
  have htake : l.take i ++ [l[i]] = l := by
    have := List.take_add_one (l := l) (i := i)
    rw [List.getElem?_eq_getElem hil] at this
    rw [show [l[i]] = (some l[i]).toList from rfl, ← this, List.take_of_length_le (by omega)]
  have hm2 : (VD.scanA (ofL d.cs) 2).1 = l ∨ e ≠ 0 ∧ (VD.scanA (ofL d.cs) 2).1 = l.take i := by
    rcases hlaw with g | ⟨z', g⟩ | ⟨g0, z', g⟩
    · cases g
    · rw [g]; exact .inl htake
    · rw [g]; exact .inr ⟨g0, rfl⟩
  generalize VD.scanA (ofL d.cs) 2 = sc at *
  obtain ⟨m, z'⟩ := sc
  simp only at hm2 h24
  unfold VD.tV at h24
  conv => whnf
  repeat (first | (refine AW.plan (id := 18) hm (.one 0 (.one 2 (.one 3 (.one 4 (.one 5 (.one 6 (.one 7 (.one 8 (.one 9 (.one 1 (.one 10 (.one 11 (.one 12 (.one 13 (.one 14 (.one 15 .nil)))))))))))))))) (by kernel_rfl) ?_; conv => whnf) | (refine AW.label ?_; conv => whnf) | (refine AW.scope ?_; conv => whnf) | (refine AO.cons hT ?_; conv => whnf) | (refine AO.nil ?_; conv => whnf) | (refine AW.seq ?_; conv => whnf) | (refine AW.region ?_; conv => whnf) | (refine AW.cond ?_; conv => whnf) | (refine AW.block ?_; conv => whnf) | (refine AW.loop ?_; conv => whnf) | (refine AW.skip ?_; conv => whnf) | (refine AW.exit ?_; conv => whnf) | (refine AW.ret ?_; conv => whnf) | (refine AF.one hT rfl ?_; conv => whnf) | (refine AF.nil ?_; conv => whnf) | (refine AF.imm hT rfl rfl rfl ?_; conv => whnf) | (refine AH.of hT rfl ?_; conv => whnf) | (refine ASplit.yes rfl ?_; conv => whnf) | (refine ACond.yes rfl ?_; conv => whnf) | (refine ASplit.no rfl ?_; conv => whnf) | (refine ACond.no rfl ?_; conv => whnf) | (refine ASplit.yes (by decide) ?_; conv => whnf) | (refine ACond.yes (by decide) ?_; conv => whnf) | (refine AReq.mk (by decide) ?_; conv => whnf) | (refine AIdx.iff.2 ⟨by decide, ?_⟩; conv => whnf) | (refine ACall.val (by kernel_rfl) f18 rfl rfl ?_; conv => whnf) | (refine AReq.mk ⟨by omega, by omega⟩ ?_; conv => whnf) | (refine AIdx.map1 hil ?_; conv => whnf))
  refine ACall.dev (by kernel_rfl) h24 rfl rfl rfl (by decide) (fun _ => rfl) (by rintro _ _ ⟨rfl, _⟩ ρ; simp only [AV.ren, renL, VD.texts_ren]) ?_
  rintro _ yy10 bs12 ck12 ⟨rfl, hyy10⟩
  rw [hyy10]
  simp only [List.length_nil, Nat.zero_add, List.nil_append, List.set_cons_zero, List.set_cons_succ]
  have hmt : m = l.take m.length ∧ m.length ≤ l.length := by
    rcases hm2 with g | ⟨_, g⟩
    · rw [g, List.take_length]; exact ⟨rfl, Nat.le_refl _⟩
    · have hq : m.length = i := by rw [g, List.length_take]; omega
      rw [hq]; exact ⟨g, by omega⟩
  have hlm : m.length = l.length ∨ e ≠ 0 ∧ m.length = i := by
    rcases hm2 with g | ⟨g0, g⟩
    · exact .inl (by rw [g])
    · exact .inr ⟨g0, by rw [g, List.length_take]; omega⟩
  have h25 := VD.f25 m (l.take m.length) (by omega) (by rw [List.length_take]; omega)
  unfold VD.tV at h25
  rw [decide_eq_true hmt.1] at h25
  have hq : (l.take m.length).length = m.length := by rw [List.length_take]; omega
  rw [hq] at h25
  have hct : ((l.map VD.sV).drop (0*1)).take (((m.length : Int).toNat - 0) * 1) = (l.take m.length).map VD.sV := by simp [List.map_take]
  have hend : ∀ {k : Nat} {E : List AV} {H : List ABlk}, True := trivial
  rcases hlm with g | ⟨g0, g⟩
  · conv => whnf
    repeat (first | (refine AW.plan (id := 18) hm (.one 0 (.one 2 (.one 3 (.one 4 (.one 5 (.one 6 (.one 7 (.one 8 (.one 9 (.one 1 (.one 10 (.one 11 (.one 12 (.one 13 (.one 14 (.one 15 .nil)))))))))))))))) (by kernel_rfl) ?_; conv => whnf) | (refine AW.label ?_; conv => whnf) | (refine AW.scope ?_; conv => whnf) | (refine AO.cons hT ?_; conv => whnf) | (refine AO.nil ?_; conv => whnf) | (refine AW.seq ?_; conv => whnf) | (refine AW.region ?_; conv => whnf) | (refine AW.cond ?_; conv => whnf) | (refine AW.block ?_; conv => whnf) | (refine AW.loop ?_; conv => whnf) | (refine AW.skip ?_; conv => whnf) | (refine AW.exit ?_; conv => whnf) | (refine AW.ret ?_; conv => whnf) | (refine AF.one hT rfl ?_; conv => whnf) | (refine AF.nil ?_; conv => whnf) | (refine AF.imm hT rfl rfl rfl ?_; conv => whnf) | (refine AH.of hT rfl ?_; conv => whnf) | (refine ASplit.yes rfl ?_; conv => whnf) | (refine ACond.yes rfl ?_; conv => whnf) | (refine ASplit.no rfl ?_; conv => whnf) | (refine ACond.no rfl ?_; conv => whnf) | (refine ASplit.yes (by decide) ?_; conv => whnf) | (refine ACond.yes (by decide) ?_; conv => whnf) | (refine AReq.mk (by decide) ?_; conv => whnf) | (refine AIdx.iff.2 ⟨by decide, ?_⟩; conv => whnf) | (refine ACall.val (by kernel_rfl) f18 rfl rfl ?_; conv => whnf) | (refine AReq.mk ⟨by omega, by omega⟩ ?_; conv => whnf) | (refine AIdx.map1 hil ?_; conv => whnf) | (refine ASplit.yes (by rw [hwi]; simp; omega) ?_; conv => whnf) | (refine ASplit.no (by rw [hwi]; simp; omega) ?_; conv => whnf) | (refine ASplit.yes (by simp; omega) ?_; conv => whnf) | (refine ASplit.no (by simp; omega) ?_; conv => whnf) | (refine AReq.mk ⟨by omega, by omega⟩ ?_; conv => whnf))
    refine ASplit.dec (fun g5 => ?_) (fun g5 => ?_)
    · conv => whnf
      repeat (first | (refine AW.plan (id := 18) hm (.one 0 (.one 2 (.one 3 (.one 4 (.one 5 (.one 6 (.one 7 (.one 8 (.one 9 (.one 1 (.one 10 (.one 11 (.one 12 (.one 13 (.one 14 (.one 15 .nil)))))))))))))))) (by kernel_rfl) ?_; conv => whnf) | (refine AW.label ?_; conv => whnf) | (refine AW.scope ?_; conv => whnf) | (refine AO.cons hT ?_; conv => whnf) | (refine AO.nil ?_; conv => whnf) | (refine AW.seq ?_; conv => whnf) | (refine AW.region ?_; conv => whnf) | (refine AW.cond ?_; conv => whnf) | (refine AW.block ?_; conv => whnf) | (refine AW.loop ?_; conv => whnf) | (refine AW.skip ?_; conv => whnf) | (refine AW.exit ?_; conv => whnf) | (refine AW.ret ?_; conv => whnf) | (refine AF.one hT rfl ?_; conv => whnf) | (refine AF.nil ?_; conv => whnf) | (refine AF.imm hT rfl rfl rfl ?_; conv => whnf) | (refine AH.of hT rfl ?_; conv => whnf) | (refine ASplit.yes rfl ?_; conv => whnf) | (refine ACond.yes rfl ?_; conv => whnf) | (refine ASplit.no rfl ?_; conv => whnf) | (refine ACond.no rfl ?_; conv => whnf) | (refine ASplit.yes (by decide) ?_; conv => whnf) | (refine ACond.yes (by decide) ?_; conv => whnf) | (refine AReq.mk (by decide) ?_; conv => whnf) | (refine AIdx.iff.2 ⟨by decide, ?_⟩; conv => whnf) | (refine ACall.val (by kernel_rfl) f18 rfl rfl ?_; conv => whnf) | (refine AReq.mk ⟨by omega, by omega⟩ ?_; conv => whnf) | (refine AIdx.map1 hil ?_; conv => whnf) | (refine ASplit.yes (by rw [hwi]; simp; omega) ?_; conv => whnf) | (refine ASplit.no (by rw [hwi]; simp; omega) ?_; conv => whnf) | (refine ASplit.yes (by simp; omega) ?_; conv => whnf) | (refine ASplit.no (by simp; omega) ?_; conv => whnf) | (refine AReq.mk ⟨by omega, by omega⟩ ?_; conv => whnf))
      refine ACond.no (by simp; omega) ?_
      conv => whnf
      repeat (first | (refine AW.plan (id := 18) hm (.one 0 (.one 2 (.one 3 (.one 4 (.one 5 (.one 6 (.one 7 (.one 8 (.one 9 (.one 1 (.one 10 (.one 11 (.one 12 (.one 13 (.one 14 (.one 15 .nil)))))))))))))))) (by kernel_rfl) ?_; conv => whnf) | (refine AW.label ?_; conv => whnf) | (refine AW.scope ?_; conv => whnf) | (refine AO.cons hT ?_; conv => whnf) | (refine AO.nil ?_; conv => whnf) | (refine AW.seq ?_; conv => whnf) | (refine AW.region ?_; conv => whnf) | (refine AW.cond ?_; conv => whnf) | (refine AW.block ?_; conv => whnf) | (refine AW.loop ?_; conv => whnf) | (refine AW.skip ?_; conv => whnf) | (refine AW.exit ?_; conv => whnf) | (refine AW.ret ?_; conv => whnf) | (refine AF.one hT rfl ?_; conv => whnf) | (refine AF.nil ?_; conv => whnf) | (refine AF.imm hT rfl rfl rfl ?_; conv => whnf) | (refine AH.of hT rfl ?_; conv => whnf) | (refine ASplit.yes rfl ?_; conv => whnf) | (refine ACond.yes rfl ?_; conv => whnf) | (refine ASplit.no rfl ?_; conv => whnf) | (refine ACond.no rfl ?_; conv => whnf) | (refine ASplit.yes (by decide) ?_; conv => whnf) | (refine ACond.yes (by decide) ?_; conv => whnf) | (refine AReq.mk (by decide) ?_; conv => whnf) | (refine AIdx.iff.2 ⟨by decide, ?_⟩; conv => whnf) | (refine ACall.val (by kernel_rfl) f18 rfl rfl ?_; conv => whnf) | (refine AReq.mk ⟨by omega, by omega⟩ ?_; conv => whnf) | (refine AIdx.map1 hil ?_; conv => whnf) | (refine ASplit.yes (by rw [hwi]; simp; omega) ?_; conv => whnf) | (refine ASplit.no (by rw [hwi]; simp; omega) ?_; conv => whnf) | (refine ASplit.yes (by simp; omega) ?_; conv => whnf) | (refine ASplit.no (by simp; omega) ?_; conv => whnf) | (refine AReq.mk ⟨by omega, by omega⟩ ?_; conv => whnf))
      refine ACut.iff.2 ⟨by simp; omega, ?_⟩
      rw [hct]
      conv => whnf
      repeat (first | (refine AW.plan (id := 18) hm (.one 0 (.one 2 (.one 3 (.one 4 (.one 5 (.one 6 (.one 7 (.one 8 (.one 9 (.one 1 (.one 10 (.one 11 (.one 12 (.one 13 (.one 14 (.one 15 .nil)))))))))))))))) (by kernel_rfl) ?_; conv => whnf) | (refine AW.label ?_; conv => whnf) | (refine AW.scope ?_; conv => whnf) | (refine AO.cons hT ?_; conv => whnf) | (refine AO.nil ?_; conv => whnf) | (refine AW.seq ?_; conv => whnf) | (refine AW.region ?_; conv => whnf) | (refine AW.cond ?_; conv => whnf) | (refine AW.block ?_; conv => whnf) | (refine AW.loop ?_; conv => whnf) | (refine AW.skip ?_; conv => whnf) | (refine AW.exit ?_; conv => whnf) | (refine AW.ret ?_; conv => whnf) | (refine AF.one hT rfl ?_; conv => whnf) | (refine AF.nil ?_; conv => whnf) | (refine AF.imm hT rfl rfl rfl ?_; conv => whnf) | (refine AH.of hT rfl ?_; conv => whnf) | (refine ASplit.yes rfl ?_; conv => whnf) | (refine ACond.yes rfl ?_; conv => whnf) | (refine ASplit.no rfl ?_; conv => whnf) | (refine ACond.no rfl ?_; conv => whnf) | (refine ASplit.yes (by decide) ?_; conv => whnf) | (refine ACond.yes (by decide) ?_; conv => whnf) | (refine AReq.mk (by decide) ?_; conv => whnf) | (refine AIdx.iff.2 ⟨by decide, ?_⟩; conv => whnf) | (refine ACall.val (by kernel_rfl) f18 rfl rfl ?_; conv => whnf) | (refine AReq.mk ⟨by omega, by omega⟩ ?_; conv => whnf) | (refine AIdx.map1 hil ?_; conv => whnf) | (refine ASplit.yes (by rw [hwi]; simp; omega) ?_; conv => whnf) | (refine ASplit.no (by rw [hwi]; simp; omega) ?_; conv => whnf) | (refine ASplit.yes (by simp; omega) ?_; conv => whnf) | (refine ASplit.no (by simp; omega) ?_; conv => whnf) | (refine AReq.mk ⟨by omega, by omega⟩ ?_; conv => whnf))
      refine ACall.val (by kernel_rfl) h25 (show renL _ [AV.vs 1 m.length (m.map VD.sV), AV.vs 1 m.length ((l.take m.length).map VD.sV)] = [AV.vs 1 m.length (m.map VD.sV), AV.vs 1 m.length ((l.take m.length).map VD.sV)] by simp only [renL, AV.ren, VD.texts_ren]) rfl ?_
      conv => whnf
      repeat (first | (refine AW.plan (id := 18) hm (.one 0 (.one 2 (.one 3 (.one 4 (.one 5 (.one 6 (.one 7 (.one 8 (.one 9 (.one 1 (.one 10 (.one 11 (.one 12 (.one 13 (.one 14 (.one 15 .nil)))))))))))))))) (by kernel_rfl) ?_; conv => whnf) | (refine AW.label ?_; conv => whnf) | (refine AW.scope ?_; conv => whnf) | (refine AO.cons hT ?_; conv => whnf) | (refine AO.nil ?_; conv => whnf) | (refine AW.seq ?_; conv => whnf) | (refine AW.region ?_; conv => whnf) | (refine AW.cond ?_; conv => whnf) | (refine AW.block ?_; conv => whnf) | (refine AW.loop ?_; conv => whnf) | (refine AW.skip ?_; conv => whnf) | (refine AW.exit ?_; conv => whnf) | (refine AW.ret ?_; conv => whnf) | (refine AF.one hT rfl ?_; conv => whnf) | (refine AF.nil ?_; conv => whnf) | (refine AF.imm hT rfl rfl rfl ?_; conv => whnf) | (refine AH.of hT rfl ?_; conv => whnf) | (refine ASplit.yes rfl ?_; conv => whnf) | (refine ACond.yes rfl ?_; conv => whnf) | (refine ASplit.no rfl ?_; conv => whnf) | (refine ACond.no rfl ?_; conv => whnf) | (refine ASplit.yes (by decide) ?_; conv => whnf) | (refine ACond.yes (by decide) ?_; conv => whnf) | (refine AReq.mk (by decide) ?_; conv => whnf) | (refine AIdx.iff.2 ⟨by decide, ?_⟩; conv => whnf) | (refine ACall.val (by kernel_rfl) f18 rfl rfl ?_; conv => whnf) | (refine AReq.mk ⟨by omega, by omega⟩ ?_; conv => whnf) | (refine AIdx.map1 hil ?_; conv => whnf) | (refine ASplit.yes (by rw [hwi]; simp; omega) ?_; conv => whnf) | (refine ASplit.no (by rw [hwi]; simp; omega) ?_; conv => whnf) | (refine ASplit.yes (by simp; omega) ?_; conv => whnf) | (refine ASplit.no (by simp; omega) ?_; conv => whnf) | (refine AReq.mk ⟨by omega, by omega⟩ ?_; conv => whnf))
      exact hfin
    · conv => whnf
      repeat (first | (refine AW.plan (id := 18) hm (.one 0 (.one 2 (.one 3 (.one 4 (.one 5 (.one 6 (.one 7 (.one 8 (.one 9 (.one 1 (.one 10 (.one 11 (.one 12 (.one 13 (.one 14 (.one 15 .nil)))))))))))))))) (by kernel_rfl) ?_; conv => whnf) | (refine AW.label ?_; conv => whnf) | (refine AW.scope ?_; conv => whnf) | (refine AO.cons hT ?_; conv => whnf) | (refine AO.nil ?_; conv => whnf) | (refine AW.seq ?_; conv => whnf) | (refine AW.region ?_; conv => whnf) | (refine AW.cond ?_; conv => whnf) | (refine AW.block ?_; conv => whnf) | (refine AW.loop ?_; conv => whnf) | (refine AW.skip ?_; conv => whnf) | (refine AW.exit ?_; conv => whnf) | (refine AW.ret ?_; conv => whnf) | (refine AF.one hT rfl ?_; conv => whnf) | (refine AF.nil ?_; conv => whnf) | (refine AF.imm hT rfl rfl rfl ?_; conv => whnf) | (refine AH.of hT rfl ?_; conv => whnf) | (refine ASplit.yes rfl ?_; conv => whnf) | (refine ACond.yes rfl ?_; conv => whnf) | (refine ASplit.no rfl ?_; conv => whnf) | (refine ACond.no rfl ?_; conv => whnf) | (refine ASplit.yes (by decide) ?_; conv => whnf) | (refine ACond.yes (by decide) ?_; conv => whnf) | (refine AReq.mk (by decide) ?_; conv => whnf) | (refine AIdx.iff.2 ⟨by decide, ?_⟩; conv => whnf) | (refine ACall.val (by kernel_rfl) f18 rfl rfl ?_; conv => whnf) | (refine AReq.mk ⟨by omega, by omega⟩ ?_; conv => whnf) | (refine AIdx.map1 hil ?_; conv => whnf) | (refine ASplit.yes (by rw [hwi]; simp; omega) ?_; conv => whnf) | (refine ASplit.no (by rw [hwi]; simp; omega) ?_; conv => whnf) | (refine ASplit.yes (by simp; omega) ?_; conv => whnf) | (refine ASplit.no (by simp; omega) ?_; conv => whnf) | (refine AReq.mk ⟨by omega, by omega⟩ ?_; conv => whnf))
      refine ACut.iff.2 ⟨by simp; omega, ?_⟩
      rw [hct]
      conv => whnf
      repeat (first | (refine AW.plan (id := 18) hm (.one 0 (.one 2 (.one 3 (.one 4 (.one 5 (.one 6 (.one 7 (.one 8 (.one 9 (.one 1 (.one 10 (.one 11 (.one 12 (.one 13 (.one 14 (.one 15 .nil)))))))))))))))) (by kernel_rfl) ?_; conv => whnf) | (refine AW.label ?_; conv => whnf) | (refine AW.scope ?_; conv => whnf) | (refine AO.cons hT ?_; conv => whnf) | (refine AO.nil ?_; conv => whnf) | (refine AW.seq ?_; conv => whnf) | (refine AW.region ?_; conv => whnf) | (refine AW.cond ?_; conv => whnf) | (refine AW.block ?_; conv => whnf) | (refine AW.loop ?_; conv => whnf) | (refine AW.skip ?_; conv => whnf) | (refine AW.exit ?_; conv => whnf) | (refine AW.ret ?_; conv => whnf) | (refine AF.one hT rfl ?_; conv => whnf) | (refine AF.nil ?_; conv => whnf) | (refine AF.imm hT rfl rfl rfl ?_; conv => whnf) | (refine AH.of hT rfl ?_; conv => whnf) | (refine ASplit.yes rfl ?_; conv => whnf) | (refine ACond.yes rfl ?_; conv => whnf) | (refine ASplit.no rfl ?_; conv => whnf) | (refine ACond.no rfl ?_; conv => whnf) | (refine ASplit.yes (by decide) ?_; conv => whnf) | (refine ACond.yes (by decide) ?_; conv => whnf) | (refine AReq.mk (by decide) ?_; conv => whnf) | (refine AIdx.iff.2 ⟨by decide, ?_⟩; conv => whnf) | (refine ACall.val (by kernel_rfl) f18 rfl rfl ?_; conv => whnf) | (refine AReq.mk ⟨by omega, by omega⟩ ?_; conv => whnf) | (refine AIdx.map1 hil ?_; conv => whnf) | (refine ASplit.yes (by rw [hwi]; simp; omega) ?_; conv => whnf) | (refine ASplit.no (by rw [hwi]; simp; omega) ?_; conv => whnf) | (refine ASplit.yes (by simp; omega) ?_; conv => whnf) | (refine ASplit.no (by simp; omega) ?_; conv => whnf) | (refine AReq.mk ⟨by omega, by omega⟩ ?_; conv => whnf))
      refine ACall.val (by kernel_rfl) h25 (show renL _ [AV.vs 1 m.length (m.map VD.sV), AV.vs 1 m.length ((l.take m.length).map VD.sV)] = [AV.vs 1 m.length (m.map VD.sV), AV.vs 1 m.length ((l.take m.length).map VD.sV)] by simp only [renL, AV.ren, VD.texts_ren]) rfl ?_
      conv => whnf
      repeat (first | (refine AW.plan (id := 18) hm (.one 0 (.one 2 (.one 3 (.one 4 (.one 5 (.one 6 (.one 7 (.one 8 (.one 9 (.one 1 (.one 10 (.one 11 (.one 12 (.one 13 (.one 14 (.one 15 .nil)))))))))))))))) (by kernel_rfl) ?_; conv => whnf) | (refine AW.label ?_; conv => whnf) | (refine AW.scope ?_; conv => whnf) | (refine AO.cons hT ?_; conv => whnf) | (refine AO.nil ?_; conv => whnf) | (refine AW.seq ?_; conv => whnf) | (refine AW.region ?_; conv => whnf) | (refine AW.cond ?_; conv => whnf) | (refine AW.block ?_; conv => whnf) | (refine AW.loop ?_; conv => whnf) | (refine AW.skip ?_; conv => whnf) | (refine AW.exit ?_; conv => whnf) | (refine AW.ret ?_; conv => whnf) | (refine AF.one hT rfl ?_; conv => whnf) | (refine AF.nil ?_; conv => whnf) | (refine AF.imm hT rfl rfl rfl ?_; conv => whnf) | (refine AH.of hT rfl ?_; conv => whnf) | (refine ASplit.yes rfl ?_; conv => whnf) | (refine ACond.yes rfl ?_; conv => whnf) | (refine ASplit.no rfl ?_; conv => whnf) | (refine ACond.no rfl ?_; conv => whnf) | (refine ASplit.yes (by decide) ?_; conv => whnf) | (refine ACond.yes (by decide) ?_; conv => whnf) | (refine AReq.mk (by decide) ?_; conv => whnf) | (refine AIdx.iff.2 ⟨by decide, ?_⟩; conv => whnf) | (refine ACall.val (by kernel_rfl) f18 rfl rfl ?_; conv => whnf) | (refine AReq.mk ⟨by omega, by omega⟩ ?_; conv => whnf) | (refine AIdx.map1 hil ?_; conv => whnf) | (refine ASplit.yes (by rw [hwi]; simp; omega) ?_; conv => whnf) | (refine ASplit.no (by rw [hwi]; simp; omega) ?_; conv => whnf) | (refine ASplit.yes (by simp; omega) ?_; conv => whnf) | (refine ASplit.no (by simp; omega) ?_; conv => whnf) | (refine AReq.mk ⟨by omega, by omega⟩ ?_; conv => whnf))
      exact hfin
  · conv => whnf
    repeat (first | (refine AW.plan (id := 18) hm (.one 0 (.one 2 (.one 3 (.one 4 (.one 5 (.one 6 (.one 7 (.one 8 (.one 9 (.one 1 (.one 10 (.one 11 (.one 12 (.one 13 (.one 14 (.one 15 .nil)))))))))))))))) (by kernel_rfl) ?_; conv => whnf) | (refine AW.label ?_; conv => whnf) | (refine AW.scope ?_; conv => whnf) | (refine AO.cons hT ?_; conv => whnf) | (refine AO.nil ?_; conv => whnf) | (refine AW.seq ?_; conv => whnf) | (refine AW.region ?_; conv => whnf) | (refine AW.cond ?_; conv => whnf) | (refine AW.block ?_; conv => whnf) | (refine AW.loop ?_; conv => whnf) | (refine AW.skip ?_; conv => whnf) | (refine AW.exit ?_; conv => whnf) | (refine AW.ret ?_; conv => whnf) | (refine AF.one hT rfl ?_; conv => whnf) | (refine AF.nil ?_; conv => whnf) | (refine AF.imm hT rfl rfl rfl ?_; conv => whnf) | (refine AH.of hT rfl ?_; conv => whnf) | (refine ASplit.yes rfl ?_; conv => whnf) | (refine ACond.yes rfl ?_; conv => whnf) | (refine ASplit.no rfl ?_; conv => whnf) | (refine ACond.no rfl ?_; conv => whnf) | (refine ASplit.yes (by decide) ?_; conv => whnf) | (refine ACond.yes (by decide) ?_; conv => whnf) | (refine AReq.mk (by decide) ?_; conv => whnf) | (refine AIdx.iff.2 ⟨by decide, ?_⟩; conv => whnf) | (refine ACall.val (by kernel_rfl) f18 rfl rfl ?_; conv => whnf) | (refine AReq.mk ⟨by omega, by omega⟩ ?_; conv => whnf) | (refine AIdx.map1 hil ?_; conv => whnf) | (refine ASplit.yes (by rw [hwi]; simp; omega) ?_; conv => whnf) | (refine ASplit.no (by rw [hwi]; simp; omega) ?_; conv => whnf) | (refine ASplit.yes (by simp; omega) ?_; conv => whnf) | (refine ASplit.no (by simp; omega) ?_; conv => whnf) | (refine AReq.mk ⟨by omega, by omega⟩ ?_; conv => whnf))
    refine ACut.iff.2 ⟨by simp; omega, ?_⟩
    rw [hct]
    conv => whnf
    repeat (first | (refine AW.plan (id := 18) hm (.one 0 (.one 2 (.one 3 (.one 4 (.one 5 (.one 6 (.one 7 (.one 8 (.one 9 (.one 1 (.one 10 (.one 11 (.one 12 (.one 13 (.one 14 (.one 15 .nil)))))))))))))))) (by kernel_rfl) ?_; conv => whnf) | (refine AW.label ?_; conv => whnf) | (refine AW.scope ?_; conv => whnf) | (refine AO.cons hT ?_; conv => whnf) | (refine AO.nil ?_; conv => whnf) | (refine AW.seq ?_; conv => whnf) | (refine AW.region ?_; conv => whnf) | (refine AW.cond ?_; conv => whnf) | (refine AW.block ?_; conv => whnf) | (refine AW.loop ?_; conv => whnf) | (refine AW.skip ?_; conv => whnf) | (refine AW.exit ?_; conv => whnf) | (refine AW.ret ?_; conv => whnf) | (refine AF.one hT rfl ?_; conv => whnf) | (refine AF.nil ?_; conv => whnf) | (refine AF.imm hT rfl rfl rfl ?_; conv => whnf) | (refine AH.of hT rfl ?_; conv => whnf) | (refine ASplit.yes rfl ?_; conv => whnf) | (refine ACond.yes rfl ?_; conv => whnf) | (refine ASplit.no rfl ?_; conv => whnf) | (refine ACond.no rfl ?_; conv => whnf) | (refine ASplit.yes (by decide) ?_; conv => whnf) | (refine ACond.yes (by decide) ?_; conv => whnf) | (refine AReq.mk (by decide) ?_; conv => whnf) | (refine AIdx.iff.2 ⟨by decide, ?_⟩; conv => whnf) | (refine ACall.val (by kernel_rfl) f18 rfl rfl ?_; conv => whnf) | (refine AReq.mk ⟨by omega, by omega⟩ ?_; conv => whnf) | (refine AIdx.map1 hil ?_; conv => whnf) | (refine ASplit.yes (by rw [hwi]; simp; omega) ?_; conv => whnf) | (refine ASplit.no (by rw [hwi]; simp; omega) ?_; conv => whnf) | (refine ASplit.yes (by simp; omega) ?_; conv => whnf) | (refine ASplit.no (by simp; omega) ?_; conv => whnf) | (refine AReq.mk ⟨by omega, by omega⟩ ?_; conv => whnf))
    refine ACall.val (by kernel_rfl) h25 (show renL _ [AV.vs 1 m.length (m.map VD.sV), AV.vs 1 m.length ((l.take m.length).map VD.sV)] = [AV.vs 1 m.length (m.map VD.sV), AV.vs 1 m.length ((l.take m.length).map VD.sV)] by simp only [renL, AV.ren, VD.texts_ren]) rfl ?_
    conv => whnf
    repeat (first | (refine AW.plan (id := 18) hm (.one 0 (.one 2 (.one 3 (.one 4 (.one 5 (.one 6 (.one 7 (.one 8 (.one 9 (.one 1 (.one 10 (.one 11 (.one 12 (.one 13 (.one 14 (.one 15 .nil)))))))))))))))) (by kernel_rfl) ?_; conv => whnf) | (refine AW.label ?_; conv => whnf) | (refine AW.scope ?_; conv => whnf) | (refine AO.cons hT ?_; conv => whnf) | (refine AO.nil ?_; conv => whnf) | (refine AW.seq ?_; conv => whnf) | (refine AW.region ?_; conv => whnf) | (refine AW.cond ?_; conv => whnf) | (refine AW.block ?_; conv => whnf) | (refine AW.loop ?_; conv => whnf) | (refine AW.skip ?_; conv => whnf) | (refine AW.exit ?_; conv => whnf) | (refine AW.ret ?_; conv => whnf) | (refine AF.one hT rfl ?_; conv => whnf) | (refine AF.nil ?_; conv => whnf) | (refine AF.imm hT rfl rfl rfl ?_; conv => whnf) | (refine AH.of hT rfl ?_; conv => whnf) | (refine ASplit.yes rfl ?_; conv => whnf) | (refine ACond.yes rfl ?_; conv => whnf) | (refine ASplit.no rfl ?_; conv => whnf) | (refine ACond.no rfl ?_; conv => whnf) | (refine ASplit.yes (by decide) ?_; conv => whnf) | (refine ACond.yes (by decide) ?_; conv => whnf) | (refine AReq.mk (by decide) ?_; conv => whnf) | (refine AIdx.iff.2 ⟨by decide, ?_⟩; conv => whnf) | (refine ACall.val (by kernel_rfl) f18 rfl rfl ?_; conv => whnf) | (refine AReq.mk ⟨by omega, by omega⟩ ?_; conv => whnf) | (refine AIdx.map1 hil ?_; conv => whnf) | (refine ASplit.yes (by rw [hwi]; simp; omega) ?_; conv => whnf) | (refine ASplit.no (by rw [hwi]; simp; omega) ?_; conv => whnf) | (refine ASplit.yes (by simp; omega) ?_; conv => whnf) | (refine ASplit.no (by simp; omega) ?_; conv => whnf) | (refine AReq.mk ⟨by omega, by omega⟩ ?_; conv => whnf))
    exact hfin
end Go.Aw.VE
set_option linter.unusedSimpArgs false
set_option linter.unusedVariables false
namespace Go.Aw.VE
open Go Go.Proofs
def armWf (a : Armd) : Prop := (Lit.int .i64 a.after).wf = true ∧ chWf a.ch
theorem opens_arm : Opens P 56 armC armWf :=
  Opens.map (opens_struct Tryz.underlying56 (by kernel_rfl) (opensF_cons (sz := 1) rfl (by kernel_rfl) (opens_int und3) (opensF_cons (sz := 3) rfl (by kernel_rfl) opens_ch opensF_nil)))
    armC armWf (fun x => ⟨x.1, x.2.1⟩) (fun x _ => by simp only [armC, List.append_nil]; rfl) (fun x h => ⟨h.1, h.2.1⟩)
end Go.Aw.VE

set_option linter.unusedSimpArgs false
set_option linter.unusedVariables false
namespace Go.Proofs.YtllchkemgjmjiaaGreatDoor
open Go Go.Aw Go.Aw.VE Go.ChangeShapes Go.WideShapes Go.ChangeAt Go.RowKit

theorem falls_own : ownKnob Tryz.prog.godebug = none := by kernel_rfl
theorem falls_laid : laidOutB Tryz.prog = true := by kernel_rfl

theorem falls_open : OpenA Tryz.prog [32, 9, 56] (fun x : List ByteArray × (ByteArray × (Armd × Unit)) => [.vs 1 (x.1).length ((x.1).flatMap fun s => [.v (.string s)]), .v (.string (x.2.1)), .agg (armC (x.2.2.1))]) (fun x => ((x.1).length ≤ maxLen ∧ ∀ a ∈ (x.1), a.size ≤ maxLen ∧ [AV.v (.string a)].length = 1) ∧ (x.2.1).size ≤ maxLen ∧ armWf (x.2.2.1) ∧ True) :=
  openA_cons (openV_slice Tryz.underlying32 (sz := 1) (by kernel_rfl) (by decide) (opens_string Tryz.underlying9)) (openA_cons (openV_string Tryz.underlying9) (openA_cons (openV_struct Tryz.underlying56 opens_arm) (openA_nil)))

set_option maxRecDepth 100000 in
theorem falls_contract (H : Type) (enc : TypeId × Value → H) (W : World) (base : Nat) (args : Array Value) (ds gs : List (DataW H)) (before : List MemPlace)
    (hval : ∀ (j : Nat) t v, Tryz.f5.params[j]? = some t → args[j]? = some v → Value.okWide Tryz.prog W .any base t v)
    (hW : DataW.Whole enc Tryz.prog Tryz.f5.params.toList Rows.trailFallsSpec.vars false W args.toList ds gs before) :
    Calls Tryz.prog 5 args W fun e W' => ∃ v, e = .returned v ∧ Rows.trailFallsSpec.post enc Tryz.prog Tryz.f5 false true false false W args v W' :=
  law_contract falls_laid (by kernel_rfl) (t0 := 4) (by kernel_rfl) Tryz.underlying4 rfl (by rw [Tryz.params5]; exact falls_open)
    (fun a ha => by
      have h := (f5 a.1 ha.1.1 a.2.1 ha.2.1 a.2.2.1 ha.2.2.1.1 ha.2.2.1.2.1)
      unfold VD.tV at h
      rw [← flat_sV] at h
      exact h.mono (fun r H h => h.1))
    (fun H ds h => by
      rw [Tryz.params5] at h
      match ds, h with
      | [d0, d1, d2], _ => rfl) hval hW

set_option maxRecDepth 100000 in
theorem falls_lifted (os : Os) (started : os.Started) (H : Type) (enc : TypeId × Value → H) :
    ReturnsInHanded {} Tryz.checked os 5 .any (fun w args => (Rows.trailFallsSpec.pre enc Tryz.prog Tryz.f5 Rows.trailFallsRow.domain false w args ∧ laidMetH Tryz.prog Rows.trailFallsRow.laid w) ∧ sizedMet enc Tryz.prog Tryz.f5 (OpenSpec.ofChange Rows.trailFallsSpec) false w args)
      (Rows.trailFallsSpec.post enc Tryz.prog Tryz.f5 false true false false) := by
  refine returnsInHanded_of_change_and (C := Tryz.checked) (X := fun w _ => laidMetH Tryz.prog Rows.trailFallsRow.laid w) (fun _ _ _ hh h => h.of_heap hh) falls_own started (by kernel_rfl) Tryz.func5
    (ChangeSpec.witness_shaped (enc := enc) (C := Tryz.checked) (os := os) (X := fun w _ => laidMetH Tryz.prog Rows.trailFallsRow.laid w) false (World.laidAll Tryz.prog os Rows.trailFallsRow.laid) #[.slice none 0 0, .string ⟨#[]⟩, .agg ⟨[.int .i64 0, .slice none 0 0, .int .i64 0, .int .i64 0]⟩] 8 (World.laidAll_os _ _ _)
      (World.shaped_of_ZipB (by kernel_rfl) (by kernel_rfl)) (by kernel_rfl) (by kernel_rfl) (by kernel_rfl)
      (by rw [MakeChecks.laidMetH_plain _ _ _ (by kernel_rfl)]; exact laidMet_laidAll _ (by kernel_rfl) (by kernel_rfl))) ?_
  intro W base args ds gs before hval hW _ _ _ _
  exact falls_contract H enc W base args ds gs before hval hW

theorem falls_over : Rows.TrailFallsSaid :=
  OpenClaim.holds_of_wide 5 Tryz.f5 rfl rfl rfl rfl rfl rfl rfl ⟨rfl, rfl, rfl, rfl, rfl⟩ rfl rfl rfl rfl rfl (by kernel_rfl) Tryz.func5 (by kernel_rfl)
    (of_decide_eq_true (by kernel_rfl)) (by unfold Func.isWrapper; first | (rw [if_pos (by decide +kernel)]; kernel_rfl) | (rw [if_neg (by decide +kernel)]; exact ⟨rfl, rfl⟩))
    (fun os started H enc _ => falls_lifted os started H enc)

theorem trailFalls : Rows.TrailFallsCardSaid :=
  Claim7.holds_tied_plain_at .later [] [.data, .pinned] true (true, "c7043bd026b29a768968e47719cad74057e93809809b15c9492d8c74415f2a49") true falls_over (fun _ h => by cases h) (by kernel_rfl) (fun _ h => by cases h) trailFalls_row_tie rfl ⟨rfl, rfl⟩ (by kernel_rfl) rfl
    (fun f fn hf hfn => by
      obtain rfl : f = 5 := Option.some.inj ((show Tryz.prog.funcNamed "backhaul/backhaullaw11.TrailFalls" = some 5 by kernel_rfl).symm.trans hf) |>.symm
      obtain rfl : fn = Tryz.f5 := (Option.some.inj (Tryz.func5.symm.trans hfn)).symm
      exact ⟨by kernel_rfl, fun j t ht => by
        rw [Tryz.params5] at ht
        have hm : t ∈ [32, 9, 56] := by simpa using Array.mem_of_getElem? ht
        have hall : ([32, 9, 56].all fun u => !Tryz.prog.wantsStandIn u) = true := by kernel_rfl
        exact (show Tryz.prog.wantsStandIn t = false by simpa using List.all_eq_true.1 hall t hm)⟩)
    (by kernel_rfl)
#print axioms trailFalls
end Go.Proofs.YtllchkemgjmjiaaGreatDoor

