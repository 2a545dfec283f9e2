/-
  The statement TrailKeeps: frames that were appended one behind the other are loaded, just they, also behind a loss of power, without any condition.
-/
import Derived.Test.YtllchkemgjmjiaaGreatDoorVfB
import Derived.Test.YtllchkemgjmjiaaGreatDoorRows
import Derived.Test.YtllchkemgjmjiaaGreatDoorCards
import Derived.Test.YtllchkemgjmjiaaGreatDoorTie
import Derived.LaidMore
import Derived.Lay
import Derived.SevenTiedAt
import Derived.Stop.Joined
set_option linter.unusedSimpArgs false
set_option linter.unusedVariables false
set_option linter.unusedSimpArgs false
set_option linter.unusedVariables false
set_option maxHeartbeats 4000000
set_option maxRecDepth 20000
namespace Go.Aw.VE
open Go Go.Proofs

def atF (l : List ByteArray) (i : Nat) : Nat := ((l.take i).map fun b => VD.pcs b.size).sum
theorem atF_succ (l : List ByteArray) (i : Nat) (h : i < l.length) : atF l (i + 1) = atF l i + VD.pcs (l[i]).size := VD.sum_take_succ l i h
theorem atF_le (l : List ByteArray) (hl : ∀ b ∈ l, b.size ≤ 400) : ∀ i, i ≤ l.length → atF l i ≤ 7 * i
  | 0, _ => Nat.le_refl 0
  | i + 1, h => by
    have := atF_le l hl i (by omega)
    have h1 := hl l[i] (List.getElem_mem (by omega))
    have h2 := VD.pcs_bound (l[i]).size
    rw [atF_succ l i (by omega)]
    omega
theorem tl_ren (ρ : Nat → Nat) (l : List ByteArray) : renL ρ [AV.vs 1 l.length (l.map VD.sV)] = [AV.vs 1 l.length (l.map VD.sV)] := by
  simp only [renL, AV.ren, VD.texts_ren]
theorem tl2_ren (ρ : Nat → Nat) (l m : List ByteArray) : renL ρ [AV.vs 1 l.length (l.map VD.sV), AV.vs 1 m.length (m.map VD.sV)] = [AV.vs 1 l.length (l.map VD.sV), AV.vs 1 m.length (m.map VD.sV)] := by
  simp only [renL, AV.ren, VD.texts_ren]
theorem may_ok {e i n : Nat} (h1 : 1 ≤ e) (h2 : e ≤ 1000000000) (h3 : i < 1000000) (h4 : n ≤ 3000) : VD.mayF e (i + 1 : Nat) n = 0 := by
  unfold VD.mayF
  rw [if_neg (by omega), if_neg (by omega)]
theorem f4 (l : List ByteArray) (hl : l.length ≤ maxLen) (ep : Int) (hep : nOk ep) (c : Ch) (hc : c.keep.length ≤ maxLen) : Fun P 4 [VD.tV l, nV ep, .agg (chC c)] (.v (.bool true)) := by
  have hml : maxLen ≤ 9223372036854775807 := by decide
  refine spec_of hT (f := 4) (fn := Go.Proofs.Tryz.f4) (c := body Go.Proofs.Tryz.f4) (by kernel_rfl) (by kernel_rfl) ?_
  have h17 := f17 l (by omega)
  unfold VD.tV at *
  conv => whnf
  repeat ((first | refine AW.plan (id := 11) hm (.one 0 (.one 2 (.one 3 (.one 4 (.one 5 (.one 6 (.one 7 (.one 8 (.one 9 (.one 10 (.one 1 (.one 11 (.one 12 (.one 13 (.one 14 (.one 15 (.one 16 .nil))))))))))))))))) (by kernel_rfl) ?_ | refine AO.cons hT ?_ | refine AO.nil ?_ | refine AW.seq ?_ | refine AW.region ?_ | refine AW.cond ?_ | refine AW.block ?_ | refine AW.loop ?_ | refine AW.skip ?_ | refine AW.exit ?_ | refine AW.ret ?_ | refine AW.label ?_ | refine AW.scope ?_ | refine AF.one hT rfl ?_ | refine AF.nil ?_ | refine AF.imm hT rfl rfl rfl ?_ | refine AH.of hT rfl ?_ | refine AD.cons hT rfl ?_ | refine AD.nil ?_ | refine AQ.cons hT rfl ?_ | refine AQ.nil ?_ | (refine ACall.val (by kernel_rfl) f18 rfl rfl ?_)); conv => whnf)
  refine ACall.val (by kernel_rfl) h17 (tl_ren _ l) rfl ?_
  have hfin : ∀ {H : List ABlk}, AFin 0 (.v (.bool true)) H (fun r H => r = .v (.bool true) ∧ H = []) := AFin.val rfl ⟨rfl, rfl⟩
  rcases hsm : smallF l with _ | _
  · conv => whnf
    repeat (first | (refine AW.plan (id := 11) hm (.one 0 (.one 2 (.one 3 (.one 4 (.one 5 (.one 6 (.one 7 (.one 8 (.one 9 (.one 10 (.one 1 (.one 11 (.one 12 (.one 13 (.one 14 (.one 15 (.one 16 .nil))))))))))))))))) (by kernel_rfl) ?_; conv => whnf) | (refine AW.label ?_; conv => whnf) | (refine AW.scope ?_; conv => whnf) | (refine AO.cons hT ?_; conv => whnf) | (refine AO.nil ?_; conv => whnf) | (refine AW.seq ?_; conv => whnf) | (refine AW.region ?_; conv => whnf) | (refine AW.cond ?_; conv => whnf) | (refine AW.block ?_; conv => whnf) | (refine AW.loop ?_; conv => whnf) | (refine AW.skip ?_; conv => whnf) | (refine AW.exit ?_; conv => whnf) | (refine AW.ret ?_; conv => whnf) | (refine AF.one hT rfl ?_; conv => whnf) | (refine AF.nil ?_; conv => whnf) | (refine AF.imm hT rfl rfl rfl ?_; conv => whnf) | (refine AH.of hT rfl ?_; conv => whnf) | (refine ASplit.yes rfl ?_; conv => whnf) | (refine ACond.yes rfl ?_; conv => whnf) | (refine ASplit.no rfl ?_; conv => whnf) | (refine ACond.no rfl ?_; conv => whnf) | (refine ASplit.yes (by decide) ?_; conv => whnf) | (refine ACond.yes (by decide) ?_; conv => whnf) | (refine AReq.mk (by decide) ?_; conv => whnf) | (refine AIdx.iff.2 ⟨by decide, ?_⟩; conv => whnf) | (refine ACall.val (by kernel_rfl) f18 rfl rfl ?_; conv => whnf))
    exact hfin
  have hs2 : l.length ≤ 20 ∧ ∀ b ∈ l, b.size ≤ 400 := of_decide_eq_true hsm
  conv => whnf
  repeat (first | (refine AW.plan (id := 11) hm (.one 0 (.one 2 (.one 3 (.one 4 (.one 5 (.one 6 (.one 7 (.one 8 (.one 9 (.one 10 (.one 1 (.one 11 (.one 12 (.one 13 (.one 14 (.one 15 (.one 16 .nil))))))))))))))))) (by kernel_rfl) ?_; conv => whnf) | (refine AW.label ?_; conv => whnf) | (refine AW.scope ?_; conv => whnf) | (refine AO.cons hT ?_; conv => whnf) | (refine AO.nil ?_; conv => whnf) | (refine AW.seq ?_; conv => whnf) | (refine AW.region ?_; conv => whnf) | (refine AW.cond ?_; conv => whnf) | (refine AW.block ?_; conv => whnf) | (refine AW.loop ?_; conv => whnf) | (refine AW.skip ?_; conv => whnf) | (refine AW.exit ?_; conv => whnf) | (refine AW.ret ?_; conv => whnf) | (refine AF.one hT rfl ?_; conv => whnf) | (refine AF.nil ?_; conv => whnf) | (refine AF.imm hT rfl rfl rfl ?_; conv => whnf) | (refine AH.of hT rfl ?_; conv => whnf) | (refine ASplit.yes rfl ?_; conv => whnf) | (refine ACond.yes rfl ?_; conv => whnf) | (refine ASplit.no rfl ?_; conv => whnf) | (refine ACond.no rfl ?_; conv => whnf) | (refine ASplit.yes (by decide) ?_; conv => whnf) | (refine ACond.yes (by decide) ?_; conv => whnf) | (refine AReq.mk (by decide) ?_; conv => whnf) | (refine AIdx.iff.2 ⟨by decide, ?_⟩; conv => whnf) | (refine ACall.val (by kernel_rfl) f18 rfl rfl ?_; conv => whnf))
  refine ASplit.dec (fun g1 => ?_) (fun g1 => ?_)
  · conv => whnf
    repeat (first | (refine AW.plan (id := 11) hm (.one 0 (.one 2 (.one 3 (.one 4 (.one 5 (.one 6 (.one 7 (.one 8 (.one 9 (.one 10 (.one 1 (.one 11 (.one 12 (.one 13 (.one 14 (.one 15 (.one 16 .nil))))))))))))))))) (by kernel_rfl) ?_; conv => whnf) | (refine AW.label ?_; conv => whnf) | (refine AW.scope ?_; conv => whnf) | (refine AO.cons hT ?_; conv => whnf) | (refine AO.nil ?_; conv => whnf) | (refine AW.seq ?_; conv => whnf) | (refine AW.region ?_; conv => whnf) | (refine AW.cond ?_; conv => whnf) | (refine AW.block ?_; conv => whnf) | (refine AW.loop ?_; conv => whnf) | (refine AW.skip ?_; conv => whnf) | (refine AW.exit ?_; conv => whnf) | (refine AW.ret ?_; conv => whnf) | (refine AF.one hT rfl ?_; conv => whnf) | (refine AF.nil ?_; conv => whnf) | (refine AF.imm hT rfl rfl rfl ?_; conv => whnf) | (refine AH.of hT rfl ?_; conv => whnf) | (refine ASplit.yes rfl ?_; conv => whnf) | (refine ACond.yes rfl ?_; conv => whnf) | (refine ASplit.no rfl ?_; conv => whnf) | (refine ACond.no rfl ?_; conv => whnf) | (refine ASplit.yes (by decide) ?_; conv => whnf) | (refine ACond.yes (by decide) ?_; conv => whnf) | (refine AReq.mk (by decide) ?_; conv => whnf) | (refine AIdx.iff.2 ⟨by decide, ?_⟩; conv => whnf) | (refine ACall.val (by kernel_rfl) f18 rfl rfl ?_; conv => whnf))
    exact hfin
  conv => whnf
  repeat (first | (refine AW.plan (id := 11) hm (.one 0 (.one 2 (.one 3 (.one 4 (.one 5 (.one 6 (.one 7 (.one 8 (.one 9 (.one 10 (.one 1 (.one 11 (.one 12 (.one 13 (.one 14 (.one 15 (.one 16 .nil))))))))))))))))) (by kernel_rfl) ?_; conv => whnf) | (refine AW.label ?_; conv => whnf) | (refine AW.scope ?_; conv => whnf) | (refine AO.cons hT ?_; conv => whnf) | (refine AO.nil ?_; conv => whnf) | (refine AW.seq ?_; conv => whnf) | (refine AW.region ?_; conv => whnf) | (refine AW.cond ?_; conv => whnf) | (refine AW.block ?_; conv => whnf) | (refine AW.loop ?_; conv => whnf) | (refine AW.skip ?_; conv => whnf) | (refine AW.exit ?_; conv => whnf) | (refine AW.ret ?_; conv => whnf) | (refine AF.one hT rfl ?_; conv => whnf) | (refine AF.nil ?_; conv => whnf) | (refine AF.imm hT rfl rfl rfl ?_; conv => whnf) | (refine AH.of hT rfl ?_; conv => whnf) | (refine ASplit.yes rfl ?_; conv => whnf) | (refine ACond.yes rfl ?_; conv => whnf) | (refine ASplit.no rfl ?_; conv => whnf) | (refine ACond.no rfl ?_; conv => whnf) | (refine ASplit.yes (by decide) ?_; conv => whnf) | (refine ACond.yes (by decide) ?_; conv => whnf) | (refine AReq.mk (by decide) ?_; conv => whnf) | (refine AIdx.iff.2 ⟨by decide, ?_⟩; conv => whnf) | (refine ACall.val (by kernel_rfl) f18 rfl rfl ?_; conv => whnf))
  refine ASplit.dec (fun g2 => ?_) (fun g2 => ?_)
  · conv => whnf
    repeat (first | (refine AW.plan (id := 11) hm (.one 0 (.one 2 (.one 3 (.one 4 (.one 5 (.one 6 (.one 7 (.one 8 (.one 9 (.one 10 (.one 1 (.one 11 (.one 12 (.one 13 (.one 14 (.one 15 (.one 16 .nil))))))))))))))))) (by kernel_rfl) ?_; conv => whnf) | (refine AW.label ?_; conv => whnf) | (refine AW.scope ?_; conv => whnf) | (refine AO.cons hT ?_; conv => whnf) | (refine AO.nil ?_; conv => whnf) | (refine AW.seq ?_; conv => whnf) | (refine AW.region ?_; conv => whnf) | (refine AW.cond ?_; conv => whnf) | (refine AW.block ?_; conv => whnf) | (refine AW.loop ?_; conv => whnf) | (refine AW.skip ?_; conv => whnf) | (refine AW.exit ?_; conv => whnf) | (refine AW.ret ?_; conv => whnf) | (refine AF.one hT rfl ?_; conv => whnf) | (refine AF.nil ?_; conv => whnf) | (refine AF.imm hT rfl rfl rfl ?_; conv => whnf) | (refine AH.of hT rfl ?_; conv => whnf) | (refine ASplit.yes rfl ?_; conv => whnf) | (refine ACond.yes rfl ?_; conv => whnf) | (refine ASplit.no rfl ?_; conv => whnf) | (refine ACond.no rfl ?_; conv => whnf) | (refine ASplit.yes (by decide) ?_; conv => whnf) | (refine ACond.yes (by decide) ?_; conv => whnf) | (refine AReq.mk (by decide) ?_; conv => whnf) | (refine AIdx.iff.2 ⟨by decide, ?_⟩; conv => whnf) | (refine ACall.val (by kernel_rfl) f18 rfl rfl ?_; conv => whnf))
    exact hfin
  conv => whnf
  repeat (first | (refine AW.plan (id := 11) hm (.one 0 (.one 2 (.one 3 (.one 4 (.one 5 (.one 6 (.one 7 (.one 8 (.one 9 (.one 10 (.one 1 (.one 11 (.one 12 (.one 13 (.one 14 (.one 15 (.one 16 .nil))))))))))))))))) (by kernel_rfl) ?_; conv => whnf) | (refine AW.label ?_; conv => whnf) | (refine AW.scope ?_; conv => whnf) | (refine AO.cons hT ?_; conv => whnf) | (refine AO.nil ?_; conv => whnf) | (refine AW.seq ?_; conv => whnf) | (refine AW.region ?_; conv => whnf) | (refine AW.cond ?_; conv => whnf) | (refine AW.block ?_; conv => whnf) | (refine AW.loop ?_; conv => whnf) | (refine AW.skip ?_; conv => whnf) | (refine AW.exit ?_; conv => whnf) | (refine AW.ret ?_; conv => whnf) | (refine AF.one hT rfl ?_; conv => whnf) | (refine AF.nil ?_; conv => whnf) | (refine AF.imm hT rfl rfl rfl ?_; conv => whnf) | (refine AH.of hT rfl ?_; conv => whnf) | (refine ASplit.yes rfl ?_; conv => whnf) | (refine ACond.yes rfl ?_; conv => whnf) | (refine ASplit.no rfl ?_; conv => whnf) | (refine ACond.no rfl ?_; conv => whnf) | (refine ASplit.yes (by decide) ?_; conv => whnf) | (refine ACond.yes (by decide) ?_; conv => whnf) | (refine AReq.mk (by decide) ?_; conv => whnf) | (refine AIdx.iff.2 ⟨by decide, ?_⟩; conv => whnf) | (refine ACall.val (by kernel_rfl) f18 rfl rfl ?_; conv => whnf))
  refine ACond.dec (fun g3 => ?_) (fun g3 => ?_)
  · conv => whnf
    repeat (first | (refine AW.plan (id := 11) hm (.one 0 (.one 2 (.one 3 (.one 4 (.one 5 (.one 6 (.one 7 (.one 8 (.one 9 (.one 10 (.one 1 (.one 11 (.one 12 (.one 13 (.one 14 (.one 15 (.one 16 .nil))))))))))))))))) (by kernel_rfl) ?_; conv => whnf) | (refine AW.label ?_; conv => whnf) | (refine AW.scope ?_; conv => whnf) | (refine AO.cons hT ?_; conv => whnf) | (refine AO.nil ?_; conv => whnf) | (refine AW.seq ?_; conv => whnf) | (refine AW.region ?_; conv => whnf) | (refine AW.cond ?_; conv => whnf) | (refine AW.block ?_; conv => whnf) | (refine AW.loop ?_; conv => whnf) | (refine AW.skip ?_; conv => whnf) | (refine AW.exit ?_; conv => whnf) | (refine AW.ret ?_; conv => whnf) | (refine AF.one hT rfl ?_; conv => whnf) | (refine AF.nil ?_; conv => whnf) | (refine AF.imm hT rfl rfl rfl ?_; conv => whnf) | (refine AH.of hT rfl ?_; conv => whnf) | (refine ASplit.yes rfl ?_; conv => whnf) | (refine ACond.yes rfl ?_; conv => whnf) | (refine ASplit.no rfl ?_; conv => whnf) | (refine ACond.no rfl ?_; conv => whnf) | (refine ASplit.yes (by decide) ?_; conv => whnf) | (refine ACond.yes (by decide) ?_; conv => whnf) | (refine AReq.mk (by decide) ?_; conv => whnf) | (refine AIdx.iff.2 ⟨by decide, ?_⟩; conv => whnf) | (refine ACall.val (by kernel_rfl) f18 rfl rfl ?_; conv => whnf))
    exact hfin
  obtain ⟨e, rfl⟩ : ∃ e : Nat, ep = e := ⟨ep.toNat, by omega⟩
  conv => whnf
  repeat (first | (refine AW.plan (id := 11) hm (.one 0 (.one 2 (.one 3 (.one 4 (.one 5 (.one 6 (.one 7 (.one 8 (.one 9 (.one 10 (.one 1 (.one 11 (.one 12 (.one 13 (.one 14 (.one 15 (.one 16 .nil))))))))))))))))) (by kernel_rfl) ?_; conv => whnf) | (refine AW.label ?_; conv => whnf) | (refine AW.scope ?_; conv => whnf) | (refine AO.cons hT ?_; conv => whnf) | (refine AO.nil ?_; conv => whnf) | (refine AW.seq ?_; conv => whnf) | (refine AW.region ?_; conv => whnf) | (refine AW.cond ?_; conv => whnf) | (refine AW.block ?_; conv => whnf) | (refine AW.loop ?_; conv => whnf) | (refine AW.skip ?_; conv => whnf) | (refine AW.exit ?_; conv => whnf) | (refine AW.ret ?_; conv => whnf) | (refine AF.one hT rfl ?_; conv => whnf) | (refine AF.nil ?_; conv => whnf) | (refine AF.imm hT rfl rfl rfl ?_; conv => whnf) | (refine AH.of hT rfl ?_; conv => whnf) | (refine ASplit.yes rfl ?_; conv => whnf) | (refine ACond.yes rfl ?_; conv => whnf) | (refine ASplit.no rfl ?_; conv => whnf) | (refine ACond.no rfl ?_; conv => whnf) | (refine ASplit.yes (by decide) ?_; conv => whnf) | (refine ACond.yes (by decide) ?_; conv => whnf) | (refine AReq.mk (by decide) ?_; conv => whnf) | (refine AIdx.iff.2 ⟨by decide, ?_⟩; conv => whnf) | (refine ACall.val (by kernel_rfl) f18 rfl rfl ?_; conv => whnf))
  refine callNew 200 (by decide) (by decide) ?_
  simp only [List.length_cons, List.length_nil, Nat.zero_add, List.nil_append, List.cons_append, List.set_cons_zero, List.set_cons_succ]
  have K0 : Kp (newD 200) _ 3 190 e [] 0 := kp_new (by decide) (by decide) (by decide)
  have hn0 : (newD 200).n = 200 := rfl
  generalize newD 200 = y0 at *
  generalize List.replicate (64 * 200) (0 : UInt8) = cs0 at *
  conv => whnf
  repeat (first | (refine AW.plan (id := 11) hm (.one 0 (.one 2 (.one 3 (.one 4 (.one 5 (.one 6 (.one 7 (.one 8 (.one 9 (.one 10 (.one 1 (.one 11 (.one 12 (.one 13 (.one 14 (.one 15 (.one 16 .nil))))))))))))))))) (by kernel_rfl) ?_; conv => whnf) | (refine AW.label ?_; conv => whnf) | (refine AW.scope ?_; conv => whnf) | (refine AO.cons hT ?_; conv => whnf) | (refine AO.nil ?_; conv => whnf) | (refine AW.seq ?_; conv => whnf) | (refine AW.region ?_; conv => whnf) | (refine AW.cond ?_; conv => whnf) | (refine AW.block ?_; conv => whnf) | (refine AW.loop ?_; conv => whnf) | (refine AW.skip ?_; conv => whnf) | (refine AW.exit ?_; conv => whnf) | (refine AW.ret ?_; conv => whnf) | (refine AF.one hT rfl ?_; conv => whnf) | (refine AF.nil ?_; conv => whnf) | (refine AF.imm hT rfl rfl rfl ?_; conv => whnf) | (refine AH.of hT rfl ?_; conv => whnf) | (refine ASplit.yes rfl ?_; conv => whnf) | (refine ACond.yes rfl ?_; conv => whnf) | (refine ASplit.no rfl ?_; conv => whnf) | (refine ACond.no rfl ?_; conv => whnf) | (refine ASplit.yes (by decide) ?_; conv => whnf) | (refine ACond.yes (by decide) ?_; conv => whnf) | (refine AReq.mk (by decide) ?_; conv => whnf) | (refine AIdx.iff.2 ⟨by decide, ?_⟩; conv => whnf) | (refine ACall.val (by kernel_rfl) f18 rfl rfl ?_; conv => whnf))
  refine ALoop.mk (fun j E H => ∃ (i : Nat) (y : Dd) (cs : List UInt8) (bs : List Nat) (ck : Nat), i ≤ l.length ∧ j = l.length - i ∧ y.n = 200 ∧ Kp y cs 3 190 e (l.take i) (atF l i) ∧
      E = pad [.vs 1 l.length (l.map VD.sV), nV e, .agg (chC c), .any, .any, .ptr 0 0, .v (.bool false), .ptr 1 0, nV 0, .ptr 4 0, nV (atF l i : Nat), nV i] 130 ∧ H = [.cells 38 (chC c), dD 2 3 y, dC y, dM y bs ck, .cells 43 [nV 3, nV 190]])
    (n := l.length) _ _ ⟨0, y0, cs0, [], 0, by omega, rfl, hn0, K0, rfl, rfl⟩ (Conv.fit ?_) ?_
  · repeat' (first | exact Fit.nil | refine Fit.any ?_ | refine Fit.same ?_)
  rintro _ _ _ ⟨i, y, cs, bs, ck, hi, rfl, hyn, hK, rfl, rfl⟩
  conv => whnf
  repeat ((first | refine AW.plan (id := 11) hm (.one 0 (.one 2 (.one 3 (.one 4 (.one 5 (.one 6 (.one 7 (.one 8 (.one 9 (.one 10 (.one 1 (.one 11 (.one 12 (.one 13 (.one 14 (.one 15 (.one 16 .nil))))))))))))))))) (by kernel_rfl) ?_ | refine AO.cons hT ?_ | refine AO.nil ?_ | refine AW.seq ?_ | refine AW.region ?_ | refine AW.cond ?_ | refine AW.block ?_ | refine AW.loop ?_ | refine AW.skip ?_ | refine AW.exit ?_ | refine AW.ret ?_ | refine AW.label ?_ | refine AW.scope ?_ | refine AF.one hT rfl ?_ | refine AF.nil ?_ | refine AF.imm hT rfl rfl rfl ?_ | refine AH.of hT rfl ?_ | refine AD.cons hT rfl ?_ | refine AD.nil ?_ | refine AQ.cons hT rfl ?_ | refine AQ.nil ?_ | (refine ACall.val (by kernel_rfl) f18 rfl rfl ?_)); conv => whnf)
  refine ACond.dec (fun g4 => ?_) (fun g4 => ?_)
  · have hil : i < l.length := by omega
    have hsz := hs2.2 l[i] (List.getElem_mem hil)
    have hle := atF_le l hs2.2 (i + 1) (by omega)
    have hsu := atF_succ l i hil
    have htl : (l.take i).length = i := by rw [List.length_take]; omega
    obtain ⟨a1, K1⟩ := app_kp hK l[i] (may_ok (by omega) (by omega) (by omega) (by omega)) (by omega)
    have s1 := f20 y hK.cl.ok (3 : Nat) (190 : Nat) (atF l i : Nat) e (((l.take i).length : Int) + 1) l[i] rfl rfl (by decide) (nOk_of (by omega) (by omega)) (by omega)
    have n1 := (app_ok hK.cl.ok (3 : Nat) (190 : Nat) (atF l i : Nat) e (((l.take i).length : Int) + 1) l[i]).2
    generalize appF y (3 : Nat) (190 : Nat) (atF l i : Nat) e (((l.take i).length : Int) + 1) l[i] = r1 at *
    obtain ⟨r1, y1⟩ := r1
    simp only at a1 K1 s1 n1
    subst a1
    rw [htl] at s1
    have h21 := VD.f21 l[i] (by omega)
    conv => whnf
    repeat ((first | refine AW.plan (id := 11) hm (.one 0 (.one 2 (.one 3 (.one 4 (.one 5 (.one 6 (.one 7 (.one 8 (.one 9 (.one 10 (.one 1 (.one 11 (.one 12 (.one 13 (.one 14 (.one 15 (.one 16 .nil))))))))))))))))) (by kernel_rfl) ?_ | refine AO.cons hT ?_ | refine AO.nil ?_ | refine AW.seq ?_ | refine AW.region ?_ | refine AW.cond ?_ | refine AW.block ?_ | refine AW.loop ?_ | refine AW.skip ?_ | refine AW.exit ?_ | refine AW.ret ?_ | refine AW.label ?_ | refine AW.scope ?_ | refine AF.one hT rfl ?_ | refine AF.nil ?_ | refine AF.imm hT rfl rfl rfl ?_ | refine AH.of hT rfl ?_ | refine AD.cons hT rfl ?_ | refine AD.nil ?_ | refine AQ.cons hT rfl ?_ | refine AQ.nil ?_ | (refine ACall.val (by kernel_rfl) f18 rfl rfl ?_) | (refine AReq.mk ⟨by omega, by omega⟩ ?_) | (refine AIdx.map1 hil ?_)); conv => whnf)
    rw [wrap_i64' (n := (i : Int) + 1) (by omega) (by omega)]
    refine ACall.dev (by kernel_rfl) s1 rfl rfl rfl (by decide) (fun _ => rfl) (by rintro _ _ ⟨rfl, _⟩ _; rfl) ?_
    rintro _ yy bs1 ck1 ⟨rfl, hyy⟩
    rw [hyy]
    simp only [List.length_nil, Nat.zero_add, List.nil_append, List.set_cons_zero, List.set_cons_succ]
    conv => whnf
    repeat ((first | refine AW.plan (id := 11) hm (.one 0 (.one 2 (.one 3 (.one 4 (.one 5 (.one 6 (.one 7 (.one 8 (.one 9 (.one 10 (.one 1 (.one 11 (.one 12 (.one 13 (.one 14 (.one 15 (.one 16 .nil))))))))))))))))) (by kernel_rfl) ?_ | refine AO.cons hT ?_ | refine AO.nil ?_ | refine AW.seq ?_ | refine AW.region ?_ | refine AW.cond ?_ | refine AW.block ?_ | refine AW.loop ?_ | refine AW.skip ?_ | refine AW.exit ?_ | refine AW.ret ?_ | refine AW.label ?_ | refine AW.scope ?_ | refine AF.one hT rfl ?_ | refine AF.nil ?_ | refine AF.imm hT rfl rfl rfl ?_ | refine AH.of hT rfl ?_ | refine AD.cons hT rfl ?_ | refine AD.nil ?_ | refine AQ.cons hT rfl ?_ | refine AQ.nil ?_ | (refine ACall.val (by kernel_rfl) f18 rfl rfl ?_) | (refine AReq.mk ⟨by omega, by omega⟩ ?_) | (refine AIdx.map1 hil ?_)); conv => whnf)
    refine ASplit.no rfl ?_
    conv => whnf
    repeat ((first | refine AW.plan (id := 11) hm (.one 0 (.one 2 (.one 3 (.one 4 (.one 5 (.one 6 (.one 7 (.one 8 (.one 9 (.one 10 (.one 1 (.one 11 (.one 12 (.one 13 (.one 14 (.one 15 (.one 16 .nil))))))))))))))))) (by kernel_rfl) ?_ | refine AO.cons hT ?_ | refine AO.nil ?_ | refine AW.seq ?_ | refine AW.region ?_ | refine AW.cond ?_ | refine AW.block ?_ | refine AW.loop ?_ | refine AW.skip ?_ | refine AW.exit ?_ | refine AW.ret ?_ | refine AW.label ?_ | refine AW.scope ?_ | refine AF.one hT rfl ?_ | refine AF.nil ?_ | refine AF.imm hT rfl rfl rfl ?_ | refine AH.of hT rfl ?_ | refine AD.cons hT rfl ?_ | refine AD.nil ?_ | refine AQ.cons hT rfl ?_ | refine AQ.nil ?_ | (refine ACall.val (by kernel_rfl) f18 rfl rfl ?_) | (refine AReq.mk ⟨by omega, by omega⟩ ?_) | (refine AIdx.map1 hil ?_)); conv => whnf)
    refine ACall.val (by kernel_rfl) h21 rfl rfl ?_
    conv => whnf
    repeat ((first | refine AW.plan (id := 11) hm (.one 0 (.one 2 (.one 3 (.one 4 (.one 5 (.one 6 (.one 7 (.one 8 (.one 9 (.one 10 (.one 1 (.one 11 (.one 12 (.one 13 (.one 14 (.one 15 (.one 16 .nil))))))))))))))))) (by kernel_rfl) ?_ | refine AO.cons hT ?_ | refine AO.nil ?_ | refine AW.seq ?_ | refine AW.region ?_ | refine AW.cond ?_ | refine AW.block ?_ | refine AW.loop ?_ | refine AW.skip ?_ | refine AW.exit ?_ | refine AW.ret ?_ | refine AW.label ?_ | refine AW.scope ?_ | refine AF.one hT rfl ?_ | refine AF.nil ?_ | refine AF.imm hT rfl rfl rfl ?_ | refine AH.of hT rfl ?_ | refine AD.cons hT rfl ?_ | refine AD.nil ?_ | refine AQ.cons hT rfl ?_ | refine AQ.nil ?_ | (refine ACall.val (by kernel_rfl) f18 rfl rfl ?_) | (refine AReq.mk ⟨by omega, by omega⟩ ?_) | (refine AIdx.map1 hil ?_)); conv => whnf)
    rw [wrap_i64' (n := ((atF l i : Nat) : Int) + (VD.pcs l[i].size : Nat)) (by omega) (by omega)]
    refine ACond.no ?_ ?_
    · simp
    conv => whnf
    repeat ((first | refine AW.plan (id := 11) hm (.one 0 (.one 2 (.one 3 (.one 4 (.one 5 (.one 6 (.one 7 (.one 8 (.one 9 (.one 10 (.one 1 (.one 11 (.one 12 (.one 13 (.one 14 (.one 15 (.one 16 .nil))))))))))))))))) (by kernel_rfl) ?_ | refine AO.cons hT ?_ | refine AO.nil ?_ | refine AW.seq ?_ | refine AW.region ?_ | refine AW.cond ?_ | refine AW.block ?_ | refine AW.loop ?_ | refine AW.skip ?_ | refine AW.exit ?_ | refine AW.ret ?_ | refine AW.label ?_ | refine AW.scope ?_ | refine AF.one hT rfl ?_ | refine AF.nil ?_ | refine AF.imm hT rfl rfl rfl ?_ | refine AH.of hT rfl ?_ | refine AD.cons hT rfl ?_ | refine AD.nil ?_ | refine AQ.cons hT rfl ?_ | refine AQ.nil ?_ | (refine ACall.val (by kernel_rfl) f18 rfl rfl ?_) | (refine AReq.mk ⟨by omega, by omega⟩ ?_) | (refine AIdx.map1 hil ?_)); conv => whnf)
    rw [wrap_i64' (n := (i : Int) + 1) (by omega) (by omega)]
    have K2 : Kp y1 (putC cs (3 + atF l i) (VD.fputB e ((List.take i l).length + 1) l[i]).data.toList) 3 190 e (l.take (i + 1)) (atF l (i + 1)) := by
      rw [hsu, List.take_add_one, List.getElem?_eq_getElem hil]
      exact K1
    refine AHead.mk (l.length - (i + 1)) (pad [.vs 1 l.length (l.map VD.sV), nV e, .agg (chC c), .any, .any, .ptr 0 0, .v (.bool false), .ptr 1 0, nV 0, .ptr 4 0, nV (atF l (i + 1) : Nat), nV (i + 1 : Nat)] 130) _ (by omega) ⟨i + 1, y1, _, bs1, ck1, by omega, rfl, n1.trans hyn, K2, rfl, rfl⟩ (Conv.fit ?_)
    rw [hsu]
    repeat' (first | exact Fit.nil | refine Fit.any ?_ | refine Fit.same ?_)
  obtain rfl : i = l.length := by omega
  conv => whnf
  repeat ((first | refine AW.plan (id := 11) hm (.one 0 (.one 2 (.one 3 (.one 4 (.one 5 (.one 6 (.one 7 (.one 8 (.one 9 (.one 10 (.one 1 (.one 11 (.one 12 (.one 13 (.one 14 (.one 15 (.one 16 .nil))))))))))))))))) (by kernel_rfl) ?_ | refine AO.cons hT ?_ | refine AO.nil ?_ | refine AW.seq ?_ | refine AW.region ?_ | refine AW.cond ?_ | refine AW.block ?_ | refine AW.loop ?_ | refine AW.skip ?_ | refine AW.exit ?_ | refine AW.ret ?_ | refine AW.label ?_ | refine AW.scope ?_ | refine AF.one hT rfl ?_ | refine AF.nil ?_ | refine AF.imm hT rfl rfl rfl ?_ | refine AH.of hT rfl ?_ | refine AD.cons hT rfl ?_ | refine AD.nil ?_ | refine AQ.cons hT rfl ?_ | refine AQ.nil ?_ | (refine ACall.val (by kernel_rfl) f18 rfl rfl ?_) | (refine AReq.mk ⟨by omega, by omega⟩ ?_) | (refine AIdx.map1 hil ?_)); conv => whnf)
  refine AOut.stay ?_
  conv => whnf
  repeat ((first | refine AW.plan (id := 11) hm (.one 0 (.one 2 (.one 3 (.one 4 (.one 5 (.one 6 (.one 7 (.one 8 (.one 9 (.one 10 (.one 1 (.one 11 (.one 12 (.one 13 (.one 14 (.one 15 (.one 16 .nil))))))))))))))))) (by kernel_rfl) ?_ | refine AO.cons hT ?_ | refine AO.nil ?_ | refine AW.seq ?_ | refine AW.region ?_ | refine AW.cond ?_ | refine AW.block ?_ | refine AW.loop ?_ | refine AW.skip ?_ | refine AW.exit ?_ | refine AW.ret ?_ | refine AW.label ?_ | refine AW.scope ?_ | refine AF.one hT rfl ?_ | refine AF.nil ?_ | refine AF.imm hT rfl rfl rfl ?_ | refine AH.of hT rfl ?_ | refine AD.cons hT rfl ?_ | refine AD.nil ?_ | refine AQ.cons hT rfl ?_ | refine AQ.nil ?_ | (refine ACall.val (by kernel_rfl) f18 rfl rfl ?_) | (refine AReq.mk ⟨by omega, by omega⟩ ?_) | (refine AIdx.map1 hil ?_)); conv => whnf)
  refine ACall.dev (by kernel_rfl) (f22 y hK.cl.ok.pos) rfl rfl rfl (by decide) (fun _ => rfl) (by rintro _ _ ⟨rfl, _⟩ _; rfl) ?_
  rintro _ yy bs1 ck1 ⟨rfl, hyy⟩
  rw [hyy]
  have KB := kp_boot hK c
  have hb := f23 { y with f := true, a := 0 } (off_ok hK.cl.ok) c (by omega)
  generalize bootD c { y with f := true, a := 0 } = yb at *
  generalize { y with f := true, a := 0 } = yo at *
  simp only [List.length_nil, Nat.zero_add, List.nil_append, List.set_cons_zero, List.set_cons_succ]
  conv => whnf
  repeat ((first | refine AW.plan (id := 11) hm (.one 0 (.one 2 (.one 3 (.one 4 (.one 5 (.one 6 (.one 7 (.one 8 (.one 9 (.one 10 (.one 1 (.one 11 (.one 12 (.one 13 (.one 14 (.one 15 (.one 16 .nil))))))))))))))))) (by kernel_rfl) ?_ | refine AO.cons hT ?_ | refine AO.nil ?_ | refine AW.seq ?_ | refine AW.region ?_ | refine AW.cond ?_ | refine AW.block ?_ | refine AW.loop ?_ | refine AW.skip ?_ | refine AW.exit ?_ | refine AW.ret ?_ | refine AW.label ?_ | refine AW.scope ?_ | refine AF.one hT rfl ?_ | refine AF.nil ?_ | refine AF.imm hT rfl rfl rfl ?_ | refine AH.of hT rfl ?_ | refine AD.cons hT rfl ?_ | refine AD.nil ?_ | refine AQ.cons hT rfl ?_ | refine AQ.nil ?_ | (refine ACall.val (by kernel_rfl) f18 rfl rfl ?_) | (refine AReq.mk ⟨by omega, by omega⟩ ?_) | (refine AIdx.map1 hil ?_)); conv => whnf)
  refine ACall.devL (by kernel_rfl) hb rfl rfl rfl (by decide) (.cons (.same (show _ = AV.ren _ (.agg (chC c)) by simp only [AV.ren, chC_ren]; rfl)) .nil) (by rintro _ _ ⟨rfl, _⟩ _; rfl) ?_
  rintro _ yy2 bs2 ck2 ⟨rfl, hyy2⟩
  rw [hyy2]
  simp only [List.length_nil, Nat.zero_add, List.nil_append, List.set_cons_zero, List.set_cons_succ]
  rw [List.take_length] at KB
  have s2 := f24 yb KB.cl.ok (3 : Nat) (190 : Nat) (e : Nat) rfl rfl
  rw [load_kp KB (by decide)] at s2
  have s3 := f24 yb KB.cl.ok (3 : Nat) (190 : Nat) ((e : Int) + 1) rfl rfl
  rw [load_kp_other KB (by decide) _ (by omega)] at s3
  unfold VD.tV at s2 s3
  conv => whnf
  repeat ((first | refine AW.plan (id := 11) hm (.one 0 (.one 2 (.one 3 (.one 4 (.one 5 (.one 6 (.one 7 (.one 8 (.one 9 (.one 10 (.one 1 (.one 11 (.one 12 (.one 13 (.one 14 (.one 15 (.one 16 .nil))))))))))))))))) (by kernel_rfl) ?_ | refine AO.cons hT ?_ | refine AO.nil ?_ | refine AW.seq ?_ | refine AW.region ?_ | refine AW.cond ?_ | refine AW.block ?_ | refine AW.loop ?_ | refine AW.skip ?_ | refine AW.exit ?_ | refine AW.ret ?_ | refine AW.label ?_ | refine AW.scope ?_ | refine AF.one hT rfl ?_ | refine AF.nil ?_ | refine AF.imm hT rfl rfl rfl ?_ | refine AH.of hT rfl ?_ | refine AD.cons hT rfl ?_ | refine AD.nil ?_ | refine AQ.cons hT rfl ?_ | refine AQ.nil ?_ | (refine ACall.val (by kernel_rfl) f18 rfl rfl ?_) | (refine AReq.mk ⟨by omega, by omega⟩ ?_) | (refine AIdx.map1 hil ?_)); conv => whnf)
  refine ACall.dev (by kernel_rfl) s2 rfl rfl rfl (by decide) (fun _ => rfl) (by rintro _ _ ⟨rfl, _⟩ ρ; simp only [AV.ren, renL, VD.texts_ren]) ?_
  rintro _ yy3 bs3 ck3 ⟨rfl, hyy3⟩
  rw [hyy3]
  simp only [List.length_nil, Nat.zero_add, List.nil_append, List.set_cons_zero, List.set_cons_succ]
  conv => whnf
  repeat ((first | refine AW.plan (id := 11) hm (.one 0 (.one 2 (.one 3 (.one 4 (.one 5 (.one 6 (.one 7 (.one 8 (.one 9 (.one 10 (.one 1 (.one 11 (.one 12 (.one 13 (.one 14 (.one 15 (.one 16 .nil))))))))))))))))) (by kernel_rfl) ?_ | refine AO.cons hT ?_ | refine AO.nil ?_ | refine AW.seq ?_ | refine AW.region ?_ | refine AW.cond ?_ | refine AW.block ?_ | refine AW.loop ?_ | refine AW.skip ?_ | refine AW.exit ?_ | refine AW.ret ?_ | refine AW.label ?_ | refine AW.scope ?_ | refine AF.one hT rfl ?_ | refine AF.nil ?_ | refine AF.imm hT rfl rfl rfl ?_ | refine AH.of hT rfl ?_ | refine AD.cons hT rfl ?_ | refine AD.nil ?_ | refine AQ.cons hT rfl ?_ | refine AQ.nil ?_ | (refine ACall.val (by kernel_rfl) f18 rfl rfl ?_) | (refine AReq.mk ⟨by omega, by omega⟩ ?_) | (refine AIdx.map1 hil ?_)); conv => whnf)
  rw [wrap_i64' (n := (e : Int) + 1) (by omega) (by omega)]
  refine ACall.dev (by kernel_rfl) s3 rfl rfl rfl (by decide) (fun _ => rfl) (by rintro _ _ ⟨rfl, _⟩ ρ; simp only [AV.ren, renL, VD.texts_ren]) ?_
  rintro _ yy4 bs4 ck4 ⟨rfl, hyy4⟩
  rw [hyy4]
  simp only [List.length_nil, Nat.zero_add, List.nil_append, List.set_cons_zero, List.set_cons_succ]
  have h25 := VD.f25 l l (by omega) (by omega)
  unfold VD.tV at h25
  rw [decide_eq_true rfl] at h25
  conv => whnf
  repeat ((first | refine AW.plan (id := 11) hm (.one 0 (.one 2 (.one 3 (.one 4 (.one 5 (.one 6 (.one 7 (.one 8 (.one 9 (.one 10 (.one 1 (.one 11 (.one 12 (.one 13 (.one 14 (.one 15 (.one 16 .nil))))))))))))))))) (by kernel_rfl) ?_ | refine AO.cons hT ?_ | refine AO.nil ?_ | refine AW.seq ?_ | refine AW.region ?_ | refine AW.cond ?_ | refine AW.block ?_ | refine AW.loop ?_ | refine AW.skip ?_ | refine AW.exit ?_ | refine AW.ret ?_ | refine AW.label ?_ | refine AW.scope ?_ | refine AF.one hT rfl ?_ | refine AF.nil ?_ | refine AF.imm hT rfl rfl rfl ?_ | refine AH.of hT rfl ?_ | refine AD.cons hT rfl ?_ | refine AD.nil ?_ | refine AQ.cons hT rfl ?_ | refine AQ.nil ?_ | (refine ACall.val (by kernel_rfl) f18 rfl rfl ?_) | (refine AReq.mk ⟨by omega, by omega⟩ ?_) | (refine AIdx.map1 hil ?_)); conv => whnf)
  refine ACall.val (by kernel_rfl) h25 (tl2_ren _ l l) rfl ?_
  conv => whnf
  repeat (first | (refine AW.plan (id := 11) hm (.one 0 (.one 2 (.one 3 (.one 4 (.one 5 (.one 6 (.one 7 (.one 8 (.one 9 (.one 10 (.one 1 (.one 11 (.one 12 (.one 13 (.one 14 (.one 15 (.one 16 .nil))))))))))))))))) (by kernel_rfl) ?_; conv => whnf) | (refine AW.label ?_; conv => whnf) | (refine AW.scope ?_; conv => whnf) | (refine AO.cons hT ?_; conv => whnf) | (refine AO.nil ?_; conv => whnf) | (refine AW.seq ?_; conv => whnf) | (refine AW.region ?_; conv => whnf) | (refine AW.cond ?_; conv => whnf) | (refine AW.block ?_; conv => whnf) | (refine AW.loop ?_; conv => whnf) | (refine AW.skip ?_; conv => whnf) | (refine AW.exit ?_; conv => whnf) | (refine AW.ret ?_; conv => whnf) | (refine AF.one hT rfl ?_; conv => whnf) | (refine AF.nil ?_; conv => whnf) | (refine AF.imm hT rfl rfl rfl ?_; conv => whnf) | (refine AH.of hT rfl ?_; conv => whnf) | (refine ASplit.yes rfl ?_; conv => whnf) | (refine ACond.yes rfl ?_; conv => whnf) | (refine ASplit.no rfl ?_; conv => whnf) | (refine ACond.no rfl ?_; conv => whnf) | (refine ASplit.yes (by decide) ?_; conv => whnf) | (refine ACond.yes (by decide) ?_; conv => whnf) | (refine AReq.mk (by decide) ?_; conv => whnf) | (refine AIdx.iff.2 ⟨by decide, ?_⟩; conv => whnf) | (refine ACall.val (by kernel_rfl) f18 rfl rfl ?_; conv => whnf) | (refine AReq.mk ⟨by omega, by omega⟩ ?_; conv => whnf) | (refine AIdx.map1 hil ?_; conv => whnf))
  refine ASplit.yes (decide_eq_true rfl) ?_
  conv => whnf
  repeat (first | (refine AW.plan (id := 11) hm (.one 0 (.one 2 (.one 3 (.one 4 (.one 5 (.one 6 (.one 7 (.one 8 (.one 9 (.one 10 (.one 1 (.one 11 (.one 12 (.one 13 (.one 14 (.one 15 (.one 16 .nil))))))))))))))))) (by kernel_rfl) ?_; conv => whnf) | (refine AW.label ?_; conv => whnf) | (refine AW.scope ?_; conv => whnf) | (refine AO.cons hT ?_; conv => whnf) | (refine AO.nil ?_; conv => whnf) | (refine AW.seq ?_; conv => whnf) | (refine AW.region ?_; conv => whnf) | (refine AW.cond ?_; conv => whnf) | (refine AW.block ?_; conv => whnf) | (refine AW.loop ?_; conv => whnf) | (refine AW.skip ?_; conv => whnf) | (refine AW.exit ?_; conv => whnf) | (refine AW.ret ?_; conv => whnf) | (refine AF.one hT rfl ?_; conv => whnf) | (refine AF.nil ?_; conv => whnf) | (refine AF.imm hT rfl rfl rfl ?_; conv => whnf) | (refine AH.of hT rfl ?_; conv => whnf) | (refine ASplit.yes rfl ?_; conv => whnf) | (refine ACond.yes rfl ?_; conv => whnf) | (refine ASplit.no rfl ?_; conv => whnf) | (refine ACond.no rfl ?_; conv => whnf) | (refine ASplit.yes (by decide) ?_; conv => whnf) | (refine ACond.yes (by decide) ?_; conv => whnf) | (refine AReq.mk (by decide) ?_; conv => whnf) | (refine AIdx.iff.2 ⟨by decide, ?_⟩; conv => whnf) | (refine ACall.val (by kernel_rfl) f18 rfl rfl ?_; conv => whnf) | (refine AReq.mk ⟨by omega, by omega⟩ ?_; conv => whnf) | (refine AIdx.map1 hil ?_; conv => whnf))
  exact hfin
end Go.Aw.VE

set_option linter.unusedSimpArgs false
set_option linter.unusedVariables false
namespace Go.Aw.VE
open Go Go.Proofs
theorem und4 : P.underlying 4 = some .bool := by kernel_rfl
theorem flat_bV (l : List Bool) : l.flatMap (fun b => [AV.v (.bool b)]) = l.map bV := by
  induction l with
  | nil => rfl
  | cons b l ih => rw [List.flatMap_cons, ih]; rfl
theorem flat_sV (l : List ByteArray) : l.flatMap (fun s => [AV.v (.string s)]) = l.map VD.sV := by
  induction l with
  | nil => rfl
  | cons b l ih => rw [List.flatMap_cons, ih]; rfl
def chWf (c : Ch) : Prop := c.keep.length ≤ maxLen ∧ (Lit.int .i64 c.torn).wf = true ∧ (Lit.int .i64 c.cut).wf = true
theorem opens_ch : Opens P 38 chC chWf :=
  Opens.map (opens_struct Tryz.underlying38 (by kernel_rfl) (opensF_cons (sz := 1) rfl (by kernel_rfl) (opens_slice Tryz.underlying36 (sz := 1) (by kernel_rfl) (by decide) (opens_bool und4)) (opensF_cons (sz := 1) rfl (by kernel_rfl) (opens_int und3) (opensF_cons (sz := 1) rfl (by kernel_rfl) (opens_int und3) opensF_nil))))
    chC chWf (fun x => ⟨x.1, x.2.1, x.2.2.1⟩) (fun x _ => by simp only [chC, flat_bV]; rfl) (fun x h => ⟨h.1.1, h.2.1, h.2.2.1⟩)
end Go.Aw.VE

set_option linter.unusedSimpArgs false
set_option linter.unusedVariables false
namespace Go.Proofs.YtllchkemgjmjiaaGreatDoor
open Go Go.Aw Go.Aw.VE Go.ChangeShapes Go.WideShapes Go.ChangeAt Go.RowKit

theorem keeps_own : ownKnob Tryz.prog.godebug = none := by kernel_rfl
theorem keeps_laid : laidOutB Tryz.prog = true := by kernel_rfl

theorem keeps_open : OpenA Tryz.prog [32, 3, 38] (fun x : List ByteArray × (Int × (Ch × Unit)) => [.vs 1 (x.1).length ((x.1).flatMap fun s => [.v (.string s)]), .v (.int .i64 (x.2.1)), .agg (chC (x.2.2.1))]) (fun x => ((x.1).length ≤ maxLen ∧ ∀ a ∈ (x.1), a.size ≤ maxLen ∧ [AV.v (.string a)].length = 1) ∧ (Lit.int .i64 (x.2.1)).wf = true ∧ chWf (x.2.2.1) ∧ True) :=
  openA_cons (openV_slice Tryz.underlying32 (sz := 1) (by kernel_rfl) (by decide) (opens_string Tryz.underlying9)) (openA_cons (openV_int Tryz.underlying3) (openA_cons (openV_struct Tryz.underlying38 opens_ch) (openA_nil)))

set_option maxRecDepth 100000 in
theorem keeps_contract (H : Type) (enc : TypeId × Value → H) (W : World) (base : Nat) (args : Array Value) (ds gs : List (DataW H)) (before : List MemPlace)
    (hval : ∀ (j : Nat) t v, Tryz.f4.params[j]? = some t → args[j]? = some v → Value.okWide Tryz.prog W .any base t v)
    (hW : DataW.Whole enc Tryz.prog Tryz.f4.params.toList Rows.trailKeepsSpec.vars false W args.toList ds gs before) :
    Calls Tryz.prog 4 args W fun e W' => ∃ v, e = .returned v ∧ Rows.trailKeepsSpec.post enc Tryz.prog Tryz.f4 false true false false W args v W' :=
  law_contract keeps_laid (by kernel_rfl) (t0 := 4) (by kernel_rfl) Tryz.underlying4 rfl (by rw [Tryz.params4]; exact keeps_open)
    (fun a ha => by
      have h := (f4 a.1 ha.1.1 a.2.1 ha.2.1 a.2.2.1 ha.2.2.1.1)
      unfold VD.tV at h
      rw [← flat_sV] at h
      exact h.mono (fun r H h => h.1))
    (fun H ds h => by
      rw [Tryz.params4] at h
      match ds, h with
      | [d0, d1, d2], _ => rfl) hval hW

set_option maxRecDepth 100000 in
theorem keeps_lifted (os : Os) (started : os.Started) (H : Type) (enc : TypeId × Value → H) :
    ReturnsInHanded {} Tryz.checked os 4 .any (fun w args => (Rows.trailKeepsSpec.pre enc Tryz.prog Tryz.f4 Rows.trailKeepsRow.domain false w args ∧ laidMetH Tryz.prog Rows.trailKeepsRow.laid w) ∧ sizedMet enc Tryz.prog Tryz.f4 (OpenSpec.ofChange Rows.trailKeepsSpec) false w args)
      (Rows.trailKeepsSpec.post enc Tryz.prog Tryz.f4 false true false false) := by
  refine returnsInHanded_of_change_and (C := Tryz.checked) (X := fun w _ => laidMetH Tryz.prog Rows.trailKeepsRow.laid w) (fun _ _ _ hh h => h.of_heap hh) keeps_own started (by kernel_rfl) Tryz.func4
    (ChangeSpec.witness_shaped (enc := enc) (C := Tryz.checked) (os := os) (X := fun w _ => laidMetH Tryz.prog Rows.trailKeepsRow.laid w) false (World.laidAll Tryz.prog os Rows.trailKeepsRow.laid) #[.slice none 0 0, .int .i64 0, .agg ⟨[.slice none 0 0, .int .i64 0, .int .i64 0]⟩] 8 (World.laidAll_os _ _ _)
      (World.shaped_of_ZipB (by kernel_rfl) (by kernel_rfl)) (by kernel_rfl) (by kernel_rfl) (by kernel_rfl)
      (by rw [MakeChecks.laidMetH_plain _ _ _ (by kernel_rfl)]; exact laidMet_laidAll _ (by kernel_rfl) (by kernel_rfl))) ?_
  intro W base args ds gs before hval hW _ _ _ _
  exact keeps_contract H enc W base args ds gs before hval hW

theorem keeps_over : Rows.TrailKeepsSaid :=
  OpenClaim.holds_of_wide 4 Tryz.f4 rfl rfl rfl rfl rfl rfl rfl ⟨rfl, rfl, rfl, rfl, rfl⟩ rfl rfl rfl rfl rfl (by kernel_rfl) Tryz.func4 (by kernel_rfl)
    (of_decide_eq_true (by kernel_rfl)) (by unfold Func.isWrapper; first | (rw [if_pos (by decide +kernel)]; kernel_rfl) | (rw [if_neg (by decide +kernel)]; exact ⟨rfl, rfl⟩))
    (fun os started H enc _ => keeps_lifted os started H enc)

theorem trailKeeps : Rows.TrailKeepsCardSaid :=
  Claim7.holds_tied_plain_at .later [] [.data, .pinned] true (true, "c7043bd026b29a768968e47719cad74057e93809809b15c9492d8c74415f2a49") true keeps_over (fun _ h => by cases h) (by kernel_rfl) (fun _ h => by cases h) trailKeeps_row_tie rfl ⟨rfl, rfl⟩ (by kernel_rfl) rfl
    (fun f fn hf hfn => by
      obtain rfl : f = 4 := Option.some.inj ((show Tryz.prog.funcNamed "backhaul/backhaullaw11.TrailKeeps" = some 4 by kernel_rfl).symm.trans hf) |>.symm
      obtain rfl : fn = Tryz.f4 := (Option.some.inj (Tryz.func4.symm.trans hfn)).symm
      exact ⟨by kernel_rfl, fun j t ht => by
        rw [Tryz.params4] at ht
        have hm : t ∈ [32, 3, 38] := by simpa using Array.mem_of_getElem? ht
        have hall : ([32, 3, 38].all fun u => !Tryz.prog.wantsStandIn u) = true := by kernel_rfl
        exact (show Tryz.prog.wantsStandIn t = false by simpa using List.all_eq_true.1 hall t hm)⟩)
    (by kernel_rfl)
#print axioms trailKeeps
end Go.Proofs.YtllchkemgjmjiaaGreatDoor

