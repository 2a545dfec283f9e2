/-
  The statement VaultKeeps: opened again, a vault tells the text that was laid last, and all bodies behind that, without any condition.
-/
import Derived.Test.YtllchkemgjmjiaaGreatDoorVdB
set_option linter.unusedSimpArgs false
set_option linter.unusedVariables false
set_option linter.unusedSimpArgs false
set_option linter.unusedVariables false
set_option maxHeartbeats 4000000
namespace Go.Aw.VD
open Go
theorem slotF_cases (s : ByteArray) : ((slotF s).2.2 ≠ 0 ∧ (slotF s).1 = 0 ∧ (slotF s).2.1 = e0) ∨ ((slotF s).2.2 = 0 ∧ 1 ≤ (slotF s).1 ∧ (slotF s).1 ≤ 1000000000) := by
  unfold slotF
  split
  · exact .inl ⟨by decide, rfl, rfl⟩
  split
  · exact .inl ⟨by decide, rfl, rfl⟩
  split
  · exact .inl ⟨by decide, rfl, rfl⟩
  split
  · exact .inl ⟨by decide, rfl, rfl⟩
  split
  · exact .inl ⟨by decide, rfl, rfl⟩
  split
  · rename_i h; exact .inl ⟨h, rfl, rfl⟩
  split
  · exact .inl ⟨by decide, rfl, rfl⟩
  · exact .inr ⟨rfl, by simp only; omega, by simp only; omega⟩

noncomputable def stepF (best : Nat × ByteArray × Int) (i : Int) (s : ByteArray) : Nat × ByteArray × Int :=
  if (slotF s).2.2 = 0 ∧ best.1 < (slotF s).1 then ((slotF s).1, (slotF s).2.1, i) else best
noncomputable def bestAt (a b : ByteArray) : Nat → Nat × ByteArray × Int
  | 0 => (0, e0, -1)
  | 1 => stepF (0, e0, -1) 0 a
  | _ => stepF (stepF (0, e0, -1) 0 a) 1 b
noncomputable def chooseF (a b : ByteArray) : Nat × ByteArray × Int := bestAt a b 2
def snapC (x : Nat × ByteArray × Int) : List AV := [nV x.1, sV x.2.1]
def chooseR (x : Nat × ByteArray × Int) : AV := .tup [.agg (snapC x), nV x.2.2]

theorem f45 (a b : ByteArray) (ha : a.size ≤ 4611686018427387904) (hb : b.size ≤ 4611686018427387904) : Fun P 45 [sV a, sV b] (chooseR (chooseF a b)) := by
  refine spec_of hT (f := 45) (fn := Go.Proofs.Tryz.f45) (c := body Go.Proofs.Tryz.f45) (by kernel_rfl) (by kernel_rfl) ?_
  conv => whnf
  repeat ((first | refine AO.cons hT ?_ | refine AO.nil ?_ | refine AW.seq ?_ | refine AW.region ?_ | refine AW.cond ?_ | refine AW.block ?_ | refine AW.loop ?_ | refine AW.skip ?_ | refine AW.exit ?_ | refine AW.ret ?_ | refine AW.label ?_ | refine AW.scope ?_ | refine AF.one hT rfl ?_ | refine AF.nil ?_ | refine AF.imm hT rfl rfl rfl ?_ | refine AH.of hT rfl ?_ | refine AD.cons hT rfl ?_ | refine AD.nil ?_ | refine AQ.cons hT rfl ?_ | refine AQ.nil ?_); conv => whnf)
  refine ALoop.mk (fun k E H => ∃ i : Nat, i ≤ 2 ∧ k = 2 - i ∧ E = pad [.any, .any, .any, .any, .ptr 0 0, nV 0, .ptr 1 0, nV (bestAt a b i).2.2, .any, .any, .any, .any, .any, .any, .any, .agg [sV a, sV b], nV i] 39 ∧ H = [.cells 88 [nV 0, sV e0], .cells 88 (snapC (bestAt a b i))]) (n := 2) _ _ ⟨0, by omega, rfl, rfl, rfl⟩ (Conv.fit ?_) ?_
  · repeat' (first | exact Fit.nil | refine Fit.any ?_ | refine Fit.same ?_)
  rintro _ _ _ ⟨i, hi, rfl, rfl, rfl⟩
  conv => whnf
  repeat ((first | refine AO.cons hT ?_ | refine AO.nil ?_ | refine AW.seq ?_ | refine AW.region ?_ | refine AW.cond ?_ | refine AW.block ?_ | refine AW.loop ?_ | refine AW.skip ?_ | refine AW.exit ?_ | refine AW.ret ?_ | refine AW.label ?_ | refine AW.scope ?_ | refine AF.one hT rfl ?_ | refine AF.nil ?_ | refine AF.imm hT rfl rfl rfl ?_ | refine AH.of hT rfl ?_ | refine AD.cons hT rfl ?_ | refine AD.nil ?_ | refine AQ.cons hT rfl ?_ | refine AQ.nil ?_); conv => whnf)
  refine ACond.dec (fun h => ?_) (fun h => ?_)
  · have hs : ∃ s : ByteArray, s.size ≤ 4611686018427387904 ∧ ([sV a, sV b].drop (i * 1)).take 1 = [sV s] ∧ bestAt a b (i + 1) = stepF (bestAt a b i) i s := by
      have hi2 : i = 0 ∨ i = 1 := by omega
      rcases hi2 with rfl | rfl
      · exact ⟨a, ha, rfl, rfl⟩
      · exact ⟨b, hb, rfl, rfl⟩
    obtain ⟨s, hs, hel, hst⟩ := hs
    have hi2 : i + 1 ≤ 2 := by omega
    conv => whnf
    repeat ((first | refine AO.cons hT ?_ | refine AO.nil ?_ | refine AW.seq ?_ | refine AW.region ?_ | refine AW.cond ?_ | refine AW.block ?_ | refine AW.loop ?_ | refine AW.skip ?_ | refine AW.exit ?_ | refine AW.ret ?_ | refine AW.label ?_ | refine AW.scope ?_ | refine AF.one hT rfl ?_ | refine AF.nil ?_ | refine AF.imm hT rfl rfl rfl ?_ | refine AH.of hT rfl ?_ | refine AD.cons hT rfl ?_ | refine AD.nil ?_ | refine AQ.cons hT rfl ?_ | refine AQ.nil ?_); conv => whnf)
    refine AReq.mk ⟨by omega, by simp; omega⟩ ?_
    rw [show Int.toNat (i : Int) = i from rfl]
    refine AIdx.iff.2 ⟨by show i * 1 + 1 ≤ 2; omega, ?_⟩
    rw [show (T 9).size = 1 from rfl, hel]
    conv => whnf
    repeat ((first | refine AO.cons hT ?_ | refine AO.nil ?_ | refine AW.seq ?_ | refine AW.region ?_ | refine AW.cond ?_ | refine AW.block ?_ | refine AW.loop ?_ | refine AW.skip ?_ | refine AW.exit ?_ | refine AW.ret ?_ | refine AW.label ?_ | refine AW.scope ?_ | refine AF.one hT rfl ?_ | refine AF.nil ?_ | refine AF.imm hT rfl rfl rfl ?_ | refine AH.of hT rfl ?_ | refine AD.cons hT rfl ?_ | refine AD.nil ?_ | refine AQ.cons hT rfl ?_ | refine AQ.nil ?_); conv => whnf)
    refine ACall.val (by kernel_rfl) (f74 s hs) rfl rfl ?_
    generalize hbst : bestAt a b i = best at hst ⊢
    generalize hx : slotF s = x
    have hcs := slotF_cases s
    rw [hx] at hcs
    unfold stepF at hst
    rw [hx] at hst
    conv => whnf
    repeat ((first | refine AO.cons hT ?_ | refine AO.nil ?_ | refine AW.seq ?_ | refine AW.region ?_ | refine AW.cond ?_ | refine AW.block ?_ | refine AW.loop ?_ | refine AW.skip ?_ | refine AW.exit ?_ | refine AW.ret ?_ | refine AW.label ?_ | refine AW.scope ?_ | refine AF.one hT rfl ?_ | refine AF.nil ?_ | refine AF.imm hT rfl rfl rfl ?_ | refine AH.of hT rfl ?_ | refine AD.cons hT rfl ?_ | refine AD.nil ?_ | refine AQ.cons hT rfl ?_ | refine AQ.nil ?_); conv => whnf)
    refine ASplit.dec (fun h1 => ?_) (fun h1 => ?_)
    · conv => whnf
      repeat ((first | refine AO.cons hT ?_ | refine AO.nil ?_ | refine AW.seq ?_ | refine AW.region ?_ | refine AW.cond ?_ | refine AW.block ?_ | refine AW.loop ?_ | refine AW.skip ?_ | refine AW.exit ?_ | refine AW.ret ?_ | refine AW.label ?_ | refine AW.scope ?_ | refine AF.one hT rfl ?_ | refine AF.nil ?_ | refine AF.imm hT rfl rfl rfl ?_ | refine AH.of hT rfl ?_ | refine AD.cons hT rfl ?_ | refine AD.nil ?_ | refine AQ.cons hT rfl ?_ | refine AQ.nil ?_); conv => whnf)
      refine ACond.dec (fun h2 => ?_) (fun h2 => ?_)
      · rw [if_pos ⟨h1, by omega⟩] at hst
        conv => whnf
        repeat ((first | refine AO.cons hT ?_ | refine AO.nil ?_ | refine AW.seq ?_ | refine AW.region ?_ | refine AW.cond ?_ | refine AW.block ?_ | refine AW.loop ?_ | refine AW.skip ?_ | refine AW.exit ?_ | refine AW.ret ?_ | refine AW.label ?_ | refine AW.scope ?_ | refine AF.one hT rfl ?_ | refine AF.nil ?_ | refine AF.imm hT rfl rfl rfl ?_ | refine AH.of hT rfl ?_ | refine AD.cons hT rfl ?_ | refine AD.nil ?_ | refine AQ.cons hT rfl ?_ | refine AQ.nil ?_); conv => whnf)
        rw [wrap_i64 ((i : Int) + 1) (by omega) (by omega)]
        refine AHead.mk (2 - (i + 1)) (pad [.any, .any, .any, .any, .ptr 0 0, nV 0, .ptr 1 0, nV (x.1, x.2.1, (i : Int)).2.2, .any, .any, .any, .any, .any, .any, .any, .agg [sV a, sV b], nV ((i + 1 : Nat) : Int)] 39) [.cells 88 [nV 0, sV e0], .cells 88 (snapC (x.1, x.2.1, (i : Int)))] (by omega) ⟨i + 1, by omega, rfl, by rw [hst], by rw [hst]⟩ (Conv.ren [0, 1] _ (by simp) (by simp) ?_ (.same rfl (.same rfl .nil)))
        repeat' (first | exact Fit.nil | refine Fit.any ?_ | refine Fit.same ?_)
      · rw [if_neg (fun hc => h2 (by omega))] at hst
        conv => whnf
        repeat ((first | refine AO.cons hT ?_ | refine AO.nil ?_ | refine AW.seq ?_ | refine AW.region ?_ | refine AW.cond ?_ | refine AW.block ?_ | refine AW.loop ?_ | refine AW.skip ?_ | refine AW.exit ?_ | refine AW.ret ?_ | refine AW.label ?_ | refine AW.scope ?_ | refine AF.one hT rfl ?_ | refine AF.nil ?_ | refine AF.imm hT rfl rfl rfl ?_ | refine AH.of hT rfl ?_ | refine AD.cons hT rfl ?_ | refine AD.nil ?_ | refine AQ.cons hT rfl ?_ | refine AQ.nil ?_); conv => whnf)
        rw [wrap_i64 ((i : Int) + 1) (by omega) (by omega)]
        refine AHead.mk (2 - (i + 1)) (pad [.any, .any, .any, .any, .ptr 0 0, nV 0, .ptr 1 0, nV best.2.2, .any, .any, .any, .any, .any, .any, .any, .agg [sV a, sV b], nV ((i + 1 : Nat) : Int)] 39) [.cells 88 [nV 0, sV e0], .cells 88 (snapC best)] (by omega) ⟨i + 1, by omega, rfl, by rw [hst], by rw [hst]⟩ (Conv.ren [0, 1] _ (by simp) (by simp) ?_ (.same rfl (.same rfl .nil)))
        repeat' (first | exact Fit.nil | refine Fit.any ?_ | refine Fit.same ?_)
    · rw [if_neg (fun hc => h1 hc.1)] at hst
      conv => whnf
      repeat (first | (refine AW.label ?_; conv => whnf) | (refine AW.scope ?_; conv => whnf) | (refine AO.cons hT ?_; conv => whnf) | (refine AO.nil ?_; conv => whnf) | (refine AW.seq ?_; conv => whnf) | (refine AW.region ?_; conv => whnf) | (refine AW.cond ?_; conv => whnf) | (refine AW.block ?_; conv => whnf) | (refine AW.loop ?_; conv => whnf) | (refine AW.skip ?_; conv => whnf) | (refine AW.exit ?_; conv => whnf) | (refine AW.ret ?_; conv => whnf) | (refine AF.one hT rfl ?_; conv => whnf) | (refine AF.nil ?_; conv => whnf) | (refine AF.imm hT rfl rfl rfl ?_; conv => whnf) | (refine AH.of hT rfl ?_; conv => whnf) | (refine ASplit.yes rfl ?_; conv => whnf) | (refine ACond.yes rfl ?_; conv => whnf) | (refine ASplit.no rfl ?_; conv => whnf) | (refine ACond.no rfl ?_; conv => whnf) | (refine ASplit.yes (by decide) ?_; conv => whnf) | (refine ACond.yes (by decide) ?_; conv => whnf) | (refine AReq.mk (by decide) ?_; conv => whnf) | (refine AIdx.iff.2 ⟨by decide, ?_⟩; conv => whnf))
      rw [wrap_i64 ((i : Int) + 1) (by omega) (by omega)]
      refine AHead.mk (2 - (i + 1)) (pad [.any, .any, .any, .any, .ptr 0 0, nV 0, .ptr 1 0, nV best.2.2, .any, .any, .any, .any, .any, .any, .any, .agg [sV a, sV b], nV ((i + 1 : Nat) : Int)] 39) [.cells 88 [nV 0, sV e0], .cells 88 (snapC best)] (by omega) ⟨i + 1, by omega, rfl, by rw [hst], by rw [hst]⟩ (Conv.ren [0, 1] _ (by simp) (by simp) ?_ (.same rfl (.same rfl .nil)))
      repeat' (first | exact Fit.nil | refine Fit.any ?_ | refine Fit.same ?_)
  · obtain rfl : i = 2 := by omega
    conv => whnf
    repeat ((first | refine AO.cons hT ?_ | refine AO.nil ?_ | refine AW.seq ?_ | refine AW.region ?_ | refine AW.cond ?_ | refine AW.block ?_ | refine AW.loop ?_ | refine AW.skip ?_ | refine AW.exit ?_ | refine AW.ret ?_ | refine AW.label ?_ | refine AW.scope ?_ | refine AF.one hT rfl ?_ | refine AF.nil ?_ | refine AF.imm hT rfl rfl rfl ?_ | refine AH.of hT rfl ?_ | refine AD.cons hT rfl ?_ | refine AD.nil ?_ | refine AQ.cons hT rfl ?_ | refine AQ.nil ?_); conv => whnf)
    refine AOut.stay ?_
    conv => whnf
    repeat ((first | refine AO.cons hT ?_ | refine AO.nil ?_ | refine AW.seq ?_ | refine AW.region ?_ | refine AW.cond ?_ | refine AW.block ?_ | refine AW.loop ?_ | refine AW.skip ?_ | refine AW.exit ?_ | refine AW.ret ?_ | refine AW.label ?_ | refine AW.scope ?_ | refine AF.one hT rfl ?_ | refine AF.nil ?_ | refine AF.imm hT rfl rfl rfl ?_ | refine AH.of hT rfl ?_ | refine AD.cons hT rfl ?_ | refine AD.nil ?_ | refine AQ.cons hT rfl ?_ | refine AQ.nil ?_); conv => whnf)
    exact AFin.val rfl ⟨rfl, rfl⟩
end Go.Aw.VD

set_option linter.unusedSimpArgs false
set_option linter.unusedVariables false
set_option maxHeartbeats 4000000
namespace Go.Aw.VD
open Go
theorem chooseF_eq (a b : ByteArray) : chooseF a b = if (slotF a).2.2 ≠ 0 ∧ (slotF b).2.2 ≠ 0 then (0, e0, -1) else if (slotF a).2.2 = 0 ∧ ((slotF b).2.2 ≠ 0 ∨ (slotF b).1 ≤ (slotF a).1) then ((slotF a).1, (slotF a).2.1, 0) else ((slotF b).1, (slotF b).2.1, 1) := by
  have hA : stepF (0, e0, -1) 0 a = if (slotF a).2.2 = 0 then ((slotF a).1, (slotF a).2.1, 0) else (0, e0, -1) := by
    rcases slotF_cases a with h | h
    · rw [stepF, if_neg (fun hc => h.1 hc.1), if_neg h.1]
    · rw [stepF, if_pos ⟨h.1, by simp only; omega⟩, if_pos h.1]
  show stepF (stepF (0, e0, -1) 0 a) 1 b = _
  rw [hA]
  have ha := slotF_cases a
  have hb := slotF_cases b
  clear hA
  unfold stepF
  generalize slotF a = x at *
  generalize slotF b = y at *
  obtain ⟨xg, xt, xe⟩ := x
  obtain ⟨yg, yt, ye⟩ := y
  simp only at *
  by_cases h1 : xe = 0
  · rw [if_pos h1]
    simp only
    repeat' split
    all_goals first | rfl | (exfalso; omega)
  · rw [if_neg h1]
    simp only
    repeat' split
    all_goals first | rfl | (exfalso; omega)

noncomputable def nextF (a b : ByteArray) : Nat × Int :=
  if (chooseF a b).2.2 < 0 then (1, 0) else if (chooseF a b).1 = 1000000000 then (0, 1 - (chooseF a b).2.2) else ((chooseF a b).1 + 1, 1 - (chooseF a b).2.2)
def nextR (x : Nat × Int) : AV := .tup [nV x.1, nV x.2]
theorem chooseF_cases (a b : ByteArray) : (chooseF a b = (0, e0, -1) ∧ (slotF a).2.2 ≠ 0 ∧ (slotF b).2.2 ≠ 0) ∨ (1 ≤ (chooseF a b).1 ∧ (chooseF a b).1 ≤ 1000000000 ∧ ((chooseF a b).2.2 = 0 ∨ (chooseF a b).2.2 = 1)) := by
  rw [chooseF_eq]
  have ha := slotF_cases a
  have hb := slotF_cases b
  split
  · rename_i h; exact .inl ⟨rfl, h⟩
  split
  · rename_i h1 h2; exact .inr ⟨by simp only; omega, by simp only; omega, .inl rfl⟩
  · rename_i h1 h2; exact .inr ⟨by simp only; omega, by simp only; omega, .inr rfl⟩

theorem f39 (a b : ByteArray) (ha : a.size ≤ 4611686018427387904) (hb : b.size ≤ 4611686018427387904) : Fun P 39 [sV a, sV b] (nextR (nextF a b)) := by
  refine spec_of hT (f := 39) (fn := Go.Proofs.Tryz.f39) (c := body Go.Proofs.Tryz.f39) (by kernel_rfl) (by kernel_rfl) ?_
  have h11 := f45 a b ha hb
  have hc := chooseF_cases a b
  unfold nextF
  generalize chooseF a b = c at *
  conv => whnf
  repeat ((first | refine AO.cons hT ?_ | refine AO.nil ?_ | refine AW.seq ?_ | refine AW.region ?_ | refine AW.cond ?_ | refine AW.block ?_ | refine AW.loop ?_ | refine AW.skip ?_ | refine AW.exit ?_ | refine AW.ret ?_ | refine AW.label ?_ | refine AW.scope ?_ | refine AF.one hT rfl ?_ | refine AF.nil ?_ | refine AF.imm hT rfl rfl rfl ?_ | refine AH.of hT rfl ?_ | refine AD.cons hT rfl ?_ | refine AD.nil ?_ | refine AQ.cons hT rfl ?_ | refine AQ.nil ?_ | (refine ACall.val (by kernel_rfl) h11 rfl rfl ?_)); conv => whnf)
  rcases hc with ⟨rfl, _⟩ | ⟨hc1, hc2, hc3⟩
  · refine ACond.no rfl ?_
    conv => whnf
    repeat (first | (refine AW.label ?_; conv => whnf) | (refine AW.scope ?_; conv => whnf) | (refine AO.cons hT ?_; conv => whnf) | (refine AO.nil ?_; conv => whnf) | (refine AW.seq ?_; conv => whnf) | (refine AW.region ?_; conv => whnf) | (refine AW.cond ?_; conv => whnf) | (refine AW.block ?_; conv => whnf) | (refine AW.loop ?_; conv => whnf) | (refine AW.skip ?_; conv => whnf) | (refine AW.exit ?_; conv => whnf) | (refine AW.ret ?_; conv => whnf) | (refine AF.one hT rfl ?_; conv => whnf) | (refine AF.nil ?_; conv => whnf) | (refine AF.imm hT rfl rfl rfl ?_; conv => whnf) | (refine AH.of hT rfl ?_; conv => whnf) | (refine ASplit.yes rfl ?_; conv => whnf) | (refine ACond.yes rfl ?_; conv => whnf) | (refine ASplit.no rfl ?_; conv => whnf) | (refine ACond.no rfl ?_; conv => whnf) | (refine ASplit.yes (by decide) ?_; conv => whnf) | (refine ACond.yes (by decide) ?_; conv => whnf) | (refine AReq.mk (by decide) ?_; conv => whnf) | (refine AIdx.iff.2 ⟨by decide, ?_⟩; conv => whnf) | (refine ACall.val (by kernel_rfl) h11 rfl rfl ?_; conv => whnf))
    rw [if_pos (by decide)]
    exact AFin.val rfl ⟨rfl, rfl⟩
  have e1 : IntKind.i64.wrap (1 - c.2.2) = 1 - c.2.2 := wrap_i64 _ (by omega) (by omega)
  rw [if_neg (show ¬ c.2.2 < 0 by omega)]
  refine ACond.dec (fun h2 => ?_) (fun h2 => ?_)
  · rw [if_pos (by omega)]
    conv => whnf
    repeat ((first | refine AO.cons hT ?_ | refine AO.nil ?_ | refine AW.seq ?_ | refine AW.region ?_ | refine AW.cond ?_ | refine AW.block ?_ | refine AW.loop ?_ | refine AW.skip ?_ | refine AW.exit ?_ | refine AW.ret ?_ | refine AW.label ?_ | refine AW.scope ?_ | refine AF.one hT rfl ?_ | refine AF.nil ?_ | refine AF.imm hT rfl rfl rfl ?_ | refine AH.of hT rfl ?_ | refine AD.cons hT rfl ?_ | refine AD.nil ?_ | refine AQ.cons hT rfl ?_ | refine AQ.nil ?_ | (refine ACall.val (by kernel_rfl) h11 rfl rfl ?_)); conv => whnf)
    rw [e1]
    exact AFin.val rfl ⟨rfl, rfl⟩
  · rw [if_neg (by omega)]
    conv => whnf
    repeat ((first | refine AO.cons hT ?_ | refine AO.nil ?_ | refine AW.seq ?_ | refine AW.region ?_ | refine AW.cond ?_ | refine AW.block ?_ | refine AW.loop ?_ | refine AW.skip ?_ | refine AW.exit ?_ | refine AW.ret ?_ | refine AW.label ?_ | refine AW.scope ?_ | refine AF.one hT rfl ?_ | refine AF.nil ?_ | refine AF.imm hT rfl rfl rfl ?_ | refine AH.of hT rfl ?_ | refine AD.cons hT rfl ?_ | refine AD.nil ?_ | refine AQ.cons hT rfl ?_ | refine AQ.nil ?_ | (refine ACall.val (by kernel_rfl) h11 rfl rfl ?_)); conv => whnf)
    refine ACond.no (decide_eq_false (by omega)) ?_
    conv => whnf
    repeat ((first | refine AO.cons hT ?_ | refine AO.nil ?_ | refine AW.seq ?_ | refine AW.region ?_ | refine AW.cond ?_ | refine AW.block ?_ | refine AW.loop ?_ | refine AW.skip ?_ | refine AW.exit ?_ | refine AW.ret ?_ | refine AW.label ?_ | refine AW.scope ?_ | refine AF.one hT rfl ?_ | refine AF.nil ?_ | refine AF.imm hT rfl rfl rfl ?_ | refine AH.of hT rfl ?_ | refine AD.cons hT rfl ?_ | refine AD.nil ?_ | refine AQ.cons hT rfl ?_ | refine AQ.nil ?_ | (refine ACall.val (by kernel_rfl) h11 rfl rfl ?_)); conv => whnf)
    rw [e1, wrap_i64 ((c.1 : Int) + 1) (by omega) (by omega)]
    exact AFin.val rfl ⟨rfl, rfl⟩

end Go.Aw.VD

set_option linter.unusedSimpArgs false
set_option linter.unusedVariables false
set_option maxHeartbeats 4000000
namespace Go.Aw.VD
open Go
def ofL (l : List UInt8) : ByteArray := ⟨l.toArray⟩
def sealS (s : ByteArray) : ByteArray := s ++ ofL (fourF (onF 0 s.data.toList))
def bodyS (g : Nat) (t : ByteArray) : ByteArray := ofL (be 8 g) ++ ofL (be 4 t.size) ++ t
def putB (g : Nat) (t : ByteArray) : ByteArray := sealS (bodyS g t) ++ ofL (zs (whole (t.size + 16) - (t.size + 16)))
def putF (g : Int) (t : ByteArray) : ByteArray × Int :=
  if g < 1 ∨ 1000000000 < g then (e0, 2) else if 100000 < t.size then (e0, 3) else (putB g.toNat t, 0)
theorem size_append (a b : ByteArray) : (a ++ b).size = a.size + b.size := ByteArray.size_append
theorem size_ofL (l : List UInt8) : (ofL l).size = l.length := rfl
theorem bodyS_size (g : Nat) (t : ByteArray) : (bodyS g t).size = t.size + 12 := by
  unfold bodyS
  rw [size_append, size_append, size_ofL, size_ofL, be_len, be_len]; omega
theorem sealS_size (s : ByteArray) : (sealS s).size = s.size + 4 := by
  unfold sealS; rw [size_append, size_ofL, fourF_len]

theorem f42 (g : Int) (t : ByteArray) (ht : t.size ≤ 4611686018427387904) : Fun P 42 [.agg [nV g, sV t]] (.tup [sV (putF g t).1, nV (putF g t).2]) := by
  refine spec_of hT (f := 42) (fn := Go.Proofs.Tryz.f42) (c := body Go.Proofs.Tryz.f42) (by kernel_rfl) (by kernel_rfl) ?_
  unfold putF
  conv => whnf
  repeat ((first | refine AO.cons hT ?_ | refine AO.nil ?_ | refine AW.seq ?_ | refine AW.region ?_ | refine AW.cond ?_ | refine AW.block ?_ | refine AW.loop ?_ | refine AW.skip ?_ | refine AW.exit ?_ | refine AW.ret ?_ | refine AW.label ?_ | refine AW.scope ?_ | refine AF.one hT rfl ?_ | refine AF.nil ?_ | refine AF.imm hT rfl rfl rfl ?_ | refine AH.of hT rfl ?_ | refine AD.cons hT rfl ?_ | refine AD.nil ?_ | refine AQ.cons hT rfl ?_ | refine AQ.nil ?_); conv => whnf)
  refine ASplit.dec (fun h1 => ?_) (fun h1 => ?_)
  · rw [if_pos (.inl h1)]
    conv => whnf
    repeat (first | (refine AW.label ?_; conv => whnf) | (refine AW.scope ?_; conv => whnf) | (refine AO.cons hT ?_; conv => whnf) | (refine AO.nil ?_; conv => whnf) | (refine AW.seq ?_; conv => whnf) | (refine AW.region ?_; conv => whnf) | (refine AW.cond ?_; conv => whnf) | (refine AW.block ?_; conv => whnf) | (refine AW.loop ?_; conv => whnf) | (refine AW.skip ?_; conv => whnf) | (refine AW.exit ?_; conv => whnf) | (refine AW.ret ?_; conv => whnf) | (refine AF.one hT rfl ?_; conv => whnf) | (refine AF.nil ?_; conv => whnf) | (refine AF.imm hT rfl rfl rfl ?_; conv => whnf) | (refine AH.of hT rfl ?_; conv => whnf) | (refine ASplit.yes rfl ?_; conv => whnf) | (refine ACond.yes rfl ?_; conv => whnf) | (refine ASplit.no rfl ?_; conv => whnf) | (refine ACond.no rfl ?_; conv => whnf) | (refine ASplit.yes (by decide) ?_; conv => whnf) | (refine ACond.yes (by decide) ?_; conv => whnf) | (refine AReq.mk (by decide) ?_; conv => whnf) | (refine AIdx.iff.2 ⟨by decide, ?_⟩; conv => whnf))
    exact AFin.val rfl ⟨rfl, rfl⟩
  conv => whnf
  repeat ((first | refine AO.cons hT ?_ | refine AO.nil ?_ | refine AW.seq ?_ | refine AW.region ?_ | refine AW.cond ?_ | refine AW.block ?_ | refine AW.loop ?_ | refine AW.skip ?_ | refine AW.exit ?_ | refine AW.ret ?_ | refine AW.label ?_ | refine AW.scope ?_ | refine AF.one hT rfl ?_ | refine AF.nil ?_ | refine AF.imm hT rfl rfl rfl ?_ | refine AH.of hT rfl ?_ | refine AD.cons hT rfl ?_ | refine AD.nil ?_ | refine AQ.cons hT rfl ?_ | refine AQ.nil ?_); conv => whnf)
  refine ACond.dec (fun h2 => ?_) (fun h2 => ?_)
  · rw [if_pos (.inr h2)]
    conv => whnf
    repeat ((first | refine AO.cons hT ?_ | refine AO.nil ?_ | refine AW.seq ?_ | refine AW.region ?_ | refine AW.cond ?_ | refine AW.block ?_ | refine AW.loop ?_ | refine AW.skip ?_ | refine AW.exit ?_ | refine AW.ret ?_ | refine AW.label ?_ | refine AW.scope ?_ | refine AF.one hT rfl ?_ | refine AF.nil ?_ | refine AF.imm hT rfl rfl rfl ?_ | refine AH.of hT rfl ?_ | refine AD.cons hT rfl ?_ | refine AD.nil ?_ | refine AQ.cons hT rfl ?_ | refine AQ.nil ?_); conv => whnf)
    exact AFin.val rfl ⟨rfl, rfl⟩
  rw [if_neg (by omega)]
  obtain ⟨n, rfl⟩ : ∃ n : Nat, g = n := ⟨g.toNat, by omega⟩
  conv => whnf
  repeat ((first | refine AO.cons hT ?_ | refine AO.nil ?_ | refine AW.seq ?_ | refine AW.region ?_ | refine AW.cond ?_ | refine AW.block ?_ | refine AW.loop ?_ | refine AW.skip ?_ | refine AW.exit ?_ | refine AW.ret ?_ | refine AW.label ?_ | refine AW.scope ?_ | refine AF.one hT rfl ?_ | refine AF.nil ?_ | refine AF.imm hT rfl rfl rfl ?_ | refine AH.of hT rfl ?_ | refine AD.cons hT rfl ?_ | refine AD.nil ?_ | refine AQ.cons hT rfl ?_ | refine AQ.nil ?_); conv => whnf)
  refine ACond.dec (fun h3 => ?_) (fun h3 => ?_)
  · rw [if_pos (by omega)]
    conv => whnf
    repeat ((first | refine AO.cons hT ?_ | refine AO.nil ?_ | refine AW.seq ?_ | refine AW.region ?_ | refine AW.cond ?_ | refine AW.block ?_ | refine AW.loop ?_ | refine AW.skip ?_ | refine AW.exit ?_ | refine AW.ret ?_ | refine AW.label ?_ | refine AW.scope ?_ | refine AF.one hT rfl ?_ | refine AF.nil ?_ | refine AF.imm hT rfl rfl rfl ?_ | refine AH.of hT rfl ?_ | refine AD.cons hT rfl ?_ | refine AD.nil ?_ | refine AQ.cons hT rfl ?_ | refine AQ.nil ?_); conv => whnf)
    exact AFin.val rfl ⟨rfl, rfl⟩
  rw [if_neg (by omega)]
  conv => whnf
  repeat ((first | refine AO.cons hT ?_ | refine AO.nil ?_ | refine AW.seq ?_ | refine AW.region ?_ | refine AW.cond ?_ | refine AW.block ?_ | refine AW.loop ?_ | refine AW.skip ?_ | refine AW.exit ?_ | refine AW.ret ?_ | refine AW.label ?_ | refine AW.scope ?_ | refine AF.one hT rfl ?_ | refine AF.nil ?_ | refine AF.imm hT rfl rfl rfl ?_ | refine AH.of hT rfl ?_ | refine AD.cons hT rfl ?_ | refine AD.nil ?_ | refine AQ.cons hT rfl ?_ | refine AQ.nil ?_ | (refine ACall.val (by kernel_rfl) (f70 n 8 (.inr rfl) (by omega)) rfl rfl ?_) | (refine ACall.val (by kernel_rfl) (f70 t.size 4 (.inl rfl) (by omega)) rfl rfl ?_) | (refine ACond.no rfl ?_)); conv => whnf)
  have hb8 : (⟨(be 8 n).toArray⟩ : ByteArray).size = 8 := by show (be 8 n).toArray.size = 8; simp [be_len]
  have hb4 : (⟨(be 4 t.size).toArray⟩ : ByteArray).size = 4 := by show (be 4 t.size).toArray.size = 4; simp [be_len]
  refine AReq.mk (by omega) ?_
  conv => whnf
  repeat ((first | refine AO.cons hT ?_ | refine AO.nil ?_ | refine AW.seq ?_ | refine AW.region ?_ | refine AW.cond ?_ | refine AW.block ?_ | refine AW.loop ?_ | refine AW.skip ?_ | refine AW.exit ?_ | refine AW.ret ?_ | refine AW.label ?_ | refine AW.scope ?_ | refine AF.one hT rfl ?_ | refine AF.nil ?_ | refine AF.imm hT rfl rfl rfl ?_ | refine AH.of hT rfl ?_ | refine AD.cons hT rfl ?_ | refine AD.nil ?_ | refine AQ.cons hT rfl ?_ | refine AQ.nil ?_ | (refine ACall.val (by kernel_rfl) (f70 n 8 (.inr rfl) (by omega)) rfl rfl ?_) | (refine ACall.val (by kernel_rfl) (f70 t.size 4 (.inl rfl) (by omega)) rfl rfl ?_) | (refine ACond.no rfl ?_)); conv => whnf)
  refine AReq.mk (by rw [size_append]; omega) ?_
  conv => whnf
  repeat ((first | refine AO.cons hT ?_ | refine AO.nil ?_ | refine AW.seq ?_ | refine AW.region ?_ | refine AW.cond ?_ | refine AW.block ?_ | refine AW.loop ?_ | refine AW.skip ?_ | refine AW.exit ?_ | refine AW.ret ?_ | refine AW.label ?_ | refine AW.scope ?_ | refine AF.one hT rfl ?_ | refine AF.nil ?_ | refine AF.imm hT rfl rfl rfl ?_ | refine AH.of hT rfl ?_ | refine AD.cons hT rfl ?_ | refine AD.nil ?_ | refine AQ.cons hT rfl ?_ | refine AQ.nil ?_ | (refine ACall.val (by kernel_rfl) (f70 n 8 (.inr rfl) (by omega)) rfl rfl ?_) | (refine ACall.val (by kernel_rfl) (f70 t.size 4 (.inl rfl) (by omega)) rfl rfl ?_) | (refine ACond.no rfl ?_)); conv => whnf)
  refine ACall.val (by kernel_rfl) (f71 (bodyS n t) (by rw [bodyS_size]; omega)) rfl rfl ?_
  have hs : bodyS n t ++ ⟨(fourF (onF 0 (bodyS n t).data.toList)).toArray⟩ = sealS (bodyS n t) := rfl
  have hsz : (sealS (bodyS n t)).size = t.size + 16 := by rw [sealS_size, bodyS_size]
  rw [hs]
  have hpb : putB (Int.toNat n) t = sealS (bodyS n t) ++ ofL (zs (whole (t.size + 16) - (t.size + 16))) := rfl
  rw [hpb]
  generalize sealS (bodyS n t) = o at *
  have hw1 : t.size + 16 ≤ whole (t.size + 16) := by unfold whole; omega
  have hw2 : whole (t.size + 16) ≤ t.size + 16 + 63 := by unfold whole; omega
  conv => whnf
  repeat ((first | refine AO.cons hT ?_ | refine AO.nil ?_ | refine AW.seq ?_ | refine AW.region ?_ | refine AW.cond ?_ | refine AW.block ?_ | refine AW.loop ?_ | refine AW.skip ?_ | refine AW.exit ?_ | refine AW.ret ?_ | refine AW.label ?_ | refine AW.scope ?_ | refine AF.one hT rfl ?_ | refine AF.nil ?_ | refine AF.imm hT rfl rfl rfl ?_ | refine AH.of hT rfl ?_ | refine AD.cons hT rfl ?_ | refine AD.nil ?_ | refine AQ.cons hT rfl ?_ | refine AQ.nil ?_ | (refine ACall.val (by kernel_rfl) (f70 n 8 (.inr rfl) (by omega)) rfl rfl ?_) | (refine ACall.val (by kernel_rfl) (f70 t.size 4 (.inl rfl) (by omega)) rfl rfl ?_) | (refine ACond.no rfl ?_)); conv => whnf)
  rw [hsz]
  refine ACall.val (by kernel_rfl) (f72 (t.size + 16) (by omega)) rfl rfl ?_
  generalize whole (t.size + 16) = w at *
  conv => whnf
  repeat ((first | refine AO.cons hT ?_ | refine AO.nil ?_ | refine AW.seq ?_ | refine AW.region ?_ | refine AW.cond ?_ | refine AW.block ?_ | refine AW.loop ?_ | refine AW.skip ?_ | refine AW.exit ?_ | refine AW.ret ?_ | refine AW.label ?_ | refine AW.scope ?_ | refine AF.one hT rfl ?_ | refine AF.nil ?_ | refine AF.imm hT rfl rfl rfl ?_ | refine AH.of hT rfl ?_ | refine AD.cons hT rfl ?_ | refine AD.nil ?_ | refine AQ.cons hT rfl ?_ | refine AQ.nil ?_ | (refine ACall.val (by kernel_rfl) (f70 n 8 (.inr rfl) (by omega)) rfl rfl ?_) | (refine ACall.val (by kernel_rfl) (f70 t.size 4 (.inl rfl) (by omega)) rfl rfl ?_) | (refine ACond.no rfl ?_)); conv => whnf)
  rw [hsz, wrap_i64 ((w : Int) - (t.size + 16 : Nat)) (by omega) (by omega), show ((w : Int) - (t.size + 16 : Nat)) = ((w - (t.size + 16) : Nat) : Int) by omega]
  refine ACall.val (by kernel_rfl) (f58 _ (by omega)) rfl rfl ?_
  conv => whnf
  repeat ((first | refine AO.cons hT ?_ | refine AO.nil ?_ | refine AW.seq ?_ | refine AW.region ?_ | refine AW.cond ?_ | refine AW.block ?_ | refine AW.loop ?_ | refine AW.skip ?_ | refine AW.exit ?_ | refine AW.ret ?_ | refine AW.label ?_ | refine AW.scope ?_ | refine AF.one hT rfl ?_ | refine AF.nil ?_ | refine AF.imm hT rfl rfl rfl ?_ | refine AH.of hT rfl ?_ | refine AD.cons hT rfl ?_ | refine AD.nil ?_ | refine AQ.cons hT rfl ?_ | refine AQ.nil ?_ | (refine ACall.val (by kernel_rfl) (f70 n 8 (.inr rfl) (by omega)) rfl rfl ?_) | (refine ACall.val (by kernel_rfl) (f70 t.size 4 (.inl rfl) (by omega)) rfl rfl ?_) | (refine ACond.no rfl ?_)); conv => whnf)
  refine AReq.mk (by rw [hsz]; show _ + (zs _).toArray.size ≤ _; simp [zs]; omega) ?_
  conv => whnf
  repeat ((first | refine AO.cons hT ?_ | refine AO.nil ?_ | refine AW.seq ?_ | refine AW.region ?_ | refine AW.cond ?_ | refine AW.block ?_ | refine AW.loop ?_ | refine AW.skip ?_ | refine AW.exit ?_ | refine AW.ret ?_ | refine AW.label ?_ | refine AW.scope ?_ | refine AF.one hT rfl ?_ | refine AF.nil ?_ | refine AF.imm hT rfl rfl rfl ?_ | refine AH.of hT rfl ?_ | refine AD.cons hT rfl ?_ | refine AD.nil ?_ | refine AQ.cons hT rfl ?_ | refine AQ.nil ?_ | (refine ACall.val (by kernel_rfl) (f70 n 8 (.inr rfl) (by omega)) rfl rfl ?_) | (refine ACall.val (by kernel_rfl) (f70 t.size 4 (.inl rfl) (by omega)) rfl rfl ?_) | (refine ACond.no rfl ?_)); conv => whnf)
  exact AFin.val rfl ⟨rfl, rfl⟩
end Go.Aw.VD

set_option linter.unusedSimpArgs false
set_option linter.unusedVariables false
set_option maxHeartbeats 4000000
namespace Go.Aw.VD
open Go
theorem be_succ (w n : Nat) : be (w + 1) n = be w (n / 256) ++ [UInt8.ofNat n] := by
  unfold be
  rw [List.range_succ, List.map_append]
  congr 1
  · apply List.map_congr_left
    intro j hj
    rw [List.mem_range] at hj
    rw [Nat.div_div_eq_div_mul, show w + 1 - 1 - j = (w - 1 - j) + 1 by omega, Nat.pow_succ, Nat.mul_comm]
  · simp
theorem beVal_be : ∀ (w n : Nat), n < 256 ^ w → beVal (be w n) = n
  | 0, n, h => by
    have : n = 0 := by simpa using h
    subst this; rfl
  | w + 1, n, h => by
    rw [be_succ, beVal_snoc, beVal_be w (n / 256) (by rw [Nat.pow_succ] at h; omega), UInt8.toNat_ofNat']
    omega

theorem app_list (a b : ByteArray) : (a ++ b).data.toList = a.data.toList ++ b.data.toList := by
  simp [ByteArray.data_append]
theorem ofL_list (l : List UInt8) : (ofL l).data.toList = l := rfl
theorem unseal_seal (s : ByteArray) : unsealF (sealS s) = (s, 0) := by
  have hsz := sealS_size s
  have hl := size_list s
  have e1 : (sealS s).extract 0 (s.size + 4 - 4) = s := by
    apply list_inj
    rw [ext_list, sealS, app_list, List.drop_zero, show s.size + 4 - 4 - 0 = s.data.toList.length by omega, List.take_left']
    rfl
  have e2 : (sealS s).extract (s.size + 4 - 4) (s.size + 4) = ofL (fourF (onF 0 s.data.toList)) := by
    apply list_inj
    rw [ext_list, sealS, app_list, show s.size + 4 - 4 = s.data.toList.length by omega, List.drop_left', ofL_list, List.take_of_length_le (by rw [fourF_len]; omega)]
    rfl
  unfold unsealF
  rw [if_neg (by omega)]
  simp only [hsz, e1, e2]
  rw [if_pos (by unfold ofL; simp)]

theorem putB_list (g : Nat) (t : ByteArray) : (putB g t).data.toList = be 8 g ++ (be 4 t.size ++ (t.data.toList ++ (fourF (onF 0 (bodyS g t).data.toList) ++ zs (whole (t.size + 16) - (t.size + 16))))) := by
  unfold putB
  rw [app_list, ofL_list, sealS, app_list, ofL_list]
  conv => lhs; rw [bodyS, app_list, app_list, ofL_list, ofL_list]
  simp only [List.append_assoc]
  rfl
theorem putB_size (g : Nat) (t : ByteArray) : (putB g t).size = whole (t.size + 16) := by
  unfold putB
  rw [size_append, sealS_size, bodyS_size, size_ofL]
  unfold zs
  rw [List.length_replicate]
  unfold whole; omega

theorem slotF_put (g : Nat) (t x : ByteArray) (h1 : 1 ≤ g) (h2 : g ≤ 1000000000) (h3 : t.size ≤ 100000) : slotF (putB g t ++ x) = (g, t, 0) := by
  have hps := putB_size g t
  have hw1 : t.size + 16 ≤ whole (t.size + 16) := by unfold whole; omega
  have hpl := putB_list g t
  have hsz : (putB g t ++ x).size = whole (t.size + 16) + x.size := by rw [size_append, hps]
  have hsl : (putB g t ++ x).data.toList = be 8 g ++ (be 4 t.size ++ (t.data.toList ++ (fourF (onF 0 (bodyS g t).data.toList) ++ (zs (whole (t.size + 16) - (t.size + 16)) ++ x.data.toList)))) := by
    rw [app_list, hpl]; simp only [List.append_assoc]
  have htl := size_list t
  have hg : getV (putB g t ++ x) 0 8 = g := by
    unfold getV bytesAt
    rw [hsl, List.drop_zero, List.take_left' (be_len 8 g), beVal_be 8 g (by omega)]
  have hn : getV (putB g t ++ x) 8 4 = t.size := by
    unfold getV bytesAt
    rw [hsl, List.drop_left' (be_len 8 g), List.take_left' (be_len 4 t.size), beVal_be 4 t.size (by omega)]
  have hbl : (bodyS g t).data.toList = be 8 g ++ (be 4 t.size ++ t.data.toList) := by
    rw [bodyS, app_list, app_list, ofL_list, ofL_list, List.append_assoc]
  have hsl2 : (putB g t ++ x).data.toList = (sealS (bodyS g t)).data.toList ++ (zs (whole (t.size + 16) - (t.size + 16)) ++ x.data.toList) := by
    rw [hsl, sealS, app_list, ofL_list, hbl]; simp only [List.append_assoc]
  have hse : (sealS (bodyS g t)).data.toList.length = t.size + 16 := by rw [size_list, sealS_size, bodyS_size]
  have he1 : (putB g t ++ x).extract 0 (t.size + 16) = sealS (bodyS g t) := by
    apply list_inj
    rw [ext_list, hsl2, List.drop_zero, Nat.sub_zero, List.take_left' hse]
  have he2 : all0 ((putB g t ++ x).extract (t.size + 16) (whole (t.size + 16))) := by
    intro b hb
    rw [ext_list, hsl2, List.drop_left' hse, List.take_left' (by unfold zs; rw [List.length_replicate])] at hb
    exact List.eq_of_mem_replicate hb
  have he3 : (bodyS g t).extract 12 (bodyS g t).size = t := by
    apply list_inj
    rw [ext_list, bodyS_size, hbl, ← List.append_assoc, List.drop_left' (by rw [List.length_append, be_len, be_len]), List.take_of_length_le (by omega)]
  unfold slotF getE getG
  rw [hg, hn, if_neg (by omega), if_neg (show ¬ 9223372036854775807 < g by omega), if_neg (show ¬ 9223372036854775807 < g by omega), if_neg (show ¬ 9223372036854775807 < t.size by omega)]
  rw [if_neg (by simp), if_neg (by omega), if_neg (by omega), if_neg (by omega), he1, unseal_seal]
  simp only [ne_eq, not_true_eq_false, if_false]
  rw [if_neg (fun hc => hc he2), he3]
end Go.Aw.VD

set_option linter.unusedSimpArgs false
set_option linter.unusedVariables false
set_option maxHeartbeats 4000000
namespace Go.Aw.VD
open Go
def hi : ByteArray := ⟨#[104, 105]⟩
end Go.Aw.VD

set_option linter.unusedSimpArgs false
set_option linter.unusedVariables false
set_option maxHeartbeats 4000000
namespace Go.Aw.VD
open Go
theorem be_beVal : ∀ (w : Nat) (l : List UInt8), l.length = w → be w (beVal l) = l
  | 0, l, h => by
    have : l = [] := List.eq_nil_of_length_eq_zero h
    subst this; rfl
  | w + 1, l, h => by
    have hne : l ≠ [] := by intro e; subst e; simp at h
    have e := List.dropLast_concat_getLast hne
    have hl : l.dropLast.length = w := by rw [List.length_dropLast]; omega
    rw [← e, beVal_snoc, be_succ]
    have hb := (l.getLast hne).toNat_lt
    rw [show (beVal l.dropLast * 256 + (l.getLast hne).toNat) / 256 = beVal l.dropLast by omega, be_beVal w _ hl]
    congr 1
    rw [List.cons.injEq]
    refine ⟨?_, rfl⟩
    apply UInt8.toNat_inj.1
    rw [UInt8.toNat_ofNat']
    omega
theorem seal_unseal (s : ByteArray) (h : (unsealF s).2 = 0) : s = sealS (unsealF s).1 := by
  have hu := unseal_size h
  have hl := size_list s
  unfold unsealF at h ⊢
  rw [if_neg (by omega)] at h ⊢
  simp only at h ⊢
  split at h
  · rename_i h2
    rw [if_pos h2]
    simp only
    rw [str_eq, decide_eq_true_eq] at h2
    apply list_inj
    rw [sealS, app_list, ofL_list]
    have e := congrArg (fun x : ByteArray => x.data.toList) h2
    simp only at e
    rw [ext_list s (s.size - 4) s.size, show s.size - (s.size - 4) = 4 by omega] at e
    rw [e, ext_list, List.drop_zero, Nat.sub_zero, List.take_of_length_le (l := s.data.toList.drop (s.size - 4)) (by rw [List.length_drop]; omega), List.take_append_drop]
  · exact absurd h (by decide)
theorem zs_all0 (s : ByteArray) (h : all0 s) : s.data.toList = zs s.size := by
  unfold zs
  rw [← size_list s]
  exact List.eq_replicate_of_mem h
end Go.Aw.VD

