/-
  The statement VaultKeeps: opened again, a vault tells the text that was laid last, and all bodies behind that, without any condition.
-/
import Derived.Test.YtllchkemgjmjiaaGreatDoorVcB
set_option linter.unusedSimpArgs false
set_option linter.unusedVariables false
set_option linter.unusedSimpArgs false
set_option linter.unusedVariables false
set_option maxHeartbeats 4000000
namespace Go.Aw.VE
open Go Go.Proofs

end Go.Aw.VE

set_option linter.unusedSimpArgs false
set_option linter.unusedVariables false
set_option maxHeartbeats 4000000
namespace Go.Aw.VE
open Go Go.Proofs

end Go.Aw.VE

set_option linter.unusedSimpArgs false
set_option linter.unusedVariables false
set_option maxHeartbeats 4000000
namespace Go.Aw.VE
open Go Go.Proofs

theorem wrF_ok : ∀ (m : Nat) (x : Dd) (k : Nat) (t : List UInt8), Dok x → k + m ≤ x.n → 64 * m ≤ t.length → Dok (wrF m x k t).1 ∧ (wrF m x k t).1.n = x.n
  | 0, x, k, t, h, _, _ => by rw [wrF]; exact ⟨h, rfl⟩
  | m + 1, x, k, t, h, h1, h2 => by
    have hn := lastD_n x
    have hok : Dok (putD (lastD x) k (t.take 64)) := h.last.put (by rw [hn]; omega) (by rw [List.length_take]; omega)
    rw [wrF]
    split
    · exact ⟨hok, hn⟩
    · have := wrF_ok m _ (k + 1) (t.drop 64) hok (by show k + 1 + m ≤ (lastD x).n; omega) (by rw [List.length_drop]; omega)
      exact ⟨this.1, this.2.trans hn⟩
theorem write_ok {x : Dd} (h : Dok x) (at_ : Int) (s : ByteArray) : Dok (writeF x at_ s).1 ∧ (writeF x at_ s).1.n = x.n := by
  unfold writeF
  split
  · exact ⟨h, rfl⟩
  · split
    · exact ⟨h, rfl⟩
    · split
      · have hs := size_list s
        exact wrF_ok _ _ _ _ h (by omega) (by omega)
      · exact ⟨h, rfl⟩
theorem flush_ok {x : Dd} (h : Dok x) : Dok (flushD x) ∧ (flushD x).n = x.n := by
  unfold flushD
  split
  · exact ⟨h, rfl⟩
  · split
    · exact ⟨h.last, lastD_n x⟩
    · refine ⟨⟨h.last.pos, h.last.le, h.last.len, by simp, by simp⟩, lastD_n x⟩
theorem bootL_ok (c : Ch) : ∀ (S : List Int) (i : Nat) (y : Dd), Dok y → (y.L.map (·.1)).Perm S → Dok (bootL c i S y) ∧ (bootL c i S y).n = y.n ∧ (bootL c i S y).L = []
  | [], i, y, h, hp => by rw [bootL]; exact ⟨h, rfl, by simpa using hp.eq_nil⟩
  | k :: S, i, y, h, hp => by
    rw [bootL]
    have := bootL_ok c S (i + 1) (bootS c i k y) (h.boot (hp.mem_iff.2 (List.mem_cons_self ..))) (del_perm h.nd hp)
    exact this
theorem kS_perm (L : List (Int × List UInt8)) : (L.map (·.1)).Perm (kS L) := (List.mergeSort_perm _ _).symm
theorem boot_ok {x : Dd} (h : Dok x) (c : Ch) : Dok (bootD c x) ∧ (bootD c x).n = x.n ∧ (bootD c x).L = [] := by
  obtain ⟨h1, h2, h3⟩ := bootL_ok c (kS x.L) 0 x h (kS_perm x.L)
  exact ⟨⟨h1.pos, h1.le, h1.len, h1.keys, h1.nd⟩, h2, h3⟩
theorem new_ok {n : Nat} (h : 0 < n) (h2 : n ≤ 2000) : Dok (newD n) := ⟨h, h2, by simp [newD], by simp [newD], by simp [newD]⟩
set_option maxRecDepth 100000
end Go.Aw.VE

set_option linter.unusedSimpArgs false
set_option linter.unusedVariables false
set_option maxHeartbeats 400000
namespace Go.Aw.VE
open Go Go.Proofs
set_option maxRecDepth 100000

theorem callNew {H : List ABlk} {K : AV → List ABlk → Prop} (n : Nat) (h0 : 0 < n) (h1 : n ≤ 2000) (k : K (.tup [.ptr H.length 0, nV 0]) (H ++ [dD (H.length + 1) (H.length + 2) (newD n), dC (newD n), dM (newD n) [] 0])) : ACall P 19 [nV n] H K := by
  refine ACall.spec (by kernel_rfl) (f19 n (nOk_of (by omega) (by omega))) rfl ?_
  intro r H' h
  rw [if_neg (by omega)] at h
  obtain ⟨rfl, rfl⟩ := h
  rw [Int.toNat_natCast]
  simp only [dvH, List.map_cons, List.map_nil, dD_ren, dC_ren, dM_ren]
  have e : ∀ i, nm [] H.length i = H.length + i := by intro i; simp [nm, Nat.add_comm]
  simp only [e] 
  simp only [AV.ren, renL, e, Nat.add_zero]
  exact k
theorem ACall.devL {f : Nat} {args args0 : List AV} {x : Dd} {R : AV → Dd → Prop} {H : List ABlk} {K : AV → List ABlk → Prop} {l lc lm : Nat} {bs : List Nat} {ck : Nat} (hc : callOk P f = true) (h : DSpec f args0 x R)
    (h1 : H[l]? = some (dD lc lm x)) (h2 : H[lc]? = some (dC x)) (h3 : H[lm]? = some (dM x bs ck)) (hn : [l, lc, lm].Nodup) (ha : LendL H [] (nm [l, lc, lm] H.length) args args0) (hr : ∀ r y, R r y → ∀ ρ, r.ren ρ = r)
    (k : ∀ r y bs' ck', R r y → K r (((H.set l (dD lc lm y)).set lc (dC y)).set lm (dM y bs' ck'))) : ACall P f (.ptr l 0 :: args) H K := by
  refine ACall.of hc (h bs ck) [l, lc, lm] [] hn ?_ (by simp) (by simp) (.cons (.same rfl) ha) (.inl rfl) ?_
  · refine .same ?_ (.same ?_ (.same ?_ .nil))
    · rw [h1, dD_ren]; rfl
    · rw [h2, dC_ren]
    · rw [h3, dM_ren]
  · rintro r _ ⟨y, bs', ck', hR, rfl⟩
    rw [hr r y hR]
    have := k r y bs' ck' hR
    simp only [dvH, mergeH, dD_ren, dC_ren, dM_ren, List.map_nil, List.append_nil]
    exact this
end Go.Aw.VE

set_option linter.unusedSimpArgs false
set_option linter.unusedVariables false
set_option maxHeartbeats 4000000
namespace Go.Aw.VE
open Go Go.Proofs

def dE : ABlk := .cells 97 [.v (.slice none 0 0), .v (.map none), nV 0, nV 0, .v (.bool false)]
/-- no device: nil, or one that no call made -/
inductive NB : AV → List ABlk → Prop
  | nil : NB (.v (.pointer none)) []
  | emp : NB (.ptr 0 0) [dE]
/-- where no device lies -/
inductive NBat (H : List ABlk) : AV → Prop
  | nil : NBat H (.v (.pointer none))
  | emp {l : Nat} : H[l]? = some dE → NBat H (.ptr l 0)
end Go.Aw.VE

set_option linter.unusedSimpArgs false
set_option linter.unusedVariables false
set_option maxHeartbeats 4000000
namespace Go.Aw.VE
open Go Go.Proofs

end Go.Aw.VE

set_option linter.unusedSimpArgs false
set_option linter.unusedVariables false
set_option maxHeartbeats 4000000
namespace Go.Aw.VE
open Go Go.Proofs

/-- a call of a device -/
structure Ac where
  kind : Int
  at_ : Int
  n : Int
  byte : UInt8
  ch : Ch
def acC (a : Ac) : List AV := [nV a.kind, nV a.at_, nV a.n, byteC a.byte, .vs 1 a.ch.keep.length (a.ch.keep.map bV), nV a.ch.torn, nV a.ch.cut]
theorem acC_ren (ρ : Nat → Nat) (a : Ac) : renL ρ (acC a) = acC a := by simp only [acC, renL, AV.ren, bVs_ren, nV, byteC]
theorem f67 (l : List Ac) (hl : l.length ≤ 9223372036854775807) : Fun P 67 [.vs 7 l.length (l.flatMap acC)] (.v (.bool (decide (l.length ≤ 60 ∧ ∀ a ∈ l, a.n ≤ 100 ∧ a.ch.keep.length ≤ 3000)))) := by
  refine spec_of hT (f := 67) (fn := Go.Proofs.Tryz.f67) (c := body Go.Proofs.Tryz.f67) (by kernel_rfl) (by kernel_rfl) ?_
  conv => whnf
  repeat ((first | refine AO.cons hT ?_ | refine AO.nil ?_ | refine AW.seq ?_ | refine AW.region ?_ | refine AW.cond ?_ | refine AW.block ?_ | refine AW.loop ?_ | refine AW.skip ?_ | refine AW.exit ?_ | refine AW.ret ?_ | refine AW.label ?_ | refine AW.scope ?_ | refine AF.one hT rfl ?_ | refine AF.nil ?_ | refine AF.imm hT rfl rfl rfl ?_ | refine AH.of hT rfl ?_ | refine AD.cons hT rfl ?_ | refine AD.nil ?_ | refine AQ.cons hT rfl ?_ | refine AQ.nil ?_); conv => whnf)
  refine ACond.dec (fun h => ?_) (fun h => ?_)
  · conv => whnf
    repeat ((first | refine AO.cons hT ?_ | refine AO.nil ?_ | refine AW.seq ?_ | refine AW.region ?_ | refine AW.cond ?_ | refine AW.block ?_ | refine AW.loop ?_ | refine AW.skip ?_ | refine AW.exit ?_ | refine AW.ret ?_ | refine AW.label ?_ | refine AW.scope ?_ | refine AF.one hT rfl ?_ | refine AF.nil ?_ | refine AF.imm hT rfl rfl rfl ?_ | refine AH.of hT rfl ?_ | refine AD.cons hT rfl ?_ | refine AD.nil ?_ | refine AQ.cons hT rfl ?_ | refine AQ.nil ?_); conv => whnf)
    refine AFin.val rfl ⟨?_, rfl⟩
    rw [decide_eq_false (fun e => by omega)]
  conv => whnf
  repeat ((first | refine AO.cons hT ?_ | refine AO.nil ?_ | refine AW.seq ?_ | refine AW.region ?_ | refine AW.cond ?_ | refine AW.block ?_ | refine AW.loop ?_ | refine AW.skip ?_ | refine AW.exit ?_ | refine AW.ret ?_ | refine AW.label ?_ | refine AW.scope ?_ | refine AF.one hT rfl ?_ | refine AF.nil ?_ | refine AF.imm hT rfl rfl rfl ?_ | refine AH.of hT rfl ?_ | refine AD.cons hT rfl ?_ | refine AD.nil ?_ | refine AQ.cons hT rfl ?_ | refine AQ.nil ?_); conv => whnf)
  refine ALoop.mk (fun n E H => ∃ i : Nat, i ≤ l.length ∧ (∀ k, k < i → ∀ a, l[k]? = some a → a.n ≤ 100 ∧ a.ch.keep.length ≤ 3000) ∧ n = l.length - i ∧ E = pad [.vs 7 l.length (l.flatMap acC), .any, .v (.bool false), nV i] 29 ∧ H = [])
    (n := l.length) _ _ ⟨0, by omega, by omega, rfl, rfl, rfl⟩ (Conv.fit ?_) ?_
  · repeat' (first | exact Fit.nil | refine Fit.any ?_ | refine Fit.same ?_)
  rintro _ _ _ ⟨i, hi, hok, rfl, rfl, rfl⟩
  conv => whnf
  repeat ((first | refine AO.cons hT ?_ | refine AO.nil ?_ | refine AW.seq ?_ | refine AW.region ?_ | refine AW.cond ?_ | refine AW.block ?_ | refine AW.loop ?_ | refine AW.skip ?_ | refine AW.exit ?_ | refine AW.ret ?_ | refine AW.label ?_ | refine AW.scope ?_ | refine AF.one hT rfl ?_ | refine AF.nil ?_ | refine AF.imm hT rfl rfl rfl ?_ | refine AH.of hT rfl ?_ | refine AD.cons hT rfl ?_ | refine AD.nil ?_ | refine AQ.cons hT rfl ?_ | refine AQ.nil ?_); conv => whnf)
  refine ACond.dec (fun h2 => ?_) (fun h2 => ?_)
  · have hil : i < l.length := by omega
    have hbad : ¬ (l[i].n ≤ 100 ∧ l[i].ch.keep.length ≤ 3000) → ¬ (l.length ≤ 60 ∧ ∀ a ∈ l, a.n ≤ 100 ∧ a.ch.keep.length ≤ 3000) := fun g e => g (e.2 _ (List.getElem_mem hil))
    conv => whnf
    repeat ((first | refine AO.cons hT ?_ | refine AO.nil ?_ | refine AW.seq ?_ | refine AW.region ?_ | refine AW.cond ?_ | refine AW.block ?_ | refine AW.loop ?_ | refine AW.skip ?_ | refine AW.exit ?_ | refine AW.ret ?_ | refine AW.label ?_ | refine AW.scope ?_ | refine AF.one hT rfl ?_ | refine AF.nil ?_ | refine AF.imm hT rfl rfl rfl ?_ | refine AH.of hT rfl ?_ | refine AD.cons hT rfl ?_ | refine AD.nil ?_ | refine AQ.cons hT rfl ?_ | refine AQ.nil ?_); conv => whnf)
    refine AReq.mk (by omega) ?_
    conv => whnf
    repeat ((first | refine AO.cons hT ?_ | refine AO.nil ?_ | refine AW.seq ?_ | refine AW.region ?_ | refine AW.cond ?_ | refine AW.block ?_ | refine AW.loop ?_ | refine AW.skip ?_ | refine AW.exit ?_ | refine AW.ret ?_ | refine AW.label ?_ | refine AW.scope ?_ | refine AF.one hT rfl ?_ | refine AF.nil ?_ | refine AF.imm hT rfl rfl rfl ?_ | refine AH.of hT rfl ?_ | refine AD.cons hT rfl ?_ | refine AD.nil ?_ | refine AQ.cons hT rfl ?_ | refine AQ.nil ?_); conv => whnf)
    refine AIdx.flat (enc := acC) (fun _ => rfl) (xs := l) (i := i) hil ?_
    conv => whnf
    repeat ((first | refine AO.cons hT ?_ | refine AO.nil ?_ | refine AW.seq ?_ | refine AW.region ?_ | refine AW.cond ?_ | refine AW.block ?_ | refine AW.loop ?_ | refine AW.skip ?_ | refine AW.exit ?_ | refine AW.ret ?_ | refine AW.label ?_ | refine AW.scope ?_ | refine AF.one hT rfl ?_ | refine AF.nil ?_ | refine AF.imm hT rfl rfl rfl ?_ | refine AH.of hT rfl ?_ | refine AD.cons hT rfl ?_ | refine AD.nil ?_ | refine AQ.cons hT rfl ?_ | refine AQ.nil ?_); conv => whnf)
    refine ASplit.dec (fun h3 => ?_) (fun h3 => ?_)
    · conv => whnf
      repeat (first | (refine AW.label ?_; conv => whnf) | (refine AW.scope ?_; conv => whnf) | (refine AO.cons hT ?_; conv => whnf) | (refine AO.nil ?_; conv => whnf) | (refine AW.seq ?_; conv => whnf) | (refine AW.region ?_; conv => whnf) | (refine AW.cond ?_; conv => whnf) | (refine AW.block ?_; conv => whnf) | (refine AW.loop ?_; conv => whnf) | (refine AW.skip ?_; conv => whnf) | (refine AW.exit ?_; conv => whnf) | (refine AW.ret ?_; conv => whnf) | (refine AF.one hT rfl ?_; conv => whnf) | (refine AF.nil ?_; conv => whnf) | (refine AF.imm hT rfl rfl rfl ?_; conv => whnf) | (refine AH.of hT rfl ?_; conv => whnf) | (refine ASplit.yes rfl ?_; conv => whnf) | (refine ACond.yes rfl ?_; conv => whnf) | (refine ASplit.no rfl ?_; conv => whnf) | (refine ACond.no rfl ?_; conv => whnf) | (refine ASplit.yes (by decide) ?_; conv => whnf) | (refine ACond.yes (by decide) ?_; conv => whnf) | (refine AReq.mk (by decide) ?_; conv => whnf) | (refine AIdx.iff.2 ⟨by decide, ?_⟩; conv => whnf))
      refine AOut.stay ?_
      conv => whnf
      repeat (first | (refine AW.label ?_; conv => whnf) | (refine AW.scope ?_; conv => whnf) | (refine AO.cons hT ?_; conv => whnf) | (refine AO.nil ?_; conv => whnf) | (refine AW.seq ?_; conv => whnf) | (refine AW.region ?_; conv => whnf) | (refine AW.cond ?_; conv => whnf) | (refine AW.block ?_; conv => whnf) | (refine AW.loop ?_; conv => whnf) | (refine AW.skip ?_; conv => whnf) | (refine AW.exit ?_; conv => whnf) | (refine AW.ret ?_; conv => whnf) | (refine AF.one hT rfl ?_; conv => whnf) | (refine AF.nil ?_; conv => whnf) | (refine AF.imm hT rfl rfl rfl ?_; conv => whnf) | (refine AH.of hT rfl ?_; conv => whnf) | (refine ASplit.yes rfl ?_; conv => whnf) | (refine ACond.yes rfl ?_; conv => whnf) | (refine ASplit.no rfl ?_; conv => whnf) | (refine ACond.no rfl ?_; conv => whnf) | (refine ASplit.yes (by decide) ?_; conv => whnf) | (refine ACond.yes (by decide) ?_; conv => whnf) | (refine AReq.mk (by decide) ?_; conv => whnf) | (refine AIdx.iff.2 ⟨by decide, ?_⟩; conv => whnf))
      refine AFin.val rfl ⟨?_, rfl⟩
      rw [decide_eq_false (hbad (fun e => by omega))]
    conv => whnf
    repeat ((first | refine AO.cons hT ?_ | refine AO.nil ?_ | refine AW.seq ?_ | refine AW.region ?_ | refine AW.cond ?_ | refine AW.block ?_ | refine AW.loop ?_ | refine AW.skip ?_ | refine AW.exit ?_ | refine AW.ret ?_ | refine AW.label ?_ | refine AW.scope ?_ | refine AF.one hT rfl ?_ | refine AF.nil ?_ | refine AF.imm hT rfl rfl rfl ?_ | refine AH.of hT rfl ?_ | refine AD.cons hT rfl ?_ | refine AD.nil ?_ | refine AQ.cons hT rfl ?_ | refine AQ.nil ?_); conv => whnf)
    refine AReq.mk (by omega) ?_
    conv => whnf
    repeat ((first | refine AO.cons hT ?_ | refine AO.nil ?_ | refine AW.seq ?_ | refine AW.region ?_ | refine AW.cond ?_ | refine AW.block ?_ | refine AW.loop ?_ | refine AW.skip ?_ | refine AW.exit ?_ | refine AW.ret ?_ | refine AW.label ?_ | refine AW.scope ?_ | refine AF.one hT rfl ?_ | refine AF.nil ?_ | refine AF.imm hT rfl rfl rfl ?_ | refine AH.of hT rfl ?_ | refine AD.cons hT rfl ?_ | refine AD.nil ?_ | refine AQ.cons hT rfl ?_ | refine AQ.nil ?_); conv => whnf)
    refine AIdx.flat (enc := acC) (fun _ => rfl) (xs := l) (i := i) hil ?_
    conv => whnf
    repeat ((first | refine AO.cons hT ?_ | refine AO.nil ?_ | refine AW.seq ?_ | refine AW.region ?_ | refine AW.cond ?_ | refine AW.block ?_ | refine AW.loop ?_ | refine AW.skip ?_ | refine AW.exit ?_ | refine AW.ret ?_ | refine AW.label ?_ | refine AW.scope ?_ | refine AF.one hT rfl ?_ | refine AF.nil ?_ | refine AF.imm hT rfl rfl rfl ?_ | refine AH.of hT rfl ?_ | refine AD.cons hT rfl ?_ | refine AD.nil ?_ | refine AQ.cons hT rfl ?_ | refine AQ.nil ?_); conv => whnf)
    refine ACond.dec (fun h4 => ?_) (fun h4 => ?_)
    · conv => whnf
      repeat (first | (refine AW.label ?_; conv => whnf) | (refine AW.scope ?_; conv => whnf) | (refine AO.cons hT ?_; conv => whnf) | (refine AO.nil ?_; conv => whnf) | (refine AW.seq ?_; conv => whnf) | (refine AW.region ?_; conv => whnf) | (refine AW.cond ?_; conv => whnf) | (refine AW.block ?_; conv => whnf) | (refine AW.loop ?_; conv => whnf) | (refine AW.skip ?_; conv => whnf) | (refine AW.exit ?_; conv => whnf) | (refine AW.ret ?_; conv => whnf) | (refine AF.one hT rfl ?_; conv => whnf) | (refine AF.nil ?_; conv => whnf) | (refine AF.imm hT rfl rfl rfl ?_; conv => whnf) | (refine AH.of hT rfl ?_; conv => whnf) | (refine ASplit.yes rfl ?_; conv => whnf) | (refine ACond.yes rfl ?_; conv => whnf) | (refine ASplit.no rfl ?_; conv => whnf) | (refine ACond.no rfl ?_; conv => whnf) | (refine ASplit.yes (by decide) ?_; conv => whnf) | (refine ACond.yes (by decide) ?_; conv => whnf) | (refine AReq.mk (by decide) ?_; conv => whnf) | (refine AIdx.iff.2 ⟨by decide, ?_⟩; conv => whnf))
      refine AOut.stay ?_
      conv => whnf
      repeat (first | (refine AW.label ?_; conv => whnf) | (refine AW.scope ?_; conv => whnf) | (refine AO.cons hT ?_; conv => whnf) | (refine AO.nil ?_; conv => whnf) | (refine AW.seq ?_; conv => whnf) | (refine AW.region ?_; conv => whnf) | (refine AW.cond ?_; conv => whnf) | (refine AW.block ?_; conv => whnf) | (refine AW.loop ?_; conv => whnf) | (refine AW.skip ?_; conv => whnf) | (refine AW.exit ?_; conv => whnf) | (refine AW.ret ?_; conv => whnf) | (refine AF.one hT rfl ?_; conv => whnf) | (refine AF.nil ?_; conv => whnf) | (refine AF.imm hT rfl rfl rfl ?_; conv => whnf) | (refine AH.of hT rfl ?_; conv => whnf) | (refine ASplit.yes rfl ?_; conv => whnf) | (refine ACond.yes rfl ?_; conv => whnf) | (refine ASplit.no rfl ?_; conv => whnf) | (refine ACond.no rfl ?_; conv => whnf) | (refine ASplit.yes (by decide) ?_; conv => whnf) | (refine ACond.yes (by decide) ?_; conv => whnf) | (refine AReq.mk (by decide) ?_; conv => whnf) | (refine AIdx.iff.2 ⟨by decide, ?_⟩; conv => whnf))
      refine AFin.val rfl ⟨?_, rfl⟩
      rw [decide_eq_false (hbad (fun e => by omega))]
    · conv => whnf
      repeat ((first | refine AO.cons hT ?_ | refine AO.nil ?_ | refine AW.seq ?_ | refine AW.region ?_ | refine AW.cond ?_ | refine AW.block ?_ | refine AW.loop ?_ | refine AW.skip ?_ | refine AW.exit ?_ | refine AW.ret ?_ | refine AW.label ?_ | refine AW.scope ?_ | refine AF.one hT rfl ?_ | refine AF.nil ?_ | refine AF.imm hT rfl rfl rfl ?_ | refine AH.of hT rfl ?_ | refine AD.cons hT rfl ?_ | refine AD.nil ?_ | refine AQ.cons hT rfl ?_ | refine AQ.nil ?_); conv => whnf)
      rw [wrap_i64 ((i : Int) + 1) (by omega) (by omega)]
      refine AHead.mk (l.length - (i + 1)) _ _ (by omega) ⟨i + 1, by omega, ?_, rfl, rfl, rfl⟩ (Conv.fit ?_)
      · intro k hk a ha
        rcases Nat.lt_or_ge k i with h1 | h1
        · exact hok k h1 a ha
        · obtain rfl : k = i := by omega
          rw [List.getElem?_eq_getElem hil] at ha
          cases ha
          exact ⟨by omega, by omega⟩
      · repeat' (first | exact Fit.nil | refine Fit.any ?_ | refine Fit.same ?_)
  · obtain rfl : i = l.length := by omega
    conv => whnf
    repeat ((first | refine AO.cons hT ?_ | refine AO.nil ?_ | refine AW.seq ?_ | refine AW.region ?_ | refine AW.cond ?_ | refine AW.block ?_ | refine AW.loop ?_ | refine AW.skip ?_ | refine AW.exit ?_ | refine AW.ret ?_ | refine AW.label ?_ | refine AW.scope ?_ | refine AF.one hT rfl ?_ | refine AF.nil ?_ | refine AF.imm hT rfl rfl rfl ?_ | refine AH.of hT rfl ?_ | refine AD.cons hT rfl ?_ | refine AD.nil ?_ | refine AQ.cons hT rfl ?_ | refine AQ.nil ?_); conv => whnf)
    refine AOut.stay ?_
    conv => whnf
    repeat ((first | refine AO.cons hT ?_ | refine AO.nil ?_ | refine AW.seq ?_ | refine AW.region ?_ | refine AW.cond ?_ | refine AW.block ?_ | refine AW.loop ?_ | refine AW.skip ?_ | refine AW.exit ?_ | refine AW.ret ?_ | refine AW.label ?_ | refine AW.scope ?_ | refine AF.one hT rfl ?_ | refine AF.nil ?_ | refine AF.imm hT rfl rfl rfl ?_ | refine AH.of hT rfl ?_ | refine AD.cons hT rfl ?_ | refine AD.nil ?_ | refine AQ.cons hT rfl ?_ | refine AQ.nil ?_); conv => whnf)
    refine AFin.val rfl ⟨?_, rfl⟩
    rw [decide_eq_true]
    refine ⟨by omega, fun a ha => ?_⟩
    obtain ⟨k, hk⟩ := List.getElem?_of_mem ha
    exact hok k (List.getElem?_eq_some_iff.1 hk).1 a hk
end Go.Aw.VE

