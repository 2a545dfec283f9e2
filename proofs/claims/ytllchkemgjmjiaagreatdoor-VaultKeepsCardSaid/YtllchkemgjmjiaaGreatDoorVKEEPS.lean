/-
  The statement VaultKeeps: opened again, a vault tells the text that was laid last, and all bodies behind that, without any condition.
-/
import Derived.Test.YtllchkemgjmjiaaGreatDoorVgD
import Derived.Test.YtllchkemgjmjiaaGreatDoorVcC
import Derived.Test.YtllchkemgjmjiaaGreatDoorVfD
import Derived.Test.YtllchkemgjmjiaaGreatDoorRows
import Derived.Test.YtllchkemgjmjiaaGreatDoorCards
import Derived.Test.YtllchkemgjmjiaaGreatDoorTie
import Derived.LaidMore
import Derived.Lay
import Derived.SevenTiedAt
import Derived.Stop.Joined
set_option linter.unusedSimpArgs false
set_option linter.unusedVariables false
set_option linter.unusedSimpArgs false
set_option linter.unusedVariables false
set_option maxHeartbeats 4000000
set_option maxRecDepth 20000
namespace Go.Aw.VE
open Go Go.Proofs

/-- a call of a vault -/
structure Vc where
  kind : Int
  text : ByteArray
  own : Ac
def vcC (a : Vc) : List AV := nV a.kind :: sV a.text :: acC a.own
theorem f33 (l : List Vc) (hl : l.length ≤ maxLen) (ht : ∀ a ∈ l, a.text.size ≤ maxLen) : Spec P 33 [.vs 9 l.length (l.flatMap vcC)] [] fun r H => ∃ b, r = .v (.bool b) ∧ H = [] ∧ (b = true → l.length ≤ 40 ∧ ∀ a ∈ l, a.text.size ≤ 3100) := by
  have hml : maxLen ≤ 9223372036854775807 := by decide
  refine spec_of hT (f := 33) (fn := Go.Proofs.Tryz.f33) (c := body Go.Proofs.Tryz.f33) (by kernel_rfl) (by kernel_rfl) ?_
  have hno : ∀ {H : List ABlk}, AFin 0 (.v (.bool false)) H (fun r H => ∃ b, r = .v (.bool b) ∧ H = [] ∧ (b = true → l.length ≤ 40 ∧ ∀ a ∈ l, a.text.size ≤ 3100)) := AFin.val rfl ⟨false, rfl, rfl, fun h => by cases h⟩
  conv => whnf
  repeat ((first | refine AO.cons hT ?_ | refine AO.nil ?_ | refine AW.seq ?_ | refine AW.region ?_ | refine AW.cond ?_ | refine AW.block ?_ | refine AW.loop ?_ | refine AW.skip ?_ | refine AW.exit ?_ | refine AW.ret ?_ | refine AW.label ?_ | refine AW.scope ?_ | refine AF.one hT rfl ?_ | refine AF.nil ?_ | refine AF.imm hT rfl rfl rfl ?_ | refine AH.of hT rfl ?_ | refine AD.cons hT rfl ?_ | refine AD.nil ?_ | refine AQ.cons hT rfl ?_ | refine AQ.nil ?_); conv => whnf)
  refine ACond.dec (fun h => ?_) (fun h => ?_)
  · conv => whnf
    repeat ((first | refine AO.cons hT ?_ | refine AO.nil ?_ | refine AW.seq ?_ | refine AW.region ?_ | refine AW.cond ?_ | refine AW.block ?_ | refine AW.loop ?_ | refine AW.skip ?_ | refine AW.exit ?_ | refine AW.ret ?_ | refine AW.label ?_ | refine AW.scope ?_ | refine AF.one hT rfl ?_ | refine AF.nil ?_ | refine AF.imm hT rfl rfl rfl ?_ | refine AH.of hT rfl ?_ | refine AD.cons hT rfl ?_ | refine AD.nil ?_ | refine AQ.cons hT rfl ?_ | refine AQ.nil ?_); conv => whnf)
    exact hno
  conv => whnf
  repeat ((first | refine AO.cons hT ?_ | refine AO.nil ?_ | refine AW.seq ?_ | refine AW.region ?_ | refine AW.cond ?_ | refine AW.block ?_ | refine AW.loop ?_ | refine AW.skip ?_ | refine AW.exit ?_ | refine AW.ret ?_ | refine AW.label ?_ | refine AW.scope ?_ | refine AF.one hT rfl ?_ | refine AF.nil ?_ | refine AF.imm hT rfl rfl rfl ?_ | refine AH.of hT rfl ?_ | refine AD.cons hT rfl ?_ | refine AD.nil ?_ | refine AQ.cons hT rfl ?_ | refine AQ.nil ?_); conv => whnf)
  refine ALoop.mk (fun n E H => ∃ i : Nat, i ≤ l.length ∧ (∀ k, k < i → ∀ a, l[k]? = some a → a.text.size ≤ 3100) ∧ n = l.length - i ∧ E = pad [.vs 9 l.length (l.flatMap vcC), .any, .v (.bool false), nV i] 47 ∧ H = [])
    (n := l.length) _ _ ⟨0, by omega, by omega, rfl, rfl, rfl⟩ (Conv.fit ?_) ?_
  · repeat' (first | exact Fit.nil | refine Fit.any ?_ | refine Fit.same ?_)
  rintro _ _ _ ⟨i, hi, hok, rfl, rfl, rfl⟩
  conv => whnf
  repeat ((first | refine AO.cons hT ?_ | refine AO.nil ?_ | refine AW.seq ?_ | refine AW.region ?_ | refine AW.cond ?_ | refine AW.block ?_ | refine AW.loop ?_ | refine AW.skip ?_ | refine AW.exit ?_ | refine AW.ret ?_ | refine AW.label ?_ | refine AW.scope ?_ | refine AF.one hT rfl ?_ | refine AF.nil ?_ | refine AF.imm hT rfl rfl rfl ?_ | refine AH.of hT rfl ?_ | refine AD.cons hT rfl ?_ | refine AD.nil ?_ | refine AQ.cons hT rfl ?_ | refine AQ.nil ?_); conv => whnf)
  refine ACond.dec (fun h2 => ?_) (fun h2 => ?_)
  · have hil : i < l.length := by omega
    have hts := ht _ (List.getElem_mem hil)
    have h67 := f67 [l[i].own] (by simp)
    obtain ⟨b67, h67⟩ : ∃ b, Fun P 67 [.vs 7 [l[i].own].length ([l[i].own].flatMap acC)] (.v (.bool b)) := ⟨_, h67⟩
    conv => whnf
    repeat ((first | refine AO.cons hT ?_ | refine AO.nil ?_ | refine AW.seq ?_ | refine AW.region ?_ | refine AW.cond ?_ | refine AW.block ?_ | refine AW.loop ?_ | refine AW.skip ?_ | refine AW.exit ?_ | refine AW.ret ?_ | refine AW.label ?_ | refine AW.scope ?_ | refine AF.one hT rfl ?_ | refine AF.nil ?_ | refine AF.imm hT rfl rfl rfl ?_ | refine AH.of hT rfl ?_ | refine AD.cons hT rfl ?_ | refine AD.nil ?_ | refine AQ.cons hT rfl ?_ | refine AQ.nil ?_ | (refine AReq.mk (by omega) ?_) | (refine AIdx.flat (enc := vcC) (fun _ => rfl) (xs := l) (i := i) hil ?_)); conv => whnf)
    refine ASplit.dec (fun h3 => ?_) (fun h3 => ?_)
    · conv => whnf
      repeat (first | (refine AW.label ?_; conv => whnf) | (refine AW.scope ?_; conv => whnf) | (refine AO.cons hT ?_; conv => whnf) | (refine AO.nil ?_; conv => whnf) | (refine AW.seq ?_; conv => whnf) | (refine AW.region ?_; conv => whnf) | (refine AW.cond ?_; conv => whnf) | (refine AW.block ?_; conv => whnf) | (refine AW.loop ?_; conv => whnf) | (refine AW.skip ?_; conv => whnf) | (refine AW.exit ?_; conv => whnf) | (refine AW.ret ?_; conv => whnf) | (refine AF.one hT rfl ?_; conv => whnf) | (refine AF.nil ?_; conv => whnf) | (refine AF.imm hT rfl rfl rfl ?_; conv => whnf) | (refine AH.of hT rfl ?_; conv => whnf) | (refine ASplit.yes rfl ?_; conv => whnf) | (refine ACond.yes rfl ?_; conv => whnf) | (refine ASplit.no rfl ?_; conv => whnf) | (refine ACond.no rfl ?_; conv => whnf) | (refine ASplit.yes (by decide) ?_; conv => whnf) | (refine ACond.yes (by decide) ?_; conv => whnf) | (refine AReq.mk (by decide) ?_; conv => whnf) | (refine AIdx.iff.2 ⟨by decide, ?_⟩; conv => whnf) | (refine AReq.mk (by omega) ?_; conv => whnf) | (refine AIdx.flat (enc := vcC) (fun _ => rfl) (xs := l) (i := i) hil ?_; conv => whnf))
      refine AOut.stay ?_
      conv => whnf
      repeat (first | (refine AW.label ?_; conv => whnf) | (refine AW.scope ?_; conv => whnf) | (refine AO.cons hT ?_; conv => whnf) | (refine AO.nil ?_; conv => whnf) | (refine AW.seq ?_; conv => whnf) | (refine AW.region ?_; conv => whnf) | (refine AW.cond ?_; conv => whnf) | (refine AW.block ?_; conv => whnf) | (refine AW.loop ?_; conv => whnf) | (refine AW.skip ?_; conv => whnf) | (refine AW.exit ?_; conv => whnf) | (refine AW.ret ?_; conv => whnf) | (refine AF.one hT rfl ?_; conv => whnf) | (refine AF.nil ?_; conv => whnf) | (refine AF.imm hT rfl rfl rfl ?_; conv => whnf) | (refine AH.of hT rfl ?_; conv => whnf) | (refine ASplit.yes rfl ?_; conv => whnf) | (refine ACond.yes rfl ?_; conv => whnf) | (refine ASplit.no rfl ?_; conv => whnf) | (refine ACond.no rfl ?_; conv => whnf) | (refine ASplit.yes (by decide) ?_; conv => whnf) | (refine ACond.yes (by decide) ?_; conv => whnf) | (refine AReq.mk (by decide) ?_; conv => whnf) | (refine AIdx.iff.2 ⟨by decide, ?_⟩; conv => whnf) | (refine AReq.mk (by omega) ?_; conv => whnf) | (refine AIdx.flat (enc := vcC) (fun _ => rfl) (xs := l) (i := i) hil ?_; conv => whnf))
      exact hno
    conv => whnf
    repeat (first | (refine AW.label ?_; conv => whnf) | (refine AW.scope ?_; conv => whnf) | (refine AO.cons hT ?_; conv => whnf) | (refine AO.nil ?_; conv => whnf) | (refine AW.seq ?_; conv => whnf) | (refine AW.region ?_; conv => whnf) | (refine AW.cond ?_; conv => whnf) | (refine AW.block ?_; conv => whnf) | (refine AW.loop ?_; conv => whnf) | (refine AW.skip ?_; conv => whnf) | (refine AW.exit ?_; conv => whnf) | (refine AW.ret ?_; conv => whnf) | (refine AF.one hT rfl ?_; conv => whnf) | (refine AF.nil ?_; conv => whnf) | (refine AF.imm hT rfl rfl rfl ?_; conv => whnf) | (refine AH.of hT rfl ?_; conv => whnf) | (refine ASplit.yes rfl ?_; conv => whnf) | (refine ACond.yes rfl ?_; conv => whnf) | (refine ASplit.no rfl ?_; conv => whnf) | (refine ACond.no rfl ?_; conv => whnf) | (refine ASplit.yes (by decide) ?_; conv => whnf) | (refine ACond.yes (by decide) ?_; conv => whnf) | (refine AReq.mk (by decide) ?_; conv => whnf) | (refine AIdx.iff.2 ⟨by decide, ?_⟩; conv => whnf) | (refine AReq.mk (by omega) ?_; conv => whnf) | (refine AIdx.flat (enc := vcC) (fun _ => rfl) (xs := l) (i := i) hil ?_; conv => whnf))
    refine ACall.fun (by kernel_rfl) h67 [] (by simp) (.cons (.vx (show acC l[i].own = renL _ ([l[i].own].flatMap acC) by simp only [List.flatMap_cons, List.flatMap_nil, List.append_nil, acC_ren])) .nil) (.inl rfl) rfl ?_
    cases b67
    · conv => whnf
      repeat (first | (refine AW.label ?_; conv => whnf) | (refine AW.scope ?_; conv => whnf) | (refine AO.cons hT ?_; conv => whnf) | (refine AO.nil ?_; conv => whnf) | (refine AW.seq ?_; conv => whnf) | (refine AW.region ?_; conv => whnf) | (refine AW.cond ?_; conv => whnf) | (refine AW.block ?_; conv => whnf) | (refine AW.loop ?_; conv => whnf) | (refine AW.skip ?_; conv => whnf) | (refine AW.exit ?_; conv => whnf) | (refine AW.ret ?_; conv => whnf) | (refine AF.one hT rfl ?_; conv => whnf) | (refine AF.nil ?_; conv => whnf) | (refine AF.imm hT rfl rfl rfl ?_; conv => whnf) | (refine AH.of hT rfl ?_; conv => whnf) | (refine ASplit.yes rfl ?_; conv => whnf) | (refine ACond.yes rfl ?_; conv => whnf) | (refine ASplit.no rfl ?_; conv => whnf) | (refine ACond.no rfl ?_; conv => whnf) | (refine ASplit.yes (by decide) ?_; conv => whnf) | (refine ACond.yes (by decide) ?_; conv => whnf) | (refine AReq.mk (by decide) ?_; conv => whnf) | (refine AIdx.iff.2 ⟨by decide, ?_⟩; conv => whnf) | (refine AReq.mk (by omega) ?_; conv => whnf) | (refine AIdx.flat (enc := vcC) (fun _ => rfl) (xs := l) (i := i) hil ?_; conv => whnf))
      refine AOut.stay ?_
      conv => whnf
      repeat (first | (refine AW.label ?_; conv => whnf) | (refine AW.scope ?_; conv => whnf) | (refine AO.cons hT ?_; conv => whnf) | (refine AO.nil ?_; conv => whnf) | (refine AW.seq ?_; conv => whnf) | (refine AW.region ?_; conv => whnf) | (refine AW.cond ?_; conv => whnf) | (refine AW.block ?_; conv => whnf) | (refine AW.loop ?_; conv => whnf) | (refine AW.skip ?_; conv => whnf) | (refine AW.exit ?_; conv => whnf) | (refine AW.ret ?_; conv => whnf) | (refine AF.one hT rfl ?_; conv => whnf) | (refine AF.nil ?_; conv => whnf) | (refine AF.imm hT rfl rfl rfl ?_; conv => whnf) | (refine AH.of hT rfl ?_; conv => whnf) | (refine ASplit.yes rfl ?_; conv => whnf) | (refine ACond.yes rfl ?_; conv => whnf) | (refine ASplit.no rfl ?_; conv => whnf) | (refine ACond.no rfl ?_; conv => whnf) | (refine ASplit.yes (by decide) ?_; conv => whnf) | (refine ACond.yes (by decide) ?_; conv => whnf) | (refine AReq.mk (by decide) ?_; conv => whnf) | (refine AIdx.iff.2 ⟨by decide, ?_⟩; conv => whnf) | (refine AReq.mk (by omega) ?_; conv => whnf) | (refine AIdx.flat (enc := vcC) (fun _ => rfl) (xs := l) (i := i) hil ?_; conv => whnf))
      exact hno
    conv => whnf
    repeat (first | (refine AW.label ?_; conv => whnf) | (refine AW.scope ?_; conv => whnf) | (refine AO.cons hT ?_; conv => whnf) | (refine AO.nil ?_; conv => whnf) | (refine AW.seq ?_; conv => whnf) | (refine AW.region ?_; conv => whnf) | (refine AW.cond ?_; conv => whnf) | (refine AW.block ?_; conv => whnf) | (refine AW.loop ?_; conv => whnf) | (refine AW.skip ?_; conv => whnf) | (refine AW.exit ?_; conv => whnf) | (refine AW.ret ?_; conv => whnf) | (refine AF.one hT rfl ?_; conv => whnf) | (refine AF.nil ?_; conv => whnf) | (refine AF.imm hT rfl rfl rfl ?_; conv => whnf) | (refine AH.of hT rfl ?_; conv => whnf) | (refine ASplit.yes rfl ?_; conv => whnf) | (refine ACond.yes rfl ?_; conv => whnf) | (refine ASplit.no rfl ?_; conv => whnf) | (refine ACond.no rfl ?_; conv => whnf) | (refine ASplit.yes (by decide) ?_; conv => whnf) | (refine ACond.yes (by decide) ?_; conv => whnf) | (refine AReq.mk (by decide) ?_; conv => whnf) | (refine AIdx.iff.2 ⟨by decide, ?_⟩; conv => whnf) | (refine AReq.mk (by omega) ?_; conv => whnf) | (refine AIdx.flat (enc := vcC) (fun _ => rfl) (xs := l) (i := i) hil ?_; conv => whnf))
    refine ASplit.dec (fun h4 => ?_) (fun h4 => ?_)
    · conv => whnf
      repeat (first | (refine AW.label ?_; conv => whnf) | (refine AW.scope ?_; conv => whnf) | (refine AO.cons hT ?_; conv => whnf) | (refine AO.nil ?_; conv => whnf) | (refine AW.seq ?_; conv => whnf) | (refine AW.region ?_; conv => whnf) | (refine AW.cond ?_; conv => whnf) | (refine AW.block ?_; conv => whnf) | (refine AW.loop ?_; conv => whnf) | (refine AW.skip ?_; conv => whnf) | (refine AW.exit ?_; conv => whnf) | (refine AW.ret ?_; conv => whnf) | (refine AF.one hT rfl ?_; conv => whnf) | (refine AF.nil ?_; conv => whnf) | (refine AF.imm hT rfl rfl rfl ?_; conv => whnf) | (refine AH.of hT rfl ?_; conv => whnf) | (refine ASplit.yes rfl ?_; conv => whnf) | (refine ACond.yes rfl ?_; conv => whnf) | (refine ASplit.no rfl ?_; conv => whnf) | (refine ACond.no rfl ?_; conv => whnf) | (refine ASplit.yes (by decide) ?_; conv => whnf) | (refine ACond.yes (by decide) ?_; conv => whnf) | (refine AReq.mk (by decide) ?_; conv => whnf) | (refine AIdx.iff.2 ⟨by decide, ?_⟩; conv => whnf) | (refine AReq.mk (by omega) ?_; conv => whnf) | (refine AIdx.flat (enc := vcC) (fun _ => rfl) (xs := l) (i := i) hil ?_; conv => whnf))
      refine AOut.stay ?_
      conv => whnf
      repeat (first | (refine AW.label ?_; conv => whnf) | (refine AW.scope ?_; conv => whnf) | (refine AO.cons hT ?_; conv => whnf) | (refine AO.nil ?_; conv => whnf) | (refine AW.seq ?_; conv => whnf) | (refine AW.region ?_; conv => whnf) | (refine AW.cond ?_; conv => whnf) | (refine AW.block ?_; conv => whnf) | (refine AW.loop ?_; conv => whnf) | (refine AW.skip ?_; conv => whnf) | (refine AW.exit ?_; conv => whnf) | (refine AW.ret ?_; conv => whnf) | (refine AF.one hT rfl ?_; conv => whnf) | (refine AF.nil ?_; conv => whnf) | (refine AF.imm hT rfl rfl rfl ?_; conv => whnf) | (refine AH.of hT rfl ?_; conv => whnf) | (refine ASplit.yes rfl ?_; conv => whnf) | (refine ACond.yes rfl ?_; conv => whnf) | (refine ASplit.no rfl ?_; conv => whnf) | (refine ACond.no rfl ?_; conv => whnf) | (refine ASplit.yes (by decide) ?_; conv => whnf) | (refine ACond.yes (by decide) ?_; conv => whnf) | (refine AReq.mk (by decide) ?_; conv => whnf) | (refine AIdx.iff.2 ⟨by decide, ?_⟩; conv => whnf) | (refine AReq.mk (by omega) ?_; conv => whnf) | (refine AIdx.flat (enc := vcC) (fun _ => rfl) (xs := l) (i := i) hil ?_; conv => whnf))
      exact hno
    conv => whnf
    repeat (first | (refine AW.label ?_; conv => whnf) | (refine AW.scope ?_; conv => whnf) | (refine AO.cons hT ?_; conv => whnf) | (refine AO.nil ?_; conv => whnf) | (refine AW.seq ?_; conv => whnf) | (refine AW.region ?_; conv => whnf) | (refine AW.cond ?_; conv => whnf) | (refine AW.block ?_; conv => whnf) | (refine AW.loop ?_; conv => whnf) | (refine AW.skip ?_; conv => whnf) | (refine AW.exit ?_; conv => whnf) | (refine AW.ret ?_; conv => whnf) | (refine AF.one hT rfl ?_; conv => whnf) | (refine AF.nil ?_; conv => whnf) | (refine AF.imm hT rfl rfl rfl ?_; conv => whnf) | (refine AH.of hT rfl ?_; conv => whnf) | (refine ASplit.yes rfl ?_; conv => whnf) | (refine ACond.yes rfl ?_; conv => whnf) | (refine ASplit.no rfl ?_; conv => whnf) | (refine ACond.no rfl ?_; conv => whnf) | (refine ASplit.yes (by decide) ?_; conv => whnf) | (refine ACond.yes (by decide) ?_; conv => whnf) | (refine AReq.mk (by decide) ?_; conv => whnf) | (refine AIdx.iff.2 ⟨by decide, ?_⟩; conv => whnf) | (refine AReq.mk (by omega) ?_; conv => whnf) | (refine AIdx.flat (enc := vcC) (fun _ => rfl) (xs := l) (i := i) hil ?_; conv => whnf))
    refine ACond.dec (fun h5 => ?_) (fun h5 => ?_)
    · conv => whnf
      repeat (first | (refine AW.label ?_; conv => whnf) | (refine AW.scope ?_; conv => whnf) | (refine AO.cons hT ?_; conv => whnf) | (refine AO.nil ?_; conv => whnf) | (refine AW.seq ?_; conv => whnf) | (refine AW.region ?_; conv => whnf) | (refine AW.cond ?_; conv => whnf) | (refine AW.block ?_; conv => whnf) | (refine AW.loop ?_; conv => whnf) | (refine AW.skip ?_; conv => whnf) | (refine AW.exit ?_; conv => whnf) | (refine AW.ret ?_; conv => whnf) | (refine AF.one hT rfl ?_; conv => whnf) | (refine AF.nil ?_; conv => whnf) | (refine AF.imm hT rfl rfl rfl ?_; conv => whnf) | (refine AH.of hT rfl ?_; conv => whnf) | (refine ASplit.yes rfl ?_; conv => whnf) | (refine ACond.yes rfl ?_; conv => whnf) | (refine ASplit.no rfl ?_; conv => whnf) | (refine ACond.no rfl ?_; conv => whnf) | (refine ASplit.yes (by decide) ?_; conv => whnf) | (refine ACond.yes (by decide) ?_; conv => whnf) | (refine AReq.mk (by decide) ?_; conv => whnf) | (refine AIdx.iff.2 ⟨by decide, ?_⟩; conv => whnf) | (refine AReq.mk (by omega) ?_; conv => whnf) | (refine AIdx.flat (enc := vcC) (fun _ => rfl) (xs := l) (i := i) hil ?_; conv => whnf))
      refine AOut.stay ?_
      conv => whnf
      repeat (first | (refine AW.label ?_; conv => whnf) | (refine AW.scope ?_; conv => whnf) | (refine AO.cons hT ?_; conv => whnf) | (refine AO.nil ?_; conv => whnf) | (refine AW.seq ?_; conv => whnf) | (refine AW.region ?_; conv => whnf) | (refine AW.cond ?_; conv => whnf) | (refine AW.block ?_; conv => whnf) | (refine AW.loop ?_; conv => whnf) | (refine AW.skip ?_; conv => whnf) | (refine AW.exit ?_; conv => whnf) | (refine AW.ret ?_; conv => whnf) | (refine AF.one hT rfl ?_; conv => whnf) | (refine AF.nil ?_; conv => whnf) | (refine AF.imm hT rfl rfl rfl ?_; conv => whnf) | (refine AH.of hT rfl ?_; conv => whnf) | (refine ASplit.yes rfl ?_; conv => whnf) | (refine ACond.yes rfl ?_; conv => whnf) | (refine ASplit.no rfl ?_; conv => whnf) | (refine ACond.no rfl ?_; conv => whnf) | (refine ASplit.yes (by decide) ?_; conv => whnf) | (refine ACond.yes (by decide) ?_; conv => whnf) | (refine AReq.mk (by decide) ?_; conv => whnf) | (refine AIdx.iff.2 ⟨by decide, ?_⟩; conv => whnf) | (refine AReq.mk (by omega) ?_; conv => whnf) | (refine AIdx.flat (enc := vcC) (fun _ => rfl) (xs := l) (i := i) hil ?_; conv => whnf))
      exact hno
    conv => whnf
    repeat (first | (refine AW.label ?_; conv => whnf) | (refine AW.scope ?_; conv => whnf) | (refine AO.cons hT ?_; conv => whnf) | (refine AO.nil ?_; conv => whnf) | (refine AW.seq ?_; conv => whnf) | (refine AW.region ?_; conv => whnf) | (refine AW.cond ?_; conv => whnf) | (refine AW.block ?_; conv => whnf) | (refine AW.loop ?_; conv => whnf) | (refine AW.skip ?_; conv => whnf) | (refine AW.exit ?_; conv => whnf) | (refine AW.ret ?_; conv => whnf) | (refine AF.one hT rfl ?_; conv => whnf) | (refine AF.nil ?_; conv => whnf) | (refine AF.imm hT rfl rfl rfl ?_; conv => whnf) | (refine AH.of hT rfl ?_; conv => whnf) | (refine ASplit.yes rfl ?_; conv => whnf) | (refine ACond.yes rfl ?_; conv => whnf) | (refine ASplit.no rfl ?_; conv => whnf) | (refine ACond.no rfl ?_; conv => whnf) | (refine ASplit.yes (by decide) ?_; conv => whnf) | (refine ACond.yes (by decide) ?_; conv => whnf) | (refine AReq.mk (by decide) ?_; conv => whnf) | (refine AIdx.iff.2 ⟨by decide, ?_⟩; conv => whnf) | (refine AReq.mk (by omega) ?_; conv => whnf) | (refine AIdx.flat (enc := vcC) (fun _ => rfl) (xs := l) (i := i) hil ?_; conv => whnf))
    rw [wrap_i64 ((i : Int) + 1) (by omega) (by omega)]
    refine AHead.mk (l.length - (i + 1)) _ _ (by omega) ⟨i + 1, by omega, ?_, rfl, rfl, rfl⟩ (Conv.fit ?_)
    · intro k hk a ha
      rcases Nat.lt_or_ge k i with h1 | h1
      · exact hok k h1 a ha
      · obtain rfl : k = i := by omega
        rw [List.getElem?_eq_getElem hil] at ha
        cases ha
        omega
    · repeat' (first | exact Fit.nil | refine Fit.any ?_ | refine Fit.same ?_)
  · obtain rfl : i = l.length := by omega
    conv => whnf
    repeat ((first | refine AO.cons hT ?_ | refine AO.nil ?_ | refine AW.seq ?_ | refine AW.region ?_ | refine AW.cond ?_ | refine AW.block ?_ | refine AW.loop ?_ | refine AW.skip ?_ | refine AW.exit ?_ | refine AW.ret ?_ | refine AW.label ?_ | refine AW.scope ?_ | refine AF.one hT rfl ?_ | refine AF.nil ?_ | refine AF.imm hT rfl rfl rfl ?_ | refine AH.of hT rfl ?_ | refine AD.cons hT rfl ?_ | refine AD.nil ?_ | refine AQ.cons hT rfl ?_ | refine AQ.nil ?_ | (refine AReq.mk (by omega) ?_) | (refine AIdx.flat (enc := vcC) (fun _ => rfl) (xs := l) (i := i) hil ?_)); conv => whnf)
    refine AOut.stay ?_
    conv => whnf
    repeat ((first | refine AO.cons hT ?_ | refine AO.nil ?_ | refine AW.seq ?_ | refine AW.region ?_ | refine AW.cond ?_ | refine AW.block ?_ | refine AW.loop ?_ | refine AW.skip ?_ | refine AW.exit ?_ | refine AW.ret ?_ | refine AW.label ?_ | refine AW.scope ?_ | refine AF.one hT rfl ?_ | refine AF.nil ?_ | refine AF.imm hT rfl rfl rfl ?_ | refine AH.of hT rfl ?_ | refine AD.cons hT rfl ?_ | refine AD.nil ?_ | refine AQ.cons hT rfl ?_ | refine AQ.nil ?_ | (refine AReq.mk (by omega) ?_) | (refine AIdx.flat (enc := vcC) (fun _ => rfl) (xs := l) (i := i) hil ?_)); conv => whnf)
    refine AFin.val rfl ⟨true, rfl, rfl, fun _ => ⟨by omega, fun a ha => ?_⟩⟩
    obtain ⟨k, hk⟩ := List.getElem?_of_mem ha
    exact hok k (List.getElem?_eq_some_iff.1 hk).1 a hk
end Go.Aw.VE

set_option linter.unusedSimpArgs false
set_option linter.unusedVariables false
set_option maxHeartbeats 4000000
set_option maxRecDepth 20000
namespace Go.Aw.VE
open Go Go.Proofs

theorem f16n (d : Dd) (hd : Dok d) (S : Nat) (hp : 1 ≤ S) (hle : S ≤ 500) (hf : 2 * S < d.n) (t : ByteArray) (ht : t.size ≤ 100000000000) (hbo0 : (bothF d S).2.2 = 0) (hch0 : (VD.chooseF (bothF d S).1 (bothF d S).2.1).2.2 < 0) (v6 : Va) (hbe0 : begF ⟨d, S, 0, 0, 0, false⟩ S t = (v6, 0)) (bs : List Nat) (ck : Nat) :
    Spec P 16 [.ptr 0 0, nV (S : Nat), sV t] (dvH d bs ck) fun r H' => r = .tup [.ptr 3 0, sV t, .v (.slice none 0 0), nV 0] ∧ ∃ bs ck, H' = dvO v6 bs ck := by
  have hdl := hd.le
  have hpos := hd.pos
  refine spec_of hT (f := 16) (fn := Go.Proofs.Tryz.f16) (c := body Go.Proofs.Tryz.f16) (by kernel_rfl) (by kernel_rfl) ?_
  unfold dvH
  conv => whnf
  repeat (first | (refine AW.plan (id := 14) hm (.one 0 (.one 1 (.one 2 (.one 4 (.imm 5 (.one 3 (.one 6 (.one 7 (.one 8 (.one 9 (.one 10 (.one 11 (.one 12 (.one 13 (.one 14 (.one 15 .nil)))))))))))))))) (by kernel_rfl) ?_; conv => whnf) | (refine AW.plan (id := 18) hm (.one 0 (.one 1 (.one 3 (.one 4 (.one 2 (.one 5 (.one 6 (.one 7 .nil)))))))) (by kernel_rfl) ?_; conv => whnf) | (refine AW.label ?_; conv => whnf) | (refine AW.scope ?_; conv => whnf) | (refine AO.cons hT ?_; conv => whnf) | (refine AO.nil ?_; conv => whnf) | (refine AW.seq ?_; conv => whnf) | (refine AW.region ?_; conv => whnf) | (refine AW.cond ?_; conv => whnf) | (refine AW.block ?_; conv => whnf) | (refine AW.loop ?_; conv => whnf) | (refine AW.skip ?_; conv => whnf) | (refine AW.exit ?_; conv => whnf) | (refine AW.ret ?_; conv => whnf) | (refine AF.one hT rfl ?_; conv => whnf) | (refine AF.nil ?_; conv => whnf) | (refine AF.imm hT rfl rfl rfl ?_; conv => whnf) | (refine AH.of hT rfl ?_; conv => whnf) | (refine ASplit.yes rfl ?_; conv => whnf) | (refine ACond.yes rfl ?_; conv => whnf) | (refine ASplit.no rfl ?_; conv => whnf) | (refine ACond.no rfl ?_; conv => whnf) | (refine ASplit.yes (by decide) ?_; conv => whnf) | (refine ACond.yes (by decide) ?_; conv => whnf) | (refine AReq.mk (by decide) ?_; conv => whnf) | (refine AIdx.iff.2 ⟨by decide, ?_⟩; conv => whnf))
  refine ACall.dev (by kernel_rfl) (f44 d (by omega)) rfl rfl rfl (by decide) (fun _ => rfl) (by rintro _ _ ⟨rfl, _⟩ _; rfl) ?_
  rintro _ yy bs1 ck1 ⟨rfl, hyy⟩
  rw [hyy]
  simp only [List.length_nil, Nat.zero_add, List.nil_append, List.set_cons_zero, List.set_cons_succ]
  conv => whnf
  repeat (first | (refine AW.plan (id := 14) hm (.one 0 (.one 1 (.one 2 (.one 4 (.imm 5 (.one 3 (.one 6 (.one 7 (.one 8 (.one 9 (.one 10 (.one 11 (.one 12 (.one 13 (.one 14 (.one 15 .nil)))))))))))))))) (by kernel_rfl) ?_; conv => whnf) | (refine AW.plan (id := 18) hm (.one 0 (.one 1 (.one 3 (.one 4 (.one 2 (.one 5 (.one 6 (.one 7 .nil)))))))) (by kernel_rfl) ?_; conv => whnf) | (refine AW.label ?_; conv => whnf) | (refine AW.scope ?_; conv => whnf) | (refine AO.cons hT ?_; conv => whnf) | (refine AO.nil ?_; conv => whnf) | (refine AW.seq ?_; conv => whnf) | (refine AW.region ?_; conv => whnf) | (refine AW.cond ?_; conv => whnf) | (refine AW.block ?_; conv => whnf) | (refine AW.loop ?_; conv => whnf) | (refine AW.skip ?_; conv => whnf) | (refine AW.exit ?_; conv => whnf) | (refine AW.ret ?_; conv => whnf) | (refine AF.one hT rfl ?_; conv => whnf) | (refine AF.nil ?_; conv => whnf) | (refine AF.imm hT rfl rfl rfl ?_; conv => whnf) | (refine AH.of hT rfl ?_; conv => whnf) | (refine ASplit.yes rfl ?_; conv => whnf) | (refine ACond.yes rfl ?_; conv => whnf) | (refine ASplit.no rfl ?_; conv => whnf) | (refine ACond.no rfl ?_; conv => whnf) | (refine ASplit.yes (by decide) ?_; conv => whnf) | (refine ACond.yes (by decide) ?_; conv => whnf) | (refine AReq.mk (by decide) ?_; conv => whnf) | (refine AIdx.iff.2 ⟨by decide, ?_⟩; conv => whnf))
  refine ACond.no (by simp; omega) ?_
  conv => whnf
  repeat (first | (refine AW.plan (id := 14) hm (.one 0 (.one 1 (.one 2 (.one 4 (.imm 5 (.one 3 (.one 6 (.one 7 (.one 8 (.one 9 (.one 10 (.one 11 (.one 12 (.one 13 (.one 14 (.one 15 .nil)))))))))))))))) (by kernel_rfl) ?_; conv => whnf) | (refine AW.plan (id := 18) hm (.one 0 (.one 1 (.one 3 (.one 4 (.one 2 (.one 5 (.one 6 (.one 7 .nil)))))))) (by kernel_rfl) ?_; conv => whnf) | (refine AW.label ?_; conv => whnf) | (refine AW.scope ?_; conv => whnf) | (refine AO.cons hT ?_; conv => whnf) | (refine AO.nil ?_; conv => whnf) | (refine AW.seq ?_; conv => whnf) | (refine AW.region ?_; conv => whnf) | (refine AW.cond ?_; conv => whnf) | (refine AW.block ?_; conv => whnf) | (refine AW.loop ?_; conv => whnf) | (refine AW.skip ?_; conv => whnf) | (refine AW.exit ?_; conv => whnf) | (refine AW.ret ?_; conv => whnf) | (refine AF.one hT rfl ?_; conv => whnf) | (refine AF.nil ?_; conv => whnf) | (refine AF.imm hT rfl rfl rfl ?_; conv => whnf) | (refine AH.of hT rfl ?_; conv => whnf) | (refine ASplit.yes rfl ?_; conv => whnf) | (refine ACond.yes rfl ?_; conv => whnf) | (refine ASplit.no rfl ?_; conv => whnf) | (refine ACond.no rfl ?_; conv => whnf) | (refine ASplit.yes (by decide) ?_; conv => whnf) | (refine ACond.yes (by decide) ?_; conv => whnf) | (refine AReq.mk (by decide) ?_; conv => whnf) | (refine AIdx.iff.2 ⟨by decide, ?_⟩; conv => whnf))
  refine ASplit.no (decide_eq_false (by omega)) ?_
  conv => whnf
  repeat (first | (refine AW.plan (id := 14) hm (.one 0 (.one 1 (.one 2 (.one 4 (.imm 5 (.one 3 (.one 6 (.one 7 (.one 8 (.one 9 (.one 10 (.one 11 (.one 12 (.one 13 (.one 14 (.one 15 .nil)))))))))))))))) (by kernel_rfl) ?_; conv => whnf) | (refine AW.plan (id := 18) hm (.one 0 (.one 1 (.one 3 (.one 4 (.one 2 (.one 5 (.one 6 (.one 7 .nil)))))))) (by kernel_rfl) ?_; conv => whnf) | (refine AW.label ?_; conv => whnf) | (refine AW.scope ?_; conv => whnf) | (refine AO.cons hT ?_; conv => whnf) | (refine AO.nil ?_; conv => whnf) | (refine AW.seq ?_; conv => whnf) | (refine AW.region ?_; conv => whnf) | (refine AW.cond ?_; conv => whnf) | (refine AW.block ?_; conv => whnf) | (refine AW.loop ?_; conv => whnf) | (refine AW.skip ?_; conv => whnf) | (refine AW.exit ?_; conv => whnf) | (refine AW.ret ?_; conv => whnf) | (refine AF.one hT rfl ?_; conv => whnf) | (refine AF.nil ?_; conv => whnf) | (refine AF.imm hT rfl rfl rfl ?_; conv => whnf) | (refine AH.of hT rfl ?_; conv => whnf) | (refine ASplit.yes rfl ?_; conv => whnf) | (refine ACond.yes rfl ?_; conv => whnf) | (refine ASplit.no rfl ?_; conv => whnf) | (refine ACond.no rfl ?_; conv => whnf) | (refine ASplit.yes (by decide) ?_; conv => whnf) | (refine ACond.yes (by decide) ?_; conv => whnf) | (refine AReq.mk (by decide) ?_; conv => whnf) | (refine AIdx.iff.2 ⟨by decide, ?_⟩; conv => whnf))
  refine ASplit.no (decide_eq_false (by omega)) ?_
  have hw : IntKind.wrap .i64 (2 * (S : Int)) = 2 * S := wrap_i64' (by omega) (by omega)
  conv => whnf
  repeat (first | (refine AW.plan (id := 14) hm (.one 0 (.one 1 (.one 2 (.one 4 (.imm 5 (.one 3 (.one 6 (.one 7 (.one 8 (.one 9 (.one 10 (.one 11 (.one 12 (.one 13 (.one 14 (.one 15 .nil)))))))))))))))) (by kernel_rfl) ?_; conv => whnf) | (refine AW.plan (id := 18) hm (.one 0 (.one 1 (.one 3 (.one 4 (.one 2 (.one 5 (.one 6 (.one 7 .nil)))))))) (by kernel_rfl) ?_; conv => whnf) | (refine AW.label ?_; conv => whnf) | (refine AW.scope ?_; conv => whnf) | (refine AO.cons hT ?_; conv => whnf) | (refine AO.nil ?_; conv => whnf) | (refine AW.seq ?_; conv => whnf) | (refine AW.region ?_; conv => whnf) | (refine AW.cond ?_; conv => whnf) | (refine AW.block ?_; conv => whnf) | (refine AW.loop ?_; conv => whnf) | (refine AW.skip ?_; conv => whnf) | (refine AW.exit ?_; conv => whnf) | (refine AW.ret ?_; conv => whnf) | (refine AF.one hT rfl ?_; conv => whnf) | (refine AF.nil ?_; conv => whnf) | (refine AF.imm hT rfl rfl rfl ?_; conv => whnf) | (refine AH.of hT rfl ?_; conv => whnf) | (refine ASplit.yes rfl ?_; conv => whnf) | (refine ACond.yes rfl ?_; conv => whnf) | (refine ASplit.no rfl ?_; conv => whnf) | (refine ACond.no rfl ?_; conv => whnf) | (refine ASplit.yes (by decide) ?_; conv => whnf) | (refine ACond.yes (by decide) ?_; conv => whnf) | (refine AReq.mk (by decide) ?_; conv => whnf) | (refine AIdx.iff.2 ⟨by decide, ?_⟩; conv => whnf))
  rw [hw]
  refine ACond.no (decide_eq_false (by omega)) ?_
  have hv : Vok ⟨d, S, 0, 0, 0, false⟩ S := ⟨hd, rfl, by omega, by omega, by show 2 * S < d.n; omega⟩
  have hbo := f38 _ S hv
  have hbs := both_size hd S
  conv => whnf
  repeat (first | (refine AW.plan (id := 14) hm (.one 0 (.one 1 (.one 2 (.one 4 (.imm 5 (.one 3 (.one 6 (.one 7 (.one 8 (.one 9 (.one 10 (.one 11 (.one 12 (.one 13 (.one 14 (.one 15 .nil)))))))))))))))) (by kernel_rfl) ?_; conv => whnf) | (refine AW.plan (id := 18) hm (.one 0 (.one 1 (.one 3 (.one 4 (.one 2 (.one 5 (.one 6 (.one 7 .nil)))))))) (by kernel_rfl) ?_; conv => whnf) | (refine AW.label ?_; conv => whnf) | (refine AW.scope ?_; conv => whnf) | (refine AO.cons hT ?_; conv => whnf) | (refine AO.nil ?_; conv => whnf) | (refine AW.seq ?_; conv => whnf) | (refine AW.region ?_; conv => whnf) | (refine AW.cond ?_; conv => whnf) | (refine AW.block ?_; conv => whnf) | (refine AW.loop ?_; conv => whnf) | (refine AW.skip ?_; conv => whnf) | (refine AW.exit ?_; conv => whnf) | (refine AW.ret ?_; conv => whnf) | (refine AF.one hT rfl ?_; conv => whnf) | (refine AF.nil ?_; conv => whnf) | (refine AF.imm hT rfl rfl rfl ?_; conv => whnf) | (refine AH.of hT rfl ?_; conv => whnf) | (refine ASplit.yes rfl ?_; conv => whnf) | (refine ACond.yes rfl ?_; conv => whnf) | (refine ASplit.no rfl ?_; conv => whnf) | (refine ACond.no rfl ?_; conv => whnf) | (refine ASplit.yes (by decide) ?_; conv => whnf) | (refine ACond.yes (by decide) ?_; conv => whnf) | (refine AReq.mk (by decide) ?_; conv => whnf) | (refine AIdx.iff.2 ⟨by decide, ?_⟩; conv => whnf))
  refine ACall.vaultO (v := ⟨d, S, 0, 0, 0, false⟩) (bs := bs1) (ck := ck1) [] rfl (by kernel_rfl) hbo (fun _ => rfl) ?_
  rintro _ v1 bs2 ck2 N ⟨rfl, e1⟩
  rw [e1]
  generalize bothF d S = bo at *
  obtain ⟨ba, bb, be⟩ := bo
  simp only at hbs hbo0 hch0
  subst hbo0
  unfold dvO bothR
  have hch := VD.f45 ba bb (by omega) (by omega)
  generalize VD.chooseF ba bb = c at *
  obtain ⟨cg, ct, cw⟩ := c
  simp only at hch0
  unfold VD.chooseR VD.snapC at hch
  conv => whnf
  repeat (first | (refine AW.plan (id := 14) hm (.one 0 (.one 1 (.one 2 (.one 4 (.imm 5 (.one 3 (.one 6 (.one 7 (.one 8 (.one 9 (.one 10 (.one 11 (.one 12 (.one 13 (.one 14 (.one 15 .nil)))))))))))))))) (by kernel_rfl) ?_; conv => whnf) | (refine AW.plan (id := 18) hm (.one 0 (.one 1 (.one 3 (.one 4 (.one 2 (.one 5 (.one 6 (.one 7 .nil)))))))) (by kernel_rfl) ?_; conv => whnf) | (refine AW.label ?_; conv => whnf) | (refine AW.scope ?_; conv => whnf) | (refine AO.cons hT ?_; conv => whnf) | (refine AO.nil ?_; conv => whnf) | (refine AW.seq ?_; conv => whnf) | (refine AW.region ?_; conv => whnf) | (refine AW.cond ?_; conv => whnf) | (refine AW.block ?_; conv => whnf) | (refine AW.loop ?_; conv => whnf) | (refine AW.skip ?_; conv => whnf) | (refine AW.exit ?_; conv => whnf) | (refine AW.ret ?_; conv => whnf) | (refine AF.one hT rfl ?_; conv => whnf) | (refine AF.nil ?_; conv => whnf) | (refine AF.imm hT rfl rfl rfl ?_; conv => whnf) | (refine AH.of hT rfl ?_; conv => whnf) | (refine ASplit.yes rfl ?_; conv => whnf) | (refine ACond.yes rfl ?_; conv => whnf) | (refine ASplit.no rfl ?_; conv => whnf) | (refine ACond.no rfl ?_; conv => whnf) | (refine ASplit.yes (by decide) ?_; conv => whnf) | (refine ACond.yes (by decide) ?_; conv => whnf) | (refine AReq.mk (by decide) ?_; conv => whnf) | (refine AIdx.iff.2 ⟨by decide, ?_⟩; conv => whnf) | (refine ACall.val (by kernel_rfl) hch rfl rfl ?_; conv => whnf))
  refine ACond.yes (decide_eq_true hch0) ?_
  have hbe := f46 _ S hv t ht
  rw [hbe0] at hbe
  simp only at hbe
  conv => whnf
  repeat (first | (refine AW.plan (id := 14) hm (.one 0 (.one 1 (.one 2 (.one 4 (.imm 5 (.one 3 (.one 6 (.one 7 (.one 8 (.one 9 (.one 10 (.one 11 (.one 12 (.one 13 (.one 14 (.one 15 .nil)))))))))))))))) (by kernel_rfl) ?_; conv => whnf) | (refine AW.plan (id := 18) hm (.one 0 (.one 1 (.one 3 (.one 4 (.one 2 (.one 5 (.one 6 (.one 7 .nil)))))))) (by kernel_rfl) ?_; conv => whnf) | (refine AW.label ?_; conv => whnf) | (refine AW.scope ?_; conv => whnf) | (refine AO.cons hT ?_; conv => whnf) | (refine AO.nil ?_; conv => whnf) | (refine AW.seq ?_; conv => whnf) | (refine AW.region ?_; conv => whnf) | (refine AW.cond ?_; conv => whnf) | (refine AW.block ?_; conv => whnf) | (refine AW.loop ?_; conv => whnf) | (refine AW.skip ?_; conv => whnf) | (refine AW.exit ?_; conv => whnf) | (refine AW.ret ?_; conv => whnf) | (refine AF.one hT rfl ?_; conv => whnf) | (refine AF.nil ?_; conv => whnf) | (refine AF.imm hT rfl rfl rfl ?_; conv => whnf) | (refine AH.of hT rfl ?_; conv => whnf) | (refine ASplit.yes rfl ?_; conv => whnf) | (refine ACond.yes rfl ?_; conv => whnf) | (refine ASplit.no rfl ?_; conv => whnf) | (refine ACond.no rfl ?_; conv => whnf) | (refine ASplit.yes (by decide) ?_; conv => whnf) | (refine ACond.yes (by decide) ?_; conv => whnf) | (refine AReq.mk (by decide) ?_; conv => whnf) | (refine AIdx.iff.2 ⟨by decide, ?_⟩; conv => whnf) | (refine ACall.val (by kernel_rfl) hch rfl rfl ?_; conv => whnf))
  refine ACall.vaultO (v := ⟨d, S, 0, 0, 0, false⟩) (bs := bs2) (ck := ck2) [.cells 88 [nV cg, sV ct]] rfl (by kernel_rfl) hbe (fun _ => rfl) ?_
  rintro _ v7 bs3 ck3 N2 ⟨rfl, e2⟩
  rw [e2]
  unfold begR dvO
  rw [if_pos rfl]
  conv => whnf
  repeat (first | (refine AW.plan (id := 14) hm (.one 0 (.one 1 (.one 2 (.one 4 (.imm 5 (.one 3 (.one 6 (.one 7 (.one 8 (.one 9 (.one 10 (.one 11 (.one 12 (.one 13 (.one 14 (.one 15 .nil)))))))))))))))) (by kernel_rfl) ?_; conv => whnf) | (refine AW.plan (id := 18) hm (.one 0 (.one 1 (.one 3 (.one 4 (.one 2 (.one 5 (.one 6 (.one 7 .nil)))))))) (by kernel_rfl) ?_; conv => whnf) | (refine AW.label ?_; conv => whnf) | (refine AW.scope ?_; conv => whnf) | (refine AO.cons hT ?_; conv => whnf) | (refine AO.nil ?_; conv => whnf) | (refine AW.seq ?_; conv => whnf) | (refine AW.region ?_; conv => whnf) | (refine AW.cond ?_; conv => whnf) | (refine AW.block ?_; conv => whnf) | (refine AW.loop ?_; conv => whnf) | (refine AW.skip ?_; conv => whnf) | (refine AW.exit ?_; conv => whnf) | (refine AW.ret ?_; conv => whnf) | (refine AF.one hT rfl ?_; conv => whnf) | (refine AF.nil ?_; conv => whnf) | (refine AF.imm hT rfl rfl rfl ?_; conv => whnf) | (refine AH.of hT rfl ?_; conv => whnf) | (refine ASplit.yes rfl ?_; conv => whnf) | (refine ACond.yes rfl ?_; conv => whnf) | (refine ASplit.no rfl ?_; conv => whnf) | (refine ACond.no rfl ?_; conv => whnf) | (refine ASplit.yes (by decide) ?_; conv => whnf) | (refine ACond.yes (by decide) ?_; conv => whnf) | (refine AReq.mk (by decide) ?_; conv => whnf) | (refine AIdx.iff.2 ⟨by decide, ?_⟩; conv => whnf) | (refine ACall.val (by kernel_rfl) hch rfl rfl ?_; conv => whnf))
  refine AFin.to _ _ (Conv.ren [0, 1, 2, 3] (H' := dvO v6 bs3 ck3) [.tup [.ptr 3 0, sV t, .v (.slice none 0 0), nV 0]] (fun i hi => rl4 i (by have : i < 3 := hi; omega)) (by decide) (.same .nil) ?_) ⟨rfl, bs3, ck3, rfl⟩
  exact .same (by rw [dD_ren]; rfl) (.same (by rw [dC_ren]; rfl) (.same (by rw [dM_ren]; rfl) (.same rfl .nil)))
end Go.Aw.VE

set_option linter.unusedSimpArgs false
set_option linter.unusedVariables false
set_option maxHeartbeats 4000000
set_option maxRecDepth 20000
namespace Go.Aw.VE
open Go Go.Proofs

def vK (v : Va) : ABlk := .cells 26 [.ptr 1 0, nV v.s, nV v.e, nV v.q, nV v.at_, .v (.bool v.sh)]
/-- what is opened on a new device -/
theorem vk_first {n S : Nat} (hp : 1 ≤ S) (hle : S ≤ 500) (hf : 2 * S < n) (hn : n ≤ 2000) (x : ByteArray) (hx : (x.size + 16 + 63) / 64 ≤ S) :
    ∃ v cs, (bothF (newD n) S).2.2 = 0 ∧ (VD.chooseF (bothF (newD n) S).1 (bothF (newD n) S).2.1).2.2 < 0 ∧ begF ⟨newD n, S, 0, 0, 0, false⟩ S x = (v, 0) ∧ v.s = S ∧ v.d.n = n ∧ Vk v S cs 1 x [] 0 := by
  have hc := new_cl (n := n) (by omega) hn
  have hv : Vok ⟨newD n, S, 0, 0, 0, false⟩ S := ⟨hc.ok, rfl, hp, hle, hf⟩
  have hbo := hc.both hp hf
  have harz : ∀ A N, A + N ≤ n → arL (List.replicate (64 * n) 0) A N = List.replicate (64 * N) 0 := by
    intro A N h
    unfold arL
    rw [List.drop_replicate, List.take_replicate]
    congr 1; omega
  have hz : ∀ A, A + S ≤ n → (VD.slotF (arS (List.replicate (64 * n) 0) A S)).2.2 ≠ 0 := by
    intro A h
    unfold arS
    rw [harz A S h]
    exact slot_zero S hp
  have hch : VD.chooseF (arS (List.replicate (64 * n) 0) 0 S) (arS (List.replicate (64 * n) 0) S S) = (0, VD.e0, -1) := by
    rw [VD.chooseF_eq, if_pos ⟨hz 0 (by omega), hz S (by omega)⟩]
  have hfi : fitF ⟨newD n, S, 0, 0, 0, false⟩ S x = true := by
    unfold fitF VD.putF
    rw [if_neg (by decide), if_neg (by omega), decide_eq_true rfl, decide_eq_true hx]
    rfl
  obtain ⟨v', cs', b1, b2, b3, b4⟩ := vk_lay (v := ⟨newD n, S, 0, 0, 0, false⟩) hv hc rfl 1 0 (by omega) x (by omega) (by omega) (by omega) hx (fun cs' c1 c2 => kj_zero 1 (by
      rw [c1, List.length_replicate]
      show 64 * (2 * S + (n - 2 * S)) ≤ _; omega) (by
      rw [c2]; exact harz _ _ (by show 2 * S + (n - 2 * S) ≤ n; omega))) (.inl (by rw [show (1 - 0) * S = S by omega]; exact hz S (by omega)))
  refine ⟨v', cs', by rw [hbo], by rw [hbo, hch]; decide, ?_, b2, b3, b4⟩
  unfold begF
  rw [hfi, if_neg (by decide), show (1 : Int) = ((1 : Nat) : Int) from rfl, b1]
theorem callFirst1 {H G : List ABlk} {A : ABlk} {n S : Nat} {bs : List Nat} {ck : Nat} {t : ByteArray} {v : Va} {K : AV → List ABlk → Prop} (e : H = A :: dD 2 3 (newD n) :: dC (newD n) :: dM (newD n) bs ck :: G) (hp : 1 ≤ S) (hle : S ≤ 500) (hf : 2 * S < n) (hn : n ≤ 2000) (ht : t.size ≤ 100000000000)
    (h1 : (bothF (newD n) S).2.2 = 0) (h2 : (VD.chooseF (bothF (newD n) S).1 (bothF (newD n) S).2.1).2.2 < 0) (h3 : begF ⟨newD n, S, 0, 0, 0, false⟩ S t = (v, 0))
    (k : ∀ bs' ck', K (.tup [.ptr (4 + G.length) 0, sV t, .v (.slice none 0 0), nV 0]) (A :: dD 2 3 v.d :: dC v.d :: dM v.d bs' ck' :: (G ++ [vK v]))) : ACall P 16 [.ptr 1 0, nV (S : Nat), sV t] H K := by
  subst e
  refine ACall.of (by kernel_rfl) (f16n (newD n) (new_ok (by omega) hn) S hp hle hf t ht h1 h2 v h3 bs ck) [1, 2, 3] [] (by decide) (.same (by rw [dD_ren]; rfl) (.same (by rw [dC_ren]; rfl) (.same (by rw [dM_ren]; rfl) .nil))) (by simp) (by simp) (.cons (.same rfl) (.cons (.same rfl) (.cons (.same rfl) .nil))) (.inl rfl) ?_
  rintro r H' ⟨rfl, bs', ck', rfl⟩
  have := k bs' ck'
  have e3 : nm [1, 2, 3] (A :: dD 2 3 (newD n) :: dC (newD n) :: dM (newD n) bs ck :: G).length 3 = 4 + G.length := by simp [nm]; omega
  have e0 : nm [1, 2, 3] (A :: dD 2 3 (newD n) :: dC (newD n) :: dM (newD n) bs ck :: G).length 0 = 1 := rfl
  simp only [AV.ren, renL, e3] at this ⊢
  simp only [dvO, vO, vK, List.cons_append, List.nil_append, mergeH, dD_ren, dC_ren, dM_ren, List.map_cons, List.map_nil, List.set_cons_zero, List.set_cons_succ, List.append_assoc] at this ⊢
  exact this
theorem callOpen1 {H G : List ABlk} {A : ABlk} {d : Dd} {bs : List Nat} {ck : Nat} {s : Int} {t tx : ByteArray} {l : List ByteArray} {v : Va} {K : AV → List ABlk → Prop} (e : H = A :: dD 2 3 d :: dC d :: dM d bs ck :: G) (hd : Dok d) (hs : nOk s) (ht : t.size ≤ 100000000000) (h : openF d s t = (0, v, tx, l))
    (k : ∀ bs' ck', K (.tup [.ptr (4 + G.length) 0, sV tx, VD.tV l, nV 0]) (A :: dD 2 3 v.d :: dC v.d :: dM v.d bs' ck' :: (G ++ [vK v]))) : ACall P 16 [.ptr 1 0, nV s, sV t] H K := by
  subst e
  refine ACall.of (by kernel_rfl) (f16 d hd s hs t ht bs ck) [1, 2, 3] [] (by decide) (.same (by rw [dD_ren]; rfl) (.same (by rw [dC_ren]; rfl) (.same (by rw [dM_ren]; rfl) .nil))) (by simp) (by simp) (.cons (.same rfl) (.cons (.same rfl) (.cons (.same rfl) .nil))) (.inl rfl) ?_
  intro r H' hr
  rw [h] at hr
  rcases hr with ⟨h1, _⟩ | ⟨_, rfl, bs', ck', rfl⟩
  · exact absurd rfl h1
  have := k bs' ck'
  have e3 : nm [1, 2, 3] (A :: dD 2 3 d :: dC d :: dM d bs ck :: G).length 3 = 4 + G.length := by simp [nm]; omega
  simp only [AV.ren, renL, VD.tV, VD.texts_ren, e3] at this ⊢
  simp only [dvO, vO, vK, List.cons_append, List.nil_append, mergeH, dD_ren, dC_ren, dM_ren, List.map_cons, List.map_nil, List.set_cons_zero, List.set_cons_succ, List.append_assoc] at this ⊢
  exact this
/-- a call of the vault in block p, whose device is in block 1 -/
theorem ACall.vaultP {f : Nat} (p : Nat) {args : List AV} {v : Va} {R : AV → Va → Prop} {H G : List ABlk} {A : ABlk} {K : AV → List ABlk → Prop} {bs : List Nat} {ck : Nat} (e : H = A :: dD 2 3 v.d :: dC v.d :: dM v.d bs ck :: G) (hg : H[p]? = some (vK v)) (hp : [p, 1, 2, 3].Nodup) (hc : callOk P f = true) (h : VSpec f args v R)
    (ha : ∀ ρ, renL ρ args = args) (hr : ∀ r y, R r y → ∀ ρ, r.ren ρ = r) (k : ∀ r v' bs' ck', R r v' → K r ((((H.set p (vK v')).set 1 (dD 2 3 v'.d)).set 2 (dC v'.d)).set 3 (dM v'.d bs' ck'))) : ACall P f (.ptr p 0 :: args) H K := by
  refine ACall.of hc (h bs ck) [p, 1, 2, 3] [] hp ?_ (by simp) (by simp) ?_ (.inl rfl) ?_
  · refine .same ?_ (.same ?_ (.same ?_ (.same ?_ .nil)))
    · rw [hg]; rfl
    · subst e; show some (dD 2 3 v.d) = _; rw [dD_ren]; rfl
    · subst e; show some (dC v.d) = _; rw [dC_ren]
    · subst e; show some (dM v.d bs ck) = _; rw [dM_ren]
  · have := LendL.same (H := H) (B := []) (ρ := nm [p, 1, 2, 3] H.length) (.ptr 0 0 :: args)
    simp only [renL, ha] at this
    exact this
  · rintro r _ ⟨v', bs', ck', hR, rfl⟩
    rw [hr r v' hR]
    have := k r v' bs' ck' hR
    simp only [vH, List.cons_append, List.nil_append, mergeH, List.map_cons, List.map_nil, dD_ren, dC_ren, dM_ren, List.append_nil] at this ⊢
    exact this
end Go.Aw.VE

set_option linter.unusedSimpArgs false
set_option linter.unusedVariables false
set_option maxHeartbeats 4000000
set_option maxRecDepth 20000
namespace Go.Aw.VE
open Go Go.Proofs

theorem vcL_ren (ρ : Nat → Nat) (l : List Vc) : renL ρ (l.flatMap vcC) = l.flatMap vcC := by
  induction l with
  | nil => rfl
  | cons a l ih => rw [List.flatMap_cons, renL_append, ih]; congr 1; unfold vcC; simp only [renL, AV.ren, acC_ren]
theorem fitN_app {sz l : Nat} {ys zs : List AV} (h : FitN sz l ys zs) : ∀ (r : List AV), FitN sz l (ys ++ r) (zs ++ r) := by
  induction h with
  | nil => intro r; simp only [List.nil_append]; induction r with | nil => exact .nil | cons x r ih => exact .same ih
  | any _ ih => intro r; exact .any (ih r)
  | same _ ih => intro r; exact .same (ih r)
  | own _ ih => intro r; exact .own (ih r)
theorem fitN_pad {sz l n : Nat} {ys zs : List AV} (h : FitN sz l ys zs) (hl : ys.length = zs.length) : FitN sz l (Go.Aw.pad ys n) (Go.Aw.pad zs n) := by
  rw [pad_eq, pad_eq, hl]; exact fitN_app h _
def kpE (l : List Vc) (c : Ch) (t : ByteArray) (q : AV) (i : Int) : List AV := pad [.vs 9 l.length (l.flatMap vcC), .agg (chC c), .any, .ptr 0 0, .v (.bool false), .ptr 1 0, nV 0, .ptr 4 0, sV t, q, nV 0, nV i] 138
theorem kpE_ren (ρ : Nat → Nat) (h0 : ρ 0 = 0) (h1 : ρ 1 = 1) (h4 : ρ 4 = 4) (l : List Vc) (c : Ch) (t : ByteArray) (q : AV) (i : Int) : renL ρ (kpE l c t q i) = kpE l c t (q.ren ρ) i := by
  unfold kpE
  rw [pad_eq, pad_eq, renL_append]
  have hr : ∀ n, renL ρ (List.replicate n AV.any) = List.replicate n AV.any := by
    intro n; induction n with
    | zero => rfl
    | succ n ih => simp only [List.replicate_succ, renL, AV.ren, ih]
  simp only [hr, renL, AV.ren, vcL_ren, chC_ren, h0, h1, h4]
  rfl
def kpH (c : Ch) (v : Va) (bs : List Nat) (ck : Nat) (bod : List ByteArray) : List ABlk := [.cells 38 (chC c), dD 2 3 v.d, dC v.d, dM v.d bs ck, vK v, .cells 9 (bod.map VD.sV)]
/-- where the vault stands behind some calls -/
structure KpS (v : Va) (cs : List UInt8) (e : Nat) (t : ByteArray) (bod : List ByteArray) (z : Nat) (i : Nat) : Prop where
  vk : Vk v 10 cs e t bod z
  n : v.d.n = 120
  few : bod.length ≤ i
  small : ∀ b ∈ bod, b.size ≤ 3100
  txt : t.size ≤ 3100
theorem f6 (l : List Vc) (hl : l.length ≤ maxLen) (ht : ∀ a ∈ l, a.text.size ≤ maxLen) (c : Ch) (hc : c.keep.length ≤ maxLen) : Fun P 6 [.vs 9 l.length (l.flatMap vcC), .agg (chC c)] (.v (.bool true)) := by
  have hml : maxLen ≤ 9223372036854775807 := by decide
  refine spec_of hT (f := 6) (fn := Go.Proofs.Tryz.f6) (c := body Go.Proofs.Tryz.f6) (by kernel_rfl) (by kernel_rfl) ?_
  have hfin : ∀ {H : List ABlk}, AFin 0 (.v (.bool true)) H (fun r H => r = .v (.bool true) ∧ H = []) := AFin.val rfl ⟨rfl, rfl⟩
  conv => whnf
  repeat ((first | refine AO.cons hT ?_ | refine AO.nil ?_ | refine AW.seq ?_ | refine AW.region ?_ | refine AW.cond ?_ | refine AW.block ?_ | refine AW.loop ?_ | refine AW.skip ?_ | refine AW.exit ?_ | refine AW.ret ?_ | refine AW.label ?_ | refine AW.scope ?_ | refine AF.one hT rfl ?_ | refine AF.nil ?_ | refine AF.imm hT rfl rfl rfl ?_ | refine AH.of hT rfl ?_ | refine AD.cons hT rfl ?_ | refine AD.nil ?_ | refine AQ.cons hT rfl ?_ | refine AQ.nil ?_ | (refine ACall.val (by kernel_rfl) f8 rfl rfl ?_)); conv => whnf)
  refine ACall.spec (by kernel_rfl) (f33 l hl ht) (show renL _ [AV.vs 9 l.length (l.flatMap vcC)] = [AV.vs 9 l.length (l.flatMap vcC)] by simp only [renL, AV.ren, vcL_ren]) ?_
  rintro _ _ ⟨b, rfl, rfl, hb⟩
  simp only [AV.ren, List.map_nil, List.append_nil]
  rcases b with _ | _
  · conv => whnf
    repeat (first | (refine AW.label ?_; conv => whnf) | (refine AW.scope ?_; conv => whnf) | (refine AO.cons hT ?_; conv => whnf) | (refine AO.nil ?_; conv => whnf) | (refine AW.seq ?_; conv => whnf) | (refine AW.region ?_; conv => whnf) | (refine AW.cond ?_; conv => whnf) | (refine AW.block ?_; conv => whnf) | (refine AW.loop ?_; conv => whnf) | (refine AW.skip ?_; conv => whnf) | (refine AW.exit ?_; conv => whnf) | (refine AW.ret ?_; conv => whnf) | (refine AF.one hT rfl ?_; conv => whnf) | (refine AF.nil ?_; conv => whnf) | (refine AF.imm hT rfl rfl rfl ?_; conv => whnf) | (refine AH.of hT rfl ?_; conv => whnf) | (refine ASplit.yes rfl ?_; conv => whnf) | (refine ACond.yes rfl ?_; conv => whnf) | (refine ASplit.no rfl ?_; conv => whnf) | (refine ACond.no rfl ?_; conv => whnf) | (refine ASplit.yes (by decide) ?_; conv => whnf) | (refine ACond.yes (by decide) ?_; conv => whnf) | (refine AReq.mk (by decide) ?_; conv => whnf) | (refine AIdx.iff.2 ⟨by decide, ?_⟩; conv => whnf) | (refine ACall.val (by kernel_rfl) f8 rfl rfl ?_; conv => whnf))
    exact hfin
  obtain ⟨hl40, hts⟩ := hb rfl
  conv => whnf
  repeat (first | (refine AW.label ?_; conv => whnf) | (refine AW.scope ?_; conv => whnf) | (refine AO.cons hT ?_; conv => whnf) | (refine AO.nil ?_; conv => whnf) | (refine AW.seq ?_; conv => whnf) | (refine AW.region ?_; conv => whnf) | (refine AW.cond ?_; conv => whnf) | (refine AW.block ?_; conv => whnf) | (refine AW.loop ?_; conv => whnf) | (refine AW.skip ?_; conv => whnf) | (refine AW.exit ?_; conv => whnf) | (refine AW.ret ?_; conv => whnf) | (refine AF.one hT rfl ?_; conv => whnf) | (refine AF.nil ?_; conv => whnf) | (refine AF.imm hT rfl rfl rfl ?_; conv => whnf) | (refine AH.of hT rfl ?_; conv => whnf) | (refine ASplit.yes rfl ?_; conv => whnf) | (refine ACond.yes rfl ?_; conv => whnf) | (refine ASplit.no rfl ?_; conv => whnf) | (refine ACond.no rfl ?_; conv => whnf) | (refine ASplit.yes (by decide) ?_; conv => whnf) | (refine ACond.yes (by decide) ?_; conv => whnf) | (refine AReq.mk (by decide) ?_; conv => whnf) | (refine AIdx.iff.2 ⟨by decide, ?_⟩; conv => whnf) | (refine ACall.val (by kernel_rfl) f8 rfl rfl ?_; conv => whnf))
  refine ACond.dec (fun g1 => ?_) (fun g1 => ?_)
  · conv => whnf
    repeat (first | (refine AW.label ?_; conv => whnf) | (refine AW.scope ?_; conv => whnf) | (refine AO.cons hT ?_; conv => whnf) | (refine AO.nil ?_; conv => whnf) | (refine AW.seq ?_; conv => whnf) | (refine AW.region ?_; conv => whnf) | (refine AW.cond ?_; conv => whnf) | (refine AW.block ?_; conv => whnf) | (refine AW.loop ?_; conv => whnf) | (refine AW.skip ?_; conv => whnf) | (refine AW.exit ?_; conv => whnf) | (refine AW.ret ?_; conv => whnf) | (refine AF.one hT rfl ?_; conv => whnf) | (refine AF.nil ?_; conv => whnf) | (refine AF.imm hT rfl rfl rfl ?_; conv => whnf) | (refine AH.of hT rfl ?_; conv => whnf) | (refine ASplit.yes rfl ?_; conv => whnf) | (refine ACond.yes rfl ?_; conv => whnf) | (refine ASplit.no rfl ?_; conv => whnf) | (refine ACond.no rfl ?_; conv => whnf) | (refine ASplit.yes (by decide) ?_; conv => whnf) | (refine ACond.yes (by decide) ?_; conv => whnf) | (refine AReq.mk (by decide) ?_; conv => whnf) | (refine AIdx.iff.2 ⟨by decide, ?_⟩; conv => whnf) | (refine ACall.val (by kernel_rfl) f8 rfl rfl ?_; conv => whnf))
    exact hfin
  conv => whnf
  repeat (first | (refine AW.label ?_; conv => whnf) | (refine AW.scope ?_; conv => whnf) | (refine AO.cons hT ?_; conv => whnf) | (refine AO.nil ?_; conv => whnf) | (refine AW.seq ?_; conv => whnf) | (refine AW.region ?_; conv => whnf) | (refine AW.cond ?_; conv => whnf) | (refine AW.block ?_; conv => whnf) | (refine AW.loop ?_; conv => whnf) | (refine AW.skip ?_; conv => whnf) | (refine AW.exit ?_; conv => whnf) | (refine AW.ret ?_; conv => whnf) | (refine AF.one hT rfl ?_; conv => whnf) | (refine AF.nil ?_; conv => whnf) | (refine AF.imm hT rfl rfl rfl ?_; conv => whnf) | (refine AH.of hT rfl ?_; conv => whnf) | (refine ASplit.yes rfl ?_; conv => whnf) | (refine ACond.yes rfl ?_; conv => whnf) | (refine ASplit.no rfl ?_; conv => whnf) | (refine ACond.no rfl ?_; conv => whnf) | (refine ASplit.yes (by decide) ?_; conv => whnf) | (refine ACond.yes (by decide) ?_; conv => whnf) | (refine AReq.mk (by decide) ?_; conv => whnf) | (refine AIdx.iff.2 ⟨by decide, ?_⟩; conv => whnf) | (refine ACall.val (by kernel_rfl) f8 rfl rfl ?_; conv => whnf))
  refine callNew 120 (by decide) (by decide) ?_
  simp only [List.length_cons, List.length_nil, Nat.zero_add, List.nil_append, List.cons_append, List.set_cons_zero, List.set_cons_succ]
  obtain ⟨v0, cs0, b1, b2, b3, s0, n0, K0⟩ := vk_first (n := 120) (S := 10) (by decide) (by decide) (by decide) (by decide) tFirst (by decide)
  conv => whnf
  repeat (first | (refine AW.label ?_; conv => whnf) | (refine AW.scope ?_; conv => whnf) | (refine AO.cons hT ?_; conv => whnf) | (refine AO.nil ?_; conv => whnf) | (refine AW.seq ?_; conv => whnf) | (refine AW.region ?_; conv => whnf) | (refine AW.cond ?_; conv => whnf) | (refine AW.block ?_; conv => whnf) | (refine AW.loop ?_; conv => whnf) | (refine AW.skip ?_; conv => whnf) | (refine AW.exit ?_; conv => whnf) | (refine AW.ret ?_; conv => whnf) | (refine AF.one hT rfl ?_; conv => whnf) | (refine AF.nil ?_; conv => whnf) | (refine AF.imm hT rfl rfl rfl ?_; conv => whnf) | (refine AH.of hT rfl ?_; conv => whnf) | (refine ASplit.yes rfl ?_; conv => whnf) | (refine ACond.yes rfl ?_; conv => whnf) | (refine ASplit.no rfl ?_; conv => whnf) | (refine ACond.no rfl ?_; conv => whnf) | (refine ASplit.yes (by decide) ?_; conv => whnf) | (refine ACond.yes (by decide) ?_; conv => whnf) | (refine AReq.mk (by decide) ?_; conv => whnf) | (refine AIdx.iff.2 ⟨by decide, ?_⟩; conv => whnf) | (refine ACall.val (by kernel_rfl) f8 rfl rfl ?_; conv => whnf))
  refine callFirst1 (n := 120) (S := 10) (t := tFirst) (G := []) rfl (by decide) (by decide) (by decide) (by decide) (by decide) b1 b2 b3 ?_
  intro bs1 ck1
  simp only [List.nil_append, List.length_nil, Nat.add_zero]
  conv => whnf
  repeat (first | (refine AW.label ?_; conv => whnf) | (refine AW.scope ?_; conv => whnf) | (refine AO.cons hT ?_; conv => whnf) | (refine AO.nil ?_; conv => whnf) | (refine AW.seq ?_; conv => whnf) | (refine AW.region ?_; conv => whnf) | (refine AW.cond ?_; conv => whnf) | (refine AW.block ?_; conv => whnf) | (refine AW.loop ?_; conv => whnf) | (refine AW.skip ?_; conv => whnf) | (refine AW.exit ?_; conv => whnf) | (refine AW.ret ?_; conv => whnf) | (refine AF.one hT rfl ?_; conv => whnf) | (refine AF.nil ?_; conv => whnf) | (refine AF.imm hT rfl rfl rfl ?_; conv => whnf) | (refine AH.of hT rfl ?_; conv => whnf) | (refine ASplit.yes rfl ?_; conv => whnf) | (refine ACond.yes rfl ?_; conv => whnf) | (refine ASplit.no rfl ?_; conv => whnf) | (refine ACond.no rfl ?_; conv => whnf) | (refine ASplit.yes (by decide) ?_; conv => whnf) | (refine ACond.yes (by decide) ?_; conv => whnf) | (refine AReq.mk (by decide) ?_; conv => whnf) | (refine AIdx.iff.2 ⟨by decide, ?_⟩; conv => whnf) | (refine ACall.val (by kernel_rfl) f8 rfl rfl ?_; conv => whnf))
  refine ALoop.mk (fun j E H => ∃ (i : Nat) (v : Va) (cs : List UInt8) (e : Nat) (t : ByteArray) (bod : List ByteArray) (z : Nat) (bs : List Nat) (ck : Nat), i ≤ l.length ∧ j = l.length - i ∧ KpS v cs e t bod z i ∧
      E = kpE l c t (.ms 1 5 0 bod.length) i ∧ H = kpH c v bs ck bod)
    (n := l.length) _ _ ⟨0, v0, cs0, 1, tFirst, [], 0, bs1, ck1, by omega, rfl, ⟨K0, n0, by simp, by simp, by decide⟩, rfl, rfl⟩ ((Conv.fit (xs' := kpE l c tFirst (.v (.slice none 0 0)) 0) ?_).trans (Conv.own 9 (fitN_pad (.same (.same (.same (.same (.same (.same (.same (.same (.same (.own (.same (.same .nil)))))))))))) rfl))) ?_
  · repeat' (first | exact Fit.nil | refine Fit.any ?_ | refine Fit.same ?_)
  rintro _ _ _ ⟨i, v, cs, e, t, bod, z, bs, ck, hi, rfl, hK, rfl, rfl⟩
  unfold kpE kpH
  conv => whnf
  repeat ((first | refine AO.cons hT ?_ | refine AO.nil ?_ | refine AW.seq ?_ | refine AW.region ?_ | refine AW.cond ?_ | refine AW.block ?_ | refine AW.loop ?_ | refine AW.skip ?_ | refine AW.exit ?_ | refine AW.ret ?_ | refine AW.label ?_ | refine AW.scope ?_ | refine AF.one hT rfl ?_ | refine AF.nil ?_ | refine AF.imm hT rfl rfl rfl ?_ | refine AH.of hT rfl ?_ | refine AD.cons hT rfl ?_ | refine AD.nil ?_ | refine AQ.cons hT rfl ?_ | refine AQ.nil ?_ | (refine ACall.val (by kernel_rfl) f8 rfl rfl ?_)); conv => whnf)
  refine ACond.dec (fun g2 => ?_) (fun g2 => ?_)
  · have hil : i < l.length := by omega
    have hts1 := hts _ (List.getElem_mem hil)
    have hKv := hK.vk
    have hb40 := hK.few
    have ad := f9 v 10 hKv.ok hKv.ats (by rw [hKv.qv]; omega) (by rw [hKv.qv]; omega) l[i].text (by omega)
    have sn := f10 v 10 hKv.ok l[i].text (by omega)
    have ka := vk_add hKv l[i].text
    have ks := vk_snap hKv l[i].text
    conv => whnf
    repeat ((first | refine AO.cons hT ?_ | refine AO.nil ?_ | refine AW.seq ?_ | refine AW.region ?_ | refine AW.cond ?_ | refine AW.block ?_ | refine AW.loop ?_ | refine AW.skip ?_ | refine AW.exit ?_ | refine AW.ret ?_ | refine AW.label ?_ | refine AW.scope ?_ | refine AF.one hT rfl ?_ | refine AF.nil ?_ | refine AF.imm hT rfl rfl rfl ?_ | refine AH.of hT rfl ?_ | refine AD.cons hT rfl ?_ | refine AD.nil ?_ | refine AQ.cons hT rfl ?_ | refine AQ.nil ?_ | (refine ACall.val (by kernel_rfl) f8 rfl rfl ?_) | (refine AReq.mk (by omega) ?_) | (refine AIdx.flat (enc := vcC) (fun _ => rfl) (xs := l) (i := i) hil ?_)); conv => whnf)
    refine ACond.dec (fun g3 => ?_) (fun g3 => ?_)
    · conv => whnf
      repeat ((first | refine AO.cons hT ?_ | refine AO.nil ?_ | refine AW.seq ?_ | refine AW.region ?_ | refine AW.cond ?_ | refine AW.block ?_ | refine AW.loop ?_ | refine AW.skip ?_ | refine AW.exit ?_ | refine AW.ret ?_ | refine AW.label ?_ | refine AW.scope ?_ | refine AF.one hT rfl ?_ | refine AF.nil ?_ | refine AF.imm hT rfl rfl rfl ?_ | refine AH.of hT rfl ?_ | refine AD.cons hT rfl ?_ | refine AD.nil ?_ | refine AQ.cons hT rfl ?_ | refine AQ.nil ?_ | (refine ACall.val (by kernel_rfl) f8 rfl rfl ?_) | (refine AReq.mk (by omega) ?_) | (refine AIdx.flat (enc := vcC) (fun _ => rfl) (xs := l) (i := i) hil ?_)); conv => whnf)
      refine ACall.vaultP (v := v) (bs := bs) (ck := ck) 4 rfl rfl (by decide) (by kernel_rfl) ad (fun _ => rfl) (by rintro _ _ ⟨rfl, _⟩ _; rfl) ?_
      rintro _ v1 bs2 ck2 ⟨rfl, hv1⟩
      rw [hv1]
      simp only [List.set_cons_zero, List.set_cons_succ]
      rcases ka with ⟨er, her, hka, _⟩ | ⟨v2, cs2, hka, hs2, hn2, K2⟩
      · rw [hka]
        conv => whnf
        repeat ((first | refine AO.cons hT ?_ | refine AO.nil ?_ | refine AW.seq ?_ | refine AW.region ?_ | refine AW.cond ?_ | refine AW.block ?_ | refine AW.loop ?_ | refine AW.skip ?_ | refine AW.exit ?_ | refine AW.ret ?_ | refine AW.label ?_ | refine AW.scope ?_ | refine AF.one hT rfl ?_ | refine AF.nil ?_ | refine AF.imm hT rfl rfl rfl ?_ | refine AH.of hT rfl ?_ | refine AD.cons hT rfl ?_ | refine AD.nil ?_ | refine AQ.cons hT rfl ?_ | refine AQ.nil ?_ | (refine ACall.val (by kernel_rfl) f8 rfl rfl ?_) | (refine AReq.mk (by omega) ?_) | (refine AIdx.flat (enc := vcC) (fun _ => rfl) (xs := l) (i := i) hil ?_)); conv => whnf)
        refine ACond.no (decide_eq_false her) ?_
        conv => whnf
        repeat ((first | refine AO.cons hT ?_ | refine AO.nil ?_ | refine AW.seq ?_ | refine AW.region ?_ | refine AW.cond ?_ | refine AW.block ?_ | refine AW.loop ?_ | refine AW.skip ?_ | refine AW.exit ?_ | refine AW.ret ?_ | refine AW.label ?_ | refine AW.scope ?_ | refine AF.one hT rfl ?_ | refine AF.nil ?_ | refine AF.imm hT rfl rfl rfl ?_ | refine AH.of hT rfl ?_ | refine AD.cons hT rfl ?_ | refine AD.nil ?_ | refine AQ.cons hT rfl ?_ | refine AQ.nil ?_ | (refine ACall.val (by kernel_rfl) f8 rfl rfl ?_) | (refine AReq.mk (by omega) ?_) | (refine AIdx.flat (enc := vcC) (fun _ => rfl) (xs := l) (i := i) hil ?_)); conv => whnf)
        rw [wrap_i64 ((i : Int) + 1) (by omega) (by omega)]
        refine AHead.mk (l.length - (i + 1)) _ _ (by omega) ⟨i + 1, v, cs, e, t, bod, z, bs2, ck2, by omega, rfl, ⟨hKv, hK.n, by omega, hK.small, hK.txt⟩, rfl, rfl⟩ (Conv.fit ?_)
        repeat' (first | exact Fit.nil | refine Fit.any ?_ | refine Fit.same ?_)
      · rw [hka]
        conv => whnf
        repeat ((first | refine AO.cons hT ?_ | refine AO.nil ?_ | refine AW.seq ?_ | refine AW.region ?_ | refine AW.cond ?_ | refine AW.block ?_ | refine AW.loop ?_ | refine AW.skip ?_ | refine AW.exit ?_ | refine AW.ret ?_ | refine AW.label ?_ | refine AW.scope ?_ | refine AF.one hT rfl ?_ | refine AF.nil ?_ | refine AF.imm hT rfl rfl rfl ?_ | refine AH.of hT rfl ?_ | refine AD.cons hT rfl ?_ | refine AD.nil ?_ | refine AQ.cons hT rfl ?_ | refine AQ.nil ?_ | (refine ACall.val (by kernel_rfl) f8 rfl rfl ?_) | (refine AReq.mk (by omega) ?_) | (refine AIdx.flat (enc := vcC) (fun _ => rfl) (xs := l) (i := i) hil ?_)); conv => whnf)
        refine ACond.yes rfl ?_
        conv => whnf
        repeat ((first | refine AO.cons hT ?_ | refine AO.nil ?_ | refine AW.seq ?_ | refine AW.region ?_ | refine AW.cond ?_ | refine AW.block ?_ | refine AW.loop ?_ | refine AW.skip ?_ | refine AW.exit ?_ | refine AW.ret ?_ | refine AW.label ?_ | refine AW.scope ?_ | refine AF.one hT rfl ?_ | refine AF.nil ?_ | refine AF.imm hT rfl rfl rfl ?_ | refine AH.of hT rfl ?_ | refine AD.cons hT rfl ?_ | refine AD.nil ?_ | refine AQ.cons hT rfl ?_ | refine AQ.nil ?_ | (refine ACall.val (by kernel_rfl) f8 rfl rfl ?_) | (refine AReq.mk (by omega) ?_) | (refine AIdx.flat (enc := vcC) (fun _ => rfl) (xs := l) (i := i) hil ?_)); conv => whnf)
        refine AReq.mk ⟨by simp, by show (bod.length + 1) * 16 ≤ _; omega⟩ ?_
        conv => whnf
        repeat ((first | refine AO.cons hT ?_ | refine AO.nil ?_ | refine AW.seq ?_ | refine AW.region ?_ | refine AW.cond ?_ | refine AW.block ?_ | refine AW.loop ?_ | refine AW.skip ?_ | refine AW.exit ?_ | refine AW.ret ?_ | refine AW.label ?_ | refine AW.scope ?_ | refine AF.one hT rfl ?_ | refine AF.nil ?_ | refine AF.imm hT rfl rfl rfl ?_ | refine AH.of hT rfl ?_ | refine AD.cons hT rfl ?_ | refine AD.nil ?_ | refine AQ.cons hT rfl ?_ | refine AQ.nil ?_ | (refine ACall.val (by kernel_rfl) f8 rfl rfl ?_) | (refine AReq.mk (by omega) ?_) | (refine AIdx.flat (enc := vcC) (fun _ => rfl) (xs := l) (i := i) hil ?_)); conv => whnf)
        rw [wrap_i64 ((i : Int) + 1) (by omega) (by omega)]
        refine AHead.mk (l.length - (i + 1)) (kpE l c t (.ms 1 5 0 (bod ++ [l[i].text]).length) (i + 1 : Nat)) (kpH c v2 bs2 ck2 (bod ++ [l[i].text])) (by omega) ⟨i + 1, v2, cs2, e, t, bod ++ [l[i].text], _, bs2, ck2, by omega, rfl, ⟨K2, hn2.trans hK.n, by rw [List.length_append]; simp; omega, ?_, hK.txt⟩, rfl, rfl⟩ (Conv.ren [0, 1, 2, 3, 4, 6] _ (by simp) (by decide) ?_ ?_)
        · intro b hb
          rcases List.mem_append.1 hb with h | h
          · exact hK.small b h
          · simp at h; subst h; exact hts1
        · rw [kpE_ren _ rfl rfl rfl]
          unfold kpE
          rw [List.length_append]
          repeat' (first | exact Fit.nil | refine Fit.any ?_ | refine Fit.same ?_)
        · unfold kpH
          exact .same (by rw [cells_ren, chC_ren]; rfl) (.same (by rw [dD_ren]; rfl) (.same (by rw [dC_ren]; rfl) (.same (by rw [dM_ren]; rfl) (.same rfl (.same (by rw [cells_ren, VD.texts_ren, List.map_append]; rfl) .nil)))))
    conv => whnf
    repeat ((first | refine AO.cons hT ?_ | refine AO.nil ?_ | refine AW.seq ?_ | refine AW.region ?_ | refine AW.cond ?_ | refine AW.block ?_ | refine AW.loop ?_ | refine AW.skip ?_ | refine AW.exit ?_ | refine AW.ret ?_ | refine AW.label ?_ | refine AW.scope ?_ | refine AF.one hT rfl ?_ | refine AF.nil ?_ | refine AF.imm hT rfl rfl rfl ?_ | refine AH.of hT rfl ?_ | refine AD.cons hT rfl ?_ | refine AD.nil ?_ | refine AQ.cons hT rfl ?_ | refine AQ.nil ?_ | (refine ACall.val (by kernel_rfl) f8 rfl rfl ?_) | (refine AReq.mk (by omega) ?_) | (refine AIdx.flat (enc := vcC) (fun _ => rfl) (xs := l) (i := i) hil ?_)); conv => whnf)
    refine ACond.dec (fun g4 => ?_) (fun g4 => ?_)
    · conv => whnf
      repeat ((first | refine AO.cons hT ?_ | refine AO.nil ?_ | refine AW.seq ?_ | refine AW.region ?_ | refine AW.cond ?_ | refine AW.block ?_ | refine AW.loop ?_ | refine AW.skip ?_ | refine AW.exit ?_ | refine AW.ret ?_ | refine AW.label ?_ | refine AW.scope ?_ | refine AF.one hT rfl ?_ | refine AF.nil ?_ | refine AF.imm hT rfl rfl rfl ?_ | refine AH.of hT rfl ?_ | refine AD.cons hT rfl ?_ | refine AD.nil ?_ | refine AQ.cons hT rfl ?_ | refine AQ.nil ?_ | (refine ACall.val (by kernel_rfl) f8 rfl rfl ?_) | (refine AReq.mk (by omega) ?_) | (refine AIdx.flat (enc := vcC) (fun _ => rfl) (xs := l) (i := i) hil ?_)); conv => whnf)
      refine ACall.vaultP (v := v) (bs := bs) (ck := ck) 4 rfl rfl (by decide) (by kernel_rfl) sn (fun _ => rfl) (by rintro _ _ ⟨rfl, _⟩ _; rfl) ?_
      rintro _ v1 bs2 ck2 ⟨rfl, hv1⟩
      rw [hv1]
      simp only [List.set_cons_zero, List.set_cons_succ]
      rcases ks with ⟨er, her, hka, _⟩ | ⟨v2, cs2, hka, hs2, hn2, K2⟩
      · rw [hka]
        conv => whnf
        repeat ((first | refine AO.cons hT ?_ | refine AO.nil ?_ | refine AW.seq ?_ | refine AW.region ?_ | refine AW.cond ?_ | refine AW.block ?_ | refine AW.loop ?_ | refine AW.skip ?_ | refine AW.exit ?_ | refine AW.ret ?_ | refine AW.label ?_ | refine AW.scope ?_ | refine AF.one hT rfl ?_ | refine AF.nil ?_ | refine AF.imm hT rfl rfl rfl ?_ | refine AH.of hT rfl ?_ | refine AD.cons hT rfl ?_ | refine AD.nil ?_ | refine AQ.cons hT rfl ?_ | refine AQ.nil ?_ | (refine ACall.val (by kernel_rfl) f8 rfl rfl ?_) | (refine AReq.mk (by omega) ?_) | (refine AIdx.flat (enc := vcC) (fun _ => rfl) (xs := l) (i := i) hil ?_)); conv => whnf)
        refine ACond.no (decide_eq_false her) ?_
        conv => whnf
        repeat ((first | refine AO.cons hT ?_ | refine AO.nil ?_ | refine AW.seq ?_ | refine AW.region ?_ | refine AW.cond ?_ | refine AW.block ?_ | refine AW.loop ?_ | refine AW.skip ?_ | refine AW.exit ?_ | refine AW.ret ?_ | refine AW.label ?_ | refine AW.scope ?_ | refine AF.one hT rfl ?_ | refine AF.nil ?_ | refine AF.imm hT rfl rfl rfl ?_ | refine AH.of hT rfl ?_ | refine AD.cons hT rfl ?_ | refine AD.nil ?_ | refine AQ.cons hT rfl ?_ | refine AQ.nil ?_ | (refine ACall.val (by kernel_rfl) f8 rfl rfl ?_) | (refine AReq.mk (by omega) ?_) | (refine AIdx.flat (enc := vcC) (fun _ => rfl) (xs := l) (i := i) hil ?_)); conv => whnf)
        rw [wrap_i64 ((i : Int) + 1) (by omega) (by omega)]
        refine AHead.mk (l.length - (i + 1)) _ _ (by omega) ⟨i + 1, v, cs, e, t, bod, z, bs2, ck2, by omega, rfl, ⟨hKv, hK.n, by omega, hK.small, hK.txt⟩, rfl, rfl⟩ (Conv.fit ?_)
        repeat' (first | exact Fit.nil | refine Fit.any ?_ | refine Fit.same ?_)
      · rw [hka]
        conv => whnf
        repeat ((first | refine AO.cons hT ?_ | refine AO.nil ?_ | refine AW.seq ?_ | refine AW.region ?_ | refine AW.cond ?_ | refine AW.block ?_ | refine AW.loop ?_ | refine AW.skip ?_ | refine AW.exit ?_ | refine AW.ret ?_ | refine AW.label ?_ | refine AW.scope ?_ | refine AF.one hT rfl ?_ | refine AF.nil ?_ | refine AF.imm hT rfl rfl rfl ?_ | refine AH.of hT rfl ?_ | refine AD.cons hT rfl ?_ | refine AD.nil ?_ | refine AQ.cons hT rfl ?_ | refine AQ.nil ?_ | (refine ACall.val (by kernel_rfl) f8 rfl rfl ?_) | (refine AReq.mk (by omega) ?_) | (refine AIdx.flat (enc := vcC) (fun _ => rfl) (xs := l) (i := i) hil ?_)); conv => whnf)
        refine ACond.yes rfl ?_
        conv => whnf
        repeat ((first | refine AO.cons hT ?_ | refine AO.nil ?_ | refine AW.seq ?_ | refine AW.region ?_ | refine AW.cond ?_ | refine AW.block ?_ | refine AW.loop ?_ | refine AW.skip ?_ | refine AW.exit ?_ | refine AW.ret ?_ | refine AW.label ?_ | refine AW.scope ?_ | refine AF.one hT rfl ?_ | refine AF.nil ?_ | refine AF.imm hT rfl rfl rfl ?_ | refine AH.of hT rfl ?_ | refine AD.cons hT rfl ?_ | refine AD.nil ?_ | refine AQ.cons hT rfl ?_ | refine AQ.nil ?_ | (refine ACall.val (by kernel_rfl) f8 rfl rfl ?_) | (refine AReq.mk (by omega) ?_) | (refine AIdx.flat (enc := vcC) (fun _ => rfl) (xs := l) (i := i) hil ?_)); conv => whnf)
        rw [wrap_i64 ((i : Int) + 1) (by omega) (by omega)]
        refine AHead.mk (l.length - (i + 1)) (kpE l c l[i].text (.ms 1 5 0 0) (i + 1 : Nat)) (kpH c v2 bs2 ck2 []) (by omega) ⟨i + 1, v2, cs2, e + 1, l[i].text, [], 0, bs2, ck2, by omega, rfl, ⟨K2, hn2.trans hK.n, by simp, by simp, hts1⟩, rfl, rfl⟩
          ((Conv.ren [0, 1, 2, 3, 4] (kpE l c l[i].text (.v (.slice none 0 0)) (i + 1 : Nat)) (H' := [.cells 38 (chC c), dD 2 3 v2.d, dC v2.d, dM v2.d bs2 ck2, vK v2]) (by simp) (by decide) ?_ ?_).trans (Conv.own 9 (fitN_pad (.same (.same (.same (.same (.same (.same (.same (.same (.same (.own (.same (.same .nil)))))))))))) rfl)))
        · rw [kpE_ren _ rfl rfl rfl]
          unfold kpE
          repeat' (first | exact Fit.nil | refine Fit.any ?_ | refine Fit.same ?_)
        · exact .same (by rw [cells_ren, chC_ren]; rfl) (.same (by rw [dD_ren]; rfl) (.same (by rw [dC_ren]; rfl) (.same (by rw [dM_ren]; rfl) (.same rfl .nil))))
    conv => whnf
    repeat ((first | refine AO.cons hT ?_ | refine AO.nil ?_ | refine AW.seq ?_ | refine AW.region ?_ | refine AW.cond ?_ | refine AW.block ?_ | refine AW.loop ?_ | refine AW.skip ?_ | refine AW.exit ?_ | refine AW.ret ?_ | refine AW.label ?_ | refine AW.scope ?_ | refine AF.one hT rfl ?_ | refine AF.nil ?_ | refine AF.imm hT rfl rfl rfl ?_ | refine AH.of hT rfl ?_ | refine AD.cons hT rfl ?_ | refine AD.nil ?_ | refine AQ.cons hT rfl ?_ | refine AQ.nil ?_ | (refine ACall.val (by kernel_rfl) f8 rfl rfl ?_) | (refine AReq.mk (by omega) ?_) | (refine AIdx.flat (enc := vcC) (fun _ => rfl) (xs := l) (i := i) hil ?_)); conv => whnf)
    rw [wrap_i64 ((i : Int) + 1) (by omega) (by omega)]
    refine AHead.mk (l.length - (i + 1)) _ _ (by omega) ⟨i + 1, v, cs, e, t, bod, z, bs, ck, by omega, rfl, ⟨hKv, hK.n, by omega, hK.small, hK.txt⟩, rfl, rfl⟩ (Conv.fit ?_)
    repeat' (first | exact Fit.nil | refine Fit.any ?_ | refine Fit.same ?_)
  · obtain rfl : i = l.length := by omega
    have hKv := hK.vk
    have hd := hKv.cl.ok
    have hb40 := hK.few
    have hsm := hK.small
    conv => whnf
    repeat ((first | refine AO.cons hT ?_ | refine AO.nil ?_ | refine AW.seq ?_ | refine AW.region ?_ | refine AW.cond ?_ | refine AW.block ?_ | refine AW.loop ?_ | refine AW.skip ?_ | refine AW.exit ?_ | refine AW.ret ?_ | refine AW.label ?_ | refine AW.scope ?_ | refine AF.one hT rfl ?_ | refine AF.nil ?_ | refine AF.imm hT rfl rfl rfl ?_ | refine AH.of hT rfl ?_ | refine AD.cons hT rfl ?_ | refine AD.nil ?_ | refine AQ.cons hT rfl ?_ | refine AQ.nil ?_ | (refine ACall.val (by kernel_rfl) f8 rfl rfl ?_) | (refine AReq.mk (by omega) ?_) | (refine AIdx.flat (enc := vcC) (fun _ => rfl) (xs := l) (i := i) hil ?_)); conv => whnf)
    refine AOut.stay ?_
    conv => whnf
    repeat ((first | refine AO.cons hT ?_ | refine AO.nil ?_ | refine AW.seq ?_ | refine AW.region ?_ | refine AW.cond ?_ | refine AW.block ?_ | refine AW.loop ?_ | refine AW.skip ?_ | refine AW.exit ?_ | refine AW.ret ?_ | refine AW.label ?_ | refine AW.scope ?_ | refine AF.one hT rfl ?_ | refine AF.nil ?_ | refine AF.imm hT rfl rfl rfl ?_ | refine AH.of hT rfl ?_ | refine AD.cons hT rfl ?_ | refine AD.nil ?_ | refine AQ.cons hT rfl ?_ | refine AQ.nil ?_ | (refine ACall.val (by kernel_rfl) f8 rfl rfl ?_) | (refine AReq.mk (by omega) ?_) | (refine AIdx.flat (enc := vcC) (fun _ => rfl) (xs := l) (i := i) hil ?_)); conv => whnf)
    refine ACall.dev (by kernel_rfl) (f22 v.d hd.pos) rfl rfl rfl (by decide) (fun _ => rfl) (by rintro _ _ ⟨rfl, _⟩ _; rfl) ?_
    rintro _ yy bs1 ck1 ⟨rfl, hyy⟩
    rw [hyy]
    simp only [List.length_nil, Nat.zero_add, List.nil_append, List.set_cons_zero, List.set_cons_succ]
    have hbc := boot_cl hKv.cl c
    have hb := f23 { v.d with f := true, a := 0 } (off_ok hd) c (by omega)
    generalize bootD c { v.d with f := true, a := 0 } = y at *
    conv => whnf
    repeat ((first | refine AO.cons hT ?_ | refine AO.nil ?_ | refine AW.seq ?_ | refine AW.region ?_ | refine AW.cond ?_ | refine AW.block ?_ | refine AW.loop ?_ | refine AW.skip ?_ | refine AW.exit ?_ | refine AW.ret ?_ | refine AW.label ?_ | refine AW.scope ?_ | refine AF.one hT rfl ?_ | refine AF.nil ?_ | refine AF.imm hT rfl rfl rfl ?_ | refine AH.of hT rfl ?_ | refine AD.cons hT rfl ?_ | refine AD.nil ?_ | refine AQ.cons hT rfl ?_ | refine AQ.nil ?_ | (refine ACall.val (by kernel_rfl) f8 rfl rfl ?_) | (refine AReq.mk (by omega) ?_) | (refine AIdx.flat (enc := vcC) (fun _ => rfl) (xs := l) (i := i) hil ?_)); conv => whnf)
    refine ACall.devL (by kernel_rfl) hb rfl rfl rfl (by decide) (.cons (.same (show _ = AV.ren _ (.agg (chC c)) by simp only [AV.ren, chC_ren]; rfl)) .nil) (by rintro _ _ ⟨rfl, _⟩ _; rfl) ?_
    rintro _ yy2 bs2 ck2 ⟨rfl, hyy2⟩
    rw [hyy2]
    simp only [List.length_nil, Nat.zero_add, List.nil_append, List.set_cons_zero, List.set_cons_succ]
    obtain ⟨o1, K1⟩ := vk_open hKv hbc.1 hbc.2 ⟨#[111, 116, 104, 101, 114]⟩
    generalize hv3 : (⟨y, (10 : Nat), e, bod.length, z, false⟩ : Va) = v3 at *
    have hy3 : v3.d = y := by rw [← hv3]
    conv => whnf
    repeat ((first | refine AO.cons hT ?_ | refine AO.nil ?_ | refine AW.seq ?_ | refine AW.region ?_ | refine AW.cond ?_ | refine AW.block ?_ | refine AW.loop ?_ | refine AW.skip ?_ | refine AW.exit ?_ | refine AW.ret ?_ | refine AW.label ?_ | refine AW.scope ?_ | refine AF.one hT rfl ?_ | refine AF.nil ?_ | refine AF.imm hT rfl rfl rfl ?_ | refine AH.of hT rfl ?_ | refine AD.cons hT rfl ?_ | refine AD.nil ?_ | refine AQ.cons hT rfl ?_ | refine AQ.nil ?_ | (refine ACall.val (by kernel_rfl) f8 rfl rfl ?_) | (refine AReq.mk (by omega) ?_) | (refine AIdx.flat (enc := vcC) (fun _ => rfl) (xs := l) (i := i) hil ?_)); conv => whnf)
    refine callOpen1 (s := (10 : Nat)) (G := [vK v, .cells 9 (List.map VD.sV bod)]) rfl hbc.1.ok (nOk_of (by decide) (by decide)) (by decide) o1 ?_
    intro bs3 ck3
    simp only [List.nil_append, List.length_nil, List.length_cons, Nat.add_zero, List.cons_append, Nat.reduceAdd, Nat.zero_add]
    conv => whnf
    repeat ((first | refine AO.cons hT ?_ | refine AO.nil ?_ | refine AW.seq ?_ | refine AW.region ?_ | refine AW.cond ?_ | refine AW.block ?_ | refine AW.loop ?_ | refine AW.skip ?_ | refine AW.exit ?_ | refine AW.ret ?_ | refine AW.label ?_ | refine AW.scope ?_ | refine AF.one hT rfl ?_ | refine AF.nil ?_ | refine AF.imm hT rfl rfl rfl ?_ | refine AH.of hT rfl ?_ | refine AD.cons hT rfl ?_ | refine AD.nil ?_ | refine AQ.cons hT rfl ?_ | refine AQ.nil ?_ | (refine ACall.val (by kernel_rfl) f8 rfl rfl ?_) | (refine AReq.mk (by omega) ?_) | (refine AIdx.flat (enc := vcC) (fun _ => rfl) (xs := l) (i := i) hil ?_)); conv => whnf)
    refine ASplit.yes (decide_eq_true rfl) ?_
    conv => whnf
    repeat ((first | refine AO.cons hT ?_ | refine AO.nil ?_ | refine AW.seq ?_ | refine AW.region ?_ | refine AW.cond ?_ | refine AW.block ?_ | refine AW.loop ?_ | refine AW.skip ?_ | refine AW.exit ?_ | refine AW.ret ?_ | refine AW.label ?_ | refine AW.scope ?_ | refine AF.one hT rfl ?_ | refine AF.nil ?_ | refine AF.imm hT rfl rfl rfl ?_ | refine AH.of hT rfl ?_ | refine AD.cons hT rfl ?_ | refine AD.nil ?_ | refine AQ.cons hT rfl ?_ | refine AQ.nil ?_ | (refine ACall.val (by kernel_rfl) f8 rfl rfl ?_) | (refine AReq.mk (by omega) ?_) | (refine AIdx.flat (enc := vcC) (fun _ => rfl) (xs := l) (i := i) hil ?_)); conv => whnf)
    refine ASplit.yes rfl ?_
    conv => whnf
    repeat ((first | refine AO.cons hT ?_ | refine AO.nil ?_ | refine AW.seq ?_ | refine AW.region ?_ | refine AW.cond ?_ | refine AW.block ?_ | refine AW.loop ?_ | refine AW.skip ?_ | refine AW.exit ?_ | refine AW.ret ?_ | refine AW.label ?_ | refine AW.scope ?_ | refine AF.one hT rfl ?_ | refine AF.nil ?_ | refine AF.imm hT rfl rfl rfl ?_ | refine AH.of hT rfl ?_ | refine AD.cons hT rfl ?_ | refine AD.nil ?_ | refine AQ.cons hT rfl ?_ | refine AQ.nil ?_ | (refine ACall.val (by kernel_rfl) f8 rfl rfl ?_) | (refine AReq.mk (by omega) ?_) | (refine AIdx.flat (enc := vcC) (fun _ => rfl) (xs := l) (i := i) hil ?_)); conv => whnf)
    refine ASplit.yes (beq_self_eq_true _) ?_
    conv => whnf
    repeat ((first | refine AO.cons hT ?_ | refine AO.nil ?_ | refine AW.seq ?_ | refine AW.region ?_ | refine AW.cond ?_ | refine AW.block ?_ | refine AW.loop ?_ | refine AW.skip ?_ | refine AW.exit ?_ | refine AW.ret ?_ | refine AW.label ?_ | refine AW.scope ?_ | refine AF.one hT rfl ?_ | refine AF.nil ?_ | refine AF.imm hT rfl rfl rfl ?_ | refine AH.of hT rfl ?_ | refine AD.cons hT rfl ?_ | refine AD.nil ?_ | refine AQ.cons hT rfl ?_ | refine AQ.nil ?_ | (refine ACall.val (by kernel_rfl) f8 rfl rfl ?_) | (refine AReq.mk (by omega) ?_) | (refine AIdx.flat (enc := vcC) (fun _ => rfl) (xs := l) (i := i) hil ?_)); conv => whnf)
    have h25 := VD.f25 bod bod (by omega) (by omega)
    rw [decide_eq_true rfl] at h25
    refine ACall.fun (by kernel_rfl) h25 [5] (by intro q hq; simp at hq; subst hq; exact ⟨_, _, rfl⟩) (.cons (.same (by unfold VD.tV; simp only [AV.ren, VD.texts_ren])) (.cons (.ms (.inl ⟨by simp, rfl⟩) (by simp) (by rw [VD.texts_ren]; simp only [Nat.mul_one, List.drop_zero]; exact List.take_of_length_le (by simp))) .nil)) (.inr (by simp [AV.plain])) rfl ?_
    conv => whnf
    repeat ((first | refine AO.cons hT ?_ | refine AO.nil ?_ | refine AW.seq ?_ | refine AW.region ?_ | refine AW.cond ?_ | refine AW.block ?_ | refine AW.loop ?_ | refine AW.skip ?_ | refine AW.exit ?_ | refine AW.ret ?_ | refine AW.label ?_ | refine AW.scope ?_ | refine AF.one hT rfl ?_ | refine AF.nil ?_ | refine AF.imm hT rfl rfl rfl ?_ | refine AH.of hT rfl ?_ | refine AD.cons hT rfl ?_ | refine AD.nil ?_ | refine AQ.cons hT rfl ?_ | refine AQ.nil ?_ | (refine ACall.val (by kernel_rfl) f8 rfl rfl ?_) | (refine AReq.mk (by omega) ?_) | (refine AIdx.flat (enc := vcC) (fun _ => rfl) (xs := l) (i := i) hil ?_)); conv => whnf)
    refine ASplit.yes rfl ?_
    conv => whnf
    repeat ((first | refine AO.cons hT ?_ | refine AO.nil ?_ | refine AW.seq ?_ | refine AW.region ?_ | refine AW.cond ?_ | refine AW.block ?_ | refine AW.loop ?_ | refine AW.skip ?_ | refine AW.exit ?_ | refine AW.ret ?_ | refine AW.label ?_ | refine AW.scope ?_ | refine AF.one hT rfl ?_ | refine AF.nil ?_ | refine AF.imm hT rfl rfl rfl ?_ | refine AH.of hT rfl ?_ | refine AD.cons hT rfl ?_ | refine AD.nil ?_ | refine AQ.cons hT rfl ?_ | refine AQ.nil ?_ | (refine ACall.val (by kernel_rfl) f8 rfl rfl ?_) | (refine AReq.mk (by omega) ?_) | (refine AIdx.flat (enc := vcC) (fun _ => rfl) (xs := l) (i := i) hil ?_)); conv => whnf)
    refine ACall.vaultP (v := v3) (bs := bs3) (ck := ck3) 6 rfl rfl (by decide) (by kernel_rfl) (f13 v3) (fun _ => rfl) (by rintro _ _ ⟨rfl, _⟩ _; rfl) ?_
    rintro _ v4 bs4 ck4 ⟨rfl, hv4⟩
    rw [hv4]
    simp only [List.set_cons_zero, List.set_cons_succ]
    conv => whnf
    repeat ((first | refine AO.cons hT ?_ | refine AO.nil ?_ | refine AW.seq ?_ | refine AW.region ?_ | refine AW.cond ?_ | refine AW.block ?_ | refine AW.loop ?_ | refine AW.skip ?_ | refine AW.exit ?_ | refine AW.ret ?_ | refine AW.label ?_ | refine AW.scope ?_ | refine AF.one hT rfl ?_ | refine AF.nil ?_ | refine AF.imm hT rfl rfl rfl ?_ | refine AH.of hT rfl ?_ | refine AD.cons hT rfl ?_ | refine AD.nil ?_ | refine AQ.cons hT rfl ?_ | refine AQ.nil ?_ | (refine ACall.val (by kernel_rfl) f8 rfl rfl ?_) | (refine AReq.mk (by omega) ?_) | (refine AIdx.flat (enc := vcC) (fun _ => rfl) (xs := l) (i := i) hil ?_)); conv => whnf)
    refine ACall.vaultP (v := { v with d := v3.d }) (bs := bs4) (ck := ck4) 4 rfl rfl (by decide) (by kernel_rfl) (f13 { v with d := v3.d }) (fun _ => rfl) (by rintro _ _ ⟨rfl, _⟩ _; rfl) ?_
    rintro _ v5 bs5 ck5 ⟨rfl, hv5⟩
    rw [hv5]
    simp only [List.set_cons_zero, List.set_cons_succ]
    have he3 : v3.e = v.e := by rw [← hv3, hKv.ev]
    rw [he3]
    conv => whnf
    repeat ((first | refine AO.cons hT ?_ | refine AO.nil ?_ | refine AW.seq ?_ | refine AW.region ?_ | refine AW.cond ?_ | refine AW.block ?_ | refine AW.loop ?_ | refine AW.skip ?_ | refine AW.exit ?_ | refine AW.ret ?_ | refine AW.label ?_ | refine AW.scope ?_ | refine AF.one hT rfl ?_ | refine AF.nil ?_ | refine AF.imm hT rfl rfl rfl ?_ | refine AH.of hT rfl ?_ | refine AD.cons hT rfl ?_ | refine AD.nil ?_ | refine AQ.cons hT rfl ?_ | refine AQ.nil ?_ | (refine ACall.val (by kernel_rfl) f8 rfl rfl ?_) | (refine AReq.mk (by omega) ?_) | (refine AIdx.flat (enc := vcC) (fun _ => rfl) (xs := l) (i := i) hil ?_)); conv => whnf)
    refine ASplit.yes (decide_eq_true rfl) ?_
    conv => whnf
    repeat ((first | refine AO.cons hT ?_ | refine AO.nil ?_ | refine AW.seq ?_ | refine AW.region ?_ | refine AW.cond ?_ | refine AW.block ?_ | refine AW.loop ?_ | refine AW.skip ?_ | refine AW.exit ?_ | refine AW.ret ?_ | refine AW.label ?_ | refine AW.scope ?_ | refine AF.one hT rfl ?_ | refine AF.nil ?_ | refine AF.imm hT rfl rfl rfl ?_ | refine AH.of hT rfl ?_ | refine AD.cons hT rfl ?_ | refine AD.nil ?_ | refine AQ.cons hT rfl ?_ | refine AQ.nil ?_ | (refine ACall.val (by kernel_rfl) f8 rfl rfl ?_) | (refine AReq.mk (by omega) ?_) | (refine AIdx.flat (enc := vcC) (fun _ => rfl) (xs := l) (i := i) hil ?_)); conv => whnf)
    refine ACall.vaultP (v := v3) (bs := bs5) (ck := ck5) 6 rfl rfl (by decide) (by kernel_rfl) (f14 v3) (fun _ => rfl) (by rintro _ _ ⟨rfl, _⟩ _; rfl) ?_
    rintro _ v6 bs6 ck6 ⟨rfl, hv6⟩
    rw [hv6]
    simp only [List.set_cons_zero, List.set_cons_succ]
    have hq3 : v3.q = bod.length := by rw [← hv3]
    rw [hq3]
    conv => whnf
    repeat ((first | refine AO.cons hT ?_ | refine AO.nil ?_ | refine AW.seq ?_ | refine AW.region ?_ | refine AW.cond ?_ | refine AW.block ?_ | refine AW.loop ?_ | refine AW.skip ?_ | refine AW.exit ?_ | refine AW.ret ?_ | refine AW.label ?_ | refine AW.scope ?_ | refine AF.one hT rfl ?_ | refine AF.nil ?_ | refine AF.imm hT rfl rfl rfl ?_ | refine AH.of hT rfl ?_ | refine AD.cons hT rfl ?_ | refine AD.nil ?_ | refine AQ.cons hT rfl ?_ | refine AQ.nil ?_ | (refine ACall.val (by kernel_rfl) f8 rfl rfl ?_) | (refine AReq.mk (by omega) ?_) | (refine AIdx.flat (enc := vcC) (fun _ => rfl) (xs := l) (i := i) hil ?_) | (refine ACall.val (by kernel_rfl) f8 rfl rfl ?_)); conv => whnf)
    refine ASplit.yes (decide_eq_true rfl) ?_
    conv => whnf
    repeat ((first | refine AO.cons hT ?_ | refine AO.nil ?_ | refine AW.seq ?_ | refine AW.region ?_ | refine AW.cond ?_ | refine AW.block ?_ | refine AW.loop ?_ | refine AW.skip ?_ | refine AW.exit ?_ | refine AW.ret ?_ | refine AW.label ?_ | refine AW.scope ?_ | refine AF.one hT rfl ?_ | refine AF.nil ?_ | refine AF.imm hT rfl rfl rfl ?_ | refine AH.of hT rfl ?_ | refine AD.cons hT rfl ?_ | refine AD.nil ?_ | refine AQ.cons hT rfl ?_ | refine AQ.nil ?_ | (refine ACall.val (by kernel_rfl) f8 rfl rfl ?_) | (refine AReq.mk (by omega) ?_) | (refine AIdx.flat (enc := vcC) (fun _ => rfl) (xs := l) (i := i) hil ?_) | (refine ACall.val (by kernel_rfl) f8 rfl rfl ?_)); conv => whnf)
    exact hfin
end Go.Aw.VE

set_option linter.unusedSimpArgs false
set_option linter.unusedVariables false
namespace Go.Aw.VE
open Go Go.Proofs
theorem und5 : P.underlying 5 = some (.int .u8) := by kernel_rfl
theorem opens_u8 : Opens P 5 (fun b : UInt8 => [byteC b]) (fun _ => True) :=
  (opens_int und5).map (fun b : UInt8 => [byteC b]) (fun _ => True) (fun n : Int => UInt8.ofNat n.toNat) (fun n h => by
    have hx : 0 ≤ n ∧ n ≤ 255 := by simpa [Lit.wf, IntKind.min, IntKind.max, IntKind.signed, IntKind.bits] using h
    unfold byteC
    rw [UInt8.toNat_ofNat', Nat.mod_eq_of_lt (by omega), Int.toNat_of_nonneg hx.1]) (fun _ _ => trivial)
def acWf (a : Ac) : Prop := (Lit.int .i64 a.kind).wf = true ∧ (Lit.int .i64 a.at_).wf = true ∧ (Lit.int .i64 a.n).wf = true ∧ chWf a.ch
theorem opens_ac : Opens P 68 acC acWf :=
  Opens.map (opens_struct Tryz.underlying68 (by kernel_rfl) (opensF_cons (sz := 1) rfl (by kernel_rfl) (opens_int und3) (opensF_cons (sz := 1) rfl (by kernel_rfl) (opens_int und3) (opensF_cons (sz := 1) rfl (by kernel_rfl) (opens_int und3) (opensF_cons (sz := 1) rfl (by kernel_rfl) opens_u8 (opensF_cons (sz := 3) rfl (by kernel_rfl) opens_ch opensF_nil))))))
    acC acWf (fun x => ⟨x.1, x.2.1, x.2.2.1, x.2.2.2.1, x.2.2.2.2.1⟩) (fun x _ => rfl) (fun x h => ⟨h.1, h.2.1, h.2.2.1, h.2.2.2.2.1⟩)
def vcWf (a : Vc) : Prop := (Lit.int .i64 a.kind).wf = true ∧ a.text.size ≤ maxLen ∧ acWf a.own
theorem opens_vc : Opens P 70 vcC vcWf :=
  Opens.map (opens_struct Tryz.underlying70 (by kernel_rfl) (opensF_cons (sz := 1) rfl (by kernel_rfl) (opens_int und3) (opensF_cons (sz := 1) rfl (by kernel_rfl) (opens_string Tryz.underlying9) (opensF_cons (sz := 7) rfl (by kernel_rfl) opens_ac opensF_nil))))
    vcC vcWf (fun x => ⟨x.1, x.2.1, x.2.2.1⟩) (fun x _ => by simp only [vcC, List.append_nil]; rfl) (fun x h => ⟨h.1, h.2.1, h.2.2.1⟩)
end Go.Aw.VE

set_option linter.unusedSimpArgs false
set_option linter.unusedVariables false
namespace Go.Proofs.YtllchkemgjmjiaaGreatDoor
open Go Go.Aw Go.Aw.VE Go.ChangeShapes Go.WideShapes Go.ChangeAt Go.RowKit

theorem keeps_own : ownKnob Tryz.prog.godebug = none := by kernel_rfl
theorem keeps_laid : laidOutB Tryz.prog = true := by kernel_rfl

theorem keeps_open : OpenA Tryz.prog [65, 38] (fun x : List Vc × (Ch × Unit) => [.vs 9 (x.1).length ((x.1).flatMap vcC), .agg (chC (x.2.1))]) (fun x => ((x.1).length ≤ maxLen ∧ ∀ a ∈ (x.1), vcWf a ∧ (vcC a).length = 9) ∧ chWf (x.2.1) ∧ True) :=
  openA_cons (openV_slice Tryz.underlying65 (sz := 9) (by kernel_rfl) (by decide) opens_vc) (openA_cons (openV_struct Tryz.underlying38 opens_ch) (openA_nil))

set_option maxRecDepth 100000 in
theorem keeps_contract (H : Type) (enc : TypeId × Value → H) (W : World) (base : Nat) (args : Array Value) (ds gs : List (DataW H)) (before : List MemPlace)
    (hval : ∀ (j : Nat) t v, Tryz.f6.params[j]? = some t → args[j]? = some v → Value.okWide Tryz.prog W .any base t v)
    (hW : DataW.Whole enc Tryz.prog Tryz.f6.params.toList Rows.vaultKeepsSpec.vars false W args.toList ds gs before) :
    Calls Tryz.prog 6 args W fun e W' => ∃ v, e = .returned v ∧ Rows.vaultKeepsSpec.post enc Tryz.prog Tryz.f6 false true false false W args v W' :=
  law_contract keeps_laid (by kernel_rfl) (t0 := 4) (by kernel_rfl) Tryz.underlying4 rfl (by rw [Tryz.params6]; exact keeps_open)
    (fun a ha => by
      have h := f6 a.1 ha.1.1 (fun q hq => (ha.1.2 q hq).1.2.1) a.2.1 ha.2.1.1
      exact h.mono (fun r H h => h.1))
    (fun H ds h => by
      rw [Tryz.params6] at h
      match ds, h with
      | [d0, d1], _ => rfl) hval hW

set_option maxRecDepth 100000 in
theorem keeps_lifted (os : Os) (started : os.Started) (H : Type) (enc : TypeId × Value → H) :
    ReturnsInHanded {} Tryz.checked os 6 .any (fun w args => (Rows.vaultKeepsSpec.pre enc Tryz.prog Tryz.f6 Rows.vaultKeepsRow.domain false w args ∧ laidMetH Tryz.prog Rows.vaultKeepsRow.laid w) ∧ sizedMet enc Tryz.prog Tryz.f6 (OpenSpec.ofChange Rows.vaultKeepsSpec) false w args)
      (Rows.vaultKeepsSpec.post enc Tryz.prog Tryz.f6 false true false false) := by
  refine returnsInHanded_of_change_and (C := Tryz.checked) (X := fun w _ => laidMetH Tryz.prog Rows.vaultKeepsRow.laid w) (fun _ _ _ hh h => h.of_heap hh) keeps_own started (by kernel_rfl) Tryz.func6
    (ChangeSpec.witness_shaped (enc := enc) (C := Tryz.checked) (os := os) (X := fun w _ => laidMetH Tryz.prog Rows.vaultKeepsRow.laid w) false (World.laidAll Tryz.prog os Rows.vaultKeepsRow.laid) #[.slice none 0 0, .agg ⟨[.slice none 0 0, .int .i64 0, .int .i64 0]⟩] 8 (World.laidAll_os _ _ _)
      (World.shaped_of_ZipB (by kernel_rfl) (by kernel_rfl)) (by kernel_rfl) (by kernel_rfl) (by kernel_rfl)
      (by rw [MakeChecks.laidMetH_plain _ _ _ (by kernel_rfl)]; exact laidMet_laidAll _ (by kernel_rfl) (by kernel_rfl))) ?_
  intro W base args ds gs before hval hW _ _ _ _
  exact keeps_contract H enc W base args ds gs before hval hW

theorem keeps_over : Rows.VaultKeepsSaid :=
  OpenClaim.holds_of_wide 6 Tryz.f6 rfl rfl rfl rfl rfl rfl rfl ⟨rfl, rfl, rfl, rfl, rfl⟩ rfl rfl rfl rfl rfl (by kernel_rfl) Tryz.func6 (by kernel_rfl)
    (of_decide_eq_true (by kernel_rfl)) (by unfold Func.isWrapper; first | (rw [if_pos (by decide +kernel)]; kernel_rfl) | (rw [if_neg (by decide +kernel)]; exact ⟨rfl, rfl⟩))
    (fun os started H enc _ => keeps_lifted os started H enc)

theorem vaultKeeps : Rows.VaultKeepsCardSaid :=
  Claim7.holds_tied_plain_at .later [] [.data, .pinned] true (true, "c7043bd026b29a768968e47719cad74057e93809809b15c9492d8c74415f2a49") true keeps_over (fun _ h => by cases h) (by kernel_rfl) (fun _ h => by cases h) vaultKeeps_row_tie rfl ⟨rfl, rfl⟩ (by kernel_rfl) rfl
    (fun f fn hf hfn => by
      obtain rfl : f = 6 := Option.some.inj ((show Tryz.prog.funcNamed "backhaul/backhaullaw12.VaultKeeps" = some 6 by kernel_rfl).symm.trans hf) |>.symm
      obtain rfl : fn = Tryz.f6 := (Option.some.inj (Tryz.func6.symm.trans hfn)).symm
      exact ⟨by kernel_rfl, fun j t ht => by
        rw [Tryz.params6] at ht
        have hm : t ∈ [65, 38] := by simpa using Array.mem_of_getElem? ht
        have hall : ([65, 38].all fun u => !Tryz.prog.wantsStandIn u) = true := by kernel_rfl
        exact (show Tryz.prog.wantsStandIn t = false by simpa using List.all_eq_true.1 hall t hm)⟩)
    (by kernel_rfl)
#print axioms vaultKeeps
end Go.Proofs.YtllchkemgjmjiaaGreatDoor

