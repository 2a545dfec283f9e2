/-
  The statement VaultNobody: a vault that no call made answers that it is none, without any condition.
-/
import Derived.Test.YtllchkemgjmjiaaGreatDoorVcB
set_option linter.unusedSimpArgs false
set_option linter.unusedVariables false
set_option linter.unusedSimpArgs false
set_option linter.unusedVariables false
set_option maxHeartbeats 4000000
namespace Go.Aw.VE
open Go Go.Proofs

end Go.Aw.VE

set_option linter.unusedSimpArgs false
set_option linter.unusedVariables false
set_option maxHeartbeats 4000000
namespace Go.Aw.VE
open Go Go.Proofs

end Go.Aw.VE

set_option linter.unusedSimpArgs false
set_option linter.unusedVariables false
set_option maxHeartbeats 4000000
namespace Go.Aw.VE
open Go Go.Proofs

theorem wrF_ok : ∀ (m : Nat) (x : Dd) (k : Nat) (t : List UInt8), Dok x → k + m ≤ x.n → 64 * m ≤ t.length → Dok (wrF m x k t).1 ∧ (wrF m x k t).1.n = x.n
  | 0, x, k, t, h, _, _ => by rw [wrF]; exact ⟨h, rfl⟩
  | m + 1, x, k, t, h, h1, h2 => by
    have hn := lastD_n x
    have hok : Dok (putD (lastD x) k (t.take 64)) := h.last.put (by rw [hn]; omega) (by rw [List.length_take]; omega)
    rw [wrF]
    split
    · exact ⟨hok, hn⟩
    · have := wrF_ok m _ (k + 1) (t.drop 64) hok (by show k + 1 + m ≤ (lastD x).n; omega) (by rw [List.length_drop]; omega)
      exact ⟨this.1, this.2.trans hn⟩
theorem write_ok {x : Dd} (h : Dok x) (at_ : Int) (s : ByteArray) : Dok (writeF x at_ s).1 ∧ (writeF x at_ s).1.n = x.n := by
  unfold writeF
  split
  · exact ⟨h, rfl⟩
  · split
    · exact ⟨h, rfl⟩
    · split
      · have hs := size_list s
        exact wrF_ok _ _ _ _ h (by omega) (by omega)
      · exact ⟨h, rfl⟩
theorem flush_ok {x : Dd} (h : Dok x) : Dok (flushD x) ∧ (flushD x).n = x.n := by
  unfold flushD
  split
  · exact ⟨h, rfl⟩
  · split
    · exact ⟨h.last, lastD_n x⟩
    · refine ⟨⟨h.last.pos, h.last.le, h.last.len, by simp, by simp⟩, lastD_n x⟩
theorem new_ok {n : Nat} (h : 0 < n) (h2 : n ≤ 2000) : Dok (newD n) := ⟨h, h2, by simp [newD], by simp [newD], by simp [newD]⟩
set_option maxRecDepth 100000
end Go.Aw.VE

set_option linter.unusedSimpArgs false
set_option linter.unusedVariables false
set_option maxHeartbeats 400000
namespace Go.Aw.VE
open Go Go.Proofs
set_option maxRecDepth 100000

theorem callNew {H : List ABlk} {K : AV → List ABlk → Prop} (n : Nat) (h0 : 0 < n) (h1 : n ≤ 2000) (k : K (.tup [.ptr H.length 0, nV 0]) (H ++ [dD (H.length + 1) (H.length + 2) (newD n), dC (newD n), dM (newD n) [] 0])) : ACall P 19 [nV n] H K := by
  refine ACall.spec (by kernel_rfl) (f19 n (nOk_of (by omega) (by omega))) rfl ?_
  intro r H' h
  rw [if_neg (by omega)] at h
  obtain ⟨rfl, rfl⟩ := h
  rw [Int.toNat_natCast]
  simp only [dvH, List.map_cons, List.map_nil, dD_ren, dC_ren, dM_ren]
  have e : ∀ i, nm [] H.length i = H.length + i := by intro i; simp [nm, Nat.add_comm]
  simp only [e] 
  simp only [AV.ren, renL, e, Nat.add_zero]
  exact k
end Go.Aw.VE

set_option linter.unusedSimpArgs false
set_option linter.unusedVariables false
set_option maxHeartbeats 4000000
namespace Go.Aw.VE
open Go Go.Proofs

def dE : ABlk := .cells 97 [.v (.slice none 0 0), .v (.map none), nV 0, nV 0, .v (.bool false)]
/-- no device: nil, or one that no call made -/
inductive NB : AV → List ABlk → Prop
  | nil : NB (.v (.pointer none)) []
  | emp : NB (.ptr 0 0) [dE]
/-- where no device lies -/
inductive NBat (H : List ABlk) : AV → Prop
  | nil : NBat H (.v (.pointer none))
  | emp {l : Nat} : H[l]? = some dE → NBat H (.ptr l 0)
end Go.Aw.VE

set_option linter.unusedSimpArgs false
set_option linter.unusedVariables false
set_option maxHeartbeats 4000000
namespace Go.Aw.VE
open Go Go.Proofs

end Go.Aw.VE

set_option linter.unusedSimpArgs false
set_option linter.unusedVariables false
set_option maxHeartbeats 4000000
namespace Go.Aw.VE
open Go Go.Proofs

/-- a call of a device -/
structure Ac where
  kind : Int
  at_ : Int
  n : Int
  byte : UInt8
  ch : Ch
end Go.Aw.VE

