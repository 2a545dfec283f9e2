/-
  The statement VaultKeeps: opened again, a vault tells the text that was laid last, and all bodies behind that, without any condition.
-/
import Derived.Test.YtllchkemgjmjiaaGreatDoorVfB
set_option linter.unusedSimpArgs false
set_option linter.unusedVariables false
set_option linter.unusedSimpArgs false
set_option linter.unusedVariables false
set_option maxHeartbeats 1000000
namespace Go.Aw.VE
open Go Go.Proofs

/-- a sector that begins no frame of the second epoch -/
def quiet (c : List UInt8) : Prop := c[0]? ≠ some 1 ∨ VD.beVal ((c.drop 1).take 8) = 1
theorem fput_cell (e q : Nat) (b : ByteArray) (i : Nat) (hi : i < VD.pcs b.size) : cellOf (VD.fputB e q b).data.toList i = VD.mk i :: VD.piece (VD.frT e q b) i := by
  have hl := VD.frT_len e q b
  obtain ⟨r, hr⟩ := VD.layF_split (VD.frT e q b) (VD.pcs b.size) i hi
  have hp := VD.piece_len (VD.frT e q b) (VD.pcs b.size) i hl hi
  rw [VD.fputB_list, hr]
  unfold cellOf
  rw [List.drop_left' (by rw [VD.layF_len _ _ hl i (by omega)]), List.take_left' (by rw [List.length_cons, hp])]
theorem frT_head (e q : Nat) (b : ByteArray) : (VD.piece (VD.frT e q b) 0).take 8 = VD.be 8 e := by
  have hb : (VD.be 8 e).length = 8 := VD.be_len 8 e
  unfold VD.piece
  rw [Nat.mul_zero, List.drop_zero, List.take_take, show min 8 63 = 8 from rfl, VD.frT_eq, List.take_left' hb]
theorem cell_of_take {s t : List UInt8} {a p : Nat} (hp : 1 ≤ p) (h : (s.drop (64 * a)).take (64 * p) = t) : cellOf s a = cellOf t 0 := by
  subst h
  unfold cellOf
  rw [Nat.mul_zero, List.drop_zero, List.take_take, Nat.min_eq_left (by omega)]
theorem cell_putC {cs t : List UInt8} {k m : Nat} (ht : t.length = 64 * m) (h : 64 * (k + m) ≤ cs.length) (j : Nat) : cellOf (putC cs k t) j = if k ≤ j ∧ j < k + m then cellOf t (j - k) else cellOf cs j := by
  have hP : (cs.take (64 * k)).length = 64 * k := by rw [List.length_take]; omega
  unfold putC cellOf
  rw [List.append_assoc]
  by_cases h1 : j < k
  · rw [if_neg (by omega), List.drop_append, List.take_append, hP, List.drop_take, List.take_take, List.length_take, List.length_drop, show 64 * j - 64 * k = 0 by omega, List.drop_zero, show 64 - min (64 * k - 64 * j) (cs.length - 64 * j) = 0 by omega, List.take_zero, List.append_nil, Nat.min_eq_left (by omega)]
  · rw [List.drop_append, List.drop_eq_nil_of_le (by omega), hP, List.nil_append, List.drop_append, ht]
    by_cases h2 : j < k + m
    · rw [if_pos ⟨by omega, h2⟩, List.take_append_of_le_length (by rw [List.length_drop]; omega)]
      congr 2; omega
    · rw [if_neg (by omega), List.drop_eq_nil_of_le (by omega), List.nil_append, List.drop_drop]
      congr 2; omega
end Go.Aw.VE

set_option linter.unusedSimpArgs false
set_option linter.unusedVariables false
set_option maxHeartbeats 1000000
namespace Go.Aw.VE
open Go Go.Proofs

theorem put_at {cs t : List UInt8} {k m : Nat} (ht : t.length = 64 * m) (h : 64 * (k + m) ≤ cs.length) : ((putC cs k t).drop (64 * k)).take (64 * m) = t := by
  unfold putC
  rw [List.append_assoc, List.drop_left' (by rw [List.length_take]; omega), List.take_left' ht]
/-- frames of the second epoch, and none of them behind -/
structure Kq (x : Dd) (cs : List UInt8) (l : List ByteArray) (z : Nat) : Prop where
  cl : Cl x cs
  n : x.n = 200
  ch : VD.chain (ofL cs) 2 0 0 l z
  zN : z ≤ 200
  quiet : ∀ j, z ≤ j → j < 200 → quiet (cellOf cs j)
/-- before the first flush -/
structure Kr (y : Dd) : Prop where
  ok : Dok y
  a : y.a = 0
  f : y.f = false
  n : y.n = 200
  q : ∀ j, j < 200 → quiet (cellOf y.cs j)
end Go.Aw.VE

set_option linter.unusedSimpArgs false
set_option linter.unusedVariables false
set_option maxHeartbeats 1000000
namespace Go.Aw.VE
open Go Go.Proofs

end Go.Aw.VE

set_option linter.unusedSimpArgs false
set_option linter.unusedVariables false
set_option maxHeartbeats 4000000
set_option maxRecDepth 20000
namespace Go.Aw.VE
open Go Go.Proofs

end Go.Aw.VE

