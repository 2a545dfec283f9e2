/-
  The statement VaultKeeps: opened again, a vault tells the text that was laid last, and all bodies behind that, without any condition.
-/
import Derived.Test.YtllchkemgjmjiaaGreatDoorVfA
set_option linter.unusedSimpArgs false
set_option linter.unusedVariables false
set_option linter.unusedSimpArgs false
set_option linter.unusedVariables false
set_option maxHeartbeats 1000000
namespace Go.Aw.VE
open Go Go.Proofs

def arS (cs : List UInt8) (A N : Nat) : ByteArray := ofL (arL cs A N)
theorem arS_list (cs : List UInt8) (A N : Nat) : (arS cs A N).data.toList = arL cs A N := rfl
theorem fput_len (e q : Nat) (b : ByteArray) : (VD.fputB e q b).data.toList.length = 64 * VD.pcs b.size := by rw [size_list, VD.fputB_size]
theorem read_ar {x : Dd} {cs : List UInt8} (h : Cl x cs) {A N : Nat} (hN : 0 < N) (hn : A + N ≤ x.n) : readF x A N = (arS cs A N, 0) := by
  unfold readF
  rw [h.f, if_neg (by decide), if_neg (by omega), if_pos (by omega), Int.toNat_natCast, Int.toNat_natCast, h.cs]
  rfl
theorem check_ok {x : Dd} {A N : Nat} (hN : 0 < N) (hn : A + N ≤ x.n) : checkF x A N = 0 := by
  unfold checkF; rw [if_neg (by omega)]

/-- frames lie in a part of a device, and nothing behind them -/
structure Kp (x : Dd) (cs : List UInt8) (A N : Nat) (ep : Nat) (l : List ByteArray) (z : Nat) : Prop where
  cl : Cl x cs
  n : A + N ≤ x.n
  ch : VD.chain (arS cs A N) ep 0 0 l z
  zN : z ≤ N
  zero : (arL cs A N).drop (64 * z) = VD.zs (64 * (N - z))
end Go.Aw.VE

set_option linter.unusedSimpArgs false
set_option linter.unusedVariables false
set_option maxHeartbeats 4000000
namespace Go.Aw.VE
open Go Go.Proofs

end Go.Aw.VE

set_option linter.unusedSimpArgs false
set_option linter.unusedVariables false
set_option maxHeartbeats 4000000
set_option maxRecDepth 20000
namespace Go.Aw.VE
open Go Go.Proofs

theorem put_take (S t : List UInt8) (z k : Nat) (h : k ≤ z) (hz : 64 * z ≤ S.length) : (putC S z t).take (64 * k) = S.take (64 * k) := by
  unfold putC
  rw [List.append_assoc, List.take_append, List.take_take, List.length_take, show 64 * k - min (64 * z) S.length = 0 by omega, List.take_zero, List.append_nil, Nat.min_eq_left (by omega)]
theorem last_ok {x : Dd} (h : Dok x) (a : Int) (s : ByteArray) : Dok (lastF x a s).1 ∧ (lastF x a s).1.n = x.n := by
  have hw := write_ok h a s
  unfold lastF
  split
  · exact hw
  · exact ⟨(flush_ok hw.1).1, (flush_ok hw.1).2.trans hw.2⟩
theorem app_ok {x : Dd} (h : Dok x) (fr ns at_ e q : Int) (b : ByteArray) : Dok (appF x fr ns at_ e q b).2 ∧ (appF x fr ns at_ e q b).2.n = x.n := by
  have hl := last_ok h (fr + at_) (VD.fputF e q b).1
  unfold appF
  repeat' split
  all_goals first | exact ⟨h, rfl⟩ | exact hl
end Go.Aw.VE

