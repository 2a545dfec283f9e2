/-
  The statement VaultKeeps: opened again, a vault tells the text that was laid last, and all bodies behind that, without any condition.
-/
import Derived.Test.YtllchkemgjmjiaaGreatDoorVdD
set_option linter.unusedSimpArgs false
set_option linter.unusedVariables false
set_option linter.unusedSimpArgs false
set_option linter.unusedVariables false
set_option maxHeartbeats 4000000
namespace Go.Aw.VD
open Go Go.Proofs
def joinP (l : List UInt8) (i : Nat) : List UInt8 := (l.drop (64 * i + 1)).take 63
def joinL (l : List UInt8) (k : Nat) : List UInt8 := (List.range k).flatMap (joinP l)
def okL (l : List UInt8) (k : Nat) : Prop := ∀ i, i < k → l[64 * i]? = some (mk i)
instance (l : List UInt8) (k : Nat) : Decidable (okL l k) := inferInstanceAs (Decidable (∀ i, i < k → _))
theorem joinL_succ (l : List UInt8) (k : Nat) : joinL l (k + 1) = joinL l k ++ joinP l k := by
  unfold joinL
  rw [List.range_succ, List.flatMap_append]
  simp
theorem joinL_len (l : List UInt8) (k : Nat) (h : 64 * k ≤ l.length) : ∀ i, i ≤ k → (joinL l i).length = 63 * i
  | 0, _ => rfl
  | i + 1, hi => by
    rw [joinL_succ, List.length_append, joinL_len l k h i (by omega), joinP, List.length_take, List.length_drop]
    omega
def joinR (l : List UInt8) (k : Nat) : AV := if okL l k then .tup [sV (ofL (joinL l k)), .v (.bool true)] else .tup [sV e0, .v (.bool false)]
theorem bt_eq (s : ByteArray) (i : Nat) (h : i < s.size) (b : UInt8) : bt s (i : Int) = (b.toNat : Int) ↔ s.data.toList[i]? = some b := by
  have hl : i < s.data.toList.length := by rw [size_list]; exact h
  rw [bt_get s i hl, List.getElem?_eq_getElem hl]
  rw [show (s.data.toList[i]).toBitVec.toNat = (s.data.toList[i]).toNat from rfl]
  constructor
  · intro e
    congr 1
    apply UInt8.toNat_inj.1
    omega
  · intro e
    rw [Option.some.inj e]
def aoB (i : Nat) : AV := if i = 0 then .v (.pointer none) else .ptr 0 0
theorem f86 (s : ByteArray) (k : Nat) (hk : s.size = 64 * k) (hk1 : 1 ≤ k) (hk2 : k ≤ 1000) : Fun P 86 [sV s] (joinR s.data.toList k) := by
  refine spec_of hT (f := 86) (fn := Go.Proofs.Tryz.f86) (c := body Go.Proofs.Tryz.f86) (by kernel_rfl) (by kernel_rfl) ?_
  have hll : s.data.toList.length = 64 * k := by rw [size_list, hk]
  conv => whnf
  repeat ((first | refine AO.cons hT ?_ | refine AO.nil ?_ | refine AW.seq ?_ | refine AW.region ?_ | refine AW.cond ?_ | refine AW.block ?_ | refine AW.loop ?_ | refine AW.skip ?_ | refine AW.exit ?_ | refine AW.ret ?_ | refine AW.label ?_ | refine AW.scope ?_ | refine AF.one hT rfl ?_ | refine AF.nil ?_ | refine AF.imm hT rfl rfl rfl ?_ | refine AH.of hT rfl ?_ | refine AD.cons hT rfl ?_ | refine AD.nil ?_ | refine AQ.cons hT rfl ?_ | refine AQ.nil ?_); conv => whnf)
  refine ALoop.mk (fun j E H => ∃ i : Nat, i ≤ k ∧ okL s.data.toList i ∧ j = k - i ∧ E = pad [sV s, .any, .any, .v (.bool false), .ptr 0 0, nV (64 * i : Nat)] 28 ∧ H = [.cells 109 [aoB i, .ms 1 1 0 (joinL s.data.toList i).length], .cells 5 ((joinL s.data.toList i).map byteC)]) (n := k) _ _ ⟨0, by omega, (fun _ h => by omega), rfl, rfl, rfl⟩ (Conv.trans (Conv.fit ?_) (Conv.ownIn (sz := 1) 5 (l := 0) rfl (.same (.own .nil)))) ?_
  · repeat' (first | exact Fit.nil | refine Fit.any ?_ | refine Fit.same ?_)
  rintro _ _ _ ⟨i, hi, hok, rfl, rfl, rfl⟩
  conv => whnf
  repeat ((first | refine AO.cons hT ?_ | refine AO.nil ?_ | refine AW.seq ?_ | refine AW.region ?_ | refine AW.cond ?_ | refine AW.block ?_ | refine AW.loop ?_ | refine AW.skip ?_ | refine AW.exit ?_ | refine AW.ret ?_ | refine AW.label ?_ | refine AW.scope ?_ | refine AF.one hT rfl ?_ | refine AF.nil ?_ | refine AF.imm hT rfl rfl rfl ?_ | refine AH.of hT rfl ?_ | refine AD.cons hT rfl ?_ | refine AD.nil ?_ | refine AQ.cons hT rfl ?_ | refine AQ.nil ?_); conv => whnf)
  refine ACond.dec (fun h => ?_) (fun h => ?_)
  · have hik : i < k := by omega
    have hlen := joinL_len s.data.toList k (by omega) i (by omega)
    have haoB : aoB i = .ptr 0 0 ∨ aoB i = .v (.pointer none) := by unfold aoB; split; exact .inr rfl; exact .inl rfl
    have hbt := bt_eq s (64 * i) (by omega) (mk i)
    conv => whnf
    repeat ((first | refine AO.cons hT ?_ | refine AO.nil ?_ | refine AW.seq ?_ | refine AW.region ?_ | refine AW.cond ?_ | refine AW.block ?_ | refine AW.loop ?_ | refine AW.skip ?_ | refine AW.exit ?_ | refine AW.ret ?_ | refine AW.label ?_ | refine AW.scope ?_ | refine AF.one hT rfl ?_ | refine AF.nil ?_ | refine AF.imm hT rfl rfl rfl ?_ | refine AH.of hT rfl ?_ | refine AD.cons hT rfl ?_ | refine AD.nil ?_ | refine AQ.cons hT rfl ?_ | refine AQ.nil ?_ | (refine AReq.mk ⟨by omega, by omega⟩ ?_)); conv => whnf)
    refine ACond.dec (fun h0 => ?_) (fun h0 => ?_)
    · rw [show ((mk i).toNat : Int) = 1 by unfold mk; rw [if_pos (by omega)]; rfl] at hbt
      conv => whnf
      repeat ((first | refine AO.cons hT ?_ | refine AO.nil ?_ | refine AW.seq ?_ | refine AW.region ?_ | refine AW.cond ?_ | refine AW.block ?_ | refine AW.loop ?_ | refine AW.skip ?_ | refine AW.exit ?_ | refine AW.ret ?_ | refine AW.label ?_ | refine AW.scope ?_ | refine AF.one hT rfl ?_ | refine AF.nil ?_ | refine AF.imm hT rfl rfl rfl ?_ | refine AH.of hT rfl ?_ | refine AD.cons hT rfl ?_ | refine AD.nil ?_ | refine AQ.cons hT rfl ?_ | refine AQ.nil ?_ | (refine AReq.mk ⟨by omega, by omega⟩ ?_)); conv => whnf)
      refine ACond.ndec (fun h5 => ?_) (fun h5 => ?_)
      · conv => whnf
        repeat ((first | refine AO.cons hT ?_ | refine AO.nil ?_ | refine AW.seq ?_ | refine AW.region ?_ | refine AW.cond ?_ | refine AW.block ?_ | refine AW.loop ?_ | refine AW.skip ?_ | refine AW.exit ?_ | refine AW.ret ?_ | refine AW.label ?_ | refine AW.scope ?_ | refine AF.one hT rfl ?_ | refine AF.nil ?_ | refine AF.imm hT rfl rfl rfl ?_ | refine AH.of hT rfl ?_ | refine AD.cons hT rfl ?_ | refine AD.nil ?_ | refine AQ.cons hT rfl ?_ | refine AQ.nil ?_ | (refine AReq.mk ⟨by omega, by omega⟩ ?_)); conv => whnf)
        refine AOut.stay ?_
        conv => whnf
        repeat ((first | refine AO.cons hT ?_ | refine AO.nil ?_ | refine AW.seq ?_ | refine AW.region ?_ | refine AW.cond ?_ | refine AW.block ?_ | refine AW.loop ?_ | refine AW.skip ?_ | refine AW.exit ?_ | refine AW.ret ?_ | refine AW.label ?_ | refine AW.scope ?_ | refine AF.one hT rfl ?_ | refine AF.nil ?_ | refine AF.imm hT rfl rfl rfl ?_ | refine AH.of hT rfl ?_ | refine AD.cons hT rfl ?_ | refine AD.nil ?_ | refine AQ.cons hT rfl ?_ | refine AQ.nil ?_ | (refine AReq.mk ⟨by omega, by omega⟩ ?_)); conv => whnf)
        unfold joinR
        rw [if_neg (fun hc => h5 (hbt.2 (hc i hik)))]
        exact AFin.val rfl ⟨rfl, rfl⟩
      · conv => whnf
        repeat ((first | refine AO.cons hT ?_ | refine AO.nil ?_ | refine AW.seq ?_ | refine AW.region ?_ | refine AW.cond ?_ | refine AW.block ?_ | refine AW.loop ?_ | refine AW.skip ?_ | refine AW.exit ?_ | refine AW.ret ?_ | refine AW.label ?_ | refine AW.scope ?_ | refine AF.one hT rfl ?_ | refine AF.nil ?_ | refine AF.imm hT rfl rfl rfl ?_ | refine AH.of hT rfl ?_ | refine AD.cons hT rfl ?_ | refine AD.nil ?_ | refine AQ.cons hT rfl ?_ | refine AQ.nil ?_ | (refine AReq.mk ⟨by omega, by omega⟩ ?_)); conv => whnf)
        rw [wrap_i64 (((64 * i : Nat) : Int) + 1) (by omega) (by omega), wrap_i64 (((64 * i : Nat) : Int) + 64) (by omega) (by omega)]
        refine AReq.mk ⟨by omega, by omega, by omega⟩ ?_
        have hpp : s.extract (Int.toNat (((64 * i : Nat) : Int) + 1)) (Int.toNat (((64 * i : Nat) : Int) + 64)) = ofL (joinP s.data.toList i) := by
          apply list_inj
          rw [ext_list, ofL_list, joinP, show Int.toNat (((64 * i : Nat) : Int) + 1) = 64 * i + 1 by omega, show Int.toNat (((64 * i : Nat) : Int) + 64) = 64 * i + 64 by omega, show 64 * i + 64 - (64 * i + 1) = 63 by omega]
        have hpl : (joinP s.data.toList i).length = 63 := by unfold joinP; rw [List.length_take, List.length_drop]; omega
        conv => whnf
        repeat ((first | refine AO.cons hT ?_ | refine AO.nil ?_ | refine AW.seq ?_ | refine AW.region ?_ | refine AW.cond ?_ | refine AW.block ?_ | refine AW.loop ?_ | refine AW.skip ?_ | refine AW.exit ?_ | refine AW.ret ?_ | refine AW.label ?_ | refine AW.scope ?_ | refine AF.one hT rfl ?_ | refine AF.nil ?_ | refine AF.imm hT rfl rfl rfl ?_ | refine AH.of hT rfl ?_ | refine AD.cons hT rfl ?_ | refine AD.nil ?_ | refine AQ.cons hT rfl ?_ | refine AQ.nil ?_ | (refine AReq.mk ⟨by omega, by omega⟩ ?_)); conv => whnf)
        rw [hpp]
        refine call48 (lb := 0) (lx := 1) (l := joinL s.data.toList i) (joinL s.data.toList (i + 1)) (by decide) rfl rfl rfl haoB (by rw [size_ofL]; omega) (by rw [joinL_succ]; rfl) ?_
        conv => whnf
        repeat ((first | refine AO.cons hT ?_ | refine AO.nil ?_ | refine AW.seq ?_ | refine AW.region ?_ | refine AW.cond ?_ | refine AW.block ?_ | refine AW.loop ?_ | refine AW.skip ?_ | refine AW.exit ?_ | refine AW.ret ?_ | refine AW.label ?_ | refine AW.scope ?_ | refine AF.one hT rfl ?_ | refine AF.nil ?_ | refine AF.imm hT rfl rfl rfl ?_ | refine AH.of hT rfl ?_ | refine AD.cons hT rfl ?_ | refine AD.nil ?_ | refine AQ.cons hT rfl ?_ | refine AQ.nil ?_ | (refine AReq.mk ⟨by omega, by omega⟩ ?_)); conv => whnf)
        rw [wrap_i64 (((64 * i : Nat) : Int) + 64) (by omega) (by omega), show ((64 * i : Nat) : Int) + 64 = ((64 * (i + 1) : Nat) : Int) by omega]
        refine AHead.mk (k - (i + 1)) _ _ (by omega) ⟨i + 1, by omega, (fun j hj => by rcases Nat.lt_succ_iff_lt_or_eq.1 hj with hj | rfl; exact hok j hj; exact hbt.1 (by simpa using h5)), rfl, rfl, rfl⟩ (Conv.ren [0, 2] _ (by simp) (by simp) ?_ (.same (by rw [show aoB (i + 1) = .ptr 0 0 by unfold aoB; rw [if_neg (by omega)]]; rfl) (.same (by simp only [ABlk.ren, bytes_ren]; rfl) .nil)))
        repeat' (first | exact Fit.nil | refine Fit.any ?_ | refine Fit.same ?_)
    · rw [show ((mk i).toNat : Int) = 2 by unfold mk; rw [if_neg (by omega)]; rfl] at hbt
      conv => whnf
      repeat ((first | refine AO.cons hT ?_ | refine AO.nil ?_ | refine AW.seq ?_ | refine AW.region ?_ | refine AW.cond ?_ | refine AW.block ?_ | refine AW.loop ?_ | refine AW.skip ?_ | refine AW.exit ?_ | refine AW.ret ?_ | refine AW.label ?_ | refine AW.scope ?_ | refine AF.one hT rfl ?_ | refine AF.nil ?_ | refine AF.imm hT rfl rfl rfl ?_ | refine AH.of hT rfl ?_ | refine AD.cons hT rfl ?_ | refine AD.nil ?_ | refine AQ.cons hT rfl ?_ | refine AQ.nil ?_ | (refine AReq.mk ⟨by omega, by omega⟩ ?_)); conv => whnf)
      refine ACond.ndec (fun h5 => ?_) (fun h5 => ?_)
      · conv => whnf
        repeat ((first | refine AO.cons hT ?_ | refine AO.nil ?_ | refine AW.seq ?_ | refine AW.region ?_ | refine AW.cond ?_ | refine AW.block ?_ | refine AW.loop ?_ | refine AW.skip ?_ | refine AW.exit ?_ | refine AW.ret ?_ | refine AW.label ?_ | refine AW.scope ?_ | refine AF.one hT rfl ?_ | refine AF.nil ?_ | refine AF.imm hT rfl rfl rfl ?_ | refine AH.of hT rfl ?_ | refine AD.cons hT rfl ?_ | refine AD.nil ?_ | refine AQ.cons hT rfl ?_ | refine AQ.nil ?_ | (refine AReq.mk ⟨by omega, by omega⟩ ?_)); conv => whnf)
        refine AOut.stay ?_
        conv => whnf
        repeat ((first | refine AO.cons hT ?_ | refine AO.nil ?_ | refine AW.seq ?_ | refine AW.region ?_ | refine AW.cond ?_ | refine AW.block ?_ | refine AW.loop ?_ | refine AW.skip ?_ | refine AW.exit ?_ | refine AW.ret ?_ | refine AW.label ?_ | refine AW.scope ?_ | refine AF.one hT rfl ?_ | refine AF.nil ?_ | refine AF.imm hT rfl rfl rfl ?_ | refine AH.of hT rfl ?_ | refine AD.cons hT rfl ?_ | refine AD.nil ?_ | refine AQ.cons hT rfl ?_ | refine AQ.nil ?_ | (refine AReq.mk ⟨by omega, by omega⟩ ?_)); conv => whnf)
        unfold joinR
        rw [if_neg (fun hc => h5 (hbt.2 (hc i hik)))]
        exact AFin.val rfl ⟨rfl, rfl⟩
      · conv => whnf
        repeat ((first | refine AO.cons hT ?_ | refine AO.nil ?_ | refine AW.seq ?_ | refine AW.region ?_ | refine AW.cond ?_ | refine AW.block ?_ | refine AW.loop ?_ | refine AW.skip ?_ | refine AW.exit ?_ | refine AW.ret ?_ | refine AW.label ?_ | refine AW.scope ?_ | refine AF.one hT rfl ?_ | refine AF.nil ?_ | refine AF.imm hT rfl rfl rfl ?_ | refine AH.of hT rfl ?_ | refine AD.cons hT rfl ?_ | refine AD.nil ?_ | refine AQ.cons hT rfl ?_ | refine AQ.nil ?_ | (refine AReq.mk ⟨by omega, by omega⟩ ?_)); conv => whnf)
        rw [wrap_i64 (((64 * i : Nat) : Int) + 1) (by omega) (by omega), wrap_i64 (((64 * i : Nat) : Int) + 64) (by omega) (by omega)]
        refine AReq.mk ⟨by omega, by omega, by omega⟩ ?_
        have hpp : s.extract (Int.toNat (((64 * i : Nat) : Int) + 1)) (Int.toNat (((64 * i : Nat) : Int) + 64)) = ofL (joinP s.data.toList i) := by
          apply list_inj
          rw [ext_list, ofL_list, joinP, show Int.toNat (((64 * i : Nat) : Int) + 1) = 64 * i + 1 by omega, show Int.toNat (((64 * i : Nat) : Int) + 64) = 64 * i + 64 by omega, show 64 * i + 64 - (64 * i + 1) = 63 by omega]
        have hpl : (joinP s.data.toList i).length = 63 := by unfold joinP; rw [List.length_take, List.length_drop]; omega
        conv => whnf
        repeat ((first | refine AO.cons hT ?_ | refine AO.nil ?_ | refine AW.seq ?_ | refine AW.region ?_ | refine AW.cond ?_ | refine AW.block ?_ | refine AW.loop ?_ | refine AW.skip ?_ | refine AW.exit ?_ | refine AW.ret ?_ | refine AW.label ?_ | refine AW.scope ?_ | refine AF.one hT rfl ?_ | refine AF.nil ?_ | refine AF.imm hT rfl rfl rfl ?_ | refine AH.of hT rfl ?_ | refine AD.cons hT rfl ?_ | refine AD.nil ?_ | refine AQ.cons hT rfl ?_ | refine AQ.nil ?_ | (refine AReq.mk ⟨by omega, by omega⟩ ?_)); conv => whnf)
        rw [hpp]
        refine call48 (lb := 0) (lx := 1) (l := joinL s.data.toList i) (joinL s.data.toList (i + 1)) (by decide) rfl rfl rfl haoB (by rw [size_ofL]; omega) (by rw [joinL_succ]; rfl) ?_
        conv => whnf
        repeat ((first | refine AO.cons hT ?_ | refine AO.nil ?_ | refine AW.seq ?_ | refine AW.region ?_ | refine AW.cond ?_ | refine AW.block ?_ | refine AW.loop ?_ | refine AW.skip ?_ | refine AW.exit ?_ | refine AW.ret ?_ | refine AW.label ?_ | refine AW.scope ?_ | refine AF.one hT rfl ?_ | refine AF.nil ?_ | refine AF.imm hT rfl rfl rfl ?_ | refine AH.of hT rfl ?_ | refine AD.cons hT rfl ?_ | refine AD.nil ?_ | refine AQ.cons hT rfl ?_ | refine AQ.nil ?_ | (refine AReq.mk ⟨by omega, by omega⟩ ?_)); conv => whnf)
        rw [wrap_i64 (((64 * i : Nat) : Int) + 64) (by omega) (by omega), show ((64 * i : Nat) : Int) + 64 = ((64 * (i + 1) : Nat) : Int) by omega]
        refine AHead.mk (k - (i + 1)) _ _ (by omega) ⟨i + 1, by omega, (fun j hj => by rcases Nat.lt_succ_iff_lt_or_eq.1 hj with hj | rfl; exact hok j hj; exact hbt.1 (by simpa using h5)), rfl, rfl, rfl⟩ (Conv.ren [0, 2] _ (by simp) (by simp) ?_ (.same (by rw [show aoB (i + 1) = .ptr 0 0 by unfold aoB; rw [if_neg (by omega)]]; rfl) (.same (by simp only [ABlk.ren, bytes_ren]; rfl) .nil)))
        repeat' (first | exact Fit.nil | refine Fit.any ?_ | refine Fit.same ?_)
  · obtain rfl : i = k := by omega
    rw [show aoB i = .ptr 0 0 by unfold aoB; rw [if_neg (by omega)]]
    have hlen := joinL_len s.data.toList i (by omega) i (by omega)
    conv => whnf
    repeat ((first | refine AO.cons hT ?_ | refine AO.nil ?_ | refine AW.seq ?_ | refine AW.region ?_ | refine AW.cond ?_ | refine AW.block ?_ | refine AW.loop ?_ | refine AW.skip ?_ | refine AW.exit ?_ | refine AW.ret ?_ | refine AW.label ?_ | refine AW.scope ?_ | refine AF.one hT rfl ?_ | refine AF.nil ?_ | refine AF.imm hT rfl rfl rfl ?_ | refine AH.of hT rfl ?_ | refine AD.cons hT rfl ?_ | refine AD.nil ?_ | refine AQ.cons hT rfl ?_ | refine AQ.nil ?_); conv => whnf)
    refine AOut.stay ?_
    conv => whnf
    repeat ((first | refine AO.cons hT ?_ | refine AO.nil ?_ | refine AW.seq ?_ | refine AW.region ?_ | refine AW.cond ?_ | refine AW.block ?_ | refine AW.loop ?_ | refine AW.skip ?_ | refine AW.exit ?_ | refine AW.ret ?_ | refine AW.label ?_ | refine AW.scope ?_ | refine AF.one hT rfl ?_ | refine AF.nil ?_ | refine AF.imm hT rfl rfl rfl ?_ | refine AH.of hT rfl ?_ | refine AD.cons hT rfl ?_ | refine AD.nil ?_ | refine AQ.cons hT rfl ?_ | refine AQ.nil ?_ | (refine call49 (lb := 0) (lx := 1) (l := joinL s.data.toList i) (by decide) rfl rfl rfl (by intro h; rw [h] at hlen; simp at hlen; omega) (by omega) ?_)); conv => whnf)
    unfold joinR
    rw [if_pos hok]
    exact AFin.val rfl ⟨rfl, rfl⟩
end Go.Aw.VD

set_option linter.unusedSimpArgs false
set_option linter.unusedVariables false
set_option maxHeartbeats 4000000
namespace Go.Aw.VD
open Go Go.Proofs
abbrev FR := (Nat × Nat × ByteArray) × Int × Int
def fE (c : Int) : FR := ((0, 0, e0), 0, c)
def fget3 (t : List UInt8) (a e q n : Nat) : FR :=
  if (unsealF (ofL (t.take (n + 20)))).2 ≠ 0 then fE (unsealF (ofL (t.take (n + 20)))).2 else if ¬ all0 (ofL (t.drop (n + 20))) then fE 5 else
  ((e, q, (unsealF (ofL (t.take (n + 20)))).1.extract 16 (unsealF (ofL (t.take (n + 20)))).1.size), (a + pcs n : Nat), 0)
def fget2 (s : ByteArray) (a e q n : Nat) : FR :=
  if mayF e q n ≠ 0 then fE (mayF e q n) else if s.size / 64 < a + pcs n then fE 4 else
  if ¬ okL (s.data.toList.drop (64 * a)) (pcs n) then fE 5 else fget3 (joinL (s.data.toList.drop (64 * a)) (pcs n)) a e q n
def fget1 (s : ByteArray) (a : Nat) : FR :=
  if s.data.toList[64 * a]? ≠ some 1 then fE 5 else if 9223372036854775807 < getV s (64 * a + 1) 8 then fE 8 else
  fget2 s a (getV s (64 * a + 1) 8) (getV s (64 * a + 9) 4) (getV s (64 * a + 13) 4)
def fgetF (s : ByteArray) (at_ : Int) : FR :=
  if at_ < 0 ∨ s.size % 64 ≠ 0 ∨ (s.size / 64 : Nat) < at_ then fE 2 else if at_ = (s.size / 64 : Nat) then fE 4 else fget1 s at_.toNat
def fgetR (x : FR) : AV := .tup [frA x.1.1 x.1.2.1 x.1.2.2, nV x.2.1, nV x.2.2]
theorem bytesAt_ext (s : ByteArray) (a b o w : Nat) (h : a + o + w ≤ b) : bytesAt (s.extract a b) o w = bytesAt s (a + o) w := by
  unfold bytesAt
  rw [ext_list, List.drop_take, List.take_take, List.drop_drop, Nat.min_eq_left (by omega)]
theorem getV_ext (s : ByteArray) (a b o w : Nat) (h : a + o + w ≤ b) : getV (s.extract a b) o w = getV s (a + o) w := by
  unfold getV; rw [bytesAt_ext s a b o w h]
theorem tmod64 (m : Nat) : ((m : Int)).tmod 64 = ((m % 64 : Nat) : Int) := rfl
theorem ofL_ext (s : ByteArray) (a b : Nat) : s.extract a b = ofL ((s.data.toList.drop a).take (b - a)) := by
  apply list_inj; rw [ext_list, ofL_list]
theorem joinR_take (l : List UInt8) (k : Nat) : joinR (l.take (64 * k)) k = joinR l k := by
  have h1 : okL (l.take (64 * k)) k ↔ okL l k := by
    unfold okL
    constructor <;> (intro h i hi; have := h i hi; rw [List.getElem?_take_of_lt (by omega)] at *; exact this)
  have h2 : joinL (l.take (64 * k)) k = joinL l k := by
    unfold joinL
    rw [List.flatMap_def, List.flatMap_def]
    congr 1
    apply List.map_congr_left
    intro i hi
    rw [List.mem_range] at hi
    unfold joinP
    rw [List.drop_take, List.take_take, Nat.min_eq_left (by omega)]
  unfold joinR
  rw [h2]
  by_cases h : okL l k
  · rw [if_pos (h1.2 h), if_pos h]
  · rw [if_neg (fun hc => h (h1.1 hc)), if_neg h]
theorem f66 (s : ByteArray) (at_ : Int) (hs : s.size ≤ 1000000) (hat : at_ ≤ 9223372036854775807) : Fun P 66 [sV s, nV at_] (fgetR (fgetF s at_)) := by
  refine spec_of hT (f := 66) (fn := Go.Proofs.Tryz.f66) (c := body Go.Proofs.Tryz.f66) (by kernel_rfl) (by kernel_rfl) ?_
  unfold fgetF
  conv => whnf
  repeat ((first | refine AO.cons hT ?_ | refine AO.nil ?_ | refine AW.seq ?_ | refine AW.region ?_ | refine AW.cond ?_ | refine AW.block ?_ | refine AW.loop ?_ | refine AW.skip ?_ | refine AW.exit ?_ | refine AW.ret ?_ | refine AW.label ?_ | refine AW.scope ?_ | refine AF.one hT rfl ?_ | refine AF.nil ?_ | refine AF.imm hT rfl rfl rfl ?_ | refine AH.of hT rfl ?_ | refine AD.cons hT rfl ?_ | refine AD.nil ?_ | refine AQ.cons hT rfl ?_ | refine AQ.nil ?_ | (refine AReq.mk (by decide) ?_)); conv => whnf)
  rw [quo64, wrap_i64 ((s.size / 64 : Nat) : Int) (by omega) (by omega)]
  refine ASplit.dec (fun h1 => ?_) (fun h1 => ?_)
  · rw [if_pos (.inl h1)]
    conv => whnf
    repeat (first | (refine AW.label ?_; conv => whnf) | (refine AW.scope ?_; conv => whnf) | (refine AO.cons hT ?_; conv => whnf) | (refine AO.nil ?_; conv => whnf) | (refine AW.seq ?_; conv => whnf) | (refine AW.region ?_; conv => whnf) | (refine AW.cond ?_; conv => whnf) | (refine AW.block ?_; conv => whnf) | (refine AW.loop ?_; conv => whnf) | (refine AW.skip ?_; conv => whnf) | (refine AW.exit ?_; conv => whnf) | (refine AW.ret ?_; conv => whnf) | (refine AF.one hT rfl ?_; conv => whnf) | (refine AF.nil ?_; conv => whnf) | (refine AF.imm hT rfl rfl rfl ?_; conv => whnf) | (refine AH.of hT rfl ?_; conv => whnf) | (refine ASplit.yes rfl ?_; conv => whnf) | (refine ACond.yes rfl ?_; conv => whnf) | (refine ASplit.no rfl ?_; conv => whnf) | (refine ACond.no rfl ?_; conv => whnf) | (refine ASplit.yes (by decide) ?_; conv => whnf) | (refine ACond.yes (by decide) ?_; conv => whnf) | (refine AReq.mk (by decide) ?_; conv => whnf) | (refine AIdx.iff.2 ⟨by decide, ?_⟩; conv => whnf) | (refine AReq.mk (by decide) ?_; conv => whnf))
    exact AFin.val rfl ⟨rfl, rfl⟩
  conv => whnf
  repeat ((first | refine AO.cons hT ?_ | refine AO.nil ?_ | refine AW.seq ?_ | refine AW.region ?_ | refine AW.cond ?_ | refine AW.block ?_ | refine AW.loop ?_ | refine AW.skip ?_ | refine AW.exit ?_ | refine AW.ret ?_ | refine AW.label ?_ | refine AW.scope ?_ | refine AF.one hT rfl ?_ | refine AF.nil ?_ | refine AF.imm hT rfl rfl rfl ?_ | refine AH.of hT rfl ?_ | refine AD.cons hT rfl ?_ | refine AD.nil ?_ | refine AQ.cons hT rfl ?_ | refine AQ.nil ?_ | (refine AReq.mk (by decide) ?_)); conv => whnf)
  rw [tmod64]
  refine ASplit.ndec (fun h2 => ?_) (fun h2 => ?_)
  · rw [if_pos (.inr (.inl (by omega)))]
    conv => whnf
    repeat (first | (refine AW.label ?_; conv => whnf) | (refine AW.scope ?_; conv => whnf) | (refine AO.cons hT ?_; conv => whnf) | (refine AO.nil ?_; conv => whnf) | (refine AW.seq ?_; conv => whnf) | (refine AW.region ?_; conv => whnf) | (refine AW.cond ?_; conv => whnf) | (refine AW.block ?_; conv => whnf) | (refine AW.loop ?_; conv => whnf) | (refine AW.skip ?_; conv => whnf) | (refine AW.exit ?_; conv => whnf) | (refine AW.ret ?_; conv => whnf) | (refine AF.one hT rfl ?_; conv => whnf) | (refine AF.nil ?_; conv => whnf) | (refine AF.imm hT rfl rfl rfl ?_; conv => whnf) | (refine AH.of hT rfl ?_; conv => whnf) | (refine ASplit.yes rfl ?_; conv => whnf) | (refine ACond.yes rfl ?_; conv => whnf) | (refine ASplit.no rfl ?_; conv => whnf) | (refine ACond.no rfl ?_; conv => whnf) | (refine ASplit.yes (by decide) ?_; conv => whnf) | (refine ACond.yes (by decide) ?_; conv => whnf) | (refine AReq.mk (by decide) ?_; conv => whnf) | (refine AIdx.iff.2 ⟨by decide, ?_⟩; conv => whnf) | (refine AReq.mk (by decide) ?_; conv => whnf))
    exact AFin.val rfl ⟨rfl, rfl⟩
  conv => whnf
  repeat ((first | refine AO.cons hT ?_ | refine AO.nil ?_ | refine AW.seq ?_ | refine AW.region ?_ | refine AW.cond ?_ | refine AW.block ?_ | refine AW.loop ?_ | refine AW.skip ?_ | refine AW.exit ?_ | refine AW.ret ?_ | refine AW.label ?_ | refine AW.scope ?_ | refine AF.one hT rfl ?_ | refine AF.nil ?_ | refine AF.imm hT rfl rfl rfl ?_ | refine AH.of hT rfl ?_ | refine AD.cons hT rfl ?_ | refine AD.nil ?_ | refine AQ.cons hT rfl ?_ | refine AQ.nil ?_ | (refine AReq.mk (by decide) ?_)); conv => whnf)
  refine ACond.dec (fun h3 => ?_) (fun h3 => ?_)
  · rw [if_pos (.inr (.inr h3))]
    conv => whnf
    repeat ((first | refine AO.cons hT ?_ | refine AO.nil ?_ | refine AW.seq ?_ | refine AW.region ?_ | refine AW.cond ?_ | refine AW.block ?_ | refine AW.loop ?_ | refine AW.skip ?_ | refine AW.exit ?_ | refine AW.ret ?_ | refine AW.label ?_ | refine AW.scope ?_ | refine AF.one hT rfl ?_ | refine AF.nil ?_ | refine AF.imm hT rfl rfl rfl ?_ | refine AH.of hT rfl ?_ | refine AD.cons hT rfl ?_ | refine AD.nil ?_ | refine AQ.cons hT rfl ?_ | refine AQ.nil ?_ | (refine AReq.mk (by decide) ?_)); conv => whnf)
    exact AFin.val rfl ⟨rfl, rfl⟩
  rw [if_neg (show ¬ (at_ < 0 ∨ s.size % 64 ≠ 0 ∨ ((s.size / 64 : Nat) : Int) < at_) by omega)]
  conv => whnf
  repeat ((first | refine AO.cons hT ?_ | refine AO.nil ?_ | refine AW.seq ?_ | refine AW.region ?_ | refine AW.cond ?_ | refine AW.block ?_ | refine AW.loop ?_ | refine AW.skip ?_ | refine AW.exit ?_ | refine AW.ret ?_ | refine AW.label ?_ | refine AW.scope ?_ | refine AF.one hT rfl ?_ | refine AF.nil ?_ | refine AF.imm hT rfl rfl rfl ?_ | refine AH.of hT rfl ?_ | refine AD.cons hT rfl ?_ | refine AD.nil ?_ | refine AQ.cons hT rfl ?_ | refine AQ.nil ?_ | (refine AReq.mk (by decide) ?_)); conv => whnf)
  refine ACond.dec (fun h4 => ?_) (fun h4 => ?_)
  · rw [if_pos h4]
    conv => whnf
    repeat ((first | refine AO.cons hT ?_ | refine AO.nil ?_ | refine AW.seq ?_ | refine AW.region ?_ | refine AW.cond ?_ | refine AW.block ?_ | refine AW.loop ?_ | refine AW.skip ?_ | refine AW.exit ?_ | refine AW.ret ?_ | refine AW.label ?_ | refine AW.scope ?_ | refine AF.one hT rfl ?_ | refine AF.nil ?_ | refine AF.imm hT rfl rfl rfl ?_ | refine AH.of hT rfl ?_ | refine AD.cons hT rfl ?_ | refine AD.nil ?_ | refine AQ.cons hT rfl ?_ | refine AQ.nil ?_ | (refine AReq.mk (by decide) ?_)); conv => whnf)
    exact AFin.val rfl ⟨rfl, rfl⟩
  rw [if_neg h4]
  obtain ⟨a, rfl⟩ : ∃ a : Nat, at_ = a := ⟨at_.toNat, by omega⟩
  rw [show Int.toNat (a : Int) = a from rfl]
  unfold fget1
  have hsz : 64 * (a + 1) ≤ s.size := by omega
  conv => whnf
  repeat ((first | refine AO.cons hT ?_ | refine AO.nil ?_ | refine AW.seq ?_ | refine AW.region ?_ | refine AW.cond ?_ | refine AW.block ?_ | refine AW.loop ?_ | refine AW.skip ?_ | refine AW.exit ?_ | refine AW.ret ?_ | refine AW.label ?_ | refine AW.scope ?_ | refine AF.one hT rfl ?_ | refine AF.nil ?_ | refine AF.imm hT rfl rfl rfl ?_ | refine AH.of hT rfl ?_ | refine AD.cons hT rfl ?_ | refine AD.nil ?_ | refine AQ.cons hT rfl ?_ | refine AQ.nil ?_); conv => whnf)
  rw [wrap_i64 ((a : Int) * 64) (by omega) (by omega)]
  refine AReq.mk (by omega) ?_
  have hS : s.extract (Int.toNat ((a : Int) * 64)) s.size = s.extract (64 * a) s.size := by
    rw [show Int.toNat ((a : Int) * 64) = 64 * a by omega]
  conv => whnf
  repeat ((first | refine AO.cons hT ?_ | refine AO.nil ?_ | refine AW.seq ?_ | refine AW.region ?_ | refine AW.cond ?_ | refine AW.block ?_ | refine AW.loop ?_ | refine AW.skip ?_ | refine AW.exit ?_ | refine AW.ret ?_ | refine AW.label ?_ | refine AW.scope ?_ | refine AF.one hT rfl ?_ | refine AF.nil ?_ | refine AF.imm hT rfl rfl rfl ?_ | refine AH.of hT rfl ?_ | refine AD.cons hT rfl ?_ | refine AD.nil ?_ | refine AQ.cons hT rfl ?_ | refine AQ.nil ?_); conv => whnf)
  rw [hS]
  have hSs := size_extract s (64 * a) s.size
  have hSl := ext_list s (64 * a) s.size
  rw [List.take_of_length_le (by rw [List.length_drop, size_list]; omega)] at hSl
  have hgv : ∀ o w, 64 * a + o + w ≤ s.size → getV (s.extract (64 * a) s.size) o w = getV s (64 * a + o) w := fun o w h => getV_ext s _ _ o w h
  generalize s.extract (64 * a) s.size = S at *
  refine AReq.mk (by omega) ?_
  have hbt := bt_eq S 0 (by omega) 1
  rw [hSl, List.getElem?_drop, Nat.add_zero] at hbt
  conv => whnf
  repeat ((first | refine AO.cons hT ?_ | refine AO.nil ?_ | refine AW.seq ?_ | refine AW.region ?_ | refine AW.cond ?_ | refine AW.block ?_ | refine AW.loop ?_ | refine AW.skip ?_ | refine AW.exit ?_ | refine AW.ret ?_ | refine AW.label ?_ | refine AW.scope ?_ | refine AF.one hT rfl ?_ | refine AF.nil ?_ | refine AF.imm hT rfl rfl rfl ?_ | refine AH.of hT rfl ?_ | refine AD.cons hT rfl ?_ | refine AD.nil ?_ | refine AQ.cons hT rfl ?_ | refine AQ.nil ?_); conv => whnf)
  refine ACond.ndec (fun h5 => ?_) (fun h5 => ?_)
  · rw [if_pos (fun hc => h5 (hbt.2 hc))]
    conv => whnf
    repeat ((first | refine AO.cons hT ?_ | refine AO.nil ?_ | refine AW.seq ?_ | refine AW.region ?_ | refine AW.cond ?_ | refine AW.block ?_ | refine AW.loop ?_ | refine AW.skip ?_ | refine AW.exit ?_ | refine AW.ret ?_ | refine AW.label ?_ | refine AW.scope ?_ | refine AF.one hT rfl ?_ | refine AF.nil ?_ | refine AF.imm hT rfl rfl rfl ?_ | refine AH.of hT rfl ?_ | refine AD.cons hT rfl ?_ | refine AD.nil ?_ | refine AQ.cons hT rfl ?_ | refine AQ.nil ?_); conv => whnf)
    exact AFin.val rfl ⟨rfl, rfl⟩
  rw [if_neg (fun hc => hc (hbt.1 h5))]
  conv => whnf
  repeat ((first | refine AO.cons hT ?_ | refine AO.nil ?_ | refine AW.seq ?_ | refine AW.region ?_ | refine AW.cond ?_ | refine AW.block ?_ | refine AW.loop ?_ | refine AW.skip ?_ | refine AW.exit ?_ | refine AW.ret ?_ | refine AW.label ?_ | refine AW.scope ?_ | refine AF.one hT rfl ?_ | refine AF.nil ?_ | refine AF.imm hT rfl rfl rfl ?_ | refine AH.of hT rfl ?_ | refine AD.cons hT rfl ?_ | refine AD.nil ?_ | refine AQ.cons hT rfl ?_ | refine AQ.nil ?_); conv => whnf)
  refine AReq.mk (by omega) ?_
  have hx := size_extract S 1 64
  have h37 := f85 (S.extract 1 64) (by omega) (by omega)
  unfold numR at h37
  rw [getV_ext S 1 64 0 8 (by omega), getV_ext S 1 64 (0 + 8) 4 (by omega), getV_ext S 1 64 (0 + 12) 4 (by omega), hgv _ _ (by omega), hgv _ _ (by omega), hgv _ _ (by omega)] at h37
  rw [show 64 * a + (1 + 0) = 64 * a + 1 by omega, show 64 * a + (1 + (0 + 8)) = 64 * a + 9 by omega, show 64 * a + (1 + (0 + 12)) = 64 * a + 13 by omega] at h37
  by_cases h6 : 9223372036854775807 < getV s (64 * a + 1) 8
  · rw [if_pos h6] at h37 ⊢
    conv => whnf
    repeat ((first | refine AO.cons hT ?_ | refine AO.nil ?_ | refine AW.seq ?_ | refine AW.region ?_ | refine AW.cond ?_ | refine AW.block ?_ | refine AW.loop ?_ | refine AW.skip ?_ | refine AW.exit ?_ | refine AW.ret ?_ | refine AW.label ?_ | refine AW.scope ?_ | refine AF.one hT rfl ?_ | refine AF.nil ?_ | refine AF.imm hT rfl rfl rfl ?_ | refine AH.of hT rfl ?_ | refine AD.cons hT rfl ?_ | refine AD.nil ?_ | refine AQ.cons hT rfl ?_ | refine AQ.nil ?_ | (refine ACall.val (by kernel_rfl) h37 rfl rfl ?_) | (refine ACond.yes rfl ?_)); conv => whnf)
    exact AFin.val rfl ⟨rfl, rfl⟩
  rw [if_neg h6] at h37 ⊢
  unfold fget2
  have hn4 := getV4_lt s (64 * a + 13)
  generalize getV s (64 * a + 1) 8 = e at *
  generalize getV s (64 * a + 9) 4 = q at *
  generalize getV s (64 * a + 13) 4 = n at *
  have hmv : mayF e q n ≤ 3 := by unfold mayF; split; decide; split; decide; decide
  conv => whnf
  repeat ((first | refine AO.cons hT ?_ | refine AO.nil ?_ | refine AW.seq ?_ | refine AW.region ?_ | refine AW.cond ?_ | refine AW.block ?_ | refine AW.loop ?_ | refine AW.skip ?_ | refine AW.exit ?_ | refine AW.ret ?_ | refine AW.label ?_ | refine AW.scope ?_ | refine AF.one hT rfl ?_ | refine AF.nil ?_ | refine AF.imm hT rfl rfl rfl ?_ | refine AH.of hT rfl ?_ | refine AD.cons hT rfl ?_ | refine AD.nil ?_ | refine AQ.cons hT rfl ?_ | refine AQ.nil ?_ | (refine ACall.val (by kernel_rfl) h37 rfl rfl ?_)); conv => whnf)
  refine ACond.ndec (fun h7 => ?_) (fun h7 => ?_)
  · rw [if_pos h7]
    conv => whnf
    repeat ((first | refine AO.cons hT ?_ | refine AO.nil ?_ | refine AW.seq ?_ | refine AW.region ?_ | refine AW.cond ?_ | refine AW.block ?_ | refine AW.loop ?_ | refine AW.skip ?_ | refine AW.exit ?_ | refine AW.ret ?_ | refine AW.label ?_ | refine AW.scope ?_ | refine AF.one hT rfl ?_ | refine AF.nil ?_ | refine AF.imm hT rfl rfl rfl ?_ | refine AH.of hT rfl ?_ | refine AD.cons hT rfl ?_ | refine AD.nil ?_ | refine AQ.cons hT rfl ?_ | refine AQ.nil ?_ | (refine ACall.val (by kernel_rfl) h37 rfl rfl ?_)); conv => whnf)
    exact AFin.val rfl ⟨rfl, rfl⟩
  rw [if_neg (by simpa using h7)]
  have hmy := mayF_ok h7
  have h38 := f50 n (by omega)
  have hpb : n + 20 ≤ 63 * pcs n ∧ 1 ≤ pcs n ∧ pcs n ≤ 49 := by unfold pcs; omega
  generalize hk : pcs n = k at *
  conv => whnf
  repeat ((first | refine AO.cons hT ?_ | refine AO.nil ?_ | refine AW.seq ?_ | refine AW.region ?_ | refine AW.cond ?_ | refine AW.block ?_ | refine AW.loop ?_ | refine AW.skip ?_ | refine AW.exit ?_ | refine AW.ret ?_ | refine AW.label ?_ | refine AW.scope ?_ | refine AF.one hT rfl ?_ | refine AF.nil ?_ | refine AF.imm hT rfl rfl rfl ?_ | refine AH.of hT rfl ?_ | refine AD.cons hT rfl ?_ | refine AD.nil ?_ | refine AQ.cons hT rfl ?_ | refine AQ.nil ?_ | (refine ACall.val (by kernel_rfl) h38 rfl rfl ?_)); conv => whnf)
  rw [wrap_i64 (((s.size / 64 : Nat) : Int) - (a : Int)) (by omega) (by omega)]
  refine ACond.dec (fun h8 => ?_) (fun h8 => ?_)
  · rw [if_pos (by omega)]
    conv => whnf
    repeat ((first | refine AO.cons hT ?_ | refine AO.nil ?_ | refine AW.seq ?_ | refine AW.region ?_ | refine AW.cond ?_ | refine AW.block ?_ | refine AW.loop ?_ | refine AW.skip ?_ | refine AW.exit ?_ | refine AW.ret ?_ | refine AW.label ?_ | refine AW.scope ?_ | refine AF.one hT rfl ?_ | refine AF.nil ?_ | refine AF.imm hT rfl rfl rfl ?_ | refine AH.of hT rfl ?_ | refine AD.cons hT rfl ?_ | refine AD.nil ?_ | refine AQ.cons hT rfl ?_ | refine AQ.nil ?_ | (refine ACall.val (by kernel_rfl) h38 rfl rfl ?_)); conv => whnf)
    exact AFin.val rfl ⟨rfl, rfl⟩
  rw [if_neg (by omega)]
  conv => whnf
  repeat ((first | refine AO.cons hT ?_ | refine AO.nil ?_ | refine AW.seq ?_ | refine AW.region ?_ | refine AW.cond ?_ | refine AW.block ?_ | refine AW.loop ?_ | refine AW.skip ?_ | refine AW.exit ?_ | refine AW.ret ?_ | refine AW.label ?_ | refine AW.scope ?_ | refine AF.one hT rfl ?_ | refine AF.nil ?_ | refine AF.imm hT rfl rfl rfl ?_ | refine AH.of hT rfl ?_ | refine AD.cons hT rfl ?_ | refine AD.nil ?_ | refine AQ.cons hT rfl ?_ | refine AQ.nil ?_ | (refine ACall.val (by kernel_rfl) h38 rfl rfl ?_)); conv => whnf)
  rw [wrap_i64 ((k : Int) * 64) (by omega) (by omega)]
  refine AReq.mk (by omega) ?_
  rw [show Int.toNat ((k : Int) * 64) = 64 * k by omega]
  have hx2 := size_extract S 0 (64 * k)
  have h39 := f86 (S.extract 0 (64 * k)) k (by omega) (by omega) (by omega)
  rw [ext_list, List.drop_zero, Nat.sub_zero, joinR_take, hSl] at h39
  have hjl := joinL_len (s.data.toList.drop (64 * a)) k (by rw [List.length_drop, size_list]; omega) k (by omega)
  unfold joinR at h39
  by_cases h9 : okL (s.data.toList.drop (64 * a)) k
  · rw [if_pos h9] at h39
    rw [if_neg (fun hc => hc h9)]
    generalize joinL (s.data.toList.drop (64 * a)) k = t at *
    unfold fget3
    conv => whnf
    repeat ((first | refine AO.cons hT ?_ | refine AO.nil ?_ | refine AW.seq ?_ | refine AW.region ?_ | refine AW.cond ?_ | refine AW.block ?_ | refine AW.loop ?_ | refine AW.skip ?_ | refine AW.exit ?_ | refine AW.ret ?_ | refine AW.label ?_ | refine AW.scope ?_ | refine AF.one hT rfl ?_ | refine AF.nil ?_ | refine AF.imm hT rfl rfl rfl ?_ | refine AH.of hT rfl ?_ | refine AD.cons hT rfl ?_ | refine AD.nil ?_ | refine AQ.cons hT rfl ?_ | refine AQ.nil ?_ | (refine ACall.val (by kernel_rfl) h38 rfl rfl ?_) | (refine ACall.val (by kernel_rfl) h39 rfl rfl ?_)); conv => whnf)
    refine ACond.no rfl ?_
    conv => whnf
    repeat ((first | refine AO.cons hT ?_ | refine AO.nil ?_ | refine AW.seq ?_ | refine AW.region ?_ | refine AW.cond ?_ | refine AW.block ?_ | refine AW.loop ?_ | refine AW.skip ?_ | refine AW.exit ?_ | refine AW.ret ?_ | refine AW.label ?_ | refine AW.scope ?_ | refine AF.one hT rfl ?_ | refine AF.nil ?_ | refine AF.imm hT rfl rfl rfl ?_ | refine AH.of hT rfl ?_ | refine AD.cons hT rfl ?_ | refine AD.nil ?_ | refine AQ.cons hT rfl ?_ | refine AQ.nil ?_); conv => whnf)
    rw [wrap_i64 (16 + (n : Int)) (by omega) (by omega), wrap_i64 (16 + (n : Int) + 4) (by omega) (by omega)]
    refine AReq.mk ⟨by omega, by show _ ≤ ((ofL t).size : Int); rw [size_ofL]; omega⟩ ?_
    have e1 : (ofL t).extract 0 (Int.toNat (16 + (n : Int) + 4)) = ofL (t.take (n + 20)) := by
      rw [ofL_ext, ofL_list, List.drop_zero, Nat.sub_zero, show Int.toNat (16 + (n : Int) + 4) = n + 20 by omega]
    have e2 : (ofL t).extract (Int.toNat (16 + (n : Int) + 4)) (ofL t).size = ofL (t.drop (n + 20)) := by
      rw [ofL_ext, ofL_list, show Int.toNat (16 + (n : Int) + 4) = n + 20 by omega, List.take_of_length_le (by rw [size_ofL, List.length_drop]; omega)]
    have z1 : (ofL (t.take (n + 20))).size = n + 20 := by rw [size_ofL, List.length_take]; omega
    have z2 : (ofL (t.drop (n + 20))).size ≤ 10000 := by rw [size_ofL, List.length_drop]; omega
    conv => whnf
    repeat ((first | refine AO.cons hT ?_ | refine AO.nil ?_ | refine AW.seq ?_ | refine AW.region ?_ | refine AW.cond ?_ | refine AW.block ?_ | refine AW.loop ?_ | refine AW.skip ?_ | refine AW.exit ?_ | refine AW.ret ?_ | refine AW.label ?_ | refine AW.scope ?_ | refine AF.one hT rfl ?_ | refine AF.nil ?_ | refine AF.imm hT rfl rfl rfl ?_ | refine AH.of hT rfl ?_ | refine AD.cons hT rfl ?_ | refine AD.nil ?_ | refine AQ.cons hT rfl ?_ | refine AQ.nil ?_); conv => whnf)
    rw [e1]
    have hus := @unseal_size (ofL (t.take (n + 20)))
    refine ACall.val (by kernel_rfl) (f87 _ (by omega)) rfl rfl ?_
    generalize unsealF (ofL (t.take (n + 20))) = x at *
    conv => whnf
    repeat ((first | refine AO.cons hT ?_ | refine AO.nil ?_ | refine AW.seq ?_ | refine AW.region ?_ | refine AW.cond ?_ | refine AW.block ?_ | refine AW.loop ?_ | refine AW.skip ?_ | refine AW.exit ?_ | refine AW.ret ?_ | refine AW.label ?_ | refine AW.scope ?_ | refine AF.one hT rfl ?_ | refine AF.nil ?_ | refine AF.imm hT rfl rfl rfl ?_ | refine AH.of hT rfl ?_ | refine AD.cons hT rfl ?_ | refine AD.nil ?_ | refine AQ.cons hT rfl ?_ | refine AQ.nil ?_); conv => whnf)
    refine ACond.ndec (fun h10 => ?_) (fun h10 => ?_)
    · rw [if_pos h10]
      conv => whnf
      repeat ((first | refine AO.cons hT ?_ | refine AO.nil ?_ | refine AW.seq ?_ | refine AW.region ?_ | refine AW.cond ?_ | refine AW.block ?_ | refine AW.loop ?_ | refine AW.skip ?_ | refine AW.exit ?_ | refine AW.ret ?_ | refine AW.label ?_ | refine AW.scope ?_ | refine AF.one hT rfl ?_ | refine AF.nil ?_ | refine AF.imm hT rfl rfl rfl ?_ | refine AH.of hT rfl ?_ | refine AD.cons hT rfl ?_ | refine AD.nil ?_ | refine AQ.cons hT rfl ?_ | refine AQ.nil ?_); conv => whnf)
      exact AFin.val rfl ⟨rfl, rfl⟩
    rw [if_neg (by simpa using h10)]
    have hus := hus h10
    conv => whnf
    repeat ((first | refine AO.cons hT ?_ | refine AO.nil ?_ | refine AW.seq ?_ | refine AW.region ?_ | refine AW.cond ?_ | refine AW.block ?_ | refine AW.loop ?_ | refine AW.skip ?_ | refine AW.exit ?_ | refine AW.ret ?_ | refine AW.label ?_ | refine AW.scope ?_ | refine AF.one hT rfl ?_ | refine AF.nil ?_ | refine AF.imm hT rfl rfl rfl ?_ | refine AH.of hT rfl ?_ | refine AD.cons hT rfl ?_ | refine AD.nil ?_ | refine AQ.cons hT rfl ?_ | refine AQ.nil ?_); conv => whnf)
    rw [wrap_i64 (16 + (n : Int)) (by omega) (by omega), wrap_i64 (16 + (n : Int) + 4) (by omega) (by omega)]
    refine AReq.mk ⟨by omega, by show _ ≤ ((ofL t).size : Int); rw [size_ofL]; omega⟩ ?_
    conv => whnf
    repeat ((first | refine AO.cons hT ?_ | refine AO.nil ?_ | refine AW.seq ?_ | refine AW.region ?_ | refine AW.cond ?_ | refine AW.block ?_ | refine AW.loop ?_ | refine AW.skip ?_ | refine AW.exit ?_ | refine AW.ret ?_ | refine AW.label ?_ | refine AW.scope ?_ | refine AF.one hT rfl ?_ | refine AF.nil ?_ | refine AF.imm hT rfl rfl rfl ?_ | refine AH.of hT rfl ?_ | refine AD.cons hT rfl ?_ | refine AD.nil ?_ | refine AQ.cons hT rfl ?_ | refine AQ.nil ?_); conv => whnf)
    rw [e2]
    refine ACall.out (by kernel_rfl) (f88 _ (by omega)) rfl ?_
    rintro _ ⟨r, rfl, hr⟩
    conv => whnf
    repeat ((first | refine AO.cons hT ?_ | refine AO.nil ?_ | refine AW.seq ?_ | refine AW.region ?_ | refine AW.cond ?_ | refine AW.block ?_ | refine AW.loop ?_ | refine AW.skip ?_ | refine AW.exit ?_ | refine AW.ret ?_ | refine AW.label ?_ | refine AW.scope ?_ | refine AF.one hT rfl ?_ | refine AF.nil ?_ | refine AF.imm hT rfl rfl rfl ?_ | refine AH.of hT rfl ?_ | refine AD.cons hT rfl ?_ | refine AD.nil ?_ | refine AQ.cons hT rfl ?_ | refine AQ.nil ?_); conv => whnf)
    rw [str_eq]
    refine ACond.ndec (fun h11 => ?_) (fun h11 => ?_)
    · conv => whnf
      repeat ((first | refine AO.cons hT ?_ | refine AO.nil ?_ | refine AW.seq ?_ | refine AW.region ?_ | refine AW.cond ?_ | refine AW.block ?_ | refine AW.loop ?_ | refine AW.skip ?_ | refine AW.exit ?_ | refine AW.ret ?_ | refine AW.label ?_ | refine AW.scope ?_ | refine AF.one hT rfl ?_ | refine AF.nil ?_ | refine AF.imm hT rfl rfl rfl ?_ | refine AH.of hT rfl ?_ | refine AD.cons hT rfl ?_ | refine AD.nil ?_ | refine AQ.cons hT rfl ?_ | refine AQ.nil ?_); conv => whnf)
      rw [if_pos (fun hc => h11 (hr.2 hc))]
      exact AFin.val rfl ⟨rfl, rfl⟩
    rw [if_neg (fun hc => hc (hr.1 h11))]
    conv => whnf
    repeat ((first | refine AO.cons hT ?_ | refine AO.nil ?_ | refine AW.seq ?_ | refine AW.region ?_ | refine AW.cond ?_ | refine AW.block ?_ | refine AW.loop ?_ | refine AW.skip ?_ | refine AW.exit ?_ | refine AW.ret ?_ | refine AW.label ?_ | refine AW.scope ?_ | refine AF.one hT rfl ?_ | refine AF.nil ?_ | refine AF.imm hT rfl rfl rfl ?_ | refine AH.of hT rfl ?_ | refine AD.cons hT rfl ?_ | refine AD.nil ?_ | refine AQ.cons hT rfl ?_ | refine AQ.nil ?_); conv => whnf)
    refine AReq.mk (by omega) ?_
    conv => whnf
    repeat ((first | refine AO.cons hT ?_ | refine AO.nil ?_ | refine AW.seq ?_ | refine AW.region ?_ | refine AW.cond ?_ | refine AW.block ?_ | refine AW.loop ?_ | refine AW.skip ?_ | refine AW.exit ?_ | refine AW.ret ?_ | refine AW.label ?_ | refine AW.scope ?_ | refine AF.one hT rfl ?_ | refine AF.nil ?_ | refine AF.imm hT rfl rfl rfl ?_ | refine AH.of hT rfl ?_ | refine AD.cons hT rfl ?_ | refine AD.nil ?_ | refine AQ.cons hT rfl ?_ | refine AQ.nil ?_); conv => whnf)
    refine AW.plan hm (.one 1 (.one 2 (.fork 0 (.one 3 (.one 4 .nil)) 3 (.one 4 (.one 0 .nil)) (.one 5 (.one 6 (.one 7 .nil)))))) (by kernel_rfl) ?_
    conv => whnf
    repeat ((first | refine AO.cons hT ?_ | refine AO.nil ?_ | refine AW.seq ?_ | refine AW.region ?_ | refine AW.cond ?_ | refine AW.block ?_ | refine AW.loop ?_ | refine AW.skip ?_ | refine AW.exit ?_ | refine AW.ret ?_ | refine AW.label ?_ | refine AW.scope ?_ | refine AF.one hT rfl ?_ | refine AF.nil ?_ | refine AF.imm hT rfl rfl rfl ?_ | refine AH.of hT rfl ?_ | refine AD.cons hT rfl ?_ | refine AD.nil ?_ | refine AQ.cons hT rfl ?_ | refine AQ.nil ?_ | (refine ACall.val (by kernel_rfl) h38 rfl rfl ?_)); conv => whnf)
    apply AF.forkE
    · conv => whnf
      repeat ((first | refine AO.cons hT ?_ | refine AO.nil ?_ | refine AW.seq ?_ | refine AW.region ?_ | refine AW.cond ?_ | refine AW.block ?_ | refine AW.loop ?_ | refine AW.skip ?_ | refine AW.exit ?_ | refine AW.ret ?_ | refine AW.label ?_ | refine AW.scope ?_ | refine AF.one hT rfl ?_ | refine AF.nil ?_ | refine AF.imm hT rfl rfl rfl ?_ | refine AH.of hT rfl ?_ | refine AD.cons hT rfl ?_ | refine AD.nil ?_ | refine AQ.cons hT rfl ?_ | refine AQ.nil ?_ | (refine ACall.val (by kernel_rfl) h38 rfl rfl ?_)); conv => whnf)
      exact ⟨rfl, rfl, rfl⟩
    · conv => whnf
      repeat ((first | refine AO.cons hT ?_ | refine AO.nil ?_ | refine AW.seq ?_ | refine AW.region ?_ | refine AW.cond ?_ | refine AW.block ?_ | refine AW.loop ?_ | refine AW.skip ?_ | refine AW.exit ?_ | refine AW.ret ?_ | refine AW.label ?_ | refine AW.scope ?_ | refine AF.one hT rfl ?_ | refine AF.nil ?_ | refine AF.imm hT rfl rfl rfl ?_ | refine AH.of hT rfl ?_ | refine AD.cons hT rfl ?_ | refine AD.nil ?_ | refine AQ.cons hT rfl ?_ | refine AQ.nil ?_ | (refine ACall.val (by kernel_rfl) h38 rfl rfl ?_)); conv => whnf)
      exact ⟨rfl, rfl, rfl⟩
    conv => whnf
    repeat ((first | refine AO.cons hT ?_ | refine AO.nil ?_ | refine AW.seq ?_ | refine AW.region ?_ | refine AW.cond ?_ | refine AW.block ?_ | refine AW.loop ?_ | refine AW.skip ?_ | refine AW.exit ?_ | refine AW.ret ?_ | refine AW.label ?_ | refine AW.scope ?_ | refine AF.one hT rfl ?_ | refine AF.nil ?_ | refine AF.imm hT rfl rfl rfl ?_ | refine AH.of hT rfl ?_ | refine AD.cons hT rfl ?_ | refine AD.nil ?_ | refine AQ.cons hT rfl ?_ | refine AQ.nil ?_ | (refine ACall.val (by kernel_rfl) h38 rfl rfl ?_)); conv => whnf)
    rw [wrap_i64 ((a : Int) + k) (by omega) (by omega)]
    exact AFin.val rfl ⟨by rw [hk]; rfl, rfl⟩
  · rw [if_neg h9] at h39
    rw [if_pos h9]
    conv => whnf
    repeat ((first | refine AO.cons hT ?_ | refine AO.nil ?_ | refine AW.seq ?_ | refine AW.region ?_ | refine AW.cond ?_ | refine AW.block ?_ | refine AW.loop ?_ | refine AW.skip ?_ | refine AW.exit ?_ | refine AW.ret ?_ | refine AW.label ?_ | refine AW.scope ?_ | refine AF.one hT rfl ?_ | refine AF.nil ?_ | refine AF.imm hT rfl rfl rfl ?_ | refine AH.of hT rfl ?_ | refine AD.cons hT rfl ?_ | refine AD.nil ?_ | refine AQ.cons hT rfl ?_ | refine AQ.nil ?_ | (refine ACall.val (by kernel_rfl) h38 rfl rfl ?_) | (refine ACall.val (by kernel_rfl) h39 rfl rfl ?_)); conv => whnf)
    refine ACond.yes rfl ?_
    conv => whnf
    repeat ((first | refine AO.cons hT ?_ | refine AO.nil ?_ | refine AW.seq ?_ | refine AW.region ?_ | refine AW.cond ?_ | refine AW.block ?_ | refine AW.loop ?_ | refine AW.skip ?_ | refine AW.exit ?_ | refine AW.ret ?_ | refine AW.label ?_ | refine AW.scope ?_ | refine AF.one hT rfl ?_ | refine AF.nil ?_ | refine AF.imm hT rfl rfl rfl ?_ | refine AH.of hT rfl ?_ | refine AD.cons hT rfl ?_ | refine AD.nil ?_ | refine AQ.cons hT rfl ?_ | refine AQ.nil ?_ | (refine ACall.val (by kernel_rfl) h38 rfl rfl ?_) | (refine ACall.val (by kernel_rfl) h39 rfl rfl ?_)); conv => whnf)
    exact AFin.val rfl ⟨rfl, rfl⟩
end Go.Aw.VD

set_option linter.unusedSimpArgs false
set_option linter.unusedVariables false
set_option maxHeartbeats 4000000
namespace Go.Aw.VD
open Go Go.Proofs
end Go.Aw.VD

