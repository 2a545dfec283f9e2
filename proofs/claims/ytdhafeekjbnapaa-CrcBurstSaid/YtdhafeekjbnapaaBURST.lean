/-
  CrcBurst: a sealed text that is changed within 32 bits is not unsealed, and as it is it is, no condition.
-/
import Derived.Test.YtdhafeekjbnapaaAwD
import Derived.Test.YtdhafeekjbnapaaProg
import Derived.KernelRfl
import Derived.Laws.Strings
import Derived.Test.YtdhafeekjbnapaaRows
set_option linter.unusedSimpArgs false
set_option linter.unusedVariables false
/-
  The types of this cut, in short.
-/
set_option linter.unusedSimpArgs false
set_option linter.unusedVariables false
namespace Go.Aw.R1
open Go

noncomputable def tbl : List (Nat × TI) := [(1, ⟨.fn, 1, 8, .v .nilFunc⟩),
  (2, ⟨.int .i64, 1, 8, .v (.int .i64 0)⟩),
  (3, ⟨.int .i64, 1, 8, .v (.int .i64 0)⟩),
  (4, ⟨.bool, 1, 1, .v (.bool false)⟩),
  (5, ⟨.int .u8, 1, 1, .v (.int .u8 0)⟩),
  (9, ⟨.str, 1, 16, .v (.string ⟨#[]⟩)⟩),
  (12, ⟨.int .u64, 1, 8, .v (.int .u64 0)⟩),
  (21, ⟨.int .i32, 1, 4, .v (.int .i32 0)⟩),
  (22, ⟨.int .u32, 1, 4, .v (.int .u32 0)⟩),
  (23, ⟨.fn, 1, 8, .v .nilFunc⟩),
  (24, ⟨.int .i64, 1, 8, .v (.int .i64 0)⟩),
  (26, ⟨.fn, 1, 8, .v .nilFunc⟩),
  (28, ⟨.fn, 1, 8, .v .nilFunc⟩),
  (29, ⟨.fn, 1, 8, .v .nilFunc⟩),
  (30, ⟨.fn, 1, 8, .v .nilFunc⟩),
  (31, ⟨.fn, 1, 8, .v .nilFunc⟩),
  (32, ⟨.fn, 1, 8, .v .nilFunc⟩),
  (34, ⟨.fn, 1, 8, .v .nilFunc⟩),
  (35, ⟨.fn, 1, 8, .v .nilFunc⟩),
  (36, ⟨.slice 5, 1, 24, .v (.slice none 0 0)⟩),
  (37, ⟨.int .u64, 1, 8, .v (.int .u64 0)⟩),
  (38, ⟨.fn, 1, 8, .v .nilFunc⟩),
  (39, ⟨.slice 41, 1, 24, .v (.slice none 0 0)⟩),
  (40, ⟨.struct [(0, false, 1), (1, false, 1), (2, false, 1)], 3, 24, .agg [.v (.bool false), .v (.int .i64 0), .v (.int .i64 0)]⟩),
  (41, ⟨.struct [(0, false, 1), (1, false, 1), (2, false, 1)], 3, 24, .agg [.v (.bool false), .v (.int .i64 0), .v (.int .i64 0)]⟩),
  (43, ⟨.fn, 1, 8, .v .nilFunc⟩),
  (45, ⟨.fn, 1, 8, .v .nilFunc⟩),
  (46, ⟨.fn, 1, 8, .v .nilFunc⟩),
  (47, ⟨.fn, 1, 8, .v .nilFunc⟩),
  (48, ⟨.fn, 1, 8, .v .nilFunc⟩),
  (49, ⟨.fn, 1, 8, .v .nilFunc⟩),
  (50, ⟨.fn, 1, 8, .v .nilFunc⟩),
  (51, ⟨.fn, 1, 8, .v .nilFunc⟩),
  (52, ⟨.slice 61, 1, 24, .v (.slice none 0 0)⟩),
  (54, ⟨.fn, 1, 8, .v .nilFunc⟩),
  (55, ⟨.slice 62, 1, 24, .v (.slice none 0 0)⟩),
  (57, ⟨.fn, 1, 8, .v .nilFunc⟩),
  (58, ⟨.fn, 1, 8, .v .nilFunc⟩),
  (59, ⟨.fn, 1, 8, .v .nilFunc⟩),
  (60, ⟨.fn, 1, 8, .v .nilFunc⟩),
  (61, ⟨.struct [(0, false, 1), (1, false, 1), (2, false, 1)], 3, 24, .agg [.v (.bool false), .v (.int .i64 0), .v (.int .i64 0)]⟩),
  (62, ⟨.struct [(0, false, 1), (1, false, 1), (2, false, 1)], 3, 24, .agg [.v (.bool false), .v (.int .i64 0), .v (.int .i64 0)]⟩),
  (63, ⟨.fn, 1, 8, .v .nilFunc⟩),
  (64, ⟨.fn, 1, 8, .v .nilFunc⟩),
  (65, ⟨.fn, 1, 8, .v .nilFunc⟩),
  (66, ⟨.fn, 1, 8, .v .nilFunc⟩),
  (67, ⟨.arr 32 22, 32, 128, .agg (List.replicate 32 (.v (.int .u32 0)))⟩),
  (68, ⟨.arr 32 22, 32, 128, .agg (List.replicate 32 (.v (.int .u32 0)))⟩),
  (69, ⟨.fn, 1, 8, .v .nilFunc⟩),
  (70, ⟨.fn, 1, 8, .v .nilFunc⟩),
  (71, ⟨.fn, 1, 8, .v .nilFunc⟩),
  (72, ⟨.map 76 3, 1, 8, .v (.map none)⟩),
  (74, ⟨.fn, 1, 8, .v .nilFunc⟩),
  (75, ⟨.struct [(0, false, 1), (1, false, 1)], 2, 16, .agg [.v (.bool false), .v (.int .i64 0)]⟩),
  (76, ⟨.struct [(0, false, 1), (1, false, 1)], 2, 16, .agg [.v (.bool false), .v (.int .i64 0)]⟩),
  (77, ⟨.fn, 1, 8, .v .nilFunc⟩),
  (78, ⟨.fn, 1, 8, .v .nilFunc⟩),
  (79, ⟨.fn, 1, 8, .v .nilFunc⟩),
  (80, ⟨.fn, 1, 8, .v .nilFunc⟩),
  (81, ⟨.fn, 1, 8, .v .nilFunc⟩),
  (82, ⟨.fn, 1, 8, .v .nilFunc⟩),
  (83, ⟨.arr 16 22, 16, 64, .agg (List.replicate 16 (.v (.int .u32 0)))⟩),
  (84, ⟨.fn, 1, 8, .v .nilFunc⟩),
  (86, ⟨.fn, 1, 8, .v .nilFunc⟩),
  (87, ⟨.fn, 1, 8, .v .nilFunc⟩),
  (88, ⟨.fn, 1, 8, .v .nilFunc⟩),
  (89, ⟨.fn, 1, 8, .v .nilFunc⟩),
  (90, ⟨.fn, 1, 8, .v .nilFunc⟩),
  (91, ⟨.int .i64, 1, 8, .v (.int .i64 0)⟩),
  (93, ⟨.fn, 1, 8, .v .nilFunc⟩),
  (94, ⟨.fn, 1, 8, .v .nilFunc⟩),
  (95, ⟨.fn, 1, 8, .v .nilFunc⟩),
  (97, ⟨.fn, 1, 8, .v .nilFunc⟩),
  (98, ⟨.fn, 1, 8, .v .nilFunc⟩),
  (99, ⟨.fn, 1, 8, .v .nilFunc⟩),
  (100, ⟨.int .u64, 1, 8, .v (.int .u64 0)⟩),
  (101, ⟨.fn, 1, 8, .v .nilFunc⟩),
  (102, ⟨.int .u64, 1, 8, .v (.int .u64 0)⟩),
  (103, ⟨.fn, 1, 8, .v .nilFunc⟩),
  (104, ⟨.fn, 1, 8, .v .nilFunc⟩),
  (105, ⟨.fn, 1, 8, .v .nilFunc⟩),
  (106, ⟨.ptr 3, 1, 8, .v (.pointer none)⟩),
  (107, ⟨.fn, 1, 8, .v .nilFunc⟩),
  (108, ⟨.ptr 102, 1, 8, .v (.pointer none)⟩),
  (110, ⟨.fn, 1, 8, .v .nilFunc⟩),
  (111, ⟨.fn, 1, 8, .v .nilFunc⟩),
  (117, ⟨.fn, 1, 8, .v .nilFunc⟩),
  (120, ⟨.fn, 1, 8, .v .nilFunc⟩),
  (121, ⟨.ptr 5, 1, 8, .v (.pointer none)⟩)]

noncomputable abbrev P : Program := Go.Proofs.Try.prog
noncomputable abbrev T : Nat → TI := tab tbl
theorem hT : TOk P T := tok_of P tbl (by kernel_rfl)
theorem hm : P.follows .mixedOrders = true := by kernel_rfl
noncomputable def body (f : Func) : Code := match f.body with | some c => c | none => .skip
end Go.Aw.R1

set_option linter.unusedSimpArgs false
set_option linter.unusedVariables false
set_option maxHeartbeats 4000000
namespace Go.Aw.R1
open Go

def bitStep (n : BitVec 32) : BitVec 32 := if n &&& 1#32 = 1#32 then (n >>> 1) ^^^ 2197175160#32 else n >>> 1
def rep (f : BitVec 32 → BitVec 32) : Nat → BitVec 32 → BitVec 32
  | 0, x => x
  | n + 1, x => f (rep f n x)
def halfAt (i : Nat) : BitVec 32 := rep bitStep 4 (BitVec.ofNat 32 i)
def halves : List (BitVec 32) := (List.range 16).map halfAt
def part (i : Nat) : List AV := (List.range 16).map fun j => u32 (if j < i then halfAt j else 0#32)

theorem part_set (i : Nat) (h : i < 16) : (part i).set i (u32 (halfAt i)) = part (i + 1) := by
  apply List.ext_getElem?
  intro j
  simp only [part, List.getElem?_set, List.getElem?_map, List.length_map, List.length_range, List.getElem?_range]
  by_cases hj : i = j
  · subst hj; simp [h]
  · simp only [hj, if_false]
    by_cases hj16 : j < 16
    · simp only [hj16, List.getElem?_range, Option.map_some]
      congr 3
      have : (j < i) = (j < i + 1) := by apply propext; omega
      rw [this]
    · simp [hj16]

theorem f50 : Fun P 50 [] (.agg (halves.map u32)) := by
  refine spec_of hT (f := 50) (fn := Go.Proofs.Try.f50) (c := body Go.Proofs.Try.f50) (by kernel_rfl) (by kernel_rfl) ?_
  conv => whnf
  repeat ((first | refine AO.cons hT ?_ | refine AO.nil ?_ | refine AW.seq ?_ | refine AW.region ?_ | refine AW.cond ?_ | refine AW.block ?_ | refine AW.loop ?_ | refine AW.skip ?_ | refine AW.exit ?_ | refine AW.ret ?_ | refine AD.cons hT rfl ?_ | refine AD.nil ?_ | refine AQ.cons hT rfl ?_ | refine AQ.nil ?_); conv => whnf)
  refine ALoop.mk (fun n E H => ∃ i : Nat, i ≤ 16 ∧ n = 16 - i ∧ E = pad [.ptr 0 0, .ptr 1 0, .any, .any, .v (.int .i64 i)] 25 ∧ H = [.cells 83 (List.replicate 16 (AV.v (Value.int IntKind.u32 0))), .cells 83 (part i)])
    (n := 16) _ _ ⟨0, by omega, rfl, rfl, rfl⟩ (Conv.fit ?_) ?_
  · repeat' (first | exact Fit.nil | refine Fit.any ?_ | refine Fit.same ?_)
  rintro _ _ _ ⟨i, hi, rfl, rfl, rfl⟩
  conv => whnf
  repeat ((first | refine AO.cons hT ?_ | refine AO.nil ?_ | refine AW.seq ?_ | refine AW.region ?_ | refine AW.cond ?_ | refine AW.block ?_ | refine AW.loop ?_ | refine AW.skip ?_ | refine AW.exit ?_ | refine AW.ret ?_ | refine AD.cons hT rfl ?_ | refine AD.nil ?_ | refine AQ.cons hT rfl ?_ | refine AQ.nil ?_); conv => whnf)
  refine ACond.dec (fun h => ?_) (fun h => ?_)
  · conv => whnf
    repeat ((first | refine AO.cons hT ?_ | refine AO.nil ?_ | refine AW.seq ?_ | refine AW.region ?_ | refine AW.cond ?_ | refine AW.block ?_ | refine AW.loop ?_ | refine AW.skip ?_ | refine AW.exit ?_ | refine AW.ret ?_ | refine AD.cons hT rfl ?_ | refine AD.nil ?_ | refine AQ.cons hT rfl ?_ | refine AQ.nil ?_); conv => whnf)
    refine ALoop.mk (fun n E H => ∃ j : Nat, j ≤ 4 ∧ n = 4 - j ∧ E = pad [.ptr 0 0, .ptr 1 0, .v (.int .i64 i), u32 (rep bitStep j (BitVec.ofNat 32 i)), .v (.int .i64 i), .any, .any, .any, .any, .v (.int .i64 j)] 25 ∧ H = [.cells 83 (List.replicate 16 (AV.v (Value.int IntKind.u32 0))), .cells 83 (part i)])
      (n := 4) _ _ ⟨0, by omega, rfl, rfl, rfl⟩ (Conv.fit ?_) ?_
    · rw [wrap_u32, Nat.mod_eq_of_lt (by omega)]
      have : AV.v (.int .u32 i) = u32 (rep bitStep 0 (BitVec.ofNat 32 i)) := by simp [u32, rep, BitVec.toNat_ofNat]; omega
      rw [this]
      repeat' (first | exact Fit.nil | refine Fit.any ?_ | refine Fit.same ?_)
    rintro _ _ _ ⟨j, hj, rfl, rfl, rfl⟩
    conv => whnf
    repeat ((first | refine AO.cons hT ?_ | refine AO.nil ?_ | refine AW.seq ?_ | refine AW.region ?_ | refine AW.cond ?_ | refine AW.block ?_ | refine AW.loop ?_ | refine AW.skip ?_ | refine AW.exit ?_ | refine AW.ret ?_ | refine AD.cons hT rfl ?_ | refine AD.nil ?_ | refine AQ.cons hT rfl ?_ | refine AQ.nil ?_); conv => whnf)
    refine ACond.dec (fun h2 => ?_) (fun h2 => ?_)
    · conv => whnf
      repeat ((first | refine AO.cons hT ?_ | refine AO.nil ?_ | refine AW.seq ?_ | refine AW.region ?_ | refine AW.cond ?_ | refine AW.block ?_ | refine AW.loop ?_ | refine AW.skip ?_ | refine AW.exit ?_ | refine AW.ret ?_ | refine AD.cons hT rfl ?_ | refine AD.nil ?_ | refine AQ.cons hT rfl ?_ | refine AQ.nil ?_); conv => whnf)
      generalize hx : rep bitStep j (BitVec.ofNat 32 i) = x
      have hx' : rep bitStep (j + 1) (BitVec.ofNat 32 i) = bitStep x := by rw [← hx]; rfl
      have hb : (bitop BinOp.and IntKind.u32 x.toNat 1 = 1) ↔ x &&& 1#32 = 1#32 := by
        rw [show (1 : Int) = ((1#32).toNat : Int) from rfl, bit_and]
        constructor
        · intro h; exact BitVec.eq_of_toNat_eq (by exact_mod_cast h)
        · intro h; rw [h]
      refine ACond.dec (fun h3 => ?_) (fun h3 => ?_)
      · have h3' := hb.1 h3
        conv => whnf
        repeat ((first | refine AO.cons hT ?_ | refine AO.nil ?_ | refine AW.seq ?_ | refine AW.region ?_ | refine AW.cond ?_ | refine AW.block ?_ | refine AW.loop ?_ | refine AW.skip ?_ | refine AW.exit ?_ | refine AW.ret ?_ | refine AD.cons hT rfl ?_ | refine AD.nil ?_ | refine AQ.cons hT rfl ?_ | refine AQ.nil ?_); conv => whnf)
        refine AReq.mk (by decide) ?_
        conv => whnf
        repeat ((first | refine AO.cons hT ?_ | refine AO.nil ?_ | refine AW.seq ?_ | refine AW.region ?_ | refine AW.cond ?_ | refine AW.block ?_ | refine AW.loop ?_ | refine AW.skip ?_ | refine AW.exit ?_ | refine AW.ret ?_ | refine AD.cons hT rfl ?_ | refine AD.nil ?_ | refine AQ.cons hT rfl ?_ | refine AQ.nil ?_); conv => whnf)
        rw [wrap_i64 _ (by omega) (by omega)]
        refine AHead.mk (4 - (j + 1)) _ _ (by omega) ⟨j + 1, by omega, rfl, rfl, rfl⟩ (Conv.fit ?_)
        rw [hx', bitStep, if_pos h3']
        rw [show (2197175160 : Int) = ((2197175160#32).toNat : Int) from rfl]
        have e : (x.toNat : Int).fdiv (2 ^ min (Int.toNat 1) IntKind.u32.bits) = (x >>> 1).toNat := bit_shr x 1
        rw [e, bit_xor]
        repeat' (first | exact Fit.nil | refine Fit.any ?_ | refine Fit.same ?_)
      · have h3' := fun h => h3 (hb.2 h)
        conv => whnf
        repeat ((first | refine AO.cons hT ?_ | refine AO.nil ?_ | refine AW.seq ?_ | refine AW.region ?_ | refine AW.cond ?_ | refine AW.block ?_ | refine AW.loop ?_ | refine AW.skip ?_ | refine AW.exit ?_ | refine AW.ret ?_ | refine AD.cons hT rfl ?_ | refine AD.nil ?_ | refine AQ.cons hT rfl ?_ | refine AQ.nil ?_); conv => whnf)
        refine AReq.mk (by decide) ?_
        conv => whnf
        repeat ((first | refine AO.cons hT ?_ | refine AO.nil ?_ | refine AW.seq ?_ | refine AW.region ?_ | refine AW.cond ?_ | refine AW.block ?_ | refine AW.loop ?_ | refine AW.skip ?_ | refine AW.exit ?_ | refine AW.ret ?_ | refine AD.cons hT rfl ?_ | refine AD.nil ?_ | refine AQ.cons hT rfl ?_ | refine AQ.nil ?_); conv => whnf)
        rw [wrap_i64 _ (by omega) (by omega)]
        refine AHead.mk (4 - (j + 1)) _ _ (by omega) ⟨j + 1, by omega, rfl, rfl, rfl⟩ (Conv.fit ?_)
        rw [hx', bitStep, if_neg h3']
        have e : (x.toNat : Int).fdiv (2 ^ min (Int.toNat 1) IntKind.u32.bits) = (x >>> 1).toNat := bit_shr x 1
        rw [e]
        repeat' (first | exact Fit.nil | refine Fit.any ?_ | refine Fit.same ?_)
    · conv => whnf
      repeat ((first | refine AO.cons hT ?_ | refine AO.nil ?_ | refine AW.seq ?_ | refine AW.region ?_ | refine AW.cond ?_ | refine AW.block ?_ | refine AW.loop ?_ | refine AW.skip ?_ | refine AW.exit ?_ | refine AW.ret ?_ | refine AD.cons hT rfl ?_ | refine AD.nil ?_ | refine AQ.cons hT rfl ?_ | refine AQ.nil ?_); conv => whnf)
      obtain rfl : j = 4 := by omega
      refine AOut.stay ?_
      conv => whnf
      repeat ((first | refine AO.cons hT ?_ | refine AO.nil ?_ | refine AW.seq ?_ | refine AW.region ?_ | refine AW.cond ?_ | refine AW.block ?_ | refine AW.loop ?_ | refine AW.skip ?_ | refine AW.exit ?_ | refine AW.ret ?_ | refine AD.cons hT rfl ?_ | refine AD.nil ?_ | refine AQ.cons hT rfl ?_ | refine AQ.nil ?_); conv => whnf)
      refine AReq.mk (by omega) ?_
      conv => whnf
      repeat ((first | refine AO.cons hT ?_ | refine AO.nil ?_ | refine AW.seq ?_ | refine AW.region ?_ | refine AW.cond ?_ | refine AW.block ?_ | refine AW.loop ?_ | refine AW.skip ?_ | refine AW.exit ?_ | refine AW.ret ?_ | refine AD.cons hT rfl ?_ | refine AD.nil ?_ | refine AQ.cons hT rfl ?_ | refine AQ.nil ?_); conv => whnf)
      refine AReq.mk rfl ?_
      conv => whnf
      repeat ((first | refine AO.cons hT ?_ | refine AO.nil ?_ | refine AW.seq ?_ | refine AW.region ?_ | refine AW.cond ?_ | refine AW.block ?_ | refine AW.loop ?_ | refine AW.skip ?_ | refine AW.exit ?_ | refine AW.ret ?_ | refine AD.cons hT rfl ?_ | refine AD.nil ?_ | refine AQ.cons hT rfl ?_ | refine AQ.nil ?_); conv => whnf)
      refine AUpd.setAt i (by show 0 + Int.toNat i * 1 + 0 = i; omega) (by simp [part]; omega) ?_
      have : (part i).set i (u32 (rep bitStep 4 (BitVec.ofNat 32 i))) = part (i + 1) := part_set i (by omega)
      conv => whnf
      repeat ((first | refine AO.cons hT ?_ | refine AO.nil ?_ | refine AW.seq ?_ | refine AW.region ?_ | refine AW.cond ?_ | refine AW.block ?_ | refine AW.loop ?_ | refine AW.skip ?_ | refine AW.exit ?_ | refine AW.ret ?_ | refine AD.cons hT rfl ?_ | refine AD.nil ?_ | refine AQ.cons hT rfl ?_ | refine AQ.nil ?_); conv => whnf)
      rw [wrap_i64 _ (by omega) (by omega)]
      refine AHead.mk (16 - (i + 1)) _ _ (by omega) ⟨i + 1, by omega, rfl, rfl, rfl⟩ ?_
      rw [← this]
      refine Conv.fit ?_
      repeat' (first | exact Fit.nil | refine Fit.any ?_ | refine Fit.same ?_)
  · conv => whnf
    repeat ((first | refine AO.cons hT ?_ | refine AO.nil ?_ | refine AW.seq ?_ | refine AW.region ?_ | refine AW.cond ?_ | refine AW.block ?_ | refine AW.loop ?_ | refine AW.skip ?_ | refine AW.exit ?_ | refine AW.ret ?_ | refine AD.cons hT rfl ?_ | refine AD.nil ?_ | refine AQ.cons hT rfl ?_ | refine AQ.nil ?_); conv => whnf)
    obtain rfl : i = 16 := by omega
    have e : part 16 = halves.map u32 := by
      simp only [part, halves, List.map_map]
      apply List.map_congr_left
      intro j hj
      simp at hj
      simp [hj]
    rw [e]
    refine AOut.stay ?_
    conv => whnf
    repeat ((first | refine AO.cons hT ?_ | refine AO.nil ?_ | refine AW.seq ?_ | refine AW.region ?_ | refine AW.cond ?_ | refine AW.block ?_ | refine AW.loop ?_ | refine AW.skip ?_ | refine AW.exit ?_ | refine AW.ret ?_ | refine AD.cons hT rfl ?_ | refine AD.nil ?_ | refine AQ.cons hT rfl ?_ | refine AQ.nil ?_); conv => whnf)
    refine ACut.all rfl ?_
    conv => whnf
    repeat ((first | refine AO.cons hT ?_ | refine AO.nil ?_ | refine AW.seq ?_ | refine AW.region ?_ | refine AW.cond ?_ | refine AW.block ?_ | refine AW.loop ?_ | refine AW.skip ?_ | refine AW.exit ?_ | refine AW.ret ?_ | refine AD.cons hT rfl ?_ | refine AD.nil ?_ | refine AQ.cons hT rfl ?_ | refine AQ.nil ?_); conv => whnf)
    refine AReq.mk rfl ?_
    conv => whnf
    repeat ((first | refine AO.cons hT ?_ | refine AO.nil ?_ | refine AW.seq ?_ | refine AW.region ?_ | refine AW.cond ?_ | refine AW.block ?_ | refine AW.loop ?_ | refine AW.skip ?_ | refine AW.exit ?_ | refine AW.ret ?_ | refine AD.cons hT rfl ?_ | refine AD.nil ?_ | refine AQ.cons hT rfl ?_ | refine AQ.nil ?_); conv => whnf)
    refine AUpd.to (halves.map u32) (by simp [halves]) (by simp [spl, halves]) ?_
    conv => whnf
    repeat ((first | refine AO.cons hT ?_ | refine AO.nil ?_ | refine AW.seq ?_ | refine AW.region ?_ | refine AW.cond ?_ | refine AW.block ?_ | refine AW.loop ?_ | refine AW.skip ?_ | refine AW.exit ?_ | refine AW.ret ?_ | refine AD.cons hT rfl ?_ | refine AD.nil ?_ | refine AQ.cons hT rfl ?_ | refine AQ.nil ?_); conv => whnf)
    refine ACut.all rfl ?_
    conv => whnf
    repeat ((first | refine AO.cons hT ?_ | refine AO.nil ?_ | refine AW.seq ?_ | refine AW.region ?_ | refine AW.cond ?_ | refine AW.block ?_ | refine AW.loop ?_ | refine AW.skip ?_ | refine AW.exit ?_ | refine AW.ret ?_ | refine AD.cons hT rfl ?_ | refine AD.nil ?_ | refine AQ.cons hT rfl ?_ | refine AQ.nil ?_); conv => whnf)
    refine AFin.val ?_ ⟨rfl, rfl⟩
    simp [AV.ren, renL_map, u32, Function.comp_def]
end Go.Aw.R1

set_option linter.unusedSimpArgs false
set_option linter.unusedVariables false
set_option maxHeartbeats 4000000
namespace Go.Aw.R1
open Go

theorem f36 : Spec P 36 [] [] fun r H' => r = .fn 51 [] [.ptr 0 0] ∧ H' = [.cells 83 (halves.map u32)] := by
  refine spec_of hT (f := 36) (fn := Go.Proofs.Try.f36) (c := body Go.Proofs.Try.f36) (by kernel_rfl) (by kernel_rfl) ?_
  conv => whnf
  repeat ((first | refine AO.cons hT ?_ | refine AO.nil ?_ | refine AW.seq ?_ | refine AW.region ?_ | refine AW.cond ?_ | refine AW.block ?_ | refine AW.loop ?_ | refine AW.skip ?_ | refine AW.exit ?_ | refine AW.ret ?_ | refine AD.cons hT rfl ?_ | refine AD.nil ?_ | refine AQ.cons hT rfl ?_ | refine AQ.nil ?_); conv => whnf)
  refine ACall.val (by kernel_rfl) f50 rfl (by simp [AV.ren, renL_map, u32, Function.comp_def]) ?_
  conv => whnf
  repeat ((first | refine AO.cons hT ?_ | refine AO.nil ?_ | refine AW.seq ?_ | refine AW.region ?_ | refine AW.cond ?_ | refine AW.block ?_ | refine AW.loop ?_ | refine AW.skip ?_ | refine AW.exit ?_ | refine AW.ret ?_ | refine AD.cons hT rfl ?_ | refine AD.nil ?_ | refine AQ.cons hT rfl ?_ | refine AQ.nil ?_); conv => whnf)
  refine AReq.mk rfl ?_
  conv => whnf
  repeat ((first | refine AO.cons hT ?_ | refine AO.nil ?_ | refine AW.seq ?_ | refine AW.region ?_ | refine AW.cond ?_ | refine AW.block ?_ | refine AW.loop ?_ | refine AW.skip ?_ | refine AW.exit ?_ | refine AW.ret ?_ | refine AD.cons hT rfl ?_ | refine AD.nil ?_ | refine AQ.cons hT rfl ?_ | refine AQ.nil ?_); conv => whnf)
  refine AUpd.to (halves.map u32) (by simp [halves]) (by simp [spl, halves]) ?_
  conv => whnf
  repeat ((first | refine AO.cons hT ?_ | refine AO.nil ?_ | refine AW.seq ?_ | refine AW.region ?_ | refine AW.cond ?_ | refine AW.block ?_ | refine AW.loop ?_ | refine AW.skip ?_ | refine AW.exit ?_ | refine AW.ret ?_ | refine AD.cons hT rfl ?_ | refine AD.nil ?_ | refine AQ.cons hT rfl ?_ | refine AQ.nil ?_); conv => whnf)
  exact AFin.mk ⟨rfl, rfl⟩

def crcStep (n : BitVec 32) (b : BitVec 8) : BitVec 32 :=
  let m := n ^^^ b.zeroExtend 32
  let k := (m >>> 4) ^^^ halfAt (m &&& 15#32).toNat
  (k >>> 4) ^^^ halfAt (k &&& 15#32).toNat

theorem and15 (m : BitVec 32) : (m &&& 15#32).toNat < 16 := by
  have := BitVec.toNat_and m 15#32
  rw [this]
  exact Nat.lt_of_le_of_lt Nat.and_le_right (by decide)

theorem f51 (n : BitVec 32) (b : BitVec 8) : Spec P 51 [u32 n, u8 b, .ptr 0 0] [.cells 83 (halves.map u32)] (fun r H' => r = u32 (crcStep n b) ∧ H' = [.cells 83 (halves.map u32)]) := by
  refine spec_of hT (f := 51) (fn := Go.Proofs.Try.f51) (c := body Go.Proofs.Try.f51) (by kernel_rfl) (by kernel_rfl) ?_
  conv => whnf
  repeat ((first | refine AO.cons hT ?_ | refine AO.nil ?_ | refine AW.seq ?_ | refine AW.region ?_ | refine AW.cond ?_ | refine AW.block ?_ | refine AW.loop ?_ | refine AW.skip ?_ | refine AW.exit ?_ | refine AW.ret ?_ | refine AD.cons hT rfl ?_ | refine AD.nil ?_ | refine AQ.cons hT rfl ?_ | refine AQ.nil ?_); conv => whnf)
  rw [bit_conv, bit_xor]
  generalize hm' : n ^^^ b.zeroExtend 32 = m
  refine AReq.mk (by decide) ?_
  conv => whnf
  repeat ((first | refine AO.cons hT ?_ | refine AO.nil ?_ | refine AW.seq ?_ | refine AW.region ?_ | refine AW.cond ?_ | refine AW.block ?_ | refine AW.loop ?_ | refine AW.skip ?_ | refine AW.exit ?_ | refine AW.ret ?_ | refine AD.cons hT rfl ?_ | refine AD.nil ?_ | refine AQ.cons hT rfl ?_ | refine AQ.nil ?_); conv => whnf)
  rw [show bitop .and .u32 m.toNat 15 = (m &&& 15#32).toNat from bit_and m 15#32]
  have h15 := and15 m
  refine AReq.mk (by omega) ?_
  conv => whnf
  repeat ((first | refine AO.cons hT ?_ | refine AO.nil ?_ | refine AW.seq ?_ | refine AW.region ?_ | refine AW.cond ?_ | refine AW.block ?_ | refine AW.loop ?_ | refine AW.skip ?_ | refine AW.exit ?_ | refine AW.ret ?_ | refine AD.cons hT rfl ?_ | refine AD.nil ?_ | refine AQ.cons hT rfl ?_ | refine AQ.nil ?_); conv => whnf)
  refine AIdx.map1 (f := u32) (xs := halves) (i := (m &&& 15#32).toNat) (by simpa [halves] using h15) ?_
  have e : (m.toNat : Int).fdiv (2 ^ min (Int.toNat 4) IntKind.u32.bits) = (m >>> 4).toNat := bit_shr m 4
  rw [e]
  have e2 : halves[(m &&& 15#32).toNat]'(by simpa [halves] using h15) = halfAt (m &&& 15#32).toNat := by simp [halves]
  rw [e2]
  conv => whnf
  repeat ((first | refine AO.cons hT ?_ | refine AO.nil ?_ | refine AW.seq ?_ | refine AW.region ?_ | refine AW.cond ?_ | refine AW.block ?_ | refine AW.loop ?_ | refine AW.skip ?_ | refine AW.exit ?_ | refine AW.ret ?_ | refine AD.cons hT rfl ?_ | refine AD.nil ?_ | refine AQ.cons hT rfl ?_ | refine AQ.nil ?_); conv => whnf)
  rw [bit_xor]
  generalize hk' : (m >>> 4) ^^^ halfAt (m &&& 15#32).toNat = k
  refine AReq.mk (by decide) ?_
  conv => whnf
  repeat ((first | refine AO.cons hT ?_ | refine AO.nil ?_ | refine AW.seq ?_ | refine AW.region ?_ | refine AW.cond ?_ | refine AW.block ?_ | refine AW.loop ?_ | refine AW.skip ?_ | refine AW.exit ?_ | refine AW.ret ?_ | refine AD.cons hT rfl ?_ | refine AD.nil ?_ | refine AQ.cons hT rfl ?_ | refine AQ.nil ?_); conv => whnf)
  rw [show bitop .and .u32 k.toNat 15 = (k &&& 15#32).toNat from bit_and k 15#32]
  have h15 := and15 k
  refine AReq.mk (by omega) ?_
  conv => whnf
  repeat ((first | refine AO.cons hT ?_ | refine AO.nil ?_ | refine AW.seq ?_ | refine AW.region ?_ | refine AW.cond ?_ | refine AW.block ?_ | refine AW.loop ?_ | refine AW.skip ?_ | refine AW.exit ?_ | refine AW.ret ?_ | refine AD.cons hT rfl ?_ | refine AD.nil ?_ | refine AQ.cons hT rfl ?_ | refine AQ.nil ?_); conv => whnf)
  refine AIdx.map1 (f := u32) (xs := halves) (i := (k &&& 15#32).toNat) (by simpa [halves] using h15) ?_
  have e : (k.toNat : Int).fdiv (2 ^ min (Int.toNat 4) IntKind.u32.bits) = (k >>> 4).toNat := bit_shr k 4
  rw [e]
  have e2 : halves[(k &&& 15#32).toNat]'(by simpa [halves] using h15) = halfAt (k &&& 15#32).toNat := by simp [halves]
  rw [e2]
  conv => whnf
  repeat ((first | refine AO.cons hT ?_ | refine AO.nil ?_ | refine AW.seq ?_ | refine AW.region ?_ | refine AW.cond ?_ | refine AW.block ?_ | refine AW.loop ?_ | refine AW.skip ?_ | refine AW.exit ?_ | refine AW.ret ?_ | refine AD.cons hT rfl ?_ | refine AD.nil ?_ | refine AQ.cons hT rfl ?_ | refine AQ.nil ?_); conv => whnf)
  rw [bit_xor]
  refine AFin.mk ⟨?_, rfl⟩
  rw [crcStep, hm', hk']; rfl

def onF (sum : BitVec 32) (bs : List UInt8) : BitVec 32 := ~~~ (bs.foldl (fun n b => crcStep n b.toBitVec) (~~~ sum))

theorem f15 (sum : BitVec 32) (s : ByteArray) (hs : s.size ≤ 4611686018427387904) : Fun P 15 [u32 sum, .v (.string s)] (u32 (onF sum s.data.toList)) := by
  refine spec_of hT (f := 15) (fn := Go.Proofs.Try.f15) (c := body Go.Proofs.Try.f15) (by kernel_rfl) (by kernel_rfl) ?_
  conv => whnf
  repeat ((first | refine AO.cons hT ?_ | refine AO.nil ?_ | refine AW.seq ?_ | refine AW.region ?_ | refine AW.cond ?_ | refine AW.block ?_ | refine AW.loop ?_ | refine AW.skip ?_ | refine AW.exit ?_ | refine AW.ret ?_ | refine AD.cons hT rfl ?_ | refine AD.nil ?_ | refine AQ.cons hT rfl ?_ | refine AQ.nil ?_); conv => whnf)
  refine ACall.of (by kernel_rfl) f36 [] [] List.nodup_nil .nil (by simp) (by simp) .nil (.inl rfl) ?_
  rintro _ _ ⟨rfl, rfl⟩
  conv => whnf
  repeat ((first | refine AO.cons hT ?_ | refine AO.nil ?_ | refine AW.seq ?_ | refine AW.region ?_ | refine AW.cond ?_ | refine AW.block ?_ | refine AW.loop ?_ | refine AW.skip ?_ | refine AW.exit ?_ | refine AW.ret ?_ | refine AD.cons hT rfl ?_ | refine AD.nil ?_ | refine AQ.cons hT rfl ?_ | refine AQ.nil ?_); conv => whnf)
  rw [bit_not]
  refine ALoop.mk (fun n E H => ∃ i : Nat, i ≤ s.size ∧ n = s.size - i ∧ E = pad [u32 sum, .v (.string s), .any, .any, .any, .fn 51 [] [.ptr 0 0], u32 ((s.data.toList.take i).foldl (fun n b => crcStep n b.toBitVec) (~~~ sum)), .v (.int .i64 i)] 25 ∧ H = [.cells 83 (halves.map u32)])
    (n := s.size) _ _ ⟨0, by omega, rfl, rfl, rfl⟩ ?_ ?_
  · have : ∀ ρ, mergeH ρ [] [] [ABlk.cells 83 (List.map u32 halves)] = [ABlk.cells 83 (List.map u32 halves)] := by
      intro ρ; simp [mergeH, ABlk.ren, AV.ren, renL_map, u32, Function.comp_def]
    rw [this]
    refine Conv.fit ?_
    repeat' (first | exact Fit.nil | refine Fit.any ?_ | refine Fit.same ?_)
  rintro _ _ _ ⟨i, hi, rfl, rfl, rfl⟩
  have hsz := size_list s
  conv => whnf
  repeat ((first | refine AO.cons hT ?_ | refine AO.nil ?_ | refine AW.seq ?_ | refine AW.region ?_ | refine AW.cond ?_ | refine AW.block ?_ | refine AW.loop ?_ | refine AW.skip ?_ | refine AW.exit ?_ | refine AW.ret ?_ | refine AD.cons hT rfl ?_ | refine AD.nil ?_ | refine AQ.cons hT rfl ?_ | refine AQ.nil ?_); conv => whnf)
  refine ACond.dec (fun h => ?_) (fun h => ?_)
  · have hi' : i < s.data.toList.length := by omega
    conv => whnf
    repeat ((first | refine AO.cons hT ?_ | refine AO.nil ?_ | refine AW.seq ?_ | refine AW.region ?_ | refine AW.cond ?_ | refine AW.block ?_ | refine AW.loop ?_ | refine AW.skip ?_ | refine AW.exit ?_ | refine AW.ret ?_ | refine AD.cons hT rfl ?_ | refine AD.nil ?_ | refine AQ.cons hT rfl ?_ | refine AQ.nil ?_); conv => whnf)
    refine AReq.mk (by omega) ?_
    conv => whnf
    repeat ((first | refine AO.cons hT ?_ | refine AO.nil ?_ | refine AW.seq ?_ | refine AW.region ?_ | refine AW.cond ?_ | refine AW.block ?_ | refine AW.loop ?_ | refine AW.skip ?_ | refine AW.exit ?_ | refine AW.ret ?_ | refine AD.cons hT rfl ?_ | refine AD.nil ?_ | refine AQ.cons hT rfl ?_ | refine AQ.nil ?_); conv => whnf)
    rw [bt_get s i hi']
    generalize hacc : (s.data.toList.take i).foldl (fun n b => crcStep n b.toBitVec) (~~~ sum) = acc
    have hacc' : (s.data.toList.take (i + 1)).foldl (fun n b => crcStep n b.toBitVec) (~~~ sum) = crcStep acc (s.data.toList[i]).toBitVec := by
      rw [List.take_succ_eq_append_getElem hi', List.foldl_append, hacc]; rfl
    refine ACall.of (by kernel_rfl) (f51 acc (s.data.toList[i]).toBitVec) [0] [] (by simp) ?_ (by simp) (by simp) ?_ (.inl rfl) ?_
    · refine .same ?_ .nil
      simp [ABlk.ren, AV.ren, renL_map, u32, Function.comp_def]
    · exact LendL.same [u32 acc, u8 (s.data.toList[i]).toBitVec, .ptr 0 0]
    rintro _ _ ⟨rfl, rfl⟩
    conv => whnf
    repeat ((first | refine AO.cons hT ?_ | refine AO.nil ?_ | refine AW.seq ?_ | refine AW.region ?_ | refine AW.cond ?_ | refine AW.block ?_ | refine AW.loop ?_ | refine AW.skip ?_ | refine AW.exit ?_ | refine AW.ret ?_ | refine AD.cons hT rfl ?_ | refine AD.nil ?_ | refine AQ.cons hT rfl ?_ | refine AQ.nil ?_); conv => whnf)
    rw [wrap_i64 _ (by omega) (by omega)]
    refine AHead.mk (s.size - (i + 1)) _ _ (by omega) ⟨i + 1, by omega, rfl, rfl, rfl⟩ ?_
    rw [hacc']
    have : mergeH (nm [0] 1) [ABlk.cells 83 (List.map u32 halves)] [0] [ABlk.cells 83 (List.map u32 halves)] = [ABlk.cells 83 (List.map u32 halves)] := by
      simp [mergeH, ABlk.ren, AV.ren, renL_map, u32, Function.comp_def]
    refine Conv.trans (E' := _) (H' := _) (Conv.fit (xs' := _) ?_) (by rw [← this]; exact Conv.refl _ _ _)
    repeat' (first | exact Fit.nil | refine Fit.any ?_ | refine Fit.same ?_)
  · obtain rfl : i = s.size := by omega
    conv => whnf
    repeat ((first | refine AO.cons hT ?_ | refine AO.nil ?_ | refine AW.seq ?_ | refine AW.region ?_ | refine AW.cond ?_ | refine AW.block ?_ | refine AW.loop ?_ | refine AW.skip ?_ | refine AW.exit ?_ | refine AW.ret ?_ | refine AD.cons hT rfl ?_ | refine AD.nil ?_ | refine AQ.cons hT rfl ?_ | refine AQ.nil ?_); conv => whnf)
    refine AOut.stay ?_
    rw [List.take_of_length_le (by omega)]
    conv => whnf
    repeat ((first | refine AO.cons hT ?_ | refine AO.nil ?_ | refine AW.seq ?_ | refine AW.region ?_ | refine AW.cond ?_ | refine AW.block ?_ | refine AW.loop ?_ | refine AW.skip ?_ | refine AW.exit ?_ | refine AW.ret ?_ | refine AD.cons hT rfl ?_ | refine AD.nil ?_ | refine AQ.cons hT rfl ?_ | refine AQ.nil ?_); conv => whnf)
    rw [bit_not]
    refine AFin.val rfl ⟨rfl, rfl⟩
end Go.Aw.R1

set_option linter.unusedSimpArgs false
set_option linter.unusedVariables false
set_option maxHeartbeats 4000000
namespace Go.Aw.R1
open Go

theorem f13 (s : ByteArray) (hs : s.size ≤ 4611686018427387904) : Fun P 13 [.v (.string s)] (u32 (onF 0 s.data.toList)) := by
  refine spec_of hT (f := 13) (fn := Go.Proofs.Try.f13) (c := body Go.Proofs.Try.f13) (by kernel_rfl) (by kernel_rfl) ?_
  conv => whnf
  repeat ((first | refine AO.cons hT ?_ | refine AO.nil ?_ | refine AW.seq ?_ | refine AW.region ?_ | refine AW.cond ?_ | refine AW.block ?_ | refine AW.loop ?_ | refine AW.skip ?_ | refine AW.exit ?_ | refine AW.ret ?_ | refine AD.cons hT rfl ?_ | refine AD.nil ?_ | refine AQ.cons hT rfl ?_ | refine AQ.nil ?_); conv => whnf)
  refine ACall.val (by kernel_rfl) (f15 0#32 s hs) rfl rfl ?_
  conv => whnf
  repeat ((first | refine AO.cons hT ?_ | refine AO.nil ?_ | refine AW.seq ?_ | refine AW.region ?_ | refine AW.cond ?_ | refine AW.block ?_ | refine AW.loop ?_ | refine AW.skip ?_ | refine AW.exit ?_ | refine AW.ret ?_ | refine AD.cons hT rfl ?_ | refine AD.nil ?_ | refine AQ.cons hT rfl ?_ | refine AQ.nil ?_); conv => whnf)
  exact AFin.val rfl ⟨rfl, rfl⟩

/-- a sum's bytes -/
def fourF (n : BitVec 32) : List UInt8 := [⟨n.setWidth 8⟩, ⟨(n >>> 8).setWidth 8⟩, ⟨(n >>> 16).setWidth 8⟩, ⟨(n >>> 24).setWidth 8⟩]
def fourP (n : BitVec 32) (i : Nat) : List AV := (List.range 4).map fun j => u8 (if j < i then (n >>> (8 * j)).setWidth 8 else 0#8)

theorem fourP_set (n : BitVec 32) (i : Nat) (h : i < 4) : (fourP n i).set i (u8 ((n >>> (8 * i)).setWidth 8)) = fourP n (i + 1) := by
  match i, h with
  | 0, _ => rfl
  | 1, _ => rfl
  | 2, _ => rfl
  | 3, _ => rfl

theorem f34 (n : BitVec 32) : Fun P 34 [u32 n] (.v (.string ⟨(fourF n).toArray⟩)) := by
  refine spec_of hT (f := 34) (fn := Go.Proofs.Try.f34) (c := body Go.Proofs.Try.f34) (by kernel_rfl) (by kernel_rfl) ?_
  conv => whnf
  repeat ((first | refine AO.cons hT ?_ | refine AO.nil ?_ | refine AW.seq ?_ | refine AW.region ?_ | refine AW.cond ?_ | refine AW.block ?_ | refine AW.loop ?_ | refine AW.skip ?_ | refine AW.exit ?_ | refine AW.ret ?_ | refine AD.cons hT rfl ?_ | refine AD.nil ?_ | refine AQ.cons hT rfl ?_ | refine AQ.nil ?_); conv => whnf)
  refine AReq.mk (by decide) ?_
  conv => whnf
  repeat ((first | refine AO.cons hT ?_ | refine AO.nil ?_ | refine AW.seq ?_ | refine AW.region ?_ | refine AW.cond ?_ | refine AW.block ?_ | refine AW.loop ?_ | refine AW.skip ?_ | refine AW.exit ?_ | refine AW.ret ?_ | refine AD.cons hT rfl ?_ | refine AD.nil ?_ | refine AQ.cons hT rfl ?_ | refine AQ.nil ?_); conv => whnf)
  refine ALoop.mk (fun k E H => ∃ i : Nat, i ≤ 4 ∧ k = 4 - i ∧ E = pad [u32 n, .any, .any, .ms 1 0 0 4, .any, .any, .any, .v (.int .i64 4), .v (.int .i64 i)] 22 ∧ H = [.cells 5 (fourP n i)])
    (n := 4) _ _ ⟨0, by omega, rfl, rfl, rfl⟩ ?_ ?_
  · refine Conv.fit ?_
    repeat' (first | exact Fit.nil | refine Fit.any ?_ | refine Fit.same ?_)
  rintro _ _ _ ⟨i, hi, rfl, rfl, rfl⟩
  conv => whnf
  repeat ((first | refine AO.cons hT ?_ | refine AO.nil ?_ | refine AW.seq ?_ | refine AW.region ?_ | refine AW.cond ?_ | refine AW.block ?_ | refine AW.loop ?_ | refine AW.skip ?_ | refine AW.exit ?_ | refine AW.ret ?_ | refine AD.cons hT rfl ?_ | refine AD.nil ?_ | refine AQ.cons hT rfl ?_ | refine AQ.nil ?_); conv => whnf)
  refine ACond.dec (fun h => ?_) (fun h => ?_)
  · conv => whnf
    repeat ((first | refine AO.cons hT ?_ | refine AO.nil ?_ | refine AW.seq ?_ | refine AW.region ?_ | refine AW.cond ?_ | refine AW.block ?_ | refine AW.loop ?_ | refine AW.skip ?_ | refine AW.exit ?_ | refine AW.ret ?_ | refine AD.cons hT rfl ?_ | refine AD.nil ?_ | refine AQ.cons hT rfl ?_ | refine AQ.nil ?_); conv => whnf)
    rw [wrap_i64 _ (by omega) (by omega)]
    refine AReq.mk (by omega) ?_
    conv => whnf
    repeat ((first | refine AO.cons hT ?_ | refine AO.nil ?_ | refine AW.seq ?_ | refine AW.region ?_ | refine AW.cond ?_ | refine AW.block ?_ | refine AW.loop ?_ | refine AW.skip ?_ | refine AW.exit ?_ | refine AW.ret ?_ | refine AD.cons hT rfl ?_ | refine AD.nil ?_ | refine AQ.cons hT rfl ?_ | refine AQ.nil ?_); conv => whnf)
    refine AReq.mk (by omega) ?_
    conv => whnf
    repeat ((first | refine AO.cons hT ?_ | refine AO.nil ?_ | refine AW.seq ?_ | refine AW.region ?_ | refine AW.cond ?_ | refine AW.block ?_ | refine AW.loop ?_ | refine AW.skip ?_ | refine AW.exit ?_ | refine AW.ret ?_ | refine AD.cons hT rfl ?_ | refine AD.nil ?_ | refine AQ.cons hT rfl ?_ | refine AQ.nil ?_); conv => whnf)
    refine AReq.mk rfl ?_
    conv => whnf
    repeat ((first | refine AO.cons hT ?_ | refine AO.nil ?_ | refine AW.seq ?_ | refine AW.region ?_ | refine AW.cond ?_ | refine AW.block ?_ | refine AW.loop ?_ | refine AW.skip ?_ | refine AW.exit ?_ | refine AW.ret ?_ | refine AD.cons hT rfl ?_ | refine AD.nil ?_ | refine AQ.cons hT rfl ?_ | refine AQ.nil ?_); conv => whnf)
    have e : (n.toNat : Int).fdiv (2 ^ min (Int.toNat (8 * i)) IntKind.u32.bits) = (n >>> (8 * i)).toNat := by
      rw [show min (Int.toNat (8 * i)) IntKind.u32.bits = 8 * i by show min _ 32 = _; omega]
      exact bit_shr n (8 * i)
    have e8 : IntKind.wrap .u8 ((n >>> (8 * i)).toNat : Int) = ((n >>> (8 * i)).setWidth 8).toNat := by
      rw [wrap_u8]; simp
    rw [e, e8]
    refine AUpd.setAt i (by show 0 + Int.toNat i * 1 + 0 = i; omega) (by simp [fourP]; omega) ?_
    have e2 : (fourP n i).set i (AV.v (.int .u8 ((n >>> (8 * i)).setWidth 8).toNat)) = fourP n (i + 1) := fourP_set n i (by omega)
    rw [e2]
    conv => whnf
    repeat ((first | refine AO.cons hT ?_ | refine AO.nil ?_ | refine AW.seq ?_ | refine AW.region ?_ | refine AW.cond ?_ | refine AW.block ?_ | refine AW.loop ?_ | refine AW.skip ?_ | refine AW.exit ?_ | refine AW.ret ?_ | refine AD.cons hT rfl ?_ | refine AD.nil ?_ | refine AQ.cons hT rfl ?_ | refine AQ.nil ?_); conv => whnf)
    rw [wrap_i64 (i + 1) (by omega) (by omega)]
    refine AHead.mk (4 - (i + 1)) _ _ (by omega) ⟨i + 1, by omega, rfl, rfl, rfl⟩ (Conv.fit ?_)
    repeat' (first | exact Fit.nil | refine Fit.any ?_ | refine Fit.same ?_)
  · obtain rfl : i = 4 := by omega
    conv => whnf
    repeat ((first | refine AO.cons hT ?_ | refine AO.nil ?_ | refine AW.seq ?_ | refine AW.region ?_ | refine AW.cond ?_ | refine AW.block ?_ | refine AW.loop ?_ | refine AW.skip ?_ | refine AW.exit ?_ | refine AW.ret ?_ | refine AD.cons hT rfl ?_ | refine AD.nil ?_ | refine AQ.cons hT rfl ?_ | refine AQ.nil ?_); conv => whnf)
    refine AOut.stay ?_
    conv => whnf
    repeat ((first | refine AO.cons hT ?_ | refine AO.nil ?_ | refine AW.seq ?_ | refine AW.region ?_ | refine AW.cond ?_ | refine AW.block ?_ | refine AW.loop ?_ | refine AW.skip ?_ | refine AW.exit ?_ | refine AW.ret ?_ | refine AD.cons hT rfl ?_ | refine AD.nil ?_ | refine AQ.cons hT rfl ?_ | refine AQ.nil ?_); conv => whnf)
    refine ACut.all rfl ?_
    conv => whnf
    repeat ((first | refine AO.cons hT ?_ | refine AO.nil ?_ | refine AW.seq ?_ | refine AW.region ?_ | refine AW.cond ?_ | refine AW.block ?_ | refine AW.loop ?_ | refine AW.skip ?_ | refine AW.exit ?_ | refine AW.ret ?_ | refine AD.cons hT rfl ?_ | refine AD.nil ?_ | refine AQ.cons hT rfl ?_ | refine AQ.nil ?_); conv => whnf)
    have e : fourP n 4 = (fourF n).map byteC := rfl
    rw [e]
    refine AStr.mk ?_
    conv => whnf
    repeat ((first | refine AO.cons hT ?_ | refine AO.nil ?_ | refine AW.seq ?_ | refine AW.region ?_ | refine AW.cond ?_ | refine AW.block ?_ | refine AW.loop ?_ | refine AW.skip ?_ | refine AW.exit ?_ | refine AW.ret ?_ | refine AD.cons hT rfl ?_ | refine AD.nil ?_ | refine AQ.cons hT rfl ?_ | refine AQ.nil ?_); conv => whnf)
    exact AFin.val rfl ⟨rfl, rfl⟩

theorem fourF_len (n : BitVec 32) : (fourF n).length = 4 := rfl

theorem f17 (s : ByteArray) (hs : s.size ≤ 4611686018427387904) : Fun P 17 [.v (.string s)] (.v (.string (s ++ ⟨(fourF (onF 0 s.data.toList)).toArray⟩))) := by
  refine spec_of hT (f := 17) (fn := Go.Proofs.Try.f17) (c := body Go.Proofs.Try.f17) (by kernel_rfl) (by kernel_rfl) ?_
  conv => whnf
  repeat ((first | refine AO.cons hT ?_ | refine AO.nil ?_ | refine AW.seq ?_ | refine AW.region ?_ | refine AW.cond ?_ | refine AW.block ?_ | refine AW.loop ?_ | refine AW.skip ?_ | refine AW.exit ?_ | refine AW.ret ?_ | refine AD.cons hT rfl ?_ | refine AD.nil ?_ | refine AQ.cons hT rfl ?_ | refine AQ.nil ?_); conv => whnf)
  refine ACall.val (by kernel_rfl) (f13 s hs) rfl rfl ?_
  conv => whnf
  repeat ((first | refine AO.cons hT ?_ | refine AO.nil ?_ | refine AW.seq ?_ | refine AW.region ?_ | refine AW.cond ?_ | refine AW.block ?_ | refine AW.loop ?_ | refine AW.skip ?_ | refine AW.exit ?_ | refine AW.ret ?_ | refine AD.cons hT rfl ?_ | refine AD.nil ?_ | refine AQ.cons hT rfl ?_ | refine AQ.nil ?_); conv => whnf)
  refine ACall.val (by kernel_rfl) (f34 _) rfl rfl ?_
  conv => whnf
  repeat ((first | refine AO.cons hT ?_ | refine AO.nil ?_ | refine AW.seq ?_ | refine AW.region ?_ | refine AW.cond ?_ | refine AW.block ?_ | refine AW.loop ?_ | refine AW.skip ?_ | refine AW.exit ?_ | refine AW.ret ?_ | refine AD.cons hT rfl ?_ | refine AD.nil ?_ | refine AQ.cons hT rfl ?_ | refine AQ.nil ?_); conv => whnf)
  refine AReq.mk (by show s.size + 4 ≤ _; omega) ?_
  conv => whnf
  repeat ((first | refine AO.cons hT ?_ | refine AO.nil ?_ | refine AW.seq ?_ | refine AW.region ?_ | refine AW.cond ?_ | refine AW.block ?_ | refine AW.loop ?_ | refine AW.skip ?_ | refine AW.exit ?_ | refine AW.ret ?_ | refine AD.cons hT rfl ?_ | refine AD.nil ?_ | refine AQ.cons hT rfl ?_ | refine AQ.nil ?_); conv => whnf)
  exact AFin.val rfl ⟨rfl, rfl⟩

def unsealF (s : ByteArray) : ByteArray × Int :=
  if s.size < 4 then (⟨#[]⟩, 4) else
    let t := s.extract 0 (s.size - 4)
    if (⟨(fourF (onF 0 t.data.toList)).toArray⟩ : ByteArray).toList == (s.extract (s.size - 4) s.size).toList then (t, 0) else (⟨#[]⟩, 7)

theorem size_extract (s : ByteArray) (a b : Nat) : (s.extract a b).size = min b s.size - a := ByteArray.size_extract

theorem f11 (s : ByteArray) (hs : s.size ≤ 4611686018427387904) : Fun P 11 [.v (.string s)] (.tup [.v (.string (unsealF s).1), .v (.int .i64 (unsealF s).2)]) := by
  refine spec_of hT (f := 11) (fn := Go.Proofs.Try.f11) (c := body Go.Proofs.Try.f11) (by kernel_rfl) (by kernel_rfl) ?_
  conv => whnf
  repeat ((first | refine AO.cons hT ?_ | refine AO.nil ?_ | refine AW.seq ?_ | refine AW.region ?_ | refine AW.cond ?_ | refine AW.block ?_ | refine AW.loop ?_ | refine AW.skip ?_ | refine AW.exit ?_ | refine AW.ret ?_ | refine AD.cons hT rfl ?_ | refine AD.nil ?_ | refine AQ.cons hT rfl ?_ | refine AQ.nil ?_); conv => whnf)
  refine ACond.dec (fun h => ?_) (fun h => ?_)
  · conv => whnf
    repeat ((first | refine AO.cons hT ?_ | refine AO.nil ?_ | refine AW.seq ?_ | refine AW.region ?_ | refine AW.cond ?_ | refine AW.block ?_ | refine AW.loop ?_ | refine AW.skip ?_ | refine AW.exit ?_ | refine AW.ret ?_ | refine AD.cons hT rfl ?_ | refine AD.nil ?_ | refine AQ.cons hT rfl ?_ | refine AQ.nil ?_); conv => whnf)
    refine AFin.val rfl ⟨?_, rfl⟩
    rw [unsealF, if_pos (by omega)]
  · conv => whnf
    repeat ((first | refine AO.cons hT ?_ | refine AO.nil ?_ | refine AW.seq ?_ | refine AW.region ?_ | refine AW.cond ?_ | refine AW.block ?_ | refine AW.loop ?_ | refine AW.skip ?_ | refine AW.exit ?_ | refine AW.ret ?_ | refine AD.cons hT rfl ?_ | refine AD.nil ?_ | refine AQ.cons hT rfl ?_ | refine AQ.nil ?_); conv => whnf)
    rw [wrap_i64 _ (by omega) (by omega)]
    refine AReq.mk (by omega) ?_
    conv => whnf
    repeat ((first | refine AO.cons hT ?_ | refine AO.nil ?_ | refine AW.seq ?_ | refine AW.region ?_ | refine AW.cond ?_ | refine AW.block ?_ | refine AW.loop ?_ | refine AW.skip ?_ | refine AW.exit ?_ | refine AW.ret ?_ | refine AD.cons hT rfl ?_ | refine AD.nil ?_ | refine AQ.cons hT rfl ?_ | refine AQ.nil ?_); conv => whnf)
    have e : Int.toNat ((s.size : Int) - 4) = s.size - 4 := by omega
    rw [e]
    have hsz := size_extract s 0 (s.size - 4)
    have hsz' : (s.extract 0 (s.size - 4)).size = s.size - 4 := by omega
    generalize ht : s.extract 0 (s.size - 4) = t at *
    refine AW.draw hm [0, 3, 4, 5, 6, 1, 2, 7] [] (by kernel_rfl) ?_
    conv => whnf
    repeat ((first | refine AO.cons hT ?_ | refine AO.nil ?_ | refine AW.seq ?_ | refine AW.region ?_ | refine AW.cond ?_ | refine AW.block ?_ | refine AW.loop ?_ | refine AW.skip ?_ | refine AW.exit ?_ | refine AW.ret ?_ | refine AD.cons hT rfl ?_ | refine AD.nil ?_ | refine AQ.cons hT rfl ?_ | refine AQ.nil ?_); conv => whnf)
    refine AReq.mk (by omega) ?_
    conv => whnf
    repeat ((first | refine AO.cons hT ?_ | refine AO.nil ?_ | refine AW.seq ?_ | refine AW.region ?_ | refine AW.cond ?_ | refine AW.block ?_ | refine AW.loop ?_ | refine AW.skip ?_ | refine AW.exit ?_ | refine AW.ret ?_ | refine AD.cons hT rfl ?_ | refine AD.nil ?_ | refine AQ.cons hT rfl ?_ | refine AQ.nil ?_); conv => whnf)
    refine ACall.val (by kernel_rfl) (f13 t (by omega)) rfl rfl ?_
    conv => whnf
    repeat ((first | refine AO.cons hT ?_ | refine AO.nil ?_ | refine AW.seq ?_ | refine AW.region ?_ | refine AW.cond ?_ | refine AW.block ?_ | refine AW.loop ?_ | refine AW.skip ?_ | refine AW.exit ?_ | refine AW.ret ?_ | refine AD.cons hT rfl ?_ | refine AD.nil ?_ | refine AQ.cons hT rfl ?_ | refine AQ.nil ?_); conv => whnf)
    refine ACall.val (by kernel_rfl) (f34 _) rfl rfl ?_
    conv => whnf
    repeat ((first | refine AO.cons hT ?_ | refine AO.nil ?_ | refine AW.seq ?_ | refine AW.region ?_ | refine AW.cond ?_ | refine AW.block ?_ | refine AW.loop ?_ | refine AW.skip ?_ | refine AW.exit ?_ | refine AW.ret ?_ | refine AD.cons hT rfl ?_ | refine AD.nil ?_ | refine AQ.cons hT rfl ?_ | refine AQ.nil ?_); conv => whnf)
    have e3 : Int.toNat (t.size : Int) = s.size - 4 := by omega
    rw [e3]
    refine ACond.mk (fun h2 => ?_) (fun h2 => ?_)
    · conv => whnf
      repeat ((first | refine AO.cons hT ?_ | refine AO.nil ?_ | refine AW.seq ?_ | refine AW.region ?_ | refine AW.cond ?_ | refine AW.block ?_ | refine AW.loop ?_ | refine AW.skip ?_ | refine AW.exit ?_ | refine AW.ret ?_ | refine AD.cons hT rfl ?_ | refine AD.nil ?_ | refine AQ.cons hT rfl ?_ | refine AQ.nil ?_); conv => whnf)
      refine AFin.val rfl ⟨?_, rfl⟩
      rw [unsealF, if_neg (by omega)]
      simp only [ht]
      rw [if_neg (by simpa using h2)]
    · conv => whnf
      repeat ((first | refine AO.cons hT ?_ | refine AO.nil ?_ | refine AW.seq ?_ | refine AW.region ?_ | refine AW.cond ?_ | refine AW.block ?_ | refine AW.loop ?_ | refine AW.skip ?_ | refine AW.exit ?_ | refine AW.ret ?_ | refine AD.cons hT rfl ?_ | refine AD.nil ?_ | refine AQ.cons hT rfl ?_ | refine AQ.nil ?_); conv => whnf)
      refine AFin.val rfl ⟨?_, rfl⟩
      rw [unsealF, if_neg (by omega)]
      simp only [ht]
      rw [if_pos (by simpa using h2)]
end Go.Aw.R1

set_option linter.unusedSimpArgs false
set_option linter.unusedVariables false
set_option maxHeartbeats 4000000
namespace Go.Aw.R1
open Go

def refBit (p : BitVec 32 × BitVec 8) : BitVec 32 × BitVec 8 :=
  (if (decide (p.1 &&& 1#32 = 1#32) != decide (p.2 &&& 1#8 = 1#8)) then (p.1 >>> 1) ^^^ 2197175160#32 else p.1 >>> 1, p.2 >>> 1)
def repR : Nat → BitVec 32 × BitVec 8 → BitVec 32 × BitVec 8
  | 0, x => x
  | n + 1, x => refBit (repR n x)
def refStep (n : BitVec 32) (b : BitVec 8) : BitVec 32 := (repR 8 (n, b)).1

theorem mod2 (x : BitVec 32) : ((x.toNat : Int).tmod 2 = 1) ↔ x &&& 1#32 = 1#32 := by
  have h1 : (x &&& 1#32).toNat = x.toNat % 2 := by rw [BitVec.toNat_and]; exact Nat.and_one_is_mod _
  have h2 : (x.toNat : Int).tmod 2 = ((x.toNat % 2 : Nat) : Int) := rfl
  rw [h2, ← h1]
  constructor
  · intro h; exact BitVec.eq_of_toNat_eq (by exact_mod_cast h)
  · intro h; rw [h]; rfl
theorem mod2b (x : BitVec 8) : ((x.toNat : Int).tmod 2 = 1) ↔ x &&& 1#8 = 1#8 := by
  have h1 : (x &&& 1#8).toNat = x.toNat % 2 := by rw [BitVec.toNat_and]; exact Nat.and_one_is_mod _
  have h2 : (x.toNat : Int).tmod 2 = ((x.toNat % 2 : Nat) : Int) := rfl
  rw [h2, ← h1]
  constructor
  · intro h; exact BitVec.eq_of_toNat_eq (by exact_mod_cast h)
  · intro h; rw [h]; rfl
theorem quo2 (x : BitVec 32) : IntKind.wrap .u32 ((x.toNat : Int).tdiv 2) = (x >>> 1).toNat := by
  have h2 : (x.toNat : Int).tdiv 2 = ((x.toNat / 2 : Nat) : Int) := rfl
  rw [h2, wrap_u32, BitVec.toNat_ushiftRight, Nat.shiftRight_eq_div_pow, Nat.mod_eq_of_lt]
  have := x.isLt; omega
theorem quo2b (x : BitVec 8) : IntKind.wrap .u8 ((x.toNat : Int).tdiv 2) = (x >>> 1).toNat := by
  have h2 : (x.toNat : Int).tdiv 2 = ((x.toNat / 2 : Nat) : Int) := rfl
  rw [h2, wrap_u8, BitVec.toNat_ushiftRight, Nat.shiftRight_eq_div_pow, Nat.mod_eq_of_lt]
  have := x.isLt; omega

theorem f37 (n : BitVec 32) (b : BitVec 8) : Fun P 37 [u32 n, u8 b] (u32 (refStep n b)) := by
  refine spec_of hT (f := 37) (fn := Go.Proofs.Try.f37) (c := body Go.Proofs.Try.f37) (by kernel_rfl) (by kernel_rfl) ?_
  conv => whnf
  repeat ((first | refine AO.cons hT ?_ | refine AO.nil ?_ | refine AW.seq ?_ | refine AW.region ?_ | refine AW.cond ?_ | refine AW.block ?_ | refine AW.loop ?_ | refine AW.skip ?_ | refine AW.exit ?_ | refine AW.ret ?_ | refine AD.cons hT rfl ?_ | refine AD.nil ?_ | refine AQ.cons hT rfl ?_ | refine AQ.nil ?_); conv => whnf)
  refine ALoop.mk (fun k E H => ∃ i : Nat, i ≤ 8 ∧ k = 8 - i ∧ E = pad [u32 (repR i (n, b)).1, u8 (repR i (n, b)).2, .any, .any, .any, .v (.int .i64 i)] 27 ∧ H = [])
    (n := 8) _ _ ⟨0, by omega, rfl, rfl, rfl⟩ ?_ ?_
  · refine Conv.fit ?_
    repeat' (first | exact Fit.nil | refine Fit.any ?_ | refine Fit.same ?_)
  rintro _ _ _ ⟨i, hi, rfl, rfl, rfl⟩
  conv => whnf
  repeat ((first | refine AO.cons hT ?_ | refine AO.nil ?_ | refine AW.seq ?_ | refine AW.region ?_ | refine AW.cond ?_ | refine AW.block ?_ | refine AW.loop ?_ | refine AW.skip ?_ | refine AW.exit ?_ | refine AW.ret ?_ | refine AD.cons hT rfl ?_ | refine AD.nil ?_ | refine AQ.cons hT rfl ?_ | refine AQ.nil ?_); conv => whnf)
  refine ACond.dec (fun h => ?_) (fun h => ?_)
  · have hx : repR (i + 1) (n, b) = refBit (repR i (n, b)) := rfl
    generalize repR i (n, b) = p at hx
    obtain ⟨m, c⟩ := p
    conv => whnf
    repeat ((first | refine AO.cons hT ?_ | refine AO.nil ?_ | refine AW.seq ?_ | refine AW.region ?_ | refine AW.cond ?_ | refine AW.block ?_ | refine AW.loop ?_ | refine AW.skip ?_ | refine AW.exit ?_ | refine AW.ret ?_ | refine AD.cons hT rfl ?_ | refine AD.nil ?_ | refine AQ.cons hT rfl ?_ | refine AQ.nil ?_); conv => whnf)
    refine AReq.mk (by decide) ?_
    conv => whnf
    repeat ((first | refine AO.cons hT ?_ | refine AO.nil ?_ | refine AW.seq ?_ | refine AW.region ?_ | refine AW.cond ?_ | refine AW.block ?_ | refine AW.loop ?_ | refine AW.skip ?_ | refine AW.exit ?_ | refine AW.ret ?_ | refine AD.cons hT rfl ?_ | refine AD.nil ?_ | refine AQ.cons hT rfl ?_ | refine AQ.nil ?_); conv => whnf)
    refine AReq.mk (by decide) ?_
    conv => whnf
    repeat ((first | refine AO.cons hT ?_ | refine AO.nil ?_ | refine AW.seq ?_ | refine AW.region ?_ | refine AW.cond ?_ | refine AW.block ?_ | refine AW.loop ?_ | refine AW.skip ?_ | refine AW.exit ?_ | refine AW.ret ?_ | refine AD.cons hT rfl ?_ | refine AD.nil ?_ | refine AQ.cons hT rfl ?_ | refine AQ.nil ?_); conv => whnf)
    refine ACond.dec (fun h2 => ?_) (fun h2 => ?_)
    · have h2' := (mod2b c).1 h2
      conv => whnf
      repeat ((first | refine AO.cons hT ?_ | refine AO.nil ?_ | refine AW.seq ?_ | refine AW.region ?_ | refine AW.cond ?_ | refine AW.block ?_ | refine AW.loop ?_ | refine AW.skip ?_ | refine AW.exit ?_ | refine AW.ret ?_ | refine AD.cons hT rfl ?_ | refine AD.nil ?_ | refine AQ.cons hT rfl ?_ | refine AQ.nil ?_); conv => whnf)
      refine AReq.mk (by decide) ?_
      conv => whnf
      repeat ((first | refine AO.cons hT ?_ | refine AO.nil ?_ | refine AW.seq ?_ | refine AW.region ?_ | refine AW.cond ?_ | refine AW.block ?_ | refine AW.loop ?_ | refine AW.skip ?_ | refine AW.exit ?_ | refine AW.ret ?_ | refine AD.cons hT rfl ?_ | refine AD.nil ?_ | refine AQ.cons hT rfl ?_ | refine AQ.nil ?_); conv => whnf)
      refine AReq.mk (by decide) ?_
      conv => whnf
      repeat ((first | refine AO.cons hT ?_ | refine AO.nil ?_ | refine AW.seq ?_ | refine AW.region ?_ | refine AW.cond ?_ | refine AW.block ?_ | refine AW.loop ?_ | refine AW.skip ?_ | refine AW.exit ?_ | refine AW.ret ?_ | refine AD.cons hT rfl ?_ | refine AD.nil ?_ | refine AQ.cons hT rfl ?_ | refine AQ.nil ?_); conv => whnf)
      refine ACond.ndec (fun h3 => ?_) (fun h3 => ?_)
      · have h3' : ¬ (m &&& 1#32 = 1#32) := fun h => h3 ((mod2 m).2 h)
        conv => whnf
        repeat ((first | refine AO.cons hT ?_ | refine AO.nil ?_ | refine AW.seq ?_ | refine AW.region ?_ | refine AW.cond ?_ | refine AW.block ?_ | refine AW.loop ?_ | refine AW.skip ?_ | refine AW.exit ?_ | refine AW.ret ?_ | refine AD.cons hT rfl ?_ | refine AD.nil ?_ | refine AQ.cons hT rfl ?_ | refine AQ.nil ?_); conv => whnf)
        rw [wrap_i64 _ (by omega) (by omega)]
        refine AHead.mk (8 - (i + 1)) _ _ (by omega) ⟨i + 1, by omega, rfl, rfl, rfl⟩ (Conv.fit ?_)
        rw [hx]
        have e1 : (refBit (m, c)).1 = (m >>> 1) ^^^ 2197175160#32 := by simp [refBit, h2', h3']
        rw [e1, show (refBit (m, c)).2 = c >>> 1 from rfl, quo2, quo2b, show bitop .xor .u32 ((m >>> 1).toNat : Int) 2197175160 = _ from bit_xor (m >>> 1) 2197175160#32]
        repeat' (first | exact Fit.nil | refine Fit.any ?_ | refine Fit.same ?_)
      · have h3' := (mod2 m).1 h3
        conv => whnf
        repeat ((first | refine AO.cons hT ?_ | refine AO.nil ?_ | refine AW.seq ?_ | refine AW.region ?_ | refine AW.cond ?_ | refine AW.block ?_ | refine AW.loop ?_ | refine AW.skip ?_ | refine AW.exit ?_ | refine AW.ret ?_ | refine AD.cons hT rfl ?_ | refine AD.nil ?_ | refine AQ.cons hT rfl ?_ | refine AQ.nil ?_); conv => whnf)
        rw [wrap_i64 _ (by omega) (by omega)]
        refine AHead.mk (8 - (i + 1)) _ _ (by omega) ⟨i + 1, by omega, rfl, rfl, rfl⟩ (Conv.fit ?_)
        rw [hx]
        have e1 : (refBit (m, c)).1 = (m >>> 1) := by simp [refBit, h2', h3']
        rw [e1, show (refBit (m, c)).2 = c >>> 1 from rfl, quo2, quo2b]
        repeat' (first | exact Fit.nil | refine Fit.any ?_ | refine Fit.same ?_)
    · have h2' : ¬ (c &&& 1#8 = 1#8) := fun h => h2 ((mod2b c).2 h)
      conv => whnf
      repeat ((first | refine AO.cons hT ?_ | refine AO.nil ?_ | refine AW.seq ?_ | refine AW.region ?_ | refine AW.cond ?_ | refine AW.block ?_ | refine AW.loop ?_ | refine AW.skip ?_ | refine AW.exit ?_ | refine AW.ret ?_ | refine AD.cons hT rfl ?_ | refine AD.nil ?_ | refine AQ.cons hT rfl ?_ | refine AQ.nil ?_); conv => whnf)
      refine AReq.mk (by decide) ?_
      conv => whnf
      repeat ((first | refine AO.cons hT ?_ | refine AO.nil ?_ | refine AW.seq ?_ | refine AW.region ?_ | refine AW.cond ?_ | refine AW.block ?_ | refine AW.loop ?_ | refine AW.skip ?_ | refine AW.exit ?_ | refine AW.ret ?_ | refine AD.cons hT rfl ?_ | refine AD.nil ?_ | refine AQ.cons hT rfl ?_ | refine AQ.nil ?_); conv => whnf)
      refine AReq.mk (by decide) ?_
      conv => whnf
      repeat ((first | refine AO.cons hT ?_ | refine AO.nil ?_ | refine AW.seq ?_ | refine AW.region ?_ | refine AW.cond ?_ | refine AW.block ?_ | refine AW.loop ?_ | refine AW.skip ?_ | refine AW.exit ?_ | refine AW.ret ?_ | refine AD.cons hT rfl ?_ | refine AD.nil ?_ | refine AQ.cons hT rfl ?_ | refine AQ.nil ?_); conv => whnf)
      refine ACond.dec (fun h3 => ?_) (fun h3 => ?_)
      · have h3' := (mod2 m).1 h3
        conv => whnf
        repeat ((first | refine AO.cons hT ?_ | refine AO.nil ?_ | refine AW.seq ?_ | refine AW.region ?_ | refine AW.cond ?_ | refine AW.block ?_ | refine AW.loop ?_ | refine AW.skip ?_ | refine AW.exit ?_ | refine AW.ret ?_ | refine AD.cons hT rfl ?_ | refine AD.nil ?_ | refine AQ.cons hT rfl ?_ | refine AQ.nil ?_); conv => whnf)
        rw [wrap_i64 _ (by omega) (by omega)]
        refine AHead.mk (8 - (i + 1)) _ _ (by omega) ⟨i + 1, by omega, rfl, rfl, rfl⟩ (Conv.fit ?_)
        rw [hx]
        have e1 : (refBit (m, c)).1 = (m >>> 1) ^^^ 2197175160#32 := by simp [refBit, h2', h3']
        rw [e1, show (refBit (m, c)).2 = c >>> 1 from rfl, quo2, quo2b, show bitop .xor .u32 ((m >>> 1).toNat : Int) 2197175160 = _ from bit_xor (m >>> 1) 2197175160#32]
        repeat' (first | exact Fit.nil | refine Fit.any ?_ | refine Fit.same ?_)
      · have h3' : ¬ (m &&& 1#32 = 1#32) := fun h => h3 ((mod2 m).2 h)
        conv => whnf
        repeat ((first | refine AO.cons hT ?_ | refine AO.nil ?_ | refine AW.seq ?_ | refine AW.region ?_ | refine AW.cond ?_ | refine AW.block ?_ | refine AW.loop ?_ | refine AW.skip ?_ | refine AW.exit ?_ | refine AW.ret ?_ | refine AD.cons hT rfl ?_ | refine AD.nil ?_ | refine AQ.cons hT rfl ?_ | refine AQ.nil ?_); conv => whnf)
        rw [wrap_i64 _ (by omega) (by omega)]
        refine AHead.mk (8 - (i + 1)) _ _ (by omega) ⟨i + 1, by omega, rfl, rfl, rfl⟩ (Conv.fit ?_)
        rw [hx]
        have e1 : (refBit (m, c)).1 = (m >>> 1) := by simp [refBit, h2', h3']
        rw [e1, show (refBit (m, c)).2 = c >>> 1 from rfl, quo2, quo2b]
        repeat' (first | exact Fit.nil | refine Fit.any ?_ | refine Fit.same ?_)
  · obtain rfl : i = 8 := by omega
    conv => whnf
    repeat ((first | refine AO.cons hT ?_ | refine AO.nil ?_ | refine AW.seq ?_ | refine AW.region ?_ | refine AW.cond ?_ | refine AW.block ?_ | refine AW.loop ?_ | refine AW.skip ?_ | refine AW.exit ?_ | refine AW.ret ?_ | refine AD.cons hT rfl ?_ | refine AD.nil ?_ | refine AQ.cons hT rfl ?_ | refine AQ.nil ?_); conv => whnf)
    refine AOut.stay ?_
    conv => whnf
    repeat ((first | refine AO.cons hT ?_ | refine AO.nil ?_ | refine AW.seq ?_ | refine AW.region ?_ | refine AW.cond ?_ | refine AW.block ?_ | refine AW.loop ?_ | refine AW.skip ?_ | refine AW.exit ?_ | refine AW.ret ?_ | refine AD.cons hT rfl ?_ | refine AD.nil ?_ | refine AQ.cons hT rfl ?_ | refine AQ.nil ?_); conv => whnf)
    exact AFin.val rfl ⟨rfl, rfl⟩

/-! ### the two steps are one -/
theorem bit_lin (n : BitVec 32) : bitStep n = (n >>> 1) ^^^ (if n.getLsbD 0 then 2197175160#32 else 0#32) := by
  unfold bitStep
  have : (n &&& 1#32 = 1#32) ↔ n.getLsbD 0 = true := by
    constructor
    · intro h
      have := congrArg (fun x : BitVec 32 => x.getLsbD 0) h
      simpa using this
    · intro h
      apply BitVec.eq_of_getLsbD_eq
      intro i hi
      simp only [BitVec.getLsbD_and, BitVec.getLsbD_one]
      by_cases h0 : i = 0
      · subst h0; simp [h]
      · simp [h0]
  by_cases h : n.getLsbD 0 = true
  · rw [if_pos (this.2 h), if_pos h]
  · rw [if_neg (fun h' => h (this.1 h')), if_neg h]; simp

theorem xor4 (a b p : BitVec 32) : (a ^^^ p) ^^^ (b ^^^ p) = a ^^^ b := by
  rw [BitVec.xor_comm b p, BitVec.xor_assoc, ← BitVec.xor_assoc p p b, BitVec.xor_self, BitVec.zero_xor]

theorem bit_add (a c : BitVec 32) : bitStep (a ^^^ c) = bitStep a ^^^ bitStep c := by
  rw [bit_lin, bit_lin, bit_lin, BitVec.getLsbD_xor, BitVec.ushiftRight_xor_distrib]
  cases a.getLsbD 0 <;> cases c.getLsbD 0
  · simp
  · simp [BitVec.xor_assoc]
  · simp
    ac_rfl
  · simp [xor4]

theorem rep_add (a c : BitVec 32) : ∀ k, rep bitStep k (a ^^^ c) = rep bitStep k a ^^^ rep bitStep k c
  | 0 => rfl
  | k + 1 => by simp only [rep]; rw [rep_add a c k, bit_add]

theorem rep_rep (x : BitVec 32) : ∀ (j k : Nat), rep bitStep j (rep bitStep k x) = rep bitStep (j + k) x
  | 0, k => by simp [rep]
  | j + 1, k => by rw [show j + 1 + k = (j + k) + 1 by omega]; simp only [rep]; rw [rep_rep x j k]

/-- where the low bits are 0, the steps only shift -/
theorem rep_low (x : BitVec 32) : ∀ k, (∀ i, i < k → x.getLsbD i = false) → rep bitStep k x = x >>> k
  | 0, _ => by simp [rep]
  | k + 1, h => by
    simp only [rep]
    rw [rep_low x k (fun i hi => h i (by omega)), bit_lin]
    have : (x >>> k).getLsbD 0 = false := by rw [BitVec.getLsbD_ushiftRight]; simpa using h k (by omega)
    rw [this]
    simp [BitVec.shiftRight_add]

theorem split15 (m : BitVec 32) : m = ((m >>> 4) <<< 4) ^^^ (m &&& 15#32) := by
  apply BitVec.eq_of_getLsbD_eq
  intro i hi
  have h15 : (15#32).getLsbD i = decide (i < 4) := by
    have : i < 32 := hi
    revert i
    decide
  simp only [BitVec.getLsbD_xor, BitVec.getLsbD_shiftLeft, BitVec.getLsbD_ushiftRight, BitVec.getLsbD_and, h15]
  by_cases h4 : i < 4
  · simp [h4, hi]
  · have e : 4 + (i - 4) = i := by omega
    simp [h4, hi, e]

theorem half_step (m : BitVec 32) : rep bitStep 4 m = (m >>> 4) ^^^ halfAt (m &&& 15#32).toNat := by
  have h1 : rep bitStep 4 m = rep bitStep 4 ((m >>> 4) <<< 4) ^^^ rep bitStep 4 (m &&& 15#32) := by
    rw [← rep_add, ← split15]
  rw [h1, rep_low _ 4 (fun i hi => by rw [BitVec.getLsbD_shiftLeft]; simp [hi])]
  have h2 : ((m >>> 4) <<< 4) >>> 4 = m >>> 4 := by
    apply BitVec.eq_of_getLsbD_eq
    intro i hi
    simp only [BitVec.getLsbD_ushiftRight, BitVec.getLsbD_shiftLeft]
    by_cases h28 : 4 + i < 32
    · simp [h28]
    · have : m.getLsbD (4 + i) = false := BitVec.getLsbD_of_ge _ _ (by omega)
      simp [this, h28]
  rw [h2]
  congr 1
  unfold halfAt
  congr 1
  exact (BitVec.ofNat_toNat 32 (m &&& 15#32)).symm ▸ (by simp)

theorem crc_bits (n : BitVec 32) (b : BitVec 8) : crcStep n b = rep bitStep 8 (n ^^^ b.zeroExtend 32) := by
  unfold crcStep
  simp only
  rw [← half_step, ← half_step, rep_rep]

theorem low32 (n : BitVec 32) : decide (n &&& 1#32 = 1#32) = n.getLsbD 0 := by
  have : (n &&& 1#32 = 1#32) ↔ n.getLsbD 0 = true := by
    constructor
    · intro h
      have := congrArg (fun x : BitVec 32 => x.getLsbD 0) h
      simpa using this
    · intro h
      apply BitVec.eq_of_getLsbD_eq
      intro i hi
      simp only [BitVec.getLsbD_and, BitVec.getLsbD_one]
      by_cases h0 : i = 0
      · subst h0; simp [h]
      · simp [h0]
  cases h : n.getLsbD 0 with
  | true => exact decide_eq_true (this.2 h)
  | false => exact decide_eq_false (fun h' => by rw [this.1 h'] at h; cases h)
theorem low8 (n : BitVec 8) : decide (n &&& 1#8 = 1#8) = n.getLsbD 0 := by
  have : (n &&& 1#8 = 1#8) ↔ n.getLsbD 0 = true := by
    constructor
    · intro h
      have := congrArg (fun x : BitVec 8 => x.getLsbD 0) h
      simpa using this
    · intro h
      apply BitVec.eq_of_getLsbD_eq
      intro i hi
      simp only [BitVec.getLsbD_and, BitVec.getLsbD_one]
      by_cases h0 : i = 0
      · subst h0; simp [h]
      · simp [h0]
  cases h : n.getLsbD 0 with
  | true => exact decide_eq_true (this.2 h)
  | false => exact decide_eq_false (fun h' => by rw [this.1 h'] at h; cases h)

theorem ref_inv (n : BitVec 32) (b : BitVec 8) : ∀ k, (repR k (n, b)).2 = b >>> k ∧ (repR k (n, b)).1 ^^^ (b >>> k).zeroExtend 32 = rep bitStep k (n ^^^ b.zeroExtend 32)
  | 0 => by simp [repR, rep]
  | k + 1 => by
    obtain ⟨h1, h2⟩ := ref_inv n b k
    simp only [repR, rep]
    rw [← h2]
    generalize hp : repR k (n, b) = p at *
    obtain ⟨m, c⟩ := p
    simp only at h1
    subst h1
    refine ⟨by simp only [refBit]; rw [BitVec.shiftRight_add], ?_⟩
    rw [bit_lin, BitVec.ushiftRight_xor_distrib]
    have hz : (b >>> k).zeroExtend 32 >>> 1 = (b >>> (k + 1)).zeroExtend 32 := by
      rw [BitVec.shiftRight_add]
      apply BitVec.eq_of_getLsbD_eq
      intro i hi
      simp [BitVec.getLsbD_ushiftRight]
    rw [hz]
    generalize (b >>> (k + 1)).zeroExtend 32 = z
    have e : (m ^^^ (b >>> k).zeroExtend 32).getLsbD 0 = (m.getLsbD 0 != (b >>> k).getLsbD 0) := by
      rw [BitVec.getLsbD_xor]
      simp
      intro h
      have := BitVec.lt_of_getLsbD h
      omega
    rw [e]
    simp only [refBit]
    rw [low32 m, low8 (b >>> k)]
    cases m.getLsbD 0 <;> cases (b >>> k).getLsbD 0 <;> simp
    all_goals ac_rfl

theorem ref_crc (n : BitVec 32) (b : BitVec 8) : refStep n b = crcStep n b := by
  have h := (ref_inv n b 8).2
  rw [crc_bits, ← h, refStep]
  have : b >>> 8 = 0#8 := by
    apply BitVec.eq_of_getLsbD_eq
    intro i hi
    rw [BitVec.getLsbD_ushiftRight]
    simp
  rw [this]
  simp
end Go.Aw.R1

set_option linter.unusedSimpArgs false
set_option linter.unusedVariables false
set_option maxHeartbeats 4000000
namespace Go.Aw.R1
open Go

theorem sub_all (x : BitVec 32) : IntKind.wrap .u32 (4294967295 - (x.toNat : Int)) = (~~~x).toNat := by
  have h := x.isLt
  have e : (4294967295 : Int) - (x.toNat : Int) = ((4294967295 - x.toNat : Nat) : Int) := by omega
  rw [e, wrap_u32, BitVec.toNat_not]
  congr 1
  rw [Nat.mod_eq_of_lt (by omega)]

theorem f16 (sum : BitVec 32) (s : ByteArray) (hs : s.size ≤ 4611686018427387904) : Fun P 16 [u32 sum, .v (.string s)] (u32 (onF sum s.data.toList)) := by
  refine spec_of hT (f := 16) (fn := Go.Proofs.Try.f16) (c := body Go.Proofs.Try.f16) (by kernel_rfl) (by kernel_rfl) ?_
  conv => whnf
  repeat ((first | refine AO.cons hT ?_ | refine AO.nil ?_ | refine AW.seq ?_ | refine AW.region ?_ | refine AW.cond ?_ | refine AW.block ?_ | refine AW.loop ?_ | refine AW.skip ?_ | refine AW.exit ?_ | refine AW.ret ?_ | refine AD.cons hT rfl ?_ | refine AD.nil ?_ | refine AQ.cons hT rfl ?_ | refine AQ.nil ?_); conv => whnf)
  rw [sub_all]
  refine ALoop.mk (fun n E H => ∃ i : Nat, i ≤ s.size ∧ n = s.size - i ∧ E = pad [u32 sum, .v (.string s), .any, .any, .any, u32 ((s.data.toList.take i).foldl (fun n b => crcStep n b.toBitVec) (~~~ sum)), .v (.int .i64 i)] 22 ∧ H = [])
    (n := s.size) _ _ ⟨0, by omega, rfl, rfl, rfl⟩ ?_ ?_
  · refine Conv.fit ?_
    repeat' (first | exact Fit.nil | refine Fit.any ?_ | refine Fit.same ?_)
  rintro _ _ _ ⟨i, hi, rfl, rfl, rfl⟩
  have hsz := size_list s
  conv => whnf
  repeat ((first | refine AO.cons hT ?_ | refine AO.nil ?_ | refine AW.seq ?_ | refine AW.region ?_ | refine AW.cond ?_ | refine AW.block ?_ | refine AW.loop ?_ | refine AW.skip ?_ | refine AW.exit ?_ | refine AW.ret ?_ | refine AD.cons hT rfl ?_ | refine AD.nil ?_ | refine AQ.cons hT rfl ?_ | refine AQ.nil ?_); conv => whnf)
  refine ACond.dec (fun h => ?_) (fun h => ?_)
  · have hi' : i < s.data.toList.length := by omega
    conv => whnf
    repeat ((first | refine AO.cons hT ?_ | refine AO.nil ?_ | refine AW.seq ?_ | refine AW.region ?_ | refine AW.cond ?_ | refine AW.block ?_ | refine AW.loop ?_ | refine AW.skip ?_ | refine AW.exit ?_ | refine AW.ret ?_ | refine AD.cons hT rfl ?_ | refine AD.nil ?_ | refine AQ.cons hT rfl ?_ | refine AQ.nil ?_); conv => whnf)
    refine AReq.mk (by omega) ?_
    conv => whnf
    repeat ((first | refine AO.cons hT ?_ | refine AO.nil ?_ | refine AW.seq ?_ | refine AW.region ?_ | refine AW.cond ?_ | refine AW.block ?_ | refine AW.loop ?_ | refine AW.skip ?_ | refine AW.exit ?_ | refine AW.ret ?_ | refine AD.cons hT rfl ?_ | refine AD.nil ?_ | refine AQ.cons hT rfl ?_ | refine AQ.nil ?_); conv => whnf)
    rw [bt_get s i hi']
    generalize hacc : (s.data.toList.take i).foldl (fun n b => crcStep n b.toBitVec) (~~~ sum) = acc
    have hacc' : (s.data.toList.take (i + 1)).foldl (fun n b => crcStep n b.toBitVec) (~~~ sum) = refStep acc (s.data.toList[i]).toBitVec := by
      rw [List.take_succ_eq_append_getElem hi', List.foldl_append, hacc, ref_crc]; rfl
    refine ACall.val (by kernel_rfl) (f37 acc (s.data.toList[i]).toBitVec) rfl rfl ?_
    conv => whnf
    repeat ((first | refine AO.cons hT ?_ | refine AO.nil ?_ | refine AW.seq ?_ | refine AW.region ?_ | refine AW.cond ?_ | refine AW.block ?_ | refine AW.loop ?_ | refine AW.skip ?_ | refine AW.exit ?_ | refine AW.ret ?_ | refine AD.cons hT rfl ?_ | refine AD.nil ?_ | refine AQ.cons hT rfl ?_ | refine AQ.nil ?_); conv => whnf)
    rw [wrap_i64 _ (by omega) (by omega)]
    refine AHead.mk (s.size - (i + 1)) _ _ (by omega) ⟨i + 1, by omega, rfl, rfl, rfl⟩ (Conv.fit ?_)
    rw [hacc']
    repeat' (first | exact Fit.nil | refine Fit.any ?_ | refine Fit.same ?_)
  · obtain rfl : i = s.size := by omega
    conv => whnf
    repeat ((first | refine AO.cons hT ?_ | refine AO.nil ?_ | refine AW.seq ?_ | refine AW.region ?_ | refine AW.cond ?_ | refine AW.block ?_ | refine AW.loop ?_ | refine AW.skip ?_ | refine AW.exit ?_ | refine AW.ret ?_ | refine AD.cons hT rfl ?_ | refine AD.nil ?_ | refine AQ.cons hT rfl ?_ | refine AQ.nil ?_); conv => whnf)
    refine AOut.stay ?_
    rw [List.take_of_length_le (by omega)]
    conv => whnf
    repeat ((first | refine AO.cons hT ?_ | refine AO.nil ?_ | refine AW.seq ?_ | refine AW.region ?_ | refine AW.cond ?_ | refine AW.block ?_ | refine AW.loop ?_ | refine AW.skip ?_ | refine AW.exit ?_ | refine AW.ret ?_ | refine AD.cons hT rfl ?_ | refine AD.nil ?_ | refine AQ.cons hT rfl ?_ | refine AQ.nil ?_); conv => whnf)
    rw [sub_all]
    refine AFin.val rfl ⟨rfl, rfl⟩

theorem f14 (s : ByteArray) (hs : s.size ≤ 4611686018427387904) : Fun P 14 [.v (.string s)] (u32 (onF 0 s.data.toList)) := by
  refine spec_of hT (f := 14) (fn := Go.Proofs.Try.f14) (c := body Go.Proofs.Try.f14) (by kernel_rfl) (by kernel_rfl) ?_
  conv => whnf
  repeat ((first | refine AO.cons hT ?_ | refine AO.nil ?_ | refine AW.seq ?_ | refine AW.region ?_ | refine AW.cond ?_ | refine AW.block ?_ | refine AW.loop ?_ | refine AW.skip ?_ | refine AW.exit ?_ | refine AW.ret ?_ | refine AD.cons hT rfl ?_ | refine AD.nil ?_ | refine AQ.cons hT rfl ?_ | refine AQ.nil ?_); conv => whnf)
  refine ACall.val (by kernel_rfl) (f16 0#32 s hs) rfl rfl ?_
  conv => whnf
  repeat ((first | refine AO.cons hT ?_ | refine AO.nil ?_ | refine AW.seq ?_ | refine AW.region ?_ | refine AW.cond ?_ | refine AW.block ?_ | refine AW.loop ?_ | refine AW.skip ?_ | refine AW.exit ?_ | refine AW.ret ?_ | refine AD.cons hT rfl ?_ | refine AD.nil ?_ | refine AQ.cons hT rfl ?_ | refine AQ.nil ?_); conv => whnf)
  exact AFin.val rfl ⟨rfl, rfl⟩

theorem f35 (n : BitVec 32) : Fun P 35 [u32 n] (.v (.string ⟨(fourF n).toArray⟩)) := by
  refine spec_of hT (f := 35) (fn := Go.Proofs.Try.f35) (c := body Go.Proofs.Try.f35) (by kernel_rfl) (by kernel_rfl) ?_
  conv => whnf
  repeat ((first | refine AO.cons hT ?_ | refine AO.nil ?_ | refine AW.seq ?_ | refine AW.region ?_ | refine AW.cond ?_ | refine AW.block ?_ | refine AW.loop ?_ | refine AW.skip ?_ | refine AW.exit ?_ | refine AW.ret ?_ | refine AD.cons hT rfl ?_ | refine AD.nil ?_ | refine AQ.cons hT rfl ?_ | refine AQ.nil ?_); conv => whnf)
  refine AReq.mk (by decide) ?_
  conv => whnf
  repeat ((first | refine AO.cons hT ?_ | refine AO.nil ?_ | refine AW.seq ?_ | refine AW.region ?_ | refine AW.cond ?_ | refine AW.block ?_ | refine AW.loop ?_ | refine AW.skip ?_ | refine AW.exit ?_ | refine AW.ret ?_ | refine AD.cons hT rfl ?_ | refine AD.nil ?_ | refine AQ.cons hT rfl ?_ | refine AQ.nil ?_); conv => whnf)
  refine AReq.mk (by decide) ?_
  conv => whnf
  repeat ((first | refine AO.cons hT ?_ | refine AO.nil ?_ | refine AW.seq ?_ | refine AW.region ?_ | refine AW.cond ?_ | refine AW.block ?_ | refine AW.loop ?_ | refine AW.skip ?_ | refine AW.exit ?_ | refine AW.ret ?_ | refine AD.cons hT rfl ?_ | refine AD.nil ?_ | refine AQ.cons hT rfl ?_ | refine AQ.nil ?_); conv => whnf)
  refine AReq.mk (by decide) ?_
  conv => whnf
  repeat ((first | refine AO.cons hT ?_ | refine AO.nil ?_ | refine AW.seq ?_ | refine AW.region ?_ | refine AW.cond ?_ | refine AW.block ?_ | refine AW.loop ?_ | refine AW.skip ?_ | refine AW.exit ?_ | refine AW.ret ?_ | refine AD.cons hT rfl ?_ | refine AD.nil ?_ | refine AQ.cons hT rfl ?_ | refine AQ.nil ?_); conv => whnf)
  refine AReq.mk (by decide) ?_
  conv => whnf
  repeat ((first | refine AO.cons hT ?_ | refine AO.nil ?_ | refine AW.seq ?_ | refine AW.region ?_ | refine AW.cond ?_ | refine AW.block ?_ | refine AW.loop ?_ | refine AW.skip ?_ | refine AW.exit ?_ | refine AW.ret ?_ | refine AD.cons hT rfl ?_ | refine AD.nil ?_ | refine AQ.cons hT rfl ?_ | refine AQ.nil ?_); conv => whnf)
  refine AReq.mk (by decide) ?_
  conv => whnf
  repeat ((first | refine AO.cons hT ?_ | refine AO.nil ?_ | refine AW.seq ?_ | refine AW.region ?_ | refine AW.cond ?_ | refine AW.block ?_ | refine AW.loop ?_ | refine AW.skip ?_ | refine AW.exit ?_ | refine AW.ret ?_ | refine AD.cons hT rfl ?_ | refine AD.nil ?_ | refine AQ.cons hT rfl ?_ | refine AQ.nil ?_); conv => whnf)
  refine AReq.mk (by decide) ?_
  conv => whnf
  repeat ((first | refine AO.cons hT ?_ | refine AO.nil ?_ | refine AW.seq ?_ | refine AW.region ?_ | refine AW.cond ?_ | refine AW.block ?_ | refine AW.loop ?_ | refine AW.skip ?_ | refine AW.exit ?_ | refine AW.ret ?_ | refine AD.cons hT rfl ?_ | refine AD.nil ?_ | refine AQ.cons hT rfl ?_ | refine AQ.nil ?_); conv => whnf)
  have hn := n.isLt
  have q : ∀ k : Nat, 0 < k → k < 4294967296 → IntKind.wrap .u32 ((n.toNat : Int).tdiv k) = ((n.toNat / k : Nat) : Int) := by
    intro k hk hk2
    have h2 : (n.toNat : Int).tdiv k = ((n.toNat / k : Nat) : Int) := rfl
    rw [h2, wrap_u32, Nat.mod_eq_of_lt (Nat.lt_of_le_of_lt (Nat.div_le_self _ _) hn)]
  rw [show IntKind.wrap .u32 ((n.toNat : Int).tdiv 256) = _ from q 256 (by decide) (by decide), show IntKind.wrap .u32 ((n.toNat : Int).tdiv 65536) = _ from q 65536 (by decide) (by decide), show IntKind.wrap .u32 ((n.toNat : Int).tdiv 16777216) = _ from q 16777216 (by decide) (by decide)]
  have r : ∀ m : Nat, (m : Int).tmod 256 = ((m % 256 : Nat) : Int) := fun m => rfl
  rw [r, r, r, wrap_u8, wrap_u8, wrap_u8, wrap_u8]
  have b0 : byteC ⟨n.setWidth 8⟩ = .v (.int .u8 ((n.toNat % 256 % 256 : Nat) : Int)) := by
    show AV.v (.int .u8 ((n.setWidth 8).toNat : Int)) = _
    rw [BitVec.toNat_setWidth]; simp
  have b1 : byteC ⟨(n >>> 8).setWidth 8⟩ = .v (.int .u8 ((n.toNat / 256 % 256 % 256 : Nat) : Int)) := by
    show AV.v (.int .u8 (((n >>> 8).setWidth 8).toNat : Int)) = _
    rw [BitVec.toNat_setWidth, BitVec.toNat_ushiftRight, Nat.shiftRight_eq_div_pow]; simp
  have b2 : byteC ⟨(n >>> 16).setWidth 8⟩ = .v (.int .u8 ((n.toNat / 65536 % 256 % 256 : Nat) : Int)) := by
    show AV.v (.int .u8 (((n >>> 16).setWidth 8).toNat : Int)) = _
    rw [BitVec.toNat_setWidth, BitVec.toNat_ushiftRight, Nat.shiftRight_eq_div_pow]; simp
  have b3 : byteC ⟨(n >>> 24).setWidth 8⟩ = .v (.int .u8 ((n.toNat / 16777216 % 256 : Nat) : Int)) := by
    show AV.v (.int .u8 (((n >>> 24).setWidth 8).toNat : Int)) = _
    rw [BitVec.toNat_setWidth, BitVec.toNat_ushiftRight, Nat.shiftRight_eq_div_pow]
  refine AStr.iff.2 ⟨fourF n, ?_, ?_⟩
  · simp only [fourF, List.map_cons, List.map_nil, b0, b1, b2, b3]
  conv => whnf
  repeat ((first | refine AO.cons hT ?_ | refine AO.nil ?_ | refine AW.seq ?_ | refine AW.region ?_ | refine AW.cond ?_ | refine AW.block ?_ | refine AW.loop ?_ | refine AW.skip ?_ | refine AW.exit ?_ | refine AW.ret ?_ | refine AD.cons hT rfl ?_ | refine AD.nil ?_ | refine AQ.cons hT rfl ?_ | refine AQ.nil ?_); conv => whnf)
  exact AFin.val rfl ⟨rfl, rfl⟩

theorem f18 (s : ByteArray) (hs : s.size ≤ 4611686018427387904) : Fun P 18 [.v (.string s)] (.v (.string (s ++ ⟨(fourF (onF 0 s.data.toList)).toArray⟩))) := by
  refine spec_of hT (f := 18) (fn := Go.Proofs.Try.f18) (c := body Go.Proofs.Try.f18) (by kernel_rfl) (by kernel_rfl) ?_
  conv => whnf
  repeat ((first | refine AO.cons hT ?_ | refine AO.nil ?_ | refine AW.seq ?_ | refine AW.region ?_ | refine AW.cond ?_ | refine AW.block ?_ | refine AW.loop ?_ | refine AW.skip ?_ | refine AW.exit ?_ | refine AW.ret ?_ | refine AD.cons hT rfl ?_ | refine AD.nil ?_ | refine AQ.cons hT rfl ?_ | refine AQ.nil ?_); conv => whnf)
  refine ACall.val (by kernel_rfl) (f14 s hs) rfl rfl ?_
  conv => whnf
  repeat ((first | refine AO.cons hT ?_ | refine AO.nil ?_ | refine AW.seq ?_ | refine AW.region ?_ | refine AW.cond ?_ | refine AW.block ?_ | refine AW.loop ?_ | refine AW.skip ?_ | refine AW.exit ?_ | refine AW.ret ?_ | refine AD.cons hT rfl ?_ | refine AD.nil ?_ | refine AQ.cons hT rfl ?_ | refine AQ.nil ?_); conv => whnf)
  refine ACall.val (by kernel_rfl) (f35 _) rfl rfl ?_
  conv => whnf
  repeat ((first | refine AO.cons hT ?_ | refine AO.nil ?_ | refine AW.seq ?_ | refine AW.region ?_ | refine AW.cond ?_ | refine AW.block ?_ | refine AW.loop ?_ | refine AW.skip ?_ | refine AW.exit ?_ | refine AW.ret ?_ | refine AD.cons hT rfl ?_ | refine AD.nil ?_ | refine AQ.cons hT rfl ?_ | refine AQ.nil ?_); conv => whnf)
  refine AReq.mk (by show s.size + 4 ≤ _; omega) ?_
  conv => whnf
  repeat ((first | refine AO.cons hT ?_ | refine AO.nil ?_ | refine AW.seq ?_ | refine AW.region ?_ | refine AW.cond ?_ | refine AW.block ?_ | refine AW.loop ?_ | refine AW.skip ?_ | refine AW.exit ?_ | refine AW.ret ?_ | refine AD.cons hT rfl ?_ | refine AD.nil ?_ | refine AQ.cons hT rfl ?_ | refine AQ.nil ?_); conv => whnf)
  exact AFin.val rfl ⟨rfl, rfl⟩

theorem f12 (s : ByteArray) (hs : s.size ≤ 4611686018427387904) : Fun P 12 [.v (.string s)] (.tup [.v (.string (unsealF s).1), .v (.int .i64 (unsealF s).2)]) := by
  refine spec_of hT (f := 12) (fn := Go.Proofs.Try.f12) (c := body Go.Proofs.Try.f12) (by kernel_rfl) (by kernel_rfl) ?_
  conv => whnf
  repeat ((first | refine AO.cons hT ?_ | refine AO.nil ?_ | refine AW.seq ?_ | refine AW.region ?_ | refine AW.cond ?_ | refine AW.block ?_ | refine AW.loop ?_ | refine AW.skip ?_ | refine AW.exit ?_ | refine AW.ret ?_ | refine AD.cons hT rfl ?_ | refine AD.nil ?_ | refine AQ.cons hT rfl ?_ | refine AQ.nil ?_); conv => whnf)
  refine ACond.dec (fun h => ?_) (fun h => ?_)
  · conv => whnf
    repeat ((first | refine AO.cons hT ?_ | refine AO.nil ?_ | refine AW.seq ?_ | refine AW.region ?_ | refine AW.cond ?_ | refine AW.block ?_ | refine AW.loop ?_ | refine AW.skip ?_ | refine AW.exit ?_ | refine AW.ret ?_ | refine AD.cons hT rfl ?_ | refine AD.nil ?_ | refine AQ.cons hT rfl ?_ | refine AQ.nil ?_); conv => whnf)
    refine AFin.val rfl ⟨?_, rfl⟩
    rw [unsealF, if_pos (by omega)]
  · conv => whnf
    repeat ((first | refine AO.cons hT ?_ | refine AO.nil ?_ | refine AW.seq ?_ | refine AW.region ?_ | refine AW.cond ?_ | refine AW.block ?_ | refine AW.loop ?_ | refine AW.skip ?_ | refine AW.exit ?_ | refine AW.ret ?_ | refine AD.cons hT rfl ?_ | refine AD.nil ?_ | refine AQ.cons hT rfl ?_ | refine AQ.nil ?_); conv => whnf)
    rw [wrap_i64 _ (by omega) (by omega)]
    refine AW.draw hm [0, 1, 2, 5, 6, 7, 3, 4, 8] [] (by kernel_rfl) ?_
    conv => whnf
    repeat ((first | refine AO.cons hT ?_ | refine AO.nil ?_ | refine AW.seq ?_ | refine AW.region ?_ | refine AW.cond ?_ | refine AW.block ?_ | refine AW.loop ?_ | refine AW.skip ?_ | refine AW.exit ?_ | refine AW.ret ?_ | refine AD.cons hT rfl ?_ | refine AD.nil ?_ | refine AQ.cons hT rfl ?_ | refine AQ.nil ?_); conv => whnf)
    refine AReq.mk (by omega) ?_
    conv => whnf
    repeat ((first | refine AO.cons hT ?_ | refine AO.nil ?_ | refine AW.seq ?_ | refine AW.region ?_ | refine AW.cond ?_ | refine AW.block ?_ | refine AW.loop ?_ | refine AW.skip ?_ | refine AW.exit ?_ | refine AW.ret ?_ | refine AD.cons hT rfl ?_ | refine AD.nil ?_ | refine AQ.cons hT rfl ?_ | refine AQ.nil ?_); conv => whnf)
    refine AReq.mk (by omega) ?_
    conv => whnf
    repeat ((first | refine AO.cons hT ?_ | refine AO.nil ?_ | refine AW.seq ?_ | refine AW.region ?_ | refine AW.cond ?_ | refine AW.block ?_ | refine AW.loop ?_ | refine AW.skip ?_ | refine AW.exit ?_ | refine AW.ret ?_ | refine AD.cons hT rfl ?_ | refine AD.nil ?_ | refine AQ.cons hT rfl ?_ | refine AQ.nil ?_); conv => whnf)
    have e : Int.toNat ((s.size : Int) - 4) = s.size - 4 := by omega
    rw [e]
    have hsz := size_extract s 0 (s.size - 4)
    have hsz' : (s.extract 0 (s.size - 4)).size = s.size - 4 := by omega
    generalize ht : s.extract 0 (s.size - 4) = t at *
    refine ACall.val (by kernel_rfl) (f14 t (by omega)) rfl rfl ?_
    conv => whnf
    repeat ((first | refine AO.cons hT ?_ | refine AO.nil ?_ | refine AW.seq ?_ | refine AW.region ?_ | refine AW.cond ?_ | refine AW.block ?_ | refine AW.loop ?_ | refine AW.skip ?_ | refine AW.exit ?_ | refine AW.ret ?_ | refine AD.cons hT rfl ?_ | refine AD.nil ?_ | refine AQ.cons hT rfl ?_ | refine AQ.nil ?_); conv => whnf)
    refine ACall.val (by kernel_rfl) (f35 _) rfl rfl ?_
    conv => whnf
    repeat ((first | refine AO.cons hT ?_ | refine AO.nil ?_ | refine AW.seq ?_ | refine AW.region ?_ | refine AW.cond ?_ | refine AW.block ?_ | refine AW.loop ?_ | refine AW.skip ?_ | refine AW.exit ?_ | refine AW.ret ?_ | refine AD.cons hT rfl ?_ | refine AD.nil ?_ | refine AQ.cons hT rfl ?_ | refine AQ.nil ?_); conv => whnf)
    refine ACond.mk (fun h2 => ?_) (fun h2 => ?_)
    · conv => whnf
      repeat ((first | refine AO.cons hT ?_ | refine AO.nil ?_ | refine AW.seq ?_ | refine AW.region ?_ | refine AW.cond ?_ | refine AW.block ?_ | refine AW.loop ?_ | refine AW.skip ?_ | refine AW.exit ?_ | refine AW.ret ?_ | refine AD.cons hT rfl ?_ | refine AD.nil ?_ | refine AQ.cons hT rfl ?_ | refine AQ.nil ?_); conv => whnf)
      refine AFin.val rfl ⟨?_, rfl⟩
      rw [unsealF, if_neg (by omega)]
      simp only [ht]
      rw [if_neg (by simpa using h2)]
    · conv => whnf
      repeat ((first | refine AO.cons hT ?_ | refine AO.nil ?_ | refine AW.seq ?_ | refine AW.region ?_ | refine AW.cond ?_ | refine AW.block ?_ | refine AW.loop ?_ | refine AW.skip ?_ | refine AW.exit ?_ | refine AW.ret ?_ | refine AD.cons hT rfl ?_ | refine AD.nil ?_ | refine AQ.cons hT rfl ?_ | refine AQ.nil ?_); conv => whnf)
      refine AReq.mk (by omega) ?_
      conv => whnf
      repeat ((first | refine AO.cons hT ?_ | refine AO.nil ?_ | refine AW.seq ?_ | refine AW.region ?_ | refine AW.cond ?_ | refine AW.block ?_ | refine AW.loop ?_ | refine AW.skip ?_ | refine AW.exit ?_ | refine AW.ret ?_ | refine AD.cons hT rfl ?_ | refine AD.nil ?_ | refine AQ.cons hT rfl ?_ | refine AQ.nil ?_); conv => whnf)
      refine AFin.val rfl ⟨?_, rfl⟩
      rw [unsealF, if_neg (by omega), e]
      simp only [ht]
      rw [if_pos (by simpa using h2)]
end Go.Aw.R1

set_option linter.unusedSimpArgs false
set_option linter.unusedVariables false
set_option maxHeartbeats 4000000
namespace Go.Aw.R1
open Go

def oneAt (j : Nat) : BitVec 32 := if j = 0 then 2197175160#32 else 1#32 <<< (j - 1)
def oneL : List (BitVec 32) := (List.range 32).map oneAt
def oneP (i : Nat) : List AV := (List.range 32).map fun j => u32 (if j < i then oneAt j else 0#32)

theorem oneP_set (i : Nat) (h : i < 32) : (oneP i).set i (u32 (oneAt i)) = oneP (i + 1) := by
  apply List.ext_getElem?
  intro j
  simp only [oneP, List.getElem?_set, List.getElem?_map, List.length_map, List.length_range, List.getElem?_range]
  by_cases hj : i = j
  · subst hj; simp [h]
  · simp only [hj, if_false]
    by_cases hj16 : j < 32
    · simp only [hj16, List.getElem?_range, Option.map_some]
      congr 3
      have : (j < i) = (j < i + 1) := by apply propext; omega
      rw [this]
    · simp [hj16]

theorem f38 : Fun P 38 [] (.agg (oneL.map u32)) := by
  refine spec_of hT (f := 38) (fn := Go.Proofs.Try.f38) (c := body Go.Proofs.Try.f38) (by kernel_rfl) (by kernel_rfl) ?_
  conv => whnf
  repeat ((first | refine AO.cons hT ?_ | refine AO.nil ?_ | refine AW.seq ?_ | refine AW.region ?_ | refine AW.cond ?_ | refine AW.block ?_ | refine AW.loop ?_ | refine AW.skip ?_ | refine AW.exit ?_ | refine AW.ret ?_ | refine AD.cons hT rfl ?_ | refine AD.nil ?_ | refine AQ.cons hT rfl ?_ | refine AQ.nil ?_); conv => whnf)
  refine AReq.mk (by decide) ?_
  conv => whnf
  repeat ((first | refine AO.cons hT ?_ | refine AO.nil ?_ | refine AW.seq ?_ | refine AW.region ?_ | refine AW.cond ?_ | refine AW.block ?_ | refine AW.loop ?_ | refine AW.skip ?_ | refine AW.exit ?_ | refine AW.ret ?_ | refine AD.cons hT rfl ?_ | refine AD.nil ?_ | refine AQ.cons hT rfl ?_ | refine AQ.nil ?_); conv => whnf)
  refine AReq.mk rfl ?_
  conv => whnf
  repeat ((first | refine AO.cons hT ?_ | refine AO.nil ?_ | refine AW.seq ?_ | refine AW.region ?_ | refine AW.cond ?_ | refine AW.block ?_ | refine AW.loop ?_ | refine AW.skip ?_ | refine AW.exit ?_ | refine AW.ret ?_ | refine AD.cons hT rfl ?_ | refine AD.nil ?_ | refine AQ.cons hT rfl ?_ | refine AQ.nil ?_); conv => whnf)
  refine AUpd.setAt 0 rfl (by decide) ?_
  conv => whnf
  repeat ((first | refine AO.cons hT ?_ | refine AO.nil ?_ | refine AW.seq ?_ | refine AW.region ?_ | refine AW.cond ?_ | refine AW.block ?_ | refine AW.loop ?_ | refine AW.skip ?_ | refine AW.exit ?_ | refine AW.ret ?_ | refine AD.cons hT rfl ?_ | refine AD.nil ?_ | refine AQ.cons hT rfl ?_ | refine AQ.nil ?_); conv => whnf)
  refine ALoop.mk (fun k E H => ∃ i : Nat, 1 ≤ i ∧ i ≤ 32 ∧ k = 32 - i ∧ E = pad [.ptr 0 0, .ptr 1 0, .v (.int .i64 i)] 14 ∧ H = [.cells 68 (List.replicate 32 (AV.v (Value.int IntKind.u32 0))), .cells 68 (oneP i)])
    (n := 31) _ _ ⟨1, by omega, by omega, rfl, rfl, rfl⟩ (Conv.fit ?_) ?_
  · repeat' (first | exact Fit.nil | refine Fit.any ?_ | refine Fit.same ?_)
  rintro _ _ _ ⟨i, hi1, hi, rfl, rfl, rfl⟩
  conv => whnf
  repeat ((first | refine AO.cons hT ?_ | refine AO.nil ?_ | refine AW.seq ?_ | refine AW.region ?_ | refine AW.cond ?_ | refine AW.block ?_ | refine AW.loop ?_ | refine AW.skip ?_ | refine AW.exit ?_ | refine AW.ret ?_ | refine AD.cons hT rfl ?_ | refine AD.nil ?_ | refine AQ.cons hT rfl ?_ | refine AQ.nil ?_); conv => whnf)
  refine ACond.dec (fun h => ?_) (fun h => ?_)
  · conv => whnf
    repeat ((first | refine AO.cons hT ?_ | refine AO.nil ?_ | refine AW.seq ?_ | refine AW.region ?_ | refine AW.cond ?_ | refine AW.block ?_ | refine AW.loop ?_ | refine AW.skip ?_ | refine AW.exit ?_ | refine AW.ret ?_ | refine AD.cons hT rfl ?_ | refine AD.nil ?_ | refine AQ.cons hT rfl ?_ | refine AQ.nil ?_); conv => whnf)
    rw [wrap_i64 ((i : Int) - 1) (by omega) (by omega)]
    refine AReq.mk (by omega) ?_
    conv => whnf
    repeat ((first | refine AO.cons hT ?_ | refine AO.nil ?_ | refine AW.seq ?_ | refine AW.region ?_ | refine AW.cond ?_ | refine AW.block ?_ | refine AW.loop ?_ | refine AW.skip ?_ | refine AW.exit ?_ | refine AW.ret ?_ | refine AD.cons hT rfl ?_ | refine AD.nil ?_ | refine AQ.cons hT rfl ?_ | refine AQ.nil ?_); conv => whnf)
    refine AReq.mk (by omega) ?_
    conv => whnf
    repeat ((first | refine AO.cons hT ?_ | refine AO.nil ?_ | refine AW.seq ?_ | refine AW.region ?_ | refine AW.cond ?_ | refine AW.block ?_ | refine AW.loop ?_ | refine AW.skip ?_ | refine AW.exit ?_ | refine AW.ret ?_ | refine AD.cons hT rfl ?_ | refine AD.nil ?_ | refine AQ.cons hT rfl ?_ | refine AQ.nil ?_); conv => whnf)
    refine AReq.mk rfl ?_
    conv => whnf
    repeat ((first | refine AO.cons hT ?_ | refine AO.nil ?_ | refine AW.seq ?_ | refine AW.region ?_ | refine AW.cond ?_ | refine AW.block ?_ | refine AW.loop ?_ | refine AW.skip ?_ | refine AW.exit ?_ | refine AW.ret ?_ | refine AD.cons hT rfl ?_ | refine AD.nil ?_ | refine AQ.cons hT rfl ?_ | refine AQ.nil ?_); conv => whnf)
    have e : IntKind.wrap .u32 (1 * 2 ^ min (Int.toNat ((i : Int) - 1)) IntKind.u32.bits) = (oneAt i).toNat := by
      have e1 : Int.toNat ((i : Int) - 1) = i - 1 := by omega
      rw [e1]
      have e2 : min (i - 1) IntKind.u32.bits = i - 1 := by show min _ 32 = _; omega
      rw [e2, Int.one_mul, show ((2 : Int) ^ (i - 1)) = ((2 ^ (i - 1) : Nat) : Int) by norm_cast, wrap_u32, oneAt, if_neg (by omega), BitVec.toNat_shiftLeft]
      simp [Nat.shiftLeft_eq]
    rw [e]
    refine AUpd.setAt i (by show 0 + Int.toNat i * 1 + 0 = i; omega) (by simp [oneP]; omega) ?_
    have e3 : (oneP i).set i (AV.v (.int .u32 (oneAt i).toNat)) = oneP (i + 1) := oneP_set i (by omega)
    rw [e3]
    conv => whnf
    repeat ((first | refine AO.cons hT ?_ | refine AO.nil ?_ | refine AW.seq ?_ | refine AW.region ?_ | refine AW.cond ?_ | refine AW.block ?_ | refine AW.loop ?_ | refine AW.skip ?_ | refine AW.exit ?_ | refine AW.ret ?_ | refine AD.cons hT rfl ?_ | refine AD.nil ?_ | refine AQ.cons hT rfl ?_ | refine AQ.nil ?_); conv => whnf)
    rw [wrap_i64 ((i : Int) + 1) (by omega) (by omega)]
    refine AHead.mk (32 - (i + 1)) _ _ (by omega) ⟨i + 1, by omega, by omega, rfl, rfl, rfl⟩ (Conv.fit ?_)
    repeat' (first | exact Fit.nil | refine Fit.any ?_ | refine Fit.same ?_)
  · obtain rfl : i = 32 := by omega
    conv => whnf
    repeat ((first | refine AO.cons hT ?_ | refine AO.nil ?_ | refine AW.seq ?_ | refine AW.region ?_ | refine AW.cond ?_ | refine AW.block ?_ | refine AW.loop ?_ | refine AW.skip ?_ | refine AW.exit ?_ | refine AW.ret ?_ | refine AD.cons hT rfl ?_ | refine AD.nil ?_ | refine AQ.cons hT rfl ?_ | refine AQ.nil ?_); conv => whnf)
    have e : oneP 32 = oneL.map u32 := by
      simp only [oneP, oneL, List.map_map]
      apply List.map_congr_left
      intro j hj
      simp at hj
      simp [hj]
    rw [e]
    refine AOut.stay ?_
    conv => whnf
    repeat ((first | refine AO.cons hT ?_ | refine AO.nil ?_ | refine AW.seq ?_ | refine AW.region ?_ | refine AW.cond ?_ | refine AW.block ?_ | refine AW.loop ?_ | refine AW.skip ?_ | refine AW.exit ?_ | refine AW.ret ?_ | refine AD.cons hT rfl ?_ | refine AD.nil ?_ | refine AQ.cons hT rfl ?_ | refine AQ.nil ?_); conv => whnf)
    refine ACut.all rfl ?_
    conv => whnf
    repeat ((first | refine AO.cons hT ?_ | refine AO.nil ?_ | refine AW.seq ?_ | refine AW.region ?_ | refine AW.cond ?_ | refine AW.block ?_ | refine AW.loop ?_ | refine AW.skip ?_ | refine AW.exit ?_ | refine AW.ret ?_ | refine AD.cons hT rfl ?_ | refine AD.nil ?_ | refine AQ.cons hT rfl ?_ | refine AQ.nil ?_); conv => whnf)
    refine AReq.mk rfl ?_
    conv => whnf
    repeat ((first | refine AO.cons hT ?_ | refine AO.nil ?_ | refine AW.seq ?_ | refine AW.region ?_ | refine AW.cond ?_ | refine AW.block ?_ | refine AW.loop ?_ | refine AW.skip ?_ | refine AW.exit ?_ | refine AW.ret ?_ | refine AD.cons hT rfl ?_ | refine AD.nil ?_ | refine AQ.cons hT rfl ?_ | refine AQ.nil ?_); conv => whnf)
    refine AUpd.to (oneL.map u32) (by simp [oneL]) (by simp [spl, oneL]) ?_
    conv => whnf
    repeat ((first | refine AO.cons hT ?_ | refine AO.nil ?_ | refine AW.seq ?_ | refine AW.region ?_ | refine AW.cond ?_ | refine AW.block ?_ | refine AW.loop ?_ | refine AW.skip ?_ | refine AW.exit ?_ | refine AW.ret ?_ | refine AD.cons hT rfl ?_ | refine AD.nil ?_ | refine AQ.cons hT rfl ?_ | refine AQ.nil ?_); conv => whnf)
    refine ACut.all rfl ?_
    conv => whnf
    repeat ((first | refine AO.cons hT ?_ | refine AO.nil ?_ | refine AW.seq ?_ | refine AW.region ?_ | refine AW.cond ?_ | refine AW.block ?_ | refine AW.loop ?_ | refine AW.skip ?_ | refine AW.exit ?_ | refine AW.ret ?_ | refine AD.cons hT rfl ?_ | refine AD.nil ?_ | refine AQ.cons hT rfl ?_ | refine AQ.nil ?_); conv => whnf)
    refine AFin.val ?_ ⟨rfl, rfl⟩
    simp [AV.ren, renL_map, u32, Function.comp_def]

/-! ### what becomes of a sum -/
def ofK (m : List (BitVec 32)) (n : BitVec 32) : Nat → BitVec 32
  | 0 => 0#32
  | i + 1 => if n.getLsbD i then ofK m n i ^^^ m.getD i 0#32 else ofK m n i
def ofF (m : List (BitVec 32)) (n : BitVec 32) : BitVec 32 := ofK m n 32

theorem ofK_end (m : List (BitVec 32)) (n : BitVec 32) (i : Nat) (h : n >>> i = 0#32) : ∀ k, ofK m n (i + k) = ofK m n i
  | 0 => rfl
  | k + 1 => by
    have : n.getLsbD (i + k) = false := by
      have := congrArg (fun x : BitVec 32 => x.getLsbD k) h
      simpa [BitVec.getLsbD_ushiftRight] using this
    rw [← Nat.add_assoc]
    simp only [ofK, this]
    exact ofK_end m n i h k

theorem f40 (m : List (BitVec 32)) (hl : m.length = 32) (n : BitVec 32) : Fun P 40 [.agg (m.map u32), u32 n] (u32 (ofF m n)) := by
  refine spec_of hT (f := 40) (fn := Go.Proofs.Try.f40) (c := body Go.Proofs.Try.f40) (by kernel_rfl) (by kernel_rfl) ?_
  conv => whnf
  repeat ((first | refine AO.cons hT ?_ | refine AO.nil ?_ | refine AW.seq ?_ | refine AW.region ?_ | refine AW.cond ?_ | refine AW.block ?_ | refine AW.loop ?_ | refine AW.skip ?_ | refine AW.exit ?_ | refine AW.ret ?_ | refine AD.cons hT rfl ?_ | refine AD.nil ?_ | refine AQ.cons hT rfl ?_ | refine AQ.nil ?_); conv => whnf)
  refine ALoop.mk (fun k E H => ∃ i : Nat, i ≤ 32 ∧ k = 32 - i ∧ E = pad [.agg (m.map u32), u32 (n >>> i), .ptr 0 0, .any, .any, u32 (ofK m n i), .v (.int .i64 i)] 22 ∧ H = [.cells 68 (m.map u32)])
    (n := 32) _ _ ⟨0, by omega, rfl, rfl, rfl⟩ (Conv.fit ?_) ?_
  · rw [BitVec.ushiftRight_zero]
    repeat' (first | exact Fit.nil | refine Fit.any ?_ | refine Fit.same ?_)
  rintro _ _ _ ⟨i, hi, rfl, rfl, rfl⟩
  conv => whnf
  repeat ((first | refine AO.cons hT ?_ | refine AO.nil ?_ | refine AW.seq ?_ | refine AW.region ?_ | refine AW.cond ?_ | refine AW.block ?_ | refine AW.loop ?_ | refine AW.skip ?_ | refine AW.exit ?_ | refine AW.ret ?_ | refine AD.cons hT rfl ?_ | refine AD.nil ?_ | refine AQ.cons hT rfl ?_ | refine AQ.nil ?_); conv => whnf)
  refine ACond.dec (fun h => ?_) (fun h => ?_)
  · have hi32 : i < 32 := by
      rcases Nat.lt_or_ge i 32 with h1 | h1
      · exact h1
      · obtain rfl : i = 32 := by omega
        have : n >>> 32 = 0#32 := by apply BitVec.eq_of_getLsbD_eq; intro j hj; simp [BitVec.getLsbD_ushiftRight]
        rw [this] at h
        exact absurd h (by decide)
    have hbit : (bitop BinOp.and IntKind.u32 ((n >>> i).toNat : Int) 1 = 1) ↔ n.getLsbD i = true := by
      rw [show bitop BinOp.and IntKind.u32 ((n >>> i).toNat : Int) 1 = _ from bit_and (n >>> i) 1#32]
      have h1 := low32 (n >>> i)
      have h2 : (n >>> i).getLsbD 0 = n.getLsbD i := by simp [BitVec.getLsbD_ushiftRight]
      rw [h2] at h1
      rw [← h1, decide_eq_true_iff]
      constructor
      · intro h; exact BitVec.eq_of_toNat_eq (by exact_mod_cast h)
      · intro h; rw [h]; rfl
    have hsh : ((n >>> i).toNat : Int).fdiv (2 ^ min (Int.toNat 1) IntKind.u32.bits) = (n >>> (i + 1)).toNat := by
      rw [BitVec.shiftRight_add]; exact bit_shr (n >>> i) 1
    conv => whnf
    repeat ((first | refine AO.cons hT ?_ | refine AO.nil ?_ | refine AW.seq ?_ | refine AW.region ?_ | refine AW.cond ?_ | refine AW.block ?_ | refine AW.loop ?_ | refine AW.skip ?_ | refine AW.exit ?_ | refine AW.ret ?_ | refine AD.cons hT rfl ?_ | refine AD.nil ?_ | refine AQ.cons hT rfl ?_ | refine AQ.nil ?_); conv => whnf)
    refine ACond.dec (fun h2 => ?_) (fun h2 => ?_)
    · have h2' := hbit.1 h2
      conv => whnf
      repeat ((first | refine AO.cons hT ?_ | refine AO.nil ?_ | refine AW.seq ?_ | refine AW.region ?_ | refine AW.cond ?_ | refine AW.block ?_ | refine AW.loop ?_ | refine AW.skip ?_ | refine AW.exit ?_ | refine AW.ret ?_ | refine AD.cons hT rfl ?_ | refine AD.nil ?_ | refine AQ.cons hT rfl ?_ | refine AQ.nil ?_); conv => whnf)
      refine AReq.mk (by omega) ?_
      conv => whnf
      repeat ((first | refine AO.cons hT ?_ | refine AO.nil ?_ | refine AW.seq ?_ | refine AW.region ?_ | refine AW.cond ?_ | refine AW.block ?_ | refine AW.loop ?_ | refine AW.skip ?_ | refine AW.exit ?_ | refine AW.ret ?_ | refine AD.cons hT rfl ?_ | refine AD.nil ?_ | refine AQ.cons hT rfl ?_ | refine AQ.nil ?_); conv => whnf)
      refine AIdx.map1 (f := u32) (xs := m) (i := i) (by omega) ?_
      conv => whnf
      repeat ((first | refine AO.cons hT ?_ | refine AO.nil ?_ | refine AW.seq ?_ | refine AW.region ?_ | refine AW.cond ?_ | refine AW.block ?_ | refine AW.loop ?_ | refine AW.skip ?_ | refine AW.exit ?_ | refine AW.ret ?_ | refine AD.cons hT rfl ?_ | refine AD.nil ?_ | refine AQ.cons hT rfl ?_ | refine AQ.nil ?_); conv => whnf)
      refine AReq.mk (by decide) ?_
      conv => whnf
      repeat ((first | refine AO.cons hT ?_ | refine AO.nil ?_ | refine AW.seq ?_ | refine AW.region ?_ | refine AW.cond ?_ | refine AW.block ?_ | refine AW.loop ?_ | refine AW.skip ?_ | refine AW.exit ?_ | refine AW.ret ?_ | refine AD.cons hT rfl ?_ | refine AD.nil ?_ | refine AQ.cons hT rfl ?_ | refine AQ.nil ?_); conv => whnf)
      rw [wrap_i64 _ (by omega) (by omega), hsh]
      have e : bitop BinOp.xor IntKind.u32 ((ofK m n i).toNat : Int) ((m[i]'(by omega)).toNat : Int) = (ofK m n (i + 1)).toNat := by
        rw [bit_xor]
        simp only [ofK, h2', if_true]
        rw [List.getD_eq_getElem?_getD, List.getElem?_eq_getElem (by omega)]; rfl
      rw [e]
      refine AHead.mk (32 - (i + 1)) _ _ (by omega) ⟨i + 1, by omega, rfl, rfl, rfl⟩ (Conv.fit ?_)
      repeat' (first | exact Fit.nil | refine Fit.any ?_ | refine Fit.same ?_)
    · have h2' : n.getLsbD i = false := by
        cases hc : n.getLsbD i with
        | false => rfl
        | true => exact absurd (hbit.2 hc) h2
      conv => whnf
      repeat ((first | refine AO.cons hT ?_ | refine AO.nil ?_ | refine AW.seq ?_ | refine AW.region ?_ | refine AW.cond ?_ | refine AW.block ?_ | refine AW.loop ?_ | refine AW.skip ?_ | refine AW.exit ?_ | refine AW.ret ?_ | refine AD.cons hT rfl ?_ | refine AD.nil ?_ | refine AQ.cons hT rfl ?_ | refine AQ.nil ?_); conv => whnf)
      refine AReq.mk (by decide) ?_
      conv => whnf
      repeat ((first | refine AO.cons hT ?_ | refine AO.nil ?_ | refine AW.seq ?_ | refine AW.region ?_ | refine AW.cond ?_ | refine AW.block ?_ | refine AW.loop ?_ | refine AW.skip ?_ | refine AW.exit ?_ | refine AW.ret ?_ | refine AD.cons hT rfl ?_ | refine AD.nil ?_ | refine AQ.cons hT rfl ?_ | refine AQ.nil ?_); conv => whnf)
      rw [wrap_i64 _ (by omega) (by omega), hsh]
      have e : ofK m n (i + 1) = ofK m n i := by simp [ofK, h2']
      refine AHead.mk (32 - (i + 1)) _ _ (by omega) ⟨i + 1, by omega, rfl, rfl, rfl⟩ (Conv.fit ?_)
      rw [e]
      repeat' (first | exact Fit.nil | refine Fit.any ?_ | refine Fit.same ?_)
  · have h0 : n >>> i = 0#32 := by
      apply BitVec.eq_of_toNat_eq
      have : ¬ (0 : Int) < ((n >>> i).toNat : Int) := h
      show (n >>> i).toNat = 0
      omega
    have e : ofF m n = ofK m n i := by
      have := ofK_end m n i h0 (32 - i)
      rw [show i + (32 - i) = 32 by omega] at this
      exact this
    conv => whnf
    repeat ((first | refine AO.cons hT ?_ | refine AO.nil ?_ | refine AW.seq ?_ | refine AW.region ?_ | refine AW.cond ?_ | refine AW.block ?_ | refine AW.loop ?_ | refine AW.skip ?_ | refine AW.exit ?_ | refine AW.ret ?_ | refine AD.cons hT rfl ?_ | refine AD.nil ?_ | refine AQ.cons hT rfl ?_ | refine AQ.nil ?_); conv => whnf)
    refine AOut.stay ?_
    conv => whnf
    repeat ((first | refine AO.cons hT ?_ | refine AO.nil ?_ | refine AW.seq ?_ | refine AW.region ?_ | refine AW.cond ?_ | refine AW.block ?_ | refine AW.loop ?_ | refine AW.skip ?_ | refine AW.exit ?_ | refine AW.ret ?_ | refine AD.cons hT rfl ?_ | refine AD.nil ?_ | refine AQ.cons hT rfl ?_ | refine AQ.nil ?_); conv => whnf)
    refine AFin.val rfl ⟨?_, rfl⟩
    rw [e]; rfl

def twF (m : List (BitVec 32)) : List (BitVec 32) := m.map (ofF m)
def twP (m : List (BitVec 32)) (i : Nat) : List AV := (List.range 32).map fun j => u32 (if j < i then ofF m (m.getD j 0#32) else 0#32)

theorem twP_set (m : List (BitVec 32)) (i : Nat) (h : i < 32) : (twP m i).set i (u32 (ofF m (m.getD i 0#32))) = twP m (i + 1) := by
  apply List.ext_getElem?
  intro j
  simp only [twP, List.getElem?_set, List.getElem?_map, List.length_map, List.length_range, List.getElem?_range]
  by_cases hj : i = j
  · subst hj; simp [h]
  · simp only [hj, if_false]
    by_cases hj16 : j < 32
    · simp only [hj16, List.getElem?_range, Option.map_some]
      congr 3
      have : (j < i) = (j < i + 1) := by apply propext; omega
      rw [this]
    · simp [hj16]

theorem twP_end (m : List (BitVec 32)) (hl : m.length = 32) : twP m 32 = (twF m).map u32 := by
  apply List.ext_getElem?
  intro j
  simp only [twP, twF, List.getElem?_map, List.map_map]
  by_cases hj : j < 32
  · rw [List.getElem?_range hj, List.getElem?_eq_getElem (by omega)]
    simp [hj, List.getD_eq_getElem?_getD, List.getElem?_eq_getElem (show j < m.length by omega)]
  · rw [List.getElem?_eq_none (by simp; omega), List.getElem?_eq_none (by omega)]; rfl

theorem twF_len (m : List (BitVec 32)) : (twF m).length = m.length := by simp [twF]

theorem clo (m : List (BitVec 32)) (ρ : Nat → Nat) : renL ρ (m.map u32) = m.map u32 := by simp [renL_map, u32, AV.ren, Function.comp_def]

theorem f39 (m : List (BitVec 32)) (hl : m.length = 32) : Fun P 39 [.agg (m.map u32)] (.agg ((twF m).map u32)) := by
  refine spec_of hT (f := 39) (fn := Go.Proofs.Try.f39) (c := body Go.Proofs.Try.f39) (by kernel_rfl) (by kernel_rfl) ?_
  conv => whnf
  repeat ((first | refine AO.cons hT ?_ | refine AO.nil ?_ | refine AW.seq ?_ | refine AW.region ?_ | refine AW.cond ?_ | refine AW.block ?_ | refine AW.loop ?_ | refine AW.skip ?_ | refine AW.exit ?_ | refine AW.ret ?_ | refine AD.cons hT rfl ?_ | refine AD.nil ?_ | refine AQ.cons hT rfl ?_ | refine AQ.nil ?_); conv => whnf)
  refine ALoop.mk (fun k E H => ∃ i : Nat, i ≤ 32 ∧ k = 32 - i ∧ E = pad [.any, .ptr 0 0, .ptr 1 0, .ptr 2 0, .any, .v (.int .i64 i)] 17 ∧ H = [.cells 68 (m.map u32), .cells 68 (List.replicate 32 (AV.v (Value.int IntKind.u32 0))), .cells 68 (twP m i)])
    (n := 32) _ _ ⟨0, by omega, rfl, rfl, rfl⟩ (Conv.fit ?_) ?_
  · repeat' (first | exact Fit.nil | refine Fit.any ?_ | refine Fit.same ?_)
  rintro _ _ _ ⟨i, hi, rfl, rfl, rfl⟩
  conv => whnf
  repeat ((first | refine AO.cons hT ?_ | refine AO.nil ?_ | refine AW.seq ?_ | refine AW.region ?_ | refine AW.cond ?_ | refine AW.block ?_ | refine AW.loop ?_ | refine AW.skip ?_ | refine AW.exit ?_ | refine AW.ret ?_ | refine AD.cons hT rfl ?_ | refine AD.nil ?_ | refine AQ.cons hT rfl ?_ | refine AQ.nil ?_); conv => whnf)
  refine ACond.dec (fun h => ?_) (fun h => ?_)
  · conv => whnf
    repeat ((first | refine AO.cons hT ?_ | refine AO.nil ?_ | refine AW.seq ?_ | refine AW.region ?_ | refine AW.cond ?_ | refine AW.block ?_ | refine AW.loop ?_ | refine AW.skip ?_ | refine AW.exit ?_ | refine AW.ret ?_ | refine AD.cons hT rfl ?_ | refine AD.nil ?_ | refine AQ.cons hT rfl ?_ | refine AQ.nil ?_); conv => whnf)
    refine AW.draw hm [0, 2, 3, 1, 4, 5, 6, 7] [] (by kernel_rfl) ?_
    conv => whnf
    repeat ((first | refine AO.cons hT ?_ | refine AO.nil ?_ | refine AW.seq ?_ | refine AW.region ?_ | refine AW.cond ?_ | refine AW.block ?_ | refine AW.loop ?_ | refine AW.skip ?_ | refine AW.exit ?_ | refine AW.ret ?_ | refine AD.cons hT rfl ?_ | refine AD.nil ?_ | refine AQ.cons hT rfl ?_ | refine AQ.nil ?_); conv => whnf)
    refine AReq.mk (by omega) ?_
    conv => whnf
    repeat ((first | refine AO.cons hT ?_ | refine AO.nil ?_ | refine AW.seq ?_ | refine AW.region ?_ | refine AW.cond ?_ | refine AW.block ?_ | refine AW.loop ?_ | refine AW.skip ?_ | refine AW.exit ?_ | refine AW.ret ?_ | refine AD.cons hT rfl ?_ | refine AD.nil ?_ | refine AQ.cons hT rfl ?_ | refine AQ.nil ?_); conv => whnf)
    have hlm : (m.map u32).length = 32 := by simpa using hl
    refine ACut.all hlm ?_
    conv => whnf
    repeat ((first | refine AO.cons hT ?_ | refine AO.nil ?_ | refine AW.seq ?_ | refine AW.region ?_ | refine AW.cond ?_ | refine AW.block ?_ | refine AW.loop ?_ | refine AW.skip ?_ | refine AW.exit ?_ | refine AW.ret ?_ | refine AD.cons hT rfl ?_ | refine AD.nil ?_ | refine AQ.cons hT rfl ?_ | refine AQ.nil ?_); conv => whnf)
    refine AIdx.map1 (f := u32) (xs := m) (i := i) (by omega) ?_
    conv => whnf
    repeat ((first | refine AO.cons hT ?_ | refine AO.nil ?_ | refine AW.seq ?_ | refine AW.region ?_ | refine AW.cond ?_ | refine AW.block ?_ | refine AW.loop ?_ | refine AW.skip ?_ | refine AW.exit ?_ | refine AW.ret ?_ | refine AD.cons hT rfl ?_ | refine AD.nil ?_ | refine AQ.cons hT rfl ?_ | refine AQ.nil ?_); conv => whnf)
    have ha : ∀ ρ, renL ρ [.agg (m.map u32), u32 (m[i]'(by omega))] = [.agg (m.map u32), u32 (m[i]'(by omega))] := fun ρ => by simp only [renL, AV.ren, clo, u32]
    refine ACall.val (by kernel_rfl) (f40 m hl (m[i]'(by omega))) (ha _) rfl ?_
    conv => whnf
    repeat ((first | refine AO.cons hT ?_ | refine AO.nil ?_ | refine AW.seq ?_ | refine AW.region ?_ | refine AW.cond ?_ | refine AW.block ?_ | refine AW.loop ?_ | refine AW.skip ?_ | refine AW.exit ?_ | refine AW.ret ?_ | refine AD.cons hT rfl ?_ | refine AD.nil ?_ | refine AQ.cons hT rfl ?_ | refine AQ.nil ?_); conv => whnf)
    refine AReq.mk (by omega) ?_
    conv => whnf
    repeat ((first | refine AO.cons hT ?_ | refine AO.nil ?_ | refine AW.seq ?_ | refine AW.region ?_ | refine AW.cond ?_ | refine AW.block ?_ | refine AW.loop ?_ | refine AW.skip ?_ | refine AW.exit ?_ | refine AW.ret ?_ | refine AD.cons hT rfl ?_ | refine AD.nil ?_ | refine AQ.cons hT rfl ?_ | refine AQ.nil ?_); conv => whnf)
    refine AReq.mk rfl ?_
    conv => whnf
    repeat ((first | refine AO.cons hT ?_ | refine AO.nil ?_ | refine AW.seq ?_ | refine AW.region ?_ | refine AW.cond ?_ | refine AW.block ?_ | refine AW.loop ?_ | refine AW.skip ?_ | refine AW.exit ?_ | refine AW.ret ?_ | refine AD.cons hT rfl ?_ | refine AD.nil ?_ | refine AQ.cons hT rfl ?_ | refine AQ.nil ?_); conv => whnf)
    have e : m[i]'(by omega) = m.getD i 0#32 := by rw [List.getD_eq_getElem?_getD, List.getElem?_eq_getElem (by omega)]; rfl
    rw [e]
    refine AUpd.setAt i (by show 0 + Int.toNat i * 1 + 0 = i; omega) (by simp [twP]; omega) ?_
    have e3 : (twP m i).set i (AV.v (.int .u32 (ofF m (m.getD i 0#32)).toNat)) = twP m (i + 1) := twP_set m i (by omega)
    rw [e3]
    conv => whnf
    repeat ((first | refine AO.cons hT ?_ | refine AO.nil ?_ | refine AW.seq ?_ | refine AW.region ?_ | refine AW.cond ?_ | refine AW.block ?_ | refine AW.loop ?_ | refine AW.skip ?_ | refine AW.exit ?_ | refine AW.ret ?_ | refine AD.cons hT rfl ?_ | refine AD.nil ?_ | refine AQ.cons hT rfl ?_ | refine AQ.nil ?_); conv => whnf)
    rw [wrap_i64 _ (by omega) (by omega)]
    refine AHead.mk (32 - (i + 1)) _ _ (by omega) ⟨i + 1, by omega, rfl, rfl, rfl⟩ (Conv.fit ?_)
    repeat' (first | exact Fit.nil | refine Fit.any ?_ | refine Fit.same ?_)
  · obtain rfl : i = 32 := by omega
    conv => whnf
    repeat ((first | refine AO.cons hT ?_ | refine AO.nil ?_ | refine AW.seq ?_ | refine AW.region ?_ | refine AW.cond ?_ | refine AW.block ?_ | refine AW.loop ?_ | refine AW.skip ?_ | refine AW.exit ?_ | refine AW.ret ?_ | refine AD.cons hT rfl ?_ | refine AD.nil ?_ | refine AQ.cons hT rfl ?_ | refine AQ.nil ?_); conv => whnf)
    rw [twP_end m hl]
    refine AOut.stay ?_
    conv => whnf
    repeat ((first | refine AO.cons hT ?_ | refine AO.nil ?_ | refine AW.seq ?_ | refine AW.region ?_ | refine AW.cond ?_ | refine AW.block ?_ | refine AW.loop ?_ | refine AW.skip ?_ | refine AW.exit ?_ | refine AW.ret ?_ | refine AD.cons hT rfl ?_ | refine AD.nil ?_ | refine AQ.cons hT rfl ?_ | refine AQ.nil ?_); conv => whnf)
    have hl2 : ((twF m).map u32).length = 32 := by simp [twF, hl]
    refine ACut.all hl2 ?_
    conv => whnf
    repeat ((first | refine AO.cons hT ?_ | refine AO.nil ?_ | refine AW.seq ?_ | refine AW.region ?_ | refine AW.cond ?_ | refine AW.block ?_ | refine AW.loop ?_ | refine AW.skip ?_ | refine AW.exit ?_ | refine AW.ret ?_ | refine AD.cons hT rfl ?_ | refine AD.nil ?_ | refine AQ.cons hT rfl ?_ | refine AQ.nil ?_); conv => whnf)
    refine AReq.mk hl2 ?_
    conv => whnf
    repeat ((first | refine AO.cons hT ?_ | refine AO.nil ?_ | refine AW.seq ?_ | refine AW.region ?_ | refine AW.cond ?_ | refine AW.block ?_ | refine AW.loop ?_ | refine AW.skip ?_ | refine AW.exit ?_ | refine AW.ret ?_ | refine AD.cons hT rfl ?_ | refine AD.nil ?_ | refine AQ.cons hT rfl ?_ | refine AQ.nil ?_); conv => whnf)
    refine AUpd.to ((twF m).map u32) (by simp [twF, hl]) (by simp [spl, twF, hl]) ?_
    conv => whnf
    repeat ((first | refine AO.cons hT ?_ | refine AO.nil ?_ | refine AW.seq ?_ | refine AW.region ?_ | refine AW.cond ?_ | refine AW.block ?_ | refine AW.loop ?_ | refine AW.skip ?_ | refine AW.exit ?_ | refine AW.ret ?_ | refine AD.cons hT rfl ?_ | refine AD.nil ?_ | refine AQ.cons hT rfl ?_ | refine AQ.nil ?_); conv => whnf)
    refine ACut.all hl2 ?_
    conv => whnf
    repeat ((first | refine AO.cons hT ?_ | refine AO.nil ?_ | refine AW.seq ?_ | refine AW.region ?_ | refine AW.cond ?_ | refine AW.block ?_ | refine AW.loop ?_ | refine AW.skip ?_ | refine AW.exit ?_ | refine AW.ret ?_ | refine AD.cons hT rfl ?_ | refine AD.nil ?_ | refine AQ.cons hT rfl ?_ | refine AQ.nil ?_); conv => whnf)
    refine AFin.val ?_ ⟨rfl, rfl⟩
    simp only [AV.ren, drp_zero, clo]

theorem and1_i64 (n : Nat) (h : n < 4611686018427387904) : bitop .and .i64 (n : Int) 1 = ((n % 2 : Nat) : Int) := by
  have e1 : BitVec.ofInt (IntKind.bits .i64) (n : Int) = BitVec.ofNat 64 n := by show BitVec.ofInt 64 (n : Int) = _; simp
  have e2 : BitVec.ofInt (IntKind.bits .i64) (1 : Int) = BitVec.ofNat 64 1 := rfl
  unfold bitop
  rw [e1, e2]
  show IntKind.wrap .i64 (((BitVec.ofNat 64 n &&& BitVec.ofNat 64 1).toNat : Nat) : Int) = _
  have : (BitVec.ofNat 64 n &&& BitVec.ofNat 64 1).toNat = n % 2 := by
    rw [BitVec.toNat_and, BitVec.toNat_ofNat, BitVec.toNat_ofNat, Nat.mod_eq_of_lt (by omega)]
    exact Nat.and_one_is_mod n
  rw [this]
  exact wrap_i64 _ (by omega) (by omega)

def bothF : Nat → List (BitVec 32) → BitVec 32 → Nat → BitVec 32
  | 0, _, a, _ => a
  | k + 1, m, a, n => if n = 0 then a else bothF k (twF m) (if n % 2 = 1 then ofF m a else a) (n / 2)

theorem bothF_len : ∀ (k j : Nat) (m : List (BitVec 32)) (a : BitVec 32) (n : Nat), n ≤ k → n ≤ j → bothF k m a n = bothF j m a n
  | 0, j, m, a, n, h, _ => by
    obtain rfl : n = 0 := by omega
    cases j <;> simp [bothF]
  | k + 1, 0, m, a, n, _, h => by
    obtain rfl : n = 0 := by omega
    simp [bothF]
  | k + 1, j + 1, m, a, n, h1, h2 => by
    simp only [bothF]
    by_cases h : n = 0
    · simp [h]
    · simp only [h, if_false]
      exact bothF_len k j _ _ _ (by omega) (by omega)

def m3 : List (BitVec 32) := twF (twF (twF oneL))
def twN : Nat → List (BitVec 32)
  | 0 => oneL
  | k + 1 => twF (twN k)
theorem twN_len : ∀ k, (twN k).length = 32
  | 0 => by simp [twN, oneL]
  | k + 1 => by simp [twN, twF, twN_len k]
def bothR (a b : BitVec 32) (n : Int) : BitVec 32 × Int := if n < 0 ∨ 1000000 < n then (0#32, 2) else (bothF n.toNat m3 a n.toNat ^^^ b, 0)

theorem f19 (a b : BitVec 32) (n : Int) : Fun P 19 [u32 a, u32 b, .v (.int .i64 n)] (.tup [u32 (bothR a b n).1, .v (.int .i64 (bothR a b n).2)]) := by
  refine spec_of hT (f := 19) (fn := Go.Proofs.Try.f19) (c := body Go.Proofs.Try.f19) (by kernel_rfl) (by kernel_rfl) ?_
  conv => whnf
  repeat ((first | refine AO.cons hT ?_ | refine AO.nil ?_ | refine AW.seq ?_ | refine AW.region ?_ | refine AW.cond ?_ | refine AW.block ?_ | refine AW.loop ?_ | refine AW.skip ?_ | refine AW.exit ?_ | refine AW.ret ?_ | refine AD.cons hT rfl ?_ | refine AD.nil ?_ | refine AQ.cons hT rfl ?_ | refine AQ.nil ?_); conv => whnf)
  refine ASplit.dec (fun hneg => ?_) (fun hneg => ?_)
  · conv => whnf
    repeat ((first | refine AO.cons hT ?_ | refine AO.nil ?_ | refine AW.seq ?_ | refine AW.region ?_ | refine AW.cond ?_ | refine AW.block ?_ | refine AW.loop ?_ | refine AW.skip ?_ | refine AW.exit ?_ | refine AW.ret ?_ | refine AD.cons hT rfl ?_ | refine AD.nil ?_ | refine AQ.cons hT rfl ?_ | refine AQ.nil ?_); conv => whnf)
    refine ACond.yes rfl ?_
    conv => whnf
    repeat ((first | refine AO.cons hT ?_ | refine AO.nil ?_ | refine AW.seq ?_ | refine AW.region ?_ | refine AW.cond ?_ | refine AW.block ?_ | refine AW.loop ?_ | refine AW.skip ?_ | refine AW.exit ?_ | refine AW.ret ?_ | refine AD.cons hT rfl ?_ | refine AD.nil ?_ | refine AQ.cons hT rfl ?_ | refine AQ.nil ?_); conv => whnf)
    refine AFin.val rfl ⟨?_, rfl⟩
    simp only [bothR]
    rw [if_pos (.inl hneg)]; rfl
  · conv => whnf
    repeat ((first | refine AO.cons hT ?_ | refine AO.nil ?_ | refine AW.seq ?_ | refine AW.region ?_ | refine AW.cond ?_ | refine AW.block ?_ | refine AW.loop ?_ | refine AW.skip ?_ | refine AW.exit ?_ | refine AW.ret ?_ | refine AD.cons hT rfl ?_ | refine AD.nil ?_ | refine AQ.cons hT rfl ?_ | refine AQ.nil ?_); conv => whnf)
    refine ACond.dec (fun hbig => ?_) (fun hbig => ?_)
    · conv => whnf
      repeat ((first | refine AO.cons hT ?_ | refine AO.nil ?_ | refine AW.seq ?_ | refine AW.region ?_ | refine AW.cond ?_ | refine AW.block ?_ | refine AW.loop ?_ | refine AW.skip ?_ | refine AW.exit ?_ | refine AW.ret ?_ | refine AD.cons hT rfl ?_ | refine AD.nil ?_ | refine AQ.cons hT rfl ?_ | refine AQ.nil ?_); conv => whnf)
      refine AFin.val rfl ⟨?_, rfl⟩
      simp only [bothR]
      rw [if_pos (.inr hbig)]; rfl
    · obtain ⟨n0, rfl⟩ : ∃ n0 : Nat, n = n0 := ⟨n.toNat, by omega⟩
      conv => whnf
      repeat ((first | refine AO.cons hT ?_ | refine AO.nil ?_ | refine AW.seq ?_ | refine AW.region ?_ | refine AW.cond ?_ | refine AW.block ?_ | refine AW.loop ?_ | refine AW.skip ?_ | refine AW.exit ?_ | refine AW.ret ?_ | refine AD.cons hT rfl ?_ | refine AD.nil ?_ | refine AQ.cons hT rfl ?_ | refine AQ.nil ?_); conv => whnf)
      have hz : renL (nm [] ([] : List ABlk).length) [] = [] := rfl
      refine ACall.val (by kernel_rfl) f38 rfl (by simp only [AV.ren, clo]) ?_
      conv => whnf
      repeat ((first | refine AO.cons hT ?_ | refine AO.nil ?_ | refine AW.seq ?_ | refine AW.region ?_ | refine AW.cond ?_ | refine AW.block ?_ | refine AW.loop ?_ | refine AW.skip ?_ | refine AW.exit ?_ | refine AW.ret ?_ | refine AD.cons hT rfl ?_ | refine AD.nil ?_ | refine AQ.cons hT rfl ?_ | refine AQ.nil ?_); conv => whnf)
      refine AReq.mk (by simp [oneL]; rfl) ?_
      conv => whnf
      repeat ((first | refine AO.cons hT ?_ | refine AO.nil ?_ | refine AW.seq ?_ | refine AW.region ?_ | refine AW.cond ?_ | refine AW.block ?_ | refine AW.loop ?_ | refine AW.skip ?_ | refine AW.exit ?_ | refine AW.ret ?_ | refine AD.cons hT rfl ?_ | refine AD.nil ?_ | refine AQ.cons hT rfl ?_ | refine AQ.nil ?_); conv => whnf)
      refine AUpd.to (oneL.map u32) (by simp [oneL]) (by simp [spl, oneL]) ?_
      conv => whnf
      repeat ((first | refine AO.cons hT ?_ | refine AO.nil ?_ | refine AW.seq ?_ | refine AW.region ?_ | refine AW.cond ?_ | refine AW.block ?_ | refine AW.loop ?_ | refine AW.skip ?_ | refine AW.exit ?_ | refine AW.ret ?_ | refine AD.cons hT rfl ?_ | refine AD.nil ?_ | refine AQ.cons hT rfl ?_ | refine AQ.nil ?_); conv => whnf)
      refine ALoop.mk (fun k E H => ∃ i : Nat, i ≤ 3 ∧ k = 3 - i ∧ E = pad [u32 a, u32 b, .v (.int .i64 n0), .any, .any, .any, .any, .any, .ptr 0 0, .any, .any, .any, .any, .any, .any, .any, .v (.int .i64 i)] 36 ∧ H = [.cells 68 ((twN i).map u32)])
        (n := 3) _ _ ⟨0, by omega, rfl, rfl, rfl⟩ (Conv.fit ?_) ?_
      · repeat' (first | exact Fit.nil | refine Fit.any ?_ | refine Fit.same ?_)
      rintro _ _ _ ⟨i, hi, rfl, rfl, rfl⟩
      conv => whnf
      repeat ((first | refine AO.cons hT ?_ | refine AO.nil ?_ | refine AW.seq ?_ | refine AW.region ?_ | refine AW.cond ?_ | refine AW.block ?_ | refine AW.loop ?_ | refine AW.skip ?_ | refine AW.exit ?_ | refine AW.ret ?_ | refine AD.cons hT rfl ?_ | refine AD.nil ?_ | refine AQ.cons hT rfl ?_ | refine AQ.nil ?_); conv => whnf)
      refine ACond.dec (fun h => ?_) (fun h => ?_)
      · conv => whnf
        repeat ((first | refine AO.cons hT ?_ | refine AO.nil ?_ | refine AW.seq ?_ | refine AW.region ?_ | refine AW.cond ?_ | refine AW.block ?_ | refine AW.loop ?_ | refine AW.skip ?_ | refine AW.exit ?_ | refine AW.ret ?_ | refine AD.cons hT rfl ?_ | refine AD.nil ?_ | refine AQ.cons hT rfl ?_ | refine AQ.nil ?_); conv => whnf)
        have hl := twN_len i
        have hlm : ((twN i).map u32).length = 32 := by simpa using hl
        refine ACut.all hlm ?_
        conv => whnf
        repeat ((first | refine AO.cons hT ?_ | refine AO.nil ?_ | refine AW.seq ?_ | refine AW.region ?_ | refine AW.cond ?_ | refine AW.block ?_ | refine AW.loop ?_ | refine AW.skip ?_ | refine AW.exit ?_ | refine AW.ret ?_ | refine AD.cons hT rfl ?_ | refine AD.nil ?_ | refine AQ.cons hT rfl ?_ | refine AQ.nil ?_); conv => whnf)
        have ha : ∀ ρ, renL ρ [.agg ((twN i).map u32)] = [.agg ((twN i).map u32)] := fun ρ => by simp only [renL, AV.ren, clo]
        have hr : ∀ ρ, AV.ren ρ (.agg ((twF (twN i)).map u32)) = .agg ((twF (twN i)).map u32) := fun ρ => by simp only [AV.ren, clo]
        refine ACall.val (by kernel_rfl) (f39 (twN i) hl) (ha _) (hr _) ?_
        conv => whnf
        repeat ((first | refine AO.cons hT ?_ | refine AO.nil ?_ | refine AW.seq ?_ | refine AW.region ?_ | refine AW.cond ?_ | refine AW.block ?_ | refine AW.loop ?_ | refine AW.skip ?_ | refine AW.exit ?_ | refine AW.ret ?_ | refine AD.cons hT rfl ?_ | refine AD.nil ?_ | refine AQ.cons hT rfl ?_ | refine AQ.nil ?_); conv => whnf)
        have hl2 : ((twF (twN i)).map u32).length = 32 := by simp [twF, hl]
        refine AReq.mk hl2 ?_
        conv => whnf
        repeat ((first | refine AO.cons hT ?_ | refine AO.nil ?_ | refine AW.seq ?_ | refine AW.region ?_ | refine AW.cond ?_ | refine AW.block ?_ | refine AW.loop ?_ | refine AW.skip ?_ | refine AW.exit ?_ | refine AW.ret ?_ | refine AD.cons hT rfl ?_ | refine AD.nil ?_ | refine AQ.cons hT rfl ?_ | refine AQ.nil ?_); conv => whnf)
        refine AUpd.to ((twN (i + 1)).map u32) (by simp [twF, hl]) (by simp [spl, twF, twN, hl]) ?_
        conv => whnf
        repeat ((first | refine AO.cons hT ?_ | refine AO.nil ?_ | refine AW.seq ?_ | refine AW.region ?_ | refine AW.cond ?_ | refine AW.block ?_ | refine AW.loop ?_ | refine AW.skip ?_ | refine AW.exit ?_ | refine AW.ret ?_ | refine AD.cons hT rfl ?_ | refine AD.nil ?_ | refine AQ.cons hT rfl ?_ | refine AQ.nil ?_); conv => whnf)
        rw [wrap_i64 _ (by omega) (by omega)]
        refine AHead.mk (3 - (i + 1)) _ _ (by omega) ⟨i + 1, by omega, rfl, rfl, rfl⟩ (Conv.fit ?_)
        repeat' (first | exact Fit.nil | refine Fit.any ?_ | refine Fit.same ?_)
      · obtain rfl : i = 3 := by omega
        conv => whnf
        repeat ((first | refine AO.cons hT ?_ | refine AO.nil ?_ | refine AW.seq ?_ | refine AW.region ?_ | refine AW.cond ?_ | refine AW.block ?_ | refine AW.loop ?_ | refine AW.skip ?_ | refine AW.exit ?_ | refine AW.ret ?_ | refine AD.cons hT rfl ?_ | refine AD.nil ?_ | refine AQ.cons hT rfl ?_ | refine AQ.nil ?_); conv => whnf)
        refine AOut.stay ?_
        conv => whnf
        repeat ((first | refine AO.cons hT ?_ | refine AO.nil ?_ | refine AW.seq ?_ | refine AW.region ?_ | refine AW.cond ?_ | refine AW.block ?_ | refine AW.loop ?_ | refine AW.skip ?_ | refine AW.exit ?_ | refine AW.ret ?_ | refine AD.cons hT rfl ?_ | refine AD.nil ?_ | refine AQ.cons hT rfl ?_ | refine AQ.nil ?_); conv => whnf)
        refine ALoop.mk (fun k E H => ∃ (m : List (BitVec 32)) (a' : BitVec 32), m.length = 32 ∧ k ≤ 1000000 ∧ bothF k m a' k = bothF n0 m3 a n0 ∧ E = pad [u32 a', u32 b, .v (.int .i64 k), .any, .any, .any, .any, .any, .ptr 0 0] 36 ∧ H = [.cells 68 (m.map u32)])
          (n := n0) _ _ ⟨m3, a, twN_len 3, by omega, rfl, rfl, rfl⟩ (Conv.fit ?_) ?_
        · repeat' (first | exact Fit.nil | refine Fit.any ?_ | refine Fit.same ?_)
        rintro k _ _ ⟨m, a', hl, hk, hb, rfl, rfl⟩
        conv => whnf
        repeat ((first | refine AO.cons hT ?_ | refine AO.nil ?_ | refine AW.seq ?_ | refine AW.region ?_ | refine AW.cond ?_ | refine AW.block ?_ | refine AW.loop ?_ | refine AW.skip ?_ | refine AW.exit ?_ | refine AW.ret ?_ | refine AD.cons hT rfl ?_ | refine AD.nil ?_ | refine AQ.cons hT rfl ?_ | refine AQ.nil ?_); conv => whnf)
        refine ACond.dec (fun h => ?_) (fun h => ?_)
        · have hand := and1_i64 k (by omega)
          have hshr : ((k : Nat) : Int).fdiv (2 ^ min (Int.toNat 1) IntKind.i64.bits) = ((k / 2 : Nat) : Int) := by
            show ((k : Nat) : Int).fdiv 2 = _
            rw [Int.fdiv_eq_ediv_of_nonneg _ (by decide)]; rfl
          have hlm : (m.map u32).length = 32 := by simpa using hl
          have hr : ∀ ρ, AV.ren ρ (.agg ((twF m).map u32)) = .agg ((twF m).map u32) := fun ρ => by simp only [AV.ren, clo]
          have hl2 : ((twF m).map u32).length = 32 := by simp [twF, hl]
          have hstep : ∀ x, bothF k m x k = bothF (k / 2) (twF m) (if k % 2 = 1 then ofF m x else x) (k / 2) := by
            intro x
            obtain ⟨j, rfl⟩ : ∃ j, k = j + 1 := ⟨k - 1, by omega⟩
            rw [bothF, if_neg (by omega)]
            exact bothF_len _ _ _ _ _ (by omega) (by omega)
          conv => whnf
          repeat ((first | refine AO.cons hT ?_ | refine AO.nil ?_ | refine AW.seq ?_ | refine AW.region ?_ | refine AW.cond ?_ | refine AW.block ?_ | refine AW.loop ?_ | refine AW.skip ?_ | refine AW.exit ?_ | refine AW.ret ?_ | refine AD.cons hT rfl ?_ | refine AD.nil ?_ | refine AQ.cons hT rfl ?_ | refine AQ.nil ?_); conv => whnf)
          rw [hand]
          refine ACond.dec (fun h2 => ?_) (fun h2 => ?_)
          · conv => whnf
            repeat ((first | refine AO.cons hT ?_ | refine AO.nil ?_ | refine AW.seq ?_ | refine AW.region ?_ | refine AW.cond ?_ | refine AW.block ?_ | refine AW.loop ?_ | refine AW.skip ?_ | refine AW.exit ?_ | refine AW.ret ?_ | refine AD.cons hT rfl ?_ | refine AD.nil ?_ | refine AQ.cons hT rfl ?_ | refine AQ.nil ?_); conv => whnf)
            refine ACut.all hlm ?_
            conv => whnf
            repeat ((first | refine AO.cons hT ?_ | refine AO.nil ?_ | refine AW.seq ?_ | refine AW.region ?_ | refine AW.cond ?_ | refine AW.block ?_ | refine AW.loop ?_ | refine AW.skip ?_ | refine AW.exit ?_ | refine AW.ret ?_ | refine AD.cons hT rfl ?_ | refine AD.nil ?_ | refine AQ.cons hT rfl ?_ | refine AQ.nil ?_); conv => whnf)
            have ha : ∀ ρ, renL ρ [.agg (m.map u32), u32 a'] = [.agg (m.map u32), u32 a'] := fun ρ => by simp only [renL, AV.ren, clo, u32]
            refine ACall.val (by kernel_rfl) (f40 m hl a') (ha _) rfl ?_
            conv => whnf
            repeat ((first | refine AO.cons hT ?_ | refine AO.nil ?_ | refine AW.seq ?_ | refine AW.region ?_ | refine AW.cond ?_ | refine AW.block ?_ | refine AW.loop ?_ | refine AW.skip ?_ | refine AW.exit ?_ | refine AW.ret ?_ | refine AD.cons hT rfl ?_ | refine AD.nil ?_ | refine AQ.cons hT rfl ?_ | refine AQ.nil ?_); conv => whnf)
            refine ACut.all hlm ?_
            conv => whnf
            repeat ((first | refine AO.cons hT ?_ | refine AO.nil ?_ | refine AW.seq ?_ | refine AW.region ?_ | refine AW.cond ?_ | refine AW.block ?_ | refine AW.loop ?_ | refine AW.skip ?_ | refine AW.exit ?_ | refine AW.ret ?_ | refine AD.cons hT rfl ?_ | refine AD.nil ?_ | refine AQ.cons hT rfl ?_ | refine AQ.nil ?_); conv => whnf)
            have ha : ∀ ρ, renL ρ [.agg (m.map u32)] = [.agg (m.map u32)] := fun ρ => by simp only [renL, AV.ren, clo]
            refine ACall.val (by kernel_rfl) (f39 m hl) (ha _) (hr _) ?_
            conv => whnf
            repeat ((first | refine AO.cons hT ?_ | refine AO.nil ?_ | refine AW.seq ?_ | refine AW.region ?_ | refine AW.cond ?_ | refine AW.block ?_ | refine AW.loop ?_ | refine AW.skip ?_ | refine AW.exit ?_ | refine AW.ret ?_ | refine AD.cons hT rfl ?_ | refine AD.nil ?_ | refine AQ.cons hT rfl ?_ | refine AQ.nil ?_); conv => whnf)
            refine AReq.mk hl2 ?_
            conv => whnf
            repeat ((first | refine AO.cons hT ?_ | refine AO.nil ?_ | refine AW.seq ?_ | refine AW.region ?_ | refine AW.cond ?_ | refine AW.block ?_ | refine AW.loop ?_ | refine AW.skip ?_ | refine AW.exit ?_ | refine AW.ret ?_ | refine AD.cons hT rfl ?_ | refine AD.nil ?_ | refine AQ.cons hT rfl ?_ | refine AQ.nil ?_); conv => whnf)
            refine AUpd.to ((twF m).map u32) (by simp [twF, hl]) (by simp [spl, twF, hl]) ?_
            conv => whnf
            repeat ((first | refine AO.cons hT ?_ | refine AO.nil ?_ | refine AW.seq ?_ | refine AW.region ?_ | refine AW.cond ?_ | refine AW.block ?_ | refine AW.loop ?_ | refine AW.skip ?_ | refine AW.exit ?_ | refine AW.ret ?_ | refine AD.cons hT rfl ?_ | refine AD.nil ?_ | refine AQ.cons hT rfl ?_ | refine AQ.nil ?_); conv => whnf)
            refine AReq.mk (by decide) ?_
            conv => whnf
            repeat ((first | refine AO.cons hT ?_ | refine AO.nil ?_ | refine AW.seq ?_ | refine AW.region ?_ | refine AW.cond ?_ | refine AW.block ?_ | refine AW.loop ?_ | refine AW.skip ?_ | refine AW.exit ?_ | refine AW.ret ?_ | refine AD.cons hT rfl ?_ | refine AD.nil ?_ | refine AQ.cons hT rfl ?_ | refine AQ.nil ?_); conv => whnf)
            rw [hshr]
            refine AHead.mk (k / 2) _ _ (by omega) ⟨twF m, ofF m a', by simp [twF, hl], by omega, ?_, rfl, rfl⟩ (Conv.fit ?_)
            · rw [← hb, hstep, if_pos (by omega)]
            repeat' (first | exact Fit.nil | refine Fit.any ?_ | refine Fit.same ?_)
          · conv => whnf
            repeat ((first | refine AO.cons hT ?_ | refine AO.nil ?_ | refine AW.seq ?_ | refine AW.region ?_ | refine AW.cond ?_ | refine AW.block ?_ | refine AW.loop ?_ | refine AW.skip ?_ | refine AW.exit ?_ | refine AW.ret ?_ | refine AD.cons hT rfl ?_ | refine AD.nil ?_ | refine AQ.cons hT rfl ?_ | refine AQ.nil ?_); conv => whnf)
            refine ACut.all hlm ?_
            conv => whnf
            repeat ((first | refine AO.cons hT ?_ | refine AO.nil ?_ | refine AW.seq ?_ | refine AW.region ?_ | refine AW.cond ?_ | refine AW.block ?_ | refine AW.loop ?_ | refine AW.skip ?_ | refine AW.exit ?_ | refine AW.ret ?_ | refine AD.cons hT rfl ?_ | refine AD.nil ?_ | refine AQ.cons hT rfl ?_ | refine AQ.nil ?_); conv => whnf)
            have ha : ∀ ρ, renL ρ [.agg (m.map u32)] = [.agg (m.map u32)] := fun ρ => by simp only [renL, AV.ren, clo]
            refine ACall.val (by kernel_rfl) (f39 m hl) (ha _) (hr _) ?_
            conv => whnf
            repeat ((first | refine AO.cons hT ?_ | refine AO.nil ?_ | refine AW.seq ?_ | refine AW.region ?_ | refine AW.cond ?_ | refine AW.block ?_ | refine AW.loop ?_ | refine AW.skip ?_ | refine AW.exit ?_ | refine AW.ret ?_ | refine AD.cons hT rfl ?_ | refine AD.nil ?_ | refine AQ.cons hT rfl ?_ | refine AQ.nil ?_); conv => whnf)
            refine AReq.mk hl2 ?_
            conv => whnf
            repeat ((first | refine AO.cons hT ?_ | refine AO.nil ?_ | refine AW.seq ?_ | refine AW.region ?_ | refine AW.cond ?_ | refine AW.block ?_ | refine AW.loop ?_ | refine AW.skip ?_ | refine AW.exit ?_ | refine AW.ret ?_ | refine AD.cons hT rfl ?_ | refine AD.nil ?_ | refine AQ.cons hT rfl ?_ | refine AQ.nil ?_); conv => whnf)
            refine AUpd.to ((twF m).map u32) (by simp [twF, hl]) (by simp [spl, twF, hl]) ?_
            conv => whnf
            repeat ((first | refine AO.cons hT ?_ | refine AO.nil ?_ | refine AW.seq ?_ | refine AW.region ?_ | refine AW.cond ?_ | refine AW.block ?_ | refine AW.loop ?_ | refine AW.skip ?_ | refine AW.exit ?_ | refine AW.ret ?_ | refine AD.cons hT rfl ?_ | refine AD.nil ?_ | refine AQ.cons hT rfl ?_ | refine AQ.nil ?_); conv => whnf)
            refine AReq.mk (by decide) ?_
            conv => whnf
            repeat ((first | refine AO.cons hT ?_ | refine AO.nil ?_ | refine AW.seq ?_ | refine AW.region ?_ | refine AW.cond ?_ | refine AW.block ?_ | refine AW.loop ?_ | refine AW.skip ?_ | refine AW.exit ?_ | refine AW.ret ?_ | refine AD.cons hT rfl ?_ | refine AD.nil ?_ | refine AQ.cons hT rfl ?_ | refine AQ.nil ?_); conv => whnf)
            rw [hshr]
            refine AHead.mk (k / 2) _ _ (by omega) ⟨twF m, a', by simp [twF, hl], by omega, ?_, rfl, rfl⟩ (Conv.fit ?_)
            · rw [← hb, hstep, if_neg (by omega)]
            repeat' (first | exact Fit.nil | refine Fit.any ?_ | refine Fit.same ?_)
        · obtain rfl : k = 0 := by omega
          conv => whnf
          repeat ((first | refine AO.cons hT ?_ | refine AO.nil ?_ | refine AW.seq ?_ | refine AW.region ?_ | refine AW.cond ?_ | refine AW.block ?_ | refine AW.loop ?_ | refine AW.skip ?_ | refine AW.exit ?_ | refine AW.ret ?_ | refine AD.cons hT rfl ?_ | refine AD.nil ?_ | refine AQ.cons hT rfl ?_ | refine AQ.nil ?_); conv => whnf)
          refine AOut.stay ?_
          conv => whnf
          repeat ((first | refine AO.cons hT ?_ | refine AO.nil ?_ | refine AW.seq ?_ | refine AW.region ?_ | refine AW.cond ?_ | refine AW.block ?_ | refine AW.loop ?_ | refine AW.skip ?_ | refine AW.exit ?_ | refine AW.ret ?_ | refine AD.cons hT rfl ?_ | refine AD.nil ?_ | refine AQ.cons hT rfl ?_ | refine AQ.nil ?_); conv => whnf)
          rw [bit_xor]
          refine AFin.val rfl ⟨?_, rfl⟩
          simp only [bothR]
          rw [if_neg (by omega)]
          have : bothF n0 m3 a n0 = a' := by rw [← hb]; rfl
          rw [show Int.toNat (n0 : Int) = n0 from rfl, this]; rfl
end Go.Aw.R1

set_option linter.unusedSimpArgs false
set_option linter.unusedVariables false
set_option maxHeartbeats 4000000
namespace Go.Aw.R1
open Go

theorem _root_.Go.Aw.Fun.cast {f : Nat} {args : List AV} {r r' : AV} (h : Fun P f args r) (e : r = r') : Fun P f args r' := e ▸ h

theorem aw1 : onF 0 [49, 50, 51, 52, 53, 54, 55, 56, 57] = 3808858755#32 := by decide +kernel
theorem aw2 : onF (onF 0 [49, 50, 51, 52]) [53, 54, 55, 56, 57] = 3808858755#32 := by decide +kernel
theorem aw3 : bothR (onF 0 [49, 50, 51, 52]) (onF 0 [53, 54, 55, 56, 57]) 5 = (3808858755#32, 0) := by decide +kernel
theorem aw4 : bothR 1#32 1#32 (-1) = (0#32, 2) := by decide +kernel
theorem aw5 : unsealF ((⟨#[104, 105]⟩ : ByteArray) ++ ⟨(fourF (onF 0 [104, 105])).toArray⟩) = (⟨#[104, 105]⟩, 0) := by decide +kernel
theorem aw6 : unsealF ⟨#[97, 98, 99]⟩ = (⟨#[]⟩, 4) := by decide +kernel

def tupU (p : BitVec 32 × Int) : AV := .tup [u32 p.1, .v (.int .i64 p.2)]
def tupS (p : ByteArray × Int) : AV := .tup [.v (.string p.1), .v (.int .i64 p.2)]
theorem c1 : Fun P 13 [.v (.string ⟨#[49, 50, 51, 52, 53, 54, 55, 56, 57]⟩)] (u32 3808858755#32) := by
  have := f13 ⟨#[49, 50, 51, 52, 53, 54, 55, 56, 57]⟩ (by decide)
  exact this.cast (congrArg u32 aw1)
def sumA : BitVec 32 := onF 0 [49, 50, 51, 52]
def sumB : BitVec 32 := onF 0 [53, 54, 55, 56, 57]
theorem c2 : Fun P 13 [.v (.string ⟨#[49, 50, 51, 52]⟩)] (u32 sumA) := f13 ⟨#[49, 50, 51, 52]⟩ (by decide)
theorem c2b : Fun P 13 [.v (.string ⟨#[53, 54, 55, 56, 57]⟩)] (u32 sumB) := f13 ⟨#[53, 54, 55, 56, 57]⟩ (by decide)
theorem c3 : Fun P 15 [u32 sumA, .v (.string ⟨#[53, 54, 55, 56, 57]⟩)] (u32 3808858755#32) := by
  have := f15 sumA ⟨#[53, 54, 55, 56, 57]⟩ (by decide)
  exact this.cast (congrArg u32 aw2)
theorem c4 : Fun P 19 [u32 sumA, u32 sumB, .v (.int .i64 5)] (.tup [u32 3808858755#32, .v (.int .i64 0)]) := by
  have := f19 sumA sumB 5
  exact this.cast (congrArg tupU aw3)
def sealH : ByteArray := (⟨#[104, 105]⟩ : ByteArray) ++ ⟨(fourF (onF 0 [104, 105])).toArray⟩
theorem c5 : Fun P 17 [.v (.string ⟨#[104, 105]⟩)] (.v (.string sealH)) := f17 ⟨#[104, 105]⟩ (by decide)
theorem sealH_size : sealH.size = 6 := by decide +kernel
theorem c6 : Fun P 11 [.v (.string sealH)] (.tup [.v (.string ⟨#[104, 105]⟩), .v (.int .i64 0)]) := by
  have := f11 sealH (by rw [sealH_size]; decide)
  exact this.cast (congrArg tupS aw5)
theorem c7 : Fun P 11 [.v (.string ⟨#[97, 98, 99]⟩)] (.tup [.v (.string ⟨#[]⟩), .v (.int .i64 4)]) := by
  have := f11 ⟨#[97, 98, 99]⟩ (by decide)
  exact this.cast (congrArg tupS aw6)
theorem c8 : Fun P 19 [u32 1#32, u32 1#32, .v (.int .i64 (-1))] (.tup [u32 0#32, .v (.int .i64 2)]) := by
  have := f19 1#32 1#32 (-1)
  exact this.cast (congrArg tupU aw4)

theorem f10_aux (x sumA sumB z : BitVec 32) (sealH : ByteArray) (hx : x = 3808858755#32) (hs : sealH.size = 6)
    (c1 : Fun P 13 [.v (.string ⟨#[49, 50, 51, 52, 53, 54, 55, 56, 57]⟩)] (u32 x)) (c2 : Fun P 13 [.v (.string ⟨#[49, 50, 51, 52]⟩)] (u32 sumA)) (c2b : Fun P 13 [.v (.string ⟨#[53, 54, 55, 56, 57]⟩)] (u32 sumB))
    (c3 : Fun P 15 [u32 sumA, .v (.string ⟨#[53, 54, 55, 56, 57]⟩)] (u32 x)) (c4 : Fun P 19 [u32 sumA, u32 sumB, .v (.int .i64 5)] (.tup [u32 x, .v (.int .i64 0)]))
    (c5 : Fun P 17 [.v (.string ⟨#[104, 105]⟩)] (.v (.string sealH))) (c6 : Fun P 11 [.v (.string sealH)] (.tup [.v (.string ⟨#[104, 105]⟩), .v (.int .i64 0)]))
    (c7 : Fun P 11 [.v (.string ⟨#[97, 98, 99]⟩)] (.tup [.v (.string ⟨#[]⟩), .v (.int .i64 4)])) (c8 : Fun P 19 [u32 1#32, u32 1#32, .v (.int .i64 (-1))] (.tup [u32 z, .v (.int .i64 2)])) :
    Fun P 10 [] (.v (.bool true)) := by
  refine spec_of hT (f := 10) (fn := Go.Proofs.Try.f10) (c := body Go.Proofs.Try.f10) (by kernel_rfl) (by kernel_rfl) ?_
  conv => whnf
  repeat ((first | refine AO.cons hT ?_ | refine AO.nil ?_ | refine AW.seq ?_ | refine AW.region ?_ | refine AW.cond ?_ | refine AW.block ?_ | refine AW.loop ?_ | refine AW.skip ?_ | refine AW.exit ?_ | refine AW.ret ?_ | refine AD.cons hT rfl ?_ | refine AD.nil ?_ | refine AQ.cons hT rfl ?_ | refine AQ.nil ?_); conv => whnf)
  refine ACall.val (by kernel_rfl) c1 rfl rfl ?_
  conv => whnf
  repeat ((first | refine AO.cons hT ?_ | refine AO.nil ?_ | refine AW.seq ?_ | refine AW.region ?_ | refine AW.cond ?_ | refine AW.block ?_ | refine AW.loop ?_ | refine AW.skip ?_ | refine AW.exit ?_ | refine AW.ret ?_ | refine AD.cons hT rfl ?_ | refine AD.nil ?_ | refine AQ.cons hT rfl ?_ | refine AQ.nil ?_); conv => whnf)
  refine ACall.val (by kernel_rfl) c2 rfl rfl ?_
  conv => whnf
  repeat ((first | refine AO.cons hT ?_ | refine AO.nil ?_ | refine AW.seq ?_ | refine AW.region ?_ | refine AW.cond ?_ | refine AW.block ?_ | refine AW.loop ?_ | refine AW.skip ?_ | refine AW.exit ?_ | refine AW.ret ?_ | refine AD.cons hT rfl ?_ | refine AD.nil ?_ | refine AQ.cons hT rfl ?_ | refine AQ.nil ?_); conv => whnf)
  refine ACall.val (by kernel_rfl) c3 rfl rfl ?_
  conv => whnf
  repeat ((first | refine AO.cons hT ?_ | refine AO.nil ?_ | refine AW.seq ?_ | refine AW.region ?_ | refine AW.cond ?_ | refine AW.block ?_ | refine AW.loop ?_ | refine AW.skip ?_ | refine AW.exit ?_ | refine AW.ret ?_ | refine AD.cons hT rfl ?_ | refine AD.nil ?_ | refine AQ.cons hT rfl ?_ | refine AQ.nil ?_); conv => whnf)
  refine ACall.val (by kernel_rfl) c2 rfl rfl ?_
  conv => whnf
  repeat ((first | refine AO.cons hT ?_ | refine AO.nil ?_ | refine AW.seq ?_ | refine AW.region ?_ | refine AW.cond ?_ | refine AW.block ?_ | refine AW.loop ?_ | refine AW.skip ?_ | refine AW.exit ?_ | refine AW.ret ?_ | refine AD.cons hT rfl ?_ | refine AD.nil ?_ | refine AQ.cons hT rfl ?_ | refine AQ.nil ?_); conv => whnf)
  refine ACall.val (by kernel_rfl) c2b rfl rfl ?_
  conv => whnf
  repeat ((first | refine AO.cons hT ?_ | refine AO.nil ?_ | refine AW.seq ?_ | refine AW.region ?_ | refine AW.cond ?_ | refine AW.block ?_ | refine AW.loop ?_ | refine AW.skip ?_ | refine AW.exit ?_ | refine AW.ret ?_ | refine AD.cons hT rfl ?_ | refine AD.nil ?_ | refine AQ.cons hT rfl ?_ | refine AQ.nil ?_); conv => whnf)
  refine ACall.val (by kernel_rfl) c4 rfl rfl ?_
  conv => whnf
  repeat ((first | refine AO.cons hT ?_ | refine AO.nil ?_ | refine AW.seq ?_ | refine AW.region ?_ | refine AW.cond ?_ | refine AW.block ?_ | refine AW.loop ?_ | refine AW.skip ?_ | refine AW.exit ?_ | refine AW.ret ?_ | refine AD.cons hT rfl ?_ | refine AD.nil ?_ | refine AQ.cons hT rfl ?_ | refine AQ.nil ?_); conv => whnf)
  refine ACall.val (by kernel_rfl) c5 rfl rfl ?_
  conv => whnf
  repeat ((first | refine AO.cons hT ?_ | refine AO.nil ?_ | refine AW.seq ?_ | refine AW.region ?_ | refine AW.cond ?_ | refine AW.block ?_ | refine AW.loop ?_ | refine AW.skip ?_ | refine AW.exit ?_ | refine AW.ret ?_ | refine AD.cons hT rfl ?_ | refine AD.nil ?_ | refine AQ.cons hT rfl ?_ | refine AQ.nil ?_); conv => whnf)
  refine ACall.val (by kernel_rfl) c6 rfl rfl ?_
  conv => whnf
  repeat ((first | refine AO.cons hT ?_ | refine AO.nil ?_ | refine AW.seq ?_ | refine AW.region ?_ | refine AW.cond ?_ | refine AW.block ?_ | refine AW.loop ?_ | refine AW.skip ?_ | refine AW.exit ?_ | refine AW.ret ?_ | refine AD.cons hT rfl ?_ | refine AD.nil ?_ | refine AQ.cons hT rfl ?_ | refine AQ.nil ?_); conv => whnf)
  refine ACall.val (by kernel_rfl) c7 rfl rfl ?_
  conv => whnf
  repeat ((first | refine AO.cons hT ?_ | refine AO.nil ?_ | refine AW.seq ?_ | refine AW.region ?_ | refine AW.cond ?_ | refine AW.block ?_ | refine AW.loop ?_ | refine AW.skip ?_ | refine AW.exit ?_ | refine AW.ret ?_ | refine AD.cons hT rfl ?_ | refine AD.nil ?_ | refine AQ.cons hT rfl ?_ | refine AQ.nil ?_); conv => whnf)
  refine ACall.val (by kernel_rfl) c8 rfl rfl ?_
  conv => whnf
  repeat ((first | refine AO.cons hT ?_ | refine AO.nil ?_ | refine AW.seq ?_ | refine AW.region ?_ | refine AW.cond ?_ | refine AW.block ?_ | refine AW.loop ?_ | refine AW.skip ?_ | refine AW.exit ?_ | refine AW.ret ?_ | refine AD.cons hT rfl ?_ | refine AD.nil ?_ | refine AQ.cons hT rfl ?_ | refine AQ.nil ?_); conv => whnf)
  refine ASplit.yes (by rw [hx]; decide) ?_
  conv => whnf
  repeat ((first | refine AO.cons hT ?_ | refine AO.nil ?_ | refine AW.seq ?_ | refine AW.region ?_ | refine AW.cond ?_ | refine AW.block ?_ | refine AW.loop ?_ | refine AW.skip ?_ | refine AW.exit ?_ | refine AW.ret ?_ | refine AD.cons hT rfl ?_ | refine AD.nil ?_ | refine AQ.cons hT rfl ?_ | refine AQ.nil ?_); conv => whnf)
  refine ASplit.yes (by simp) ?_
  conv => whnf
  repeat ((first | refine AO.cons hT ?_ | refine AO.nil ?_ | refine AW.seq ?_ | refine AW.region ?_ | refine AW.cond ?_ | refine AW.block ?_ | refine AW.loop ?_ | refine AW.skip ?_ | refine AW.exit ?_ | refine AW.ret ?_ | refine AD.cons hT rfl ?_ | refine AD.nil ?_ | refine AQ.cons hT rfl ?_ | refine AQ.nil ?_); conv => whnf)
  refine ASplit.yes (by simp) ?_
  conv => whnf
  repeat ((first | refine AO.cons hT ?_ | refine AO.nil ?_ | refine AW.seq ?_ | refine AW.region ?_ | refine AW.cond ?_ | refine AW.block ?_ | refine AW.loop ?_ | refine AW.skip ?_ | refine AW.exit ?_ | refine AW.ret ?_ | refine AD.cons hT rfl ?_ | refine AD.nil ?_ | refine AQ.cons hT rfl ?_ | refine AQ.nil ?_); conv => whnf)
  refine ASplit.yes (by first | decide | simp | decide +kernel) ?_
  conv => whnf
  repeat ((first | refine AO.cons hT ?_ | refine AO.nil ?_ | refine AW.seq ?_ | refine AW.region ?_ | refine AW.cond ?_ | refine AW.block ?_ | refine AW.loop ?_ | refine AW.skip ?_ | refine AW.exit ?_ | refine AW.ret ?_ | refine AD.cons hT rfl ?_ | refine AD.nil ?_ | refine AQ.cons hT rfl ?_ | refine AQ.nil ?_); conv => whnf)
  refine ASplit.yes (by first | decide | simp | decide +kernel) ?_
  conv => whnf
  repeat ((first | refine AO.cons hT ?_ | refine AO.nil ?_ | refine AW.seq ?_ | refine AW.region ?_ | refine AW.cond ?_ | refine AW.block ?_ | refine AW.loop ?_ | refine AW.skip ?_ | refine AW.exit ?_ | refine AW.ret ?_ | refine AD.cons hT rfl ?_ | refine AD.nil ?_ | refine AQ.cons hT rfl ?_ | refine AQ.nil ?_); conv => whnf)
  refine ASplit.yes (by first | decide | simp | decide +kernel) ?_
  conv => whnf
  repeat ((first | refine AO.cons hT ?_ | refine AO.nil ?_ | refine AW.seq ?_ | refine AW.region ?_ | refine AW.cond ?_ | refine AW.block ?_ | refine AW.loop ?_ | refine AW.skip ?_ | refine AW.exit ?_ | refine AW.ret ?_ | refine AD.cons hT rfl ?_ | refine AD.nil ?_ | refine AQ.cons hT rfl ?_ | refine AQ.nil ?_); conv => whnf)
  refine ASplit.yes (by first | decide | simp | decide +kernel) ?_
  conv => whnf
  repeat ((first | refine AO.cons hT ?_ | refine AO.nil ?_ | refine AW.seq ?_ | refine AW.region ?_ | refine AW.cond ?_ | refine AW.block ?_ | refine AW.loop ?_ | refine AW.skip ?_ | refine AW.exit ?_ | refine AW.ret ?_ | refine AD.cons hT rfl ?_ | refine AD.nil ?_ | refine AQ.cons hT rfl ?_ | refine AQ.nil ?_); conv => whnf)
  refine ASplit.yes (by first | decide | simp | decide +kernel) ?_
  conv => whnf
  repeat ((first | refine AO.cons hT ?_ | refine AO.nil ?_ | refine AW.seq ?_ | refine AW.region ?_ | refine AW.cond ?_ | refine AW.block ?_ | refine AW.loop ?_ | refine AW.skip ?_ | refine AW.exit ?_ | refine AW.ret ?_ | refine AD.cons hT rfl ?_ | refine AD.nil ?_ | refine AQ.cons hT rfl ?_ | refine AQ.nil ?_); conv => whnf)
  refine ACall.val (by kernel_rfl) c5 rfl rfl ?_
  conv => whnf
  repeat ((first | refine AO.cons hT ?_ | refine AO.nil ?_ | refine AW.seq ?_ | refine AW.region ?_ | refine AW.cond ?_ | refine AW.block ?_ | refine AW.loop ?_ | refine AW.skip ?_ | refine AW.exit ?_ | refine AW.ret ?_ | refine AD.cons hT rfl ?_ | refine AD.nil ?_ | refine AQ.cons hT rfl ?_ | refine AQ.nil ?_); conv => whnf)
  refine AFin.val rfl ⟨?_, rfl⟩
  rw [hs]; rfl

theorem f10 : Fun P 10 [] (.v (.bool true)) := f10_aux _ _ _ _ _ rfl sealH_size c1 c2 c2b c3 c4 c5 c6 c7 c8
end Go.Aw.R1

set_option linter.unusedSimpArgs false
set_option linter.unusedVariables false
set_option maxHeartbeats 4000000
namespace Go.Aw.R1
open Go
theorem f3 (s : ByteArray) (sum : BitVec 32) : Spec P 3 [.v (.string s), u32 sum] [] fun r _ => r = .v (.bool true) := by
  refine spec_of hT (f := 3) (fn := Go.Proofs.Try.f3) (c := body Go.Proofs.Try.f3) (by kernel_rfl) (by kernel_rfl) ?_
  conv => whnf
  repeat ((first | refine AO.cons hT ?_ | refine AO.nil ?_ | refine AW.seq ?_ | refine AW.region ?_ | refine AW.cond ?_ | refine AW.block ?_ | refine AW.loop ?_ | refine AW.skip ?_ | refine AW.exit ?_ | refine AW.ret ?_ | refine AD.cons hT rfl ?_ | refine AD.nil ?_ | refine AQ.cons hT rfl ?_ | refine AQ.nil ?_); conv => whnf)
  refine ACond.dec (fun h => ?_) (fun h => ?_)
  · conv => whnf
    repeat ((first | refine AO.cons hT ?_ | refine AO.nil ?_ | refine AW.seq ?_ | refine AW.region ?_ | refine AW.cond ?_ | refine AW.block ?_ | refine AW.loop ?_ | refine AW.skip ?_ | refine AW.exit ?_ | refine AW.ret ?_ | refine AD.cons hT rfl ?_ | refine AD.nil ?_ | refine AQ.cons hT rfl ?_ | refine AQ.nil ?_); conv => whnf)
    refine ACall.val (by kernel_rfl) f10 rfl rfl ?_
    conv => whnf
    repeat ((first | refine AO.cons hT ?_ | refine AO.nil ?_ | refine AW.seq ?_ | refine AW.region ?_ | refine AW.cond ?_ | refine AW.block ?_ | refine AW.loop ?_ | refine AW.skip ?_ | refine AW.exit ?_ | refine AW.ret ?_ | refine AD.cons hT rfl ?_ | refine AD.nil ?_ | refine AQ.cons hT rfl ?_ | refine AQ.nil ?_); conv => whnf)
    exact AFin.mk rfl
  · have hs : s.size ≤ 4611686018427387904 := by omega
    conv => whnf
    repeat ((first | refine AO.cons hT ?_ | refine AO.nil ?_ | refine AW.seq ?_ | refine AW.region ?_ | refine AW.cond ?_ | refine AW.block ?_ | refine AW.loop ?_ | refine AW.skip ?_ | refine AW.exit ?_ | refine AW.ret ?_ | refine AD.cons hT rfl ?_ | refine AD.nil ?_ | refine AQ.cons hT rfl ?_ | refine AQ.nil ?_); conv => whnf)
    refine ACall.val (by kernel_rfl) (f11 s hs) rfl rfl ?_
    conv => whnf
    repeat ((first | refine AO.cons hT ?_ | refine AO.nil ?_ | refine AW.seq ?_ | refine AW.region ?_ | refine AW.cond ?_ | refine AW.block ?_ | refine AW.loop ?_ | refine AW.skip ?_ | refine AW.exit ?_ | refine AW.ret ?_ | refine AD.cons hT rfl ?_ | refine AD.nil ?_ | refine AQ.cons hT rfl ?_ | refine AQ.nil ?_); conv => whnf)
    refine ACall.val (by kernel_rfl) (f12 s hs) rfl rfl ?_
    conv => whnf
    repeat ((first | refine AO.cons hT ?_ | refine AO.nil ?_ | refine AW.seq ?_ | refine AW.region ?_ | refine AW.cond ?_ | refine AW.block ?_ | refine AW.loop ?_ | refine AW.skip ?_ | refine AW.exit ?_ | refine AW.ret ?_ | refine AD.cons hT rfl ?_ | refine AD.nil ?_ | refine AQ.cons hT rfl ?_ | refine AQ.nil ?_); conv => whnf)
    refine ACall.val (by kernel_rfl) (f13 s hs) rfl rfl ?_
    conv => whnf
    repeat ((first | refine AO.cons hT ?_ | refine AO.nil ?_ | refine AW.seq ?_ | refine AW.region ?_ | refine AW.cond ?_ | refine AW.block ?_ | refine AW.loop ?_ | refine AW.skip ?_ | refine AW.exit ?_ | refine AW.ret ?_ | refine AD.cons hT rfl ?_ | refine AD.nil ?_ | refine AQ.cons hT rfl ?_ | refine AQ.nil ?_); conv => whnf)
    refine ACall.val (by kernel_rfl) (f14 s hs) rfl rfl ?_
    conv => whnf
    repeat ((first | refine AO.cons hT ?_ | refine AO.nil ?_ | refine AW.seq ?_ | refine AW.region ?_ | refine AW.cond ?_ | refine AW.block ?_ | refine AW.loop ?_ | refine AW.skip ?_ | refine AW.exit ?_ | refine AW.ret ?_ | refine AD.cons hT rfl ?_ | refine AD.nil ?_ | refine AQ.cons hT rfl ?_ | refine AQ.nil ?_); conv => whnf)
    refine ASplit.yes (by simp) ?_
    conv => whnf
    repeat ((first | refine AO.cons hT ?_ | refine AO.nil ?_ | refine AW.seq ?_ | refine AW.region ?_ | refine AW.cond ?_ | refine AW.block ?_ | refine AW.loop ?_ | refine AW.skip ?_ | refine AW.exit ?_ | refine AW.ret ?_ | refine AD.cons hT rfl ?_ | refine AD.nil ?_ | refine AQ.cons hT rfl ?_ | refine AQ.nil ?_); conv => whnf)
    refine ACall.val (by kernel_rfl) (f15 sum s hs) rfl rfl ?_
    conv => whnf
    repeat ((first | refine AO.cons hT ?_ | refine AO.nil ?_ | refine AW.seq ?_ | refine AW.region ?_ | refine AW.cond ?_ | refine AW.block ?_ | refine AW.loop ?_ | refine AW.skip ?_ | refine AW.exit ?_ | refine AW.ret ?_ | refine AD.cons hT rfl ?_ | refine AD.nil ?_ | refine AQ.cons hT rfl ?_ | refine AQ.nil ?_); conv => whnf)
    refine ACall.val (by kernel_rfl) (f16 sum s hs) rfl rfl ?_
    conv => whnf
    repeat ((first | refine AO.cons hT ?_ | refine AO.nil ?_ | refine AW.seq ?_ | refine AW.region ?_ | refine AW.cond ?_ | refine AW.block ?_ | refine AW.loop ?_ | refine AW.skip ?_ | refine AW.exit ?_ | refine AW.ret ?_ | refine AD.cons hT rfl ?_ | refine AD.nil ?_ | refine AQ.cons hT rfl ?_ | refine AQ.nil ?_); conv => whnf)
    refine ASplit.yes (by simp) ?_
    conv => whnf
    repeat ((first | refine AO.cons hT ?_ | refine AO.nil ?_ | refine AW.seq ?_ | refine AW.region ?_ | refine AW.cond ?_ | refine AW.block ?_ | refine AW.loop ?_ | refine AW.skip ?_ | refine AW.exit ?_ | refine AW.ret ?_ | refine AD.cons hT rfl ?_ | refine AD.nil ?_ | refine AQ.cons hT rfl ?_ | refine AQ.nil ?_); conv => whnf)
    refine ACall.val (by kernel_rfl) (f17 s hs) rfl rfl ?_
    conv => whnf
    repeat ((first | refine AO.cons hT ?_ | refine AO.nil ?_ | refine AW.seq ?_ | refine AW.region ?_ | refine AW.cond ?_ | refine AW.block ?_ | refine AW.loop ?_ | refine AW.skip ?_ | refine AW.exit ?_ | refine AW.ret ?_ | refine AD.cons hT rfl ?_ | refine AD.nil ?_ | refine AQ.cons hT rfl ?_ | refine AQ.nil ?_); conv => whnf)
    refine ACall.val (by kernel_rfl) (f18 s hs) rfl rfl ?_
    conv => whnf
    repeat ((first | refine AO.cons hT ?_ | refine AO.nil ?_ | refine AW.seq ?_ | refine AW.region ?_ | refine AW.cond ?_ | refine AW.block ?_ | refine AW.loop ?_ | refine AW.skip ?_ | refine AW.exit ?_ | refine AW.ret ?_ | refine AD.cons hT rfl ?_ | refine AD.nil ?_ | refine AQ.cons hT rfl ?_ | refine AQ.nil ?_); conv => whnf)
    refine ASplit.yes (by simp) ?_
    conv => whnf
    repeat ((first | refine AO.cons hT ?_ | refine AO.nil ?_ | refine AW.seq ?_ | refine AW.region ?_ | refine AW.cond ?_ | refine AW.block ?_ | refine AW.loop ?_ | refine AW.skip ?_ | refine AW.exit ?_ | refine AW.ret ?_ | refine AD.cons hT rfl ?_ | refine AD.nil ?_ | refine AQ.cons hT rfl ?_ | refine AQ.nil ?_); conv => whnf)
    refine ASplit.yes (by simp) ?_
    conv => whnf
    repeat ((first | refine AO.cons hT ?_ | refine AO.nil ?_ | refine AW.seq ?_ | refine AW.region ?_ | refine AW.cond ?_ | refine AW.block ?_ | refine AW.loop ?_ | refine AW.skip ?_ | refine AW.exit ?_ | refine AW.ret ?_ | refine AD.cons hT rfl ?_ | refine AD.nil ?_ | refine AQ.cons hT rfl ?_ | refine AQ.nil ?_); conv => whnf)
    refine ASplit.yes (by simp) ?_
    conv => whnf
    repeat ((first | refine AO.cons hT ?_ | refine AO.nil ?_ | refine AW.seq ?_ | refine AW.region ?_ | refine AW.cond ?_ | refine AW.block ?_ | refine AW.loop ?_ | refine AW.skip ?_ | refine AW.exit ?_ | refine AW.ret ?_ | refine AD.cons hT rfl ?_ | refine AD.nil ?_ | refine AQ.cons hT rfl ?_ | refine AQ.nil ?_); conv => whnf)
    refine ACall.val (by kernel_rfl) f10 rfl rfl ?_
    conv => whnf
    repeat ((first | refine AO.cons hT ?_ | refine AO.nil ?_ | refine AW.seq ?_ | refine AW.region ?_ | refine AW.cond ?_ | refine AW.block ?_ | refine AW.loop ?_ | refine AW.skip ?_ | refine AW.exit ?_ | refine AW.ret ?_ | refine AD.cons hT rfl ?_ | refine AD.nil ?_ | refine AQ.cons hT rfl ?_ | refine AQ.nil ?_); conv => whnf)
    exact AFin.mk rfl
end Go.Aw.R1

set_option linter.unusedSimpArgs false
set_option linter.unusedVariables false
set_option maxHeartbeats 4000000
namespace Go.Aw.R1
open Go

/-! ### squares are what they stand for -/
def Lin (f : BitVec 32 → BitVec 32) : Prop := ∀ x y, f (x ^^^ y) = f x ^^^ f y
theorem Lin.zero {f : BitVec 32 → BitVec 32} (h : Lin f) : f 0#32 = 0#32 := by
  have := h 0#32 0#32
  rw [BitVec.xor_self] at this
  have h2 := congrArg (fun z => z ^^^ f 0#32) this
  have h3 : 0#32 = f 0#32 := by simpa [BitVec.xor_assoc] using h2
  exact h3.symm
def cols (f : BitVec 32 → BitVec 32) : List (BitVec 32) := (List.range 32).map fun j => f (1#32 <<< j)
def lowK (x : BitVec 32) : Nat → BitVec 32
  | 0 => 0#32
  | i + 1 => if x.getLsbD i then lowK x i ^^^ (1#32 <<< i) else lowK x i

theorem one_bit (i j : Nat) (hj : j < 32) : (1#32 <<< i).getLsbD j = decide (i = j) := by
  rw [BitVec.getLsbD_shiftLeft]
  by_cases h : i = j
  · subst h; simp [hj]
  · by_cases h2 : j < i
    · simp [h, h2]
    · have : j - i ≠ 0 := by omega
      simp [h, hj, BitVec.getLsbD_one, this]

theorem lowK_bit (x : BitVec 32) (j : Nat) (hj : j < 32) : ∀ i, (lowK x i).getLsbD j = (decide (j < i) && x.getLsbD j)
  | 0 => by simp [lowK]
  | i + 1 => by
    simp only [lowK]
    have ih := lowK_bit x j hj i
    by_cases hx : x.getLsbD i = true
    · rw [if_pos hx, BitVec.getLsbD_xor, ih, one_bit i j hj]
      by_cases h : i = j
      · subst h; simp [hx]
      · have : (j < i + 1) = (j < i) := by apply propext; omega
        simp [h, this]
    · rw [if_neg hx, ih]
      by_cases h : i = j
      · subst h; simp [hx]
      · have : (j < i + 1) = (j < i) := by apply propext; omega
        simp [this]

theorem lowK_all (x : BitVec 32) : lowK x 32 = x := by
  apply BitVec.eq_of_getLsbD_eq
  intro j hj
  rw [lowK_bit x j hj]; simp [hj]

theorem ofK_cols {f : BitVec 32 → BitVec 32} (h : Lin f) (x : BitVec 32) : ∀ i, i ≤ 32 → ofK (cols f) x i = f (lowK x i)
  | 0, _ => by simp [ofK, lowK, h.zero]
  | i + 1, hi => by
    simp only [ofK, lowK]
    have e : (cols f).getD i 0#32 = f (1#32 <<< i) := by
      rw [List.getD_eq_getElem?_getD]
      simp [cols, List.getElem?_range (show i < 32 by omega)]
    rw [ofK_cols h x i (by omega), e]
    split
    · rw [h]
    · rfl

theorem ofF_cols {f : BitVec 32 → BitVec 32} (h : Lin f) (x : BitVec 32) : ofF (cols f) x = f x := by
  unfold ofF
  rw [ofK_cols h x 32 (Nat.le_refl _), lowK_all]

theorem tw_cols {f : BitVec 32 → BitVec 32} (h : Lin f) : twF (cols f) = cols (fun x => f (f x)) := by
  unfold twF
  rw [show (ofF (cols f)) = f from funext (ofF_cols h)]
  simp [cols, Function.comp_def]

theorem Lin.twice {f : BitVec 32 → BitVec 32} (h : Lin f) : Lin (fun x => f (f x)) := fun x y => by show f (f (x ^^^ y)) = _; rw [h, h]

theorem one_cols : oneL = cols bitStep := by decide +kernel

theorem m3_cols : m3 = cols (rep bitStep 8) := by
  unfold m3
  rw [one_cols, tw_cols bit_add, tw_cols (Lin.twice bit_add), tw_cols (Lin.twice (Lin.twice bit_add))]
  rfl

theorem rep_shift (f : BitVec 32 → BitVec 32) (x : BitVec 32) : ∀ n, rep f n (f x) = f (rep f n x)
  | 0 => rfl
  | n + 1 => by simp only [rep]; rw [rep_shift f x n]

theorem rep_twice (f : BitVec 32 → BitVec 32) (x : BitVec 32) : ∀ n, rep (fun y => f (f y)) n x = rep f (2 * n) x
  | 0 => rfl
  | n + 1 => by rw [show 2 * (n + 1) = 2 * n + 1 + 1 by omega]; simp only [rep]; rw [rep_twice f x n]

theorem both_rep : ∀ (k : Nat) (f : BitVec 32 → BitVec 32) (a : BitVec 32) (n : Nat), Lin f → n ≤ k → bothF k (cols f) a n = rep f n a
  | 0, f, a, n, _, hn => by
    obtain rfl : n = 0 := by omega
    rfl
  | k + 1, f, a, n, h, hn => by
    simp only [bothF]
    by_cases h0 : n = 0
    · subst h0; rfl
    · rw [if_neg h0, tw_cols h, both_rep k _ _ _ h.twice (by omega), ofF_cols h, rep_twice]
      by_cases h1 : n % 2 = 1
      · rw [if_pos h1, rep_shift]
        have : n = 2 * (n / 2) + 1 := by omega
        conv => rhs; rw [this]
        rfl
      · rw [if_neg h1]
        have : 2 * (n / 2) = n := by omega
        rw [this]

/-! ### sums of two texts -/
def regF (r : BitVec 32) (bs : List UInt8) : BitVec 32 := bs.foldl (fun n b => crcStep n b.toBitVec) r
theorem step_add (r : BitVec 32) (b : BitVec 8) : crcStep r b = rep bitStep 8 r ^^^ crcStep 0#32 b := by
  rw [crc_bits, crc_bits, rep_add, BitVec.zero_xor]

theorem rep_lin {f : BitVec 32 → BitVec 32} (h : Lin f) : ∀ n, Lin (rep f n)
  | 0 => fun x y => rfl
  | n + 1 => fun x y => by simp only [rep]; rw [rep_lin h n, h]

theorem reg_add (r s : BitVec 32) : ∀ bs : List UInt8, regF (r ^^^ s) bs = rep (rep bitStep 8) bs.length r ^^^ regF s bs := by
  intro bs
  induction bs generalizing r s with
  | nil => rfl
  | cons b bs ih =>
    show regF (crcStep (r ^^^ s) b.toBitVec) bs = _ ^^^ regF (crcStep s b.toBitVec) bs
    have : crcStep (r ^^^ s) b.toBitVec = rep bitStep 8 r ^^^ crcStep s b.toBitVec := by
      rw [step_add, step_add s, (rep_lin bit_add 8) r s, BitVec.xor_assoc]
    rw [this, ih, List.length_cons]
    simp only [rep]
    rw [rep_shift]

theorem on_append (a b : List UInt8) : onF (onF 0 a) b = onF 0 (a ++ b) := by
  unfold onF
  rw [List.foldl_append, BitVec.not_not]

theorem both_append (a b : List UInt8) (n : Nat) (hn : n = b.length) (hb : n ≤ 1000000) : bothR (onF 0 a) (onF 0 b) n = (onF 0 (a ++ b), 0) := by
  unfold bothR
  rw [if_neg (by omega), show Int.toNat (n : Int) = n from rfl, m3_cols, both_rep n _ _ _ (rep_lin bit_add 8) (Nat.le_refl _), ← on_append a b]
  congr 1
  generalize onF 0 a = x
  show _ ^^^ ~~~ regF (~~~ 0#32) b = ~~~ regF (~~~ x) b
  have h1 : ~~~ x = x ^^^ ~~~ 0#32 := by
    rw [show (~~~ (0#32)) = BitVec.allOnes 32 from by decide, BitVec.xor_allOnes]
  rw [h1, reg_add x (~~~ 0#32) b, hn]
  generalize regF (~~~ 0#32) b = y
  generalize rep (rep bitStep 8) b.length x = z
  apply BitVec.eq_of_getLsbD_eq
  intro i hi
  simp [hi]
end Go.Aw.R1

set_option linter.unusedSimpArgs false
set_option linter.unusedVariables false
set_option maxHeartbeats 4000000
namespace Go.Aw.R1
open Go

theorem app_list (a b : ByteArray) : (a ++ b).data.toList = a.data.toList ++ b.data.toList := by
  simp [ByteArray.data_append]

theorem f4 (a b : ByteArray) : Spec P 4 [.v (.string a), .v (.string b)] [] fun r _ => r = .v (.bool true) := by
  refine spec_of hT (f := 4) (fn := Go.Proofs.Try.f4) (c := body Go.Proofs.Try.f4) (by kernel_rfl) (by kernel_rfl) ?_
  conv => whnf
  repeat ((first | refine AO.cons hT ?_ | refine AO.nil ?_ | refine AW.seq ?_ | refine AW.region ?_ | refine AW.cond ?_ | refine AW.block ?_ | refine AW.loop ?_ | refine AW.skip ?_ | refine AW.exit ?_ | refine AW.ret ?_ | refine AD.cons hT rfl ?_ | refine AD.nil ?_ | refine AQ.cons hT rfl ?_ | refine AQ.nil ?_); conv => whnf)
  refine ASplit.dec (fun h1 => ?_) (fun h1 => ?_)
  · conv => whnf
    repeat ((first | refine AO.cons hT ?_ | refine AO.nil ?_ | refine AW.seq ?_ | refine AW.region ?_ | refine AW.cond ?_ | refine AW.block ?_ | refine AW.loop ?_ | refine AW.skip ?_ | refine AW.exit ?_ | refine AW.ret ?_ | refine AD.cons hT rfl ?_ | refine AD.nil ?_ | refine AQ.cons hT rfl ?_ | refine AQ.nil ?_); conv => whnf)
    refine ACond.yes rfl ?_
    conv => whnf
    repeat ((first | refine AO.cons hT ?_ | refine AO.nil ?_ | refine AW.seq ?_ | refine AW.region ?_ | refine AW.cond ?_ | refine AW.block ?_ | refine AW.loop ?_ | refine AW.skip ?_ | refine AW.exit ?_ | refine AW.ret ?_ | refine AD.cons hT rfl ?_ | refine AD.nil ?_ | refine AQ.cons hT rfl ?_ | refine AQ.nil ?_); conv => whnf)
    refine ACall.val (by kernel_rfl) f10 rfl rfl ?_
    conv => whnf
    repeat ((first | refine AO.cons hT ?_ | refine AO.nil ?_ | refine AW.seq ?_ | refine AW.region ?_ | refine AW.cond ?_ | refine AW.block ?_ | refine AW.loop ?_ | refine AW.skip ?_ | refine AW.exit ?_ | refine AW.ret ?_ | refine AD.cons hT rfl ?_ | refine AD.nil ?_ | refine AQ.cons hT rfl ?_ | refine AQ.nil ?_); conv => whnf)
    exact AFin.mk rfl
  · conv => whnf
    repeat ((first | refine AO.cons hT ?_ | refine AO.nil ?_ | refine AW.seq ?_ | refine AW.region ?_ | refine AW.cond ?_ | refine AW.block ?_ | refine AW.loop ?_ | refine AW.skip ?_ | refine AW.exit ?_ | refine AW.ret ?_ | refine AD.cons hT rfl ?_ | refine AD.nil ?_ | refine AQ.cons hT rfl ?_ | refine AQ.nil ?_); conv => whnf)
    refine ACond.dec (fun h2 => ?_) (fun h2 => ?_)
    · conv => whnf
      repeat ((first | refine AO.cons hT ?_ | refine AO.nil ?_ | refine AW.seq ?_ | refine AW.region ?_ | refine AW.cond ?_ | refine AW.block ?_ | refine AW.loop ?_ | refine AW.skip ?_ | refine AW.exit ?_ | refine AW.ret ?_ | refine AD.cons hT rfl ?_ | refine AD.nil ?_ | refine AQ.cons hT rfl ?_ | refine AQ.nil ?_); conv => whnf)
      refine ACall.val (by kernel_rfl) f10 rfl rfl ?_
      conv => whnf
      repeat ((first | refine AO.cons hT ?_ | refine AO.nil ?_ | refine AW.seq ?_ | refine AW.region ?_ | refine AW.cond ?_ | refine AW.block ?_ | refine AW.loop ?_ | refine AW.skip ?_ | refine AW.exit ?_ | refine AW.ret ?_ | refine AD.cons hT rfl ?_ | refine AD.nil ?_ | refine AQ.cons hT rfl ?_ | refine AQ.nil ?_); conv => whnf)
      exact AFin.mk rfl
    · have hsz : (a ++ b).size = a.size + b.size := ByteArray.size_append
      have hb := size_list b
      have hboth := both_append a.data.toList b.data.toList b.size (by omega) (by omega)
      have hon : onF (onF 0 a.data.toList) b.data.toList = onF 0 (a ++ b).data.toList := by rw [on_append, app_list]
      rw [← app_list] at hboth
      conv => whnf
      repeat ((first | refine AO.cons hT ?_ | refine AO.nil ?_ | refine AW.seq ?_ | refine AW.region ?_ | refine AW.cond ?_ | refine AW.block ?_ | refine AW.loop ?_ | refine AW.skip ?_ | refine AW.exit ?_ | refine AW.ret ?_ | refine AD.cons hT rfl ?_ | refine AD.nil ?_ | refine AQ.cons hT rfl ?_ | refine AQ.nil ?_); conv => whnf)
      refine AReq.mk (by omega) ?_
      conv => whnf
      repeat ((first | refine AO.cons hT ?_ | refine AO.nil ?_ | refine AW.seq ?_ | refine AW.region ?_ | refine AW.cond ?_ | refine AW.block ?_ | refine AW.loop ?_ | refine AW.skip ?_ | refine AW.exit ?_ | refine AW.ret ?_ | refine AD.cons hT rfl ?_ | refine AD.nil ?_ | refine AQ.cons hT rfl ?_ | refine AQ.nil ?_); conv => whnf)
      refine ACall.val (by kernel_rfl) (f13 (a ++ b) (by omega)) rfl rfl ?_
      conv => whnf
      repeat ((first | refine AO.cons hT ?_ | refine AO.nil ?_ | refine AW.seq ?_ | refine AW.region ?_ | refine AW.cond ?_ | refine AW.block ?_ | refine AW.loop ?_ | refine AW.skip ?_ | refine AW.exit ?_ | refine AW.ret ?_ | refine AD.cons hT rfl ?_ | refine AD.nil ?_ | refine AQ.cons hT rfl ?_ | refine AQ.nil ?_); conv => whnf)
      refine ACall.val (by kernel_rfl) (f13 a (by omega)) rfl rfl ?_
      conv => whnf
      repeat ((first | refine AO.cons hT ?_ | refine AO.nil ?_ | refine AW.seq ?_ | refine AW.region ?_ | refine AW.cond ?_ | refine AW.block ?_ | refine AW.loop ?_ | refine AW.skip ?_ | refine AW.exit ?_ | refine AW.ret ?_ | refine AD.cons hT rfl ?_ | refine AD.nil ?_ | refine AQ.cons hT rfl ?_ | refine AQ.nil ?_); conv => whnf)
      refine ACall.val (by kernel_rfl) (f13 b (by omega)) rfl rfl ?_
      conv => whnf
      repeat ((first | refine AO.cons hT ?_ | refine AO.nil ?_ | refine AW.seq ?_ | refine AW.region ?_ | refine AW.cond ?_ | refine AW.block ?_ | refine AW.loop ?_ | refine AW.skip ?_ | refine AW.exit ?_ | refine AW.ret ?_ | refine AD.cons hT rfl ?_ | refine AD.nil ?_ | refine AQ.cons hT rfl ?_ | refine AQ.nil ?_); conv => whnf)
      have hB : Fun P 19 [u32 (onF 0 a.data.toList), u32 (onF 0 b.data.toList), .v (.int .i64 b.size)] (.tup [u32 (onF 0 (a ++ b).data.toList), .v (.int .i64 0)]) := by
        have := f19 (onF 0 a.data.toList) (onF 0 b.data.toList) b.size
        rw [hboth] at this
        exact this
      refine ACall.val (by kernel_rfl) hB rfl rfl ?_
      conv => whnf
      repeat ((first | refine AO.cons hT ?_ | refine AO.nil ?_ | refine AW.seq ?_ | refine AW.region ?_ | refine AW.cond ?_ | refine AW.block ?_ | refine AW.loop ?_ | refine AW.skip ?_ | refine AW.exit ?_ | refine AW.ret ?_ | refine AD.cons hT rfl ?_ | refine AD.nil ?_ | refine AQ.cons hT rfl ?_ | refine AQ.nil ?_); conv => whnf)
      refine ACall.val (by kernel_rfl) (f13 a (by omega)) rfl rfl ?_
      conv => whnf
      repeat ((first | refine AO.cons hT ?_ | refine AO.nil ?_ | refine AW.seq ?_ | refine AW.region ?_ | refine AW.cond ?_ | refine AW.block ?_ | refine AW.loop ?_ | refine AW.skip ?_ | refine AW.exit ?_ | refine AW.ret ?_ | refine AD.cons hT rfl ?_ | refine AD.nil ?_ | refine AQ.cons hT rfl ?_ | refine AQ.nil ?_); conv => whnf)
      have hO := f15 (onF 0 a.data.toList) b (by omega)
      rw [hon] at hO
      refine ACall.val (by kernel_rfl) hO rfl rfl ?_
      conv => whnf
      repeat ((first | refine AO.cons hT ?_ | refine AO.nil ?_ | refine AW.seq ?_ | refine AW.region ?_ | refine AW.cond ?_ | refine AW.block ?_ | refine AW.loop ?_ | refine AW.skip ?_ | refine AW.exit ?_ | refine AW.ret ?_ | refine AD.cons hT rfl ?_ | refine AD.nil ?_ | refine AQ.cons hT rfl ?_ | refine AQ.nil ?_); conv => whnf)
      refine ASplit.yes (by simp) ?_
      conv => whnf
      repeat ((first | refine AO.cons hT ?_ | refine AO.nil ?_ | refine AW.seq ?_ | refine AW.region ?_ | refine AW.cond ?_ | refine AW.block ?_ | refine AW.loop ?_ | refine AW.skip ?_ | refine AW.exit ?_ | refine AW.ret ?_ | refine AD.cons hT rfl ?_ | refine AD.nil ?_ | refine AQ.cons hT rfl ?_ | refine AQ.nil ?_); conv => whnf)
      refine ASplit.yes (by simp) ?_
      conv => whnf
      repeat ((first | refine AO.cons hT ?_ | refine AO.nil ?_ | refine AW.seq ?_ | refine AW.region ?_ | refine AW.cond ?_ | refine AW.block ?_ | refine AW.loop ?_ | refine AW.skip ?_ | refine AW.exit ?_ | refine AW.ret ?_ | refine AD.cons hT rfl ?_ | refine AD.nil ?_ | refine AQ.cons hT rfl ?_ | refine AQ.nil ?_); conv => whnf)
      refine ASplit.yes (by simp) ?_
      conv => whnf
      repeat ((first | refine AO.cons hT ?_ | refine AO.nil ?_ | refine AW.seq ?_ | refine AW.region ?_ | refine AW.cond ?_ | refine AW.block ?_ | refine AW.loop ?_ | refine AW.skip ?_ | refine AW.exit ?_ | refine AW.ret ?_ | refine AD.cons hT rfl ?_ | refine AD.nil ?_ | refine AQ.cons hT rfl ?_ | refine AQ.nil ?_); conv => whnf)
      refine ACall.val (by kernel_rfl) f10 rfl rfl ?_
      conv => whnf
      repeat ((first | refine AO.cons hT ?_ | refine AO.nil ?_ | refine AW.seq ?_ | refine AW.region ?_ | refine AW.cond ?_ | refine AW.block ?_ | refine AW.loop ?_ | refine AW.skip ?_ | refine AW.exit ?_ | refine AW.ret ?_ | refine AD.cons hT rfl ?_ | refine AD.nil ?_ | refine AQ.cons hT rfl ?_ | refine AQ.nil ?_); conv => whnf)
      exact AFin.mk rfl
end Go.Aw.R1

set_option linter.unusedSimpArgs false
set_option linter.unusedVariables false
set_option maxHeartbeats 4000000
namespace Go.Aw.R1
open Go

/-! ### bit by bit -/
def b2v (b : Bool) : BitVec 32 := if b then 1#32 else 0#32
def bitsF (r : BitVec 32) (l : List Bool) : BitVec 32 := l.foldl (fun r b => bitStep (r ^^^ b2v b)) r
def bitsV (v : BitVec 32) (k : Nat) : List Bool := (List.range k).map fun i => v.getLsbD i
def bits8 (b : UInt8) : List Bool := (List.range 8).map fun i => b.toBitVec.getLsbD i

theorem rep_one (k : Nat) (hk : k < 32) : rep bitStep k (1#32 <<< k) = 1#32 := by
  rw [rep_low _ k (fun i hi => by rw [one_bit k i (by omega)]; simp; omega)]
  apply BitVec.eq_of_getLsbD_eq
  intro j hj
  rw [BitVec.getLsbD_ushiftRight]
  by_cases h : k + j < 32
  · rw [one_bit k (k + j) h, BitVec.getLsbD_one]
    by_cases h0 : j = 0
    · simp [h0]
    · have : ¬ (k = k + j) := by omega
      simp [h0]
  · rw [BitVec.getLsbD_of_ge _ _ (by omega), BitVec.getLsbD_one]
    have : j ≠ 0 := by omega
    simp [this]

theorem bits_rep (r v : BitVec 32) : ∀ k, k ≤ 32 → bitsF r (bitsV v k) = rep bitStep k (r ^^^ lowK v k)
  | 0, _ => by simp [bitsF, bitsV, rep, lowK]
  | k + 1, hk => by
    have e : bitsV v (k + 1) = bitsV v k ++ [v.getLsbD k] := by simp [bitsV, List.range_succ]
    rw [e]
    unfold bitsF
    rw [List.foldl_append]
    show bitStep (bitsF r (bitsV v k) ^^^ b2v (v.getLsbD k)) = _
    rw [bits_rep r v k (by omega)]
    simp only [rep, lowK]
    congr 1
    cases v.getLsbD k with
    | false => simp [b2v]
    | true =>
      simp only [b2v, if_true]
      rw [← BitVec.xor_assoc, (rep_lin bit_add k) (r ^^^ lowK v k), rep_one k (by omega)]

theorem bits_word (r v : BitVec 32) : bitsF r (bitsV v 32) = rep bitStep 32 (r ^^^ v) := by
  rw [bits_rep r v 32 (Nat.le_refl _), lowK_all]

theorem byte_bits (r : BitVec 32) (b : UInt8) : crcStep r b.toBitVec = bitsF r (bits8 b) := by
  have e : bits8 b = bitsV (b.toBitVec.zeroExtend 32) 8 := by
    simp only [bits8, bitsV]
    apply List.map_congr_left
    intro i hi
    simp at hi
    simp
    omega
  rw [e, bits_rep r _ 8 (by omega), crc_bits]
  congr 2
  apply BitVec.eq_of_getLsbD_eq
  intro j hj
  rw [lowK_bit _ j hj]
  by_cases h : j < 8
  · simp [h]
  · simp [h]
    intro _
    exact BitVec.getLsbD_of_ge _ _ (by omega)

theorem reg_bits (r : BitVec 32) : ∀ bs : List UInt8, regF r bs = bitsF r (bs.flatMap bits8) := by
  intro bs
  induction bs generalizing r with
  | nil => rfl
  | cons b bs ih =>
    show regF (crcStep r b.toBitVec) bs = _
    rw [ih, List.flatMap_cons]
    unfold bitsF
    rw [List.foldl_append]
    congr 1
    exact byte_bits r b

/-- the step by a bit forgets nothing -/
theorem bit_zero (x : BitVec 32) (h : bitStep x = 0#32) : x = 0#32 := by
  rw [bit_lin] at h
  have h0 : x.getLsbD 0 = false := by
    cases hx : x.getLsbD 0 with
    | false => rfl
    | true =>
      rw [hx] at h
      have := congrArg (fun z : BitVec 32 => z.getLsbD 31) h
      simp [BitVec.getLsbD_ushiftRight] at this
  rw [h0] at h
  apply BitVec.eq_of_getLsbD_eq
  intro j hj
  cases j with
  | zero => simpa using h0
  | succ j =>
    have := congrArg (fun z : BitVec 32 => z.getLsbD j) h
    simpa [BitVec.getLsbD_ushiftRight, Nat.add_comm] using this

theorem rep_zero_inj (x : BitVec 32) : ∀ k, rep bitStep k x = 0#32 → x = 0#32
  | 0, h => h
  | k + 1, h => rep_zero_inj x k (bit_zero _ h)

theorem rep_inj (k : Nat) (x y : BitVec 32) (h : rep bitStep k x = rep bitStep k y) : x = y := by
  have : rep bitStep k (x ^^^ y) = 0#32 := by rw [rep_lin bit_add k, h, BitVec.xor_self]
  have h2 := rep_zero_inj _ k this
  have h3 := congrArg (fun z => z ^^^ y) h2
  simpa [BitVec.xor_assoc] using h3

theorem bits_add (r s : BitVec 32) : ∀ (l m : List Bool), l.length = m.length → bitsF (r ^^^ s) (List.zipWith xor l m) = bitsF r l ^^^ bitsF s m
  | [], [], _ => rfl
  | b :: l, c :: m, h => by
    simp only [List.zipWith_cons_cons, bitsF, List.foldl_cons]
    have e : bitStep (r ^^^ s ^^^ b2v (xor b c)) = bitStep (r ^^^ b2v b) ^^^ bitStep (s ^^^ b2v c) := by
      rw [← bit_add]
      congr 1
      have hb : b2v (xor b c) = b2v b ^^^ b2v c := by cases b <;> cases c <;> decide
      rw [hb]
      ac_rfl
    rw [e]
    exact bits_add _ _ l m (by simpa using h)
  | [], _ :: _, h => by simp at h
  | _ :: _, [], h => by simp at h
end Go.Aw.R1

set_option linter.unusedSimpArgs false
set_option linter.unusedVariables false
set_option maxHeartbeats 4000000
namespace Go.Aw.R1
open Go

theorem four_bits (c : BitVec 32) : (fourF c).flatMap bits8 = bitsV c 32 := by
  simp only [fourF, List.flatMap_cons, List.flatMap_nil, bits8, bitsV, List.append_nil]
  have h : ∀ (k i : Nat), i < 8 → ((c >>> k).setWidth 8).getLsbD i = c.getLsbD (k + i) := by
    intro k i hi
    simp [BitVec.getLsbD_ushiftRight, hi]
  have h0 : ∀ (i : Nat), i < 8 → (c.setWidth 8).getLsbD i = c.getLsbD i := by
    intro i hi
    simp [hi]
  have r : ∀ f : Nat → Bool, (List.range 8).map f = [f 0, f 1, f 2, f 3, f 4, f 5, f 6, f 7] := fun f => rfl
  rw [r, r, r, r]
  simp only [h 8 _ (show 0 < 8 by decide), h 8 _ (show 1 < 8 by decide), h 8 _ (show 2 < 8 by decide), h 8 _ (show 3 < 8 by decide), h 8 _ (show 4 < 8 by decide), h 8 _ (show 5 < 8 by decide), h 8 _ (show 6 < 8 by decide), h 8 _ (show 7 < 8 by decide),
    h 16 _ (show 0 < 8 by decide), h 16 _ (show 1 < 8 by decide), h 16 _ (show 2 < 8 by decide), h 16 _ (show 3 < 8 by decide), h 16 _ (show 4 < 8 by decide), h 16 _ (show 5 < 8 by decide), h 16 _ (show 6 < 8 by decide), h 16 _ (show 7 < 8 by decide),
    h 24 _ (show 0 < 8 by decide), h 24 _ (show 1 < 8 by decide), h 24 _ (show 2 < 8 by decide), h 24 _ (show 3 < 8 by decide), h 24 _ (show 4 < 8 by decide), h 24 _ (show 5 < 8 by decide), h 24 _ (show 6 < 8 by decide), h 24 _ (show 7 < 8 by decide),
    h0 _ (show 0 < 8 by decide), h0 _ (show 1 < 8 by decide), h0 _ (show 2 < 8 by decide), h0 _ (show 3 < 8 by decide), h0 _ (show 4 < 8 by decide), h0 _ (show 5 < 8 by decide), h0 _ (show 6 < 8 by decide), h0 _ (show 7 < 8 by decide)]
  rfl

theorem reg_four (r c : BitVec 32) : regF r (fourF c) = rep bitStep 32 (r ^^^ c) := by
  rw [reg_bits, four_bits, bits_word]

theorem reg_append (r : BitVec 32) (a b : List UInt8) : regF r (a ++ b) = regF (regF r a) b := by
  unfold regF; rw [List.foldl_append]

theorem rep_mul (d : BitVec 32) : ∀ n, rep (rep bitStep 8) n d = rep bitStep (8 * n) d
  | 0 => rfl
  | n + 1 => by
    show rep bitStep 8 (rep (rep bitStep 8) n d) = _
    rw [rep_mul d n, rep_rep, show 8 + 8 * n = 8 * (n + 1) by omega]

def flip (bs : List UInt8) (k : Nat) : List UInt8 := bs.set (k / 8) ⟨(bs.getD (k / 8) 0).toBitVec ^^^ (1#8 <<< (k % 8))⟩

theorem zext_xor (b : BitVec 8) (q : Nat) (hq : q < 8) : (b ^^^ (1#8 <<< q)).zeroExtend 32 = b.zeroExtend 32 ^^^ (1#32 <<< q) := by
  apply BitVec.eq_of_getLsbD_eq
  intro j hj
  simp only [BitVec.zeroExtend, BitVec.getLsbD_xor, BitVec.getLsbD_setWidth, one_bit q j hj]
  have : (1#8 <<< q).getLsbD j = decide (q = j) := by
    rw [BitVec.getLsbD_shiftLeft]
    by_cases h : q = j
    · subst h; simp [hq]
    · by_cases h2 : j < q
      · simp [h, h2]
      · have : j - q ≠ 0 := by omega
        simp [h, BitVec.getLsbD_one, this]
  rw [this]
  simp [hj]

theorem flip_reg (r : BitVec 32) (bs : List UInt8) (k : Nat) (hk : k < 8 * bs.length) : regF r (flip bs k) = regF r bs ^^^ rep bitStep (8 * bs.length - k) 1#32 := by
  have hi : k / 8 < bs.length := by omega
  have e1 : bs = bs.take (k / 8) ++ bs[k / 8] :: bs.drop (k / 8 + 1) := by
    rw [← List.drop_eq_getElem_cons hi, List.take_append_drop]
  have e2 : flip bs k = bs.take (k / 8) ++ (⟨(bs[k / 8]).toBitVec ^^^ (1#8 <<< (k % 8))⟩ : UInt8) :: bs.drop (k / 8 + 1) := by
    unfold flip
    rw [List.set_eq_take_append_cons_drop, if_pos hi, List.getD_eq_getElem?_getD, List.getElem?_eq_getElem hi]
    rfl
  have hl : (bs.drop (k / 8 + 1)).length = bs.length - (k / 8 + 1) := by simp
  rw [e2]
  conv => rhs; rw [e1]
  rw [reg_append, reg_append]
  generalize regF r (bs.take (k / 8)) = x
  show regF (crcStep x _) _ = regF (crcStep x _) _ ^^^ _
  have hs : crcStep x ((bs[k / 8]).toBitVec ^^^ (1#8 <<< (k % 8))) = rep bitStep (8 - k % 8) 1#32 ^^^ crcStep x (bs[k / 8]).toBitVec := by
    rw [crc_bits, crc_bits, zext_xor _ _ (by omega), ← BitVec.xor_assoc, rep_add, BitVec.xor_comm]
    congr 1
    have := rep_rep (1#32 <<< (k % 8)) (8 - k % 8) (k % 8)
    rw [rep_one _ (by omega), show 8 - k % 8 + k % 8 = 8 by omega] at this
    exact this.symm
  rw [hs, reg_add, rep_mul, rep_rep, hl, BitVec.xor_comm]
  congr 2
  have : (bs.take (k / 8) ++ bs[k / 8] :: bs.drop (k / 8 + 1)).length = bs.length := by rw [← e1]
  rw [this]
  omega
end Go.Aw.R1

set_option linter.unusedSimpArgs false
set_option linter.unusedVariables false
set_option maxHeartbeats 4000000
namespace Go.Aw.R1
open Go

/-- where a text is sealed, the register ends in one place -/
theorem sealed_reg (a : List UInt8) : regF (~~~ 0#32) (a ++ fourF (onF 0 a)) = rep bitStep 32 (BitVec.allOnes 32) := by
  rw [reg_append, reg_four]
  congr 1
  show regF (~~~ 0#32) a ^^^ ~~~ regF (~~~ 0#32) a = _
  apply BitVec.eq_of_getLsbD_eq
  intro i hi
  simp only [BitVec.getLsbD_xor, BitVec.getLsbD_not, hi, decide_true, Bool.true_and, BitVec.getLsbD_allOnes]
  cases (regF (~~~ 0#32) a).getLsbD i <;> rfl

/-- what the flips make of it -/
def flips (by_ : BitVec 32) (at_ : Nat) (bs : List UInt8) : Nat → List UInt8
  | 0 => bs
  | i + 1 => if by_.getLsbD i then flip (flips by_ at_ bs i) (at_ + i) else flips by_ at_ bs i

theorem flips_len (b : BitVec 32) (k : Nat) (bs : List UInt8) : ∀ i, (flips b k bs i).length = bs.length
  | 0 => rfl
  | i + 1 => by
    simp only [flips]
    split
    · simp [flip, flips_len b k bs i]
    · exact flips_len b k bs i

theorem flips_reg (r b : BitVec 32) (k : Nat) (bs : List UInt8) (hk : k + 32 ≤ 8 * bs.length) : ∀ i, i ≤ 32 → regF r (flips b k bs i) = regF r bs ^^^ rep bitStep (8 * bs.length - k) (lowK b i)
  | 0, _ => by simp [flips, lowK, (rep_lin bit_add _).zero]
  | i + 1, hi => by
    have ih := flips_reg r b k bs hk i (by omega)
    simp only [flips, lowK]
    split
    · rw [flip_reg _ _ _ (by rw [flips_len]; omega), ih, flips_len, BitVec.xor_assoc]
      congr 1
      rw [rep_lin bit_add _ (lowK b i)]
      congr 1
      have := rep_rep (1#32 <<< i) (8 * bs.length - (k + i)) i
      rw [rep_one i (by omega), show 8 * bs.length - (k + i) + i = 8 * bs.length - k by omega] at this
      exact this
    · exact ih

/-- A sealed text, changed within 32 bits, is not sealed. -/
theorem burst (a c : List UInt8) (b : BitVec 32) (k : Nat) (hb : b ≠ 0#32) (hk : k + 32 ≤ 8 * (a.length + 4)) (hc : flips b k (a ++ fourF (onF 0 a)) 32 = c ++ fourF (onF 0 c)) : False := by
  have hl : (a ++ fourF (onF 0 a)).length = a.length + 4 := by rw [List.length_append]; rfl
  have h := flips_reg (~~~ 0#32) b k (a ++ fourF (onF 0 a)) (by rw [hl]; exact hk) 32 (Nat.le_refl _)
  rw [hc, sealed_reg, sealed_reg, lowK_all] at h
  have h2 := congrArg (fun z => rep bitStep 32 (BitVec.allOnes 32) ^^^ z) h
  simp only [BitVec.xor_self] at h2
  rw [← BitVec.xor_assoc, BitVec.xor_self, BitVec.zero_xor] at h2
  exact hb (rep_zero_inj _ _ h2.symm)
end Go.Aw.R1

set_option linter.unusedSimpArgs false
set_option linter.unusedVariables false
set_option maxHeartbeats 4000000
namespace Go.Aw.R1
open Go
theorem ext_list (s : ByteArray) (a b : Nat) : (s.extract a b).data.toList = (s.data.toList.take b).drop a := by
  simp [ByteArray.data_extract, Array.toList_extract, List.extract, List.drop_take]
theorem list_inj {a b : ByteArray} (h : a.data.toList = b.data.toList) : a = b := by
  cases a; cases b; simp at h; simp [h]
theorem unseal_seal (s : ByteArray) : unsealF (s ++ ⟨(fourF (onF 0 s.data.toList)).toArray⟩) = (s, 0) := by
  have hsz : (s ++ (⟨(fourF (onF 0 s.data.toList)).toArray⟩ : ByteArray)).size = s.size + 4 := by rw [ByteArray.size_append]; rfl
  have hl := size_list s
  unfold unsealF
  rw [if_neg (by omega)]
  have e1 : (s ++ (⟨(fourF (onF 0 s.data.toList)).toArray⟩ : ByteArray)).extract 0 (s.size + 4 - 4) = s := by
    apply list_inj
    rw [ext_list, app_list, show s.size + 4 - 4 = s.data.toList.length by omega, List.take_left']
    · rfl
    · rfl
  have e2 : (s ++ (⟨(fourF (onF 0 s.data.toList)).toArray⟩ : ByteArray)).extract (s.size + 4 - 4) (s.size + 4) = ⟨(fourF (onF 0 s.data.toList)).toArray⟩ := by
    apply list_inj
    rw [ext_list, app_list, List.take_of_length_le (by rw [List.length_append]; simp [fourF]), show s.size + 4 - 4 = s.data.toList.length by omega, List.drop_left']
    rfl
  simp only [hsz, e1, e2]
  rw [if_pos (by simp)]
end Go.Aw.R1

set_option linter.unusedSimpArgs false
set_option linter.unusedVariables false
set_option maxHeartbeats 4000000
namespace Go.Aw.R1
open Go

theorem wrap_u64 (n : Int) (h1 : 0 ≤ n) (h2 : n ≤ 18446744073709551615) : IntKind.wrap .u64 n = n := by
  simp only [IntKind.wrap, IntKind.bits, IntKind.signed, Bool.false_and]
  simp only [show ((2 : Int) ^ 64) = 18446744073709551616 from rfl]
  simp; omega
theorem ofInt_toNat8 (x : BitVec 8) : BitVec.ofInt (IntKind.bits .u8) (x.toNat : Int) = x := by
  show BitVec.ofInt 8 (x.toNat : Int) = x
  simp
theorem bit_xor8 (x y : BitVec 8) : bitop .xor .u8 x.toNat y.toNat = (x ^^^ y).toNat := by
  unfold bitop
  rw [ofInt_toNat8, ofInt_toNat8]
  show IntKind.wrap .u8 ((x ^^^ y).toNat : Int) = _
  rw [wrap_u8, Nat.mod_eq_of_lt (x ^^^ y).isLt]
theorem bit_of (b : BitVec 32) (i : Nat) : (bitop BinOp.and IntKind.u32 ((b >>> i).toNat : Int) 1 = 1) ↔ b.getLsbD i = true := by
  rw [show bitop BinOp.and IntKind.u32 ((b >>> i).toNat : Int) 1 = _ from bit_and (b >>> i) 1#32]
  have h1 := low32 (b >>> i)
  have h2 : (b >>> i).getLsbD 0 = b.getLsbD i := by simp [BitVec.getLsbD_ushiftRight]
  rw [h2] at h1
  rw [← h1, decide_eq_true_iff]
  constructor
  · intro h; exact BitVec.eq_of_toNat_eq (by exact_mod_cast h)
  · intro h; rw [h]; rfl

theorem unseal_burst (a : List UInt8) (b : BitVec 32) (k : Nat) (u : ByteArray) (hb : b ≠ 0#32) (hk : k + 32 ≤ 8 * (a.length + 4)) (hu : u.data.toList = flips b k (a ++ fourF (onF 0 a)) 32) : unsealF u = (⟨#[]⟩, 7) := by
  have hl : u.size = a.length + 4 := by rw [← size_list, hu, flips_len, List.length_append]; rfl
  unfold unsealF
  rw [if_neg (by omega)]
  simp only
  rw [if_neg]
  intro hc
  have hc := eq_of_beq hc
  rw [Go.ByteArray.toList_eq, Go.ByteArray.toList_eq, ext_list, ext_list] at hc
  refine burst a (u.data.toList.take (u.size - 4)) b k hb hk ?_
  rw [← hu]
  have h2 : (fourF (onF 0 (u.data.toList.take (u.size - 4)))) = u.data.toList.drop (u.size - 4) := by
    have h3 : List.take u.size u.data.toList = u.data.toList := List.take_of_length_le (by rw [size_list]; exact Nat.le_refl _)
    rw [h3] at hc
    exact hc
  rw [h2, List.take_append_drop]

theorem f5 (s : ByteArray) (at_ : Int) (b : BitVec 32) (h64 : -9223372036854775808 ≤ at_ ∧ at_ ≤ 9223372036854775807) : Spec P 5 [.v (.string s), .v (.int .i64 at_), u32 b] [] fun r _ => r = .v (.bool true) := by
  refine spec_of hT (f := 5) (fn := Go.Proofs.Try.f5) (c := body Go.Proofs.Try.f5) (by kernel_rfl) (by kernel_rfl) ?_
  conv => whnf
  repeat ((first | refine AO.cons hT ?_ | refine AO.nil ?_ | refine AW.seq ?_ | refine AW.region ?_ | refine AW.cond ?_ | refine AW.block ?_ | refine AW.loop ?_ | refine AW.skip ?_ | refine AW.exit ?_ | refine AW.ret ?_ | refine AD.cons hT rfl ?_ | refine AD.nil ?_ | refine AQ.cons hT rfl ?_ | refine AQ.nil ?_); conv => whnf)
  refine ACond.dec (fun h => ?_) (fun h => ?_)
  · conv => whnf
    repeat ((first | refine AO.cons hT ?_ | refine AO.nil ?_ | refine AW.seq ?_ | refine AW.region ?_ | refine AW.cond ?_ | refine AW.block ?_ | refine AW.loop ?_ | refine AW.skip ?_ | refine AW.exit ?_ | refine AW.ret ?_ | refine AD.cons hT rfl ?_ | refine AD.nil ?_ | refine AQ.cons hT rfl ?_ | refine AQ.nil ?_); conv => whnf)
    refine ACall.val (by kernel_rfl) f10 rfl rfl ?_
    conv => whnf
    repeat ((first | refine AO.cons hT ?_ | refine AO.nil ?_ | refine AW.seq ?_ | refine AW.region ?_ | refine AW.cond ?_ | refine AW.block ?_ | refine AW.loop ?_ | refine AW.skip ?_ | refine AW.exit ?_ | refine AW.ret ?_ | refine AD.cons hT rfl ?_ | refine AD.nil ?_ | refine AQ.cons hT rfl ?_ | refine AQ.nil ?_); conv => whnf)
    exact AFin.mk rfl
  · have hs : s.size ≤ 3000 := by omega
    have hseal := f17 s (by omega)
    have hun := unseal_seal s
    have hsz : (s ++ (⟨(fourF (onF 0 s.data.toList)).toArray⟩ : ByteArray)).size = s.size + 4 := by rw [ByteArray.size_append]; rfl
    have hlist : (s ++ (⟨(fourF (onF 0 s.data.toList)).toArray⟩ : ByteArray)).data.toList = s.data.toList ++ fourF (onF 0 s.data.toList) := by rw [app_list]
    generalize s ++ (⟨(fourF (onF 0 s.data.toList)).toArray⟩ : ByteArray) = t at *
    have hfun : Fun P 11 [.v (.string t)] (.tup [.v (.string s), .v (.int .i64 0)]) := by
      have := f11 t (by omega)
      rw [hun] at this
      exact this
    conv => whnf
    repeat ((first | refine AO.cons hT ?_ | refine AO.nil ?_ | refine AW.seq ?_ | refine AW.region ?_ | refine AW.cond ?_ | refine AW.block ?_ | refine AW.loop ?_ | refine AW.skip ?_ | refine AW.exit ?_ | refine AW.ret ?_ | refine AD.cons hT rfl ?_ | refine AD.nil ?_ | refine AQ.cons hT rfl ?_ | refine AQ.nil ?_); conv => whnf)
    refine ACall.val (by kernel_rfl) hseal rfl rfl ?_
    conv => whnf
    repeat ((first | refine AO.cons hT ?_ | refine AO.nil ?_ | refine AW.seq ?_ | refine AW.region ?_ | refine AW.cond ?_ | refine AW.block ?_ | refine AW.loop ?_ | refine AW.skip ?_ | refine AW.exit ?_ | refine AW.ret ?_ | refine AD.cons hT rfl ?_ | refine AD.nil ?_ | refine AQ.cons hT rfl ?_ | refine AQ.nil ?_); conv => whnf)
    refine ACall.val (by kernel_rfl) hfun rfl rfl ?_
    conv => whnf
    repeat ((first | refine AO.cons hT ?_ | refine AO.nil ?_ | refine AW.seq ?_ | refine AW.region ?_ | refine AW.cond ?_ | refine AW.block ?_ | refine AW.loop ?_ | refine AW.skip ?_ | refine AW.exit ?_ | refine AW.ret ?_ | refine AD.cons hT rfl ?_ | refine AD.nil ?_ | refine AQ.cons hT rfl ?_ | refine AQ.nil ?_); conv => whnf)
    refine ASplit.no (by simp) ?_
    conv => whnf
    repeat ((first | refine AO.cons hT ?_ | refine AO.nil ?_ | refine AW.seq ?_ | refine AW.region ?_ | refine AW.cond ?_ | refine AW.block ?_ | refine AW.loop ?_ | refine AW.skip ?_ | refine AW.exit ?_ | refine AW.ret ?_ | refine AD.cons hT rfl ?_ | refine AD.nil ?_ | refine AQ.cons hT rfl ?_ | refine AQ.nil ?_); conv => whnf)
    refine ASplit.no (by decide) ?_
    conv => whnf
    repeat ((first | refine AO.cons hT ?_ | refine AO.nil ?_ | refine AW.seq ?_ | refine AW.region ?_ | refine AW.cond ?_ | refine AW.block ?_ | refine AW.loop ?_ | refine AW.skip ?_ | refine AW.exit ?_ | refine AW.ret ?_ | refine AD.cons hT rfl ?_ | refine AD.nil ?_ | refine AQ.cons hT rfl ?_ | refine AQ.nil ?_); conv => whnf)
    rw [wrap_i64 ((s.size : Int) + 4) (by omega) (by omega)]
    refine ACond.no (by simp; omega) ?_
    conv => whnf
    repeat ((first | refine AO.cons hT ?_ | refine AO.nil ?_ | refine AW.seq ?_ | refine AW.region ?_ | refine AW.cond ?_ | refine AW.block ?_ | refine AW.loop ?_ | refine AW.skip ?_ | refine AW.exit ?_ | refine AW.ret ?_ | refine AD.cons hT rfl ?_ | refine AD.nil ?_ | refine AQ.cons hT rfl ?_ | refine AQ.nil ?_); conv => whnf)
    refine ASplit.dec (fun hb0 => ?_) (fun hb0 => ?_)
    · conv => whnf
      repeat ((first | refine AO.cons hT ?_ | refine AO.nil ?_ | refine AW.seq ?_ | refine AW.region ?_ | refine AW.cond ?_ | refine AW.block ?_ | refine AW.loop ?_ | refine AW.skip ?_ | refine AW.exit ?_ | refine AW.ret ?_ | refine AD.cons hT rfl ?_ | refine AD.nil ?_ | refine AQ.cons hT rfl ?_ | refine AQ.nil ?_); conv => whnf)
      refine ASplit.yes rfl ?_
      conv => whnf
      repeat ((first | refine AO.cons hT ?_ | refine AO.nil ?_ | refine AW.seq ?_ | refine AW.region ?_ | refine AW.cond ?_ | refine AW.block ?_ | refine AW.loop ?_ | refine AW.skip ?_ | refine AW.exit ?_ | refine AW.ret ?_ | refine AD.cons hT rfl ?_ | refine AD.nil ?_ | refine AQ.cons hT rfl ?_ | refine AQ.nil ?_); conv => whnf)
      refine ACond.yes rfl ?_
      conv => whnf
      repeat ((first | refine AO.cons hT ?_ | refine AO.nil ?_ | refine AW.seq ?_ | refine AW.region ?_ | refine AW.cond ?_ | refine AW.block ?_ | refine AW.loop ?_ | refine AW.skip ?_ | refine AW.exit ?_ | refine AW.ret ?_ | refine AD.cons hT rfl ?_ | refine AD.nil ?_ | refine AQ.cons hT rfl ?_ | refine AQ.nil ?_); conv => whnf)
      refine ACall.val (by kernel_rfl) f10 rfl rfl ?_
      conv => whnf
      repeat ((first | refine AO.cons hT ?_ | refine AO.nil ?_ | refine AW.seq ?_ | refine AW.region ?_ | refine AW.cond ?_ | refine AW.block ?_ | refine AW.loop ?_ | refine AW.skip ?_ | refine AW.exit ?_ | refine AW.ret ?_ | refine AD.cons hT rfl ?_ | refine AD.nil ?_ | refine AQ.cons hT rfl ?_ | refine AQ.nil ?_); conv => whnf)
      exact AFin.mk rfl
    have hb : b ≠ 0#32 := by rintro rfl; exact hb0 rfl
    conv => whnf
    repeat ((first | refine AO.cons hT ?_ | refine AO.nil ?_ | refine AW.seq ?_ | refine AW.region ?_ | refine AW.cond ?_ | refine AW.block ?_ | refine AW.loop ?_ | refine AW.skip ?_ | refine AW.exit ?_ | refine AW.ret ?_ | refine AD.cons hT rfl ?_ | refine AD.nil ?_ | refine AQ.cons hT rfl ?_ | refine AQ.nil ?_); conv => whnf)
    refine ASplit.dec (fun hat => ?_) (fun hat => ?_)
    · conv => whnf
      repeat ((first | refine AO.cons hT ?_ | refine AO.nil ?_ | refine AW.seq ?_ | refine AW.region ?_ | refine AW.cond ?_ | refine AW.block ?_ | refine AW.loop ?_ | refine AW.skip ?_ | refine AW.exit ?_ | refine AW.ret ?_ | refine AD.cons hT rfl ?_ | refine AD.nil ?_ | refine AQ.cons hT rfl ?_ | refine AQ.nil ?_); conv => whnf)
      refine ACond.yes rfl ?_
      conv => whnf
      repeat ((first | refine AO.cons hT ?_ | refine AO.nil ?_ | refine AW.seq ?_ | refine AW.region ?_ | refine AW.cond ?_ | refine AW.block ?_ | refine AW.loop ?_ | refine AW.skip ?_ | refine AW.exit ?_ | refine AW.ret ?_ | refine AD.cons hT rfl ?_ | refine AD.nil ?_ | refine AQ.cons hT rfl ?_ | refine AQ.nil ?_); conv => whnf)
      refine ACall.val (by kernel_rfl) f10 rfl rfl ?_
      conv => whnf
      repeat ((first | refine AO.cons hT ?_ | refine AO.nil ?_ | refine AW.seq ?_ | refine AW.region ?_ | refine AW.cond ?_ | refine AW.block ?_ | refine AW.loop ?_ | refine AW.skip ?_ | refine AW.exit ?_ | refine AW.ret ?_ | refine AD.cons hT rfl ?_ | refine AD.nil ?_ | refine AQ.cons hT rfl ?_ | refine AQ.nil ?_); conv => whnf)
      exact AFin.mk rfl
    conv => whnf
    repeat ((first | refine AO.cons hT ?_ | refine AO.nil ?_ | refine AW.seq ?_ | refine AW.region ?_ | refine AW.cond ?_ | refine AW.block ?_ | refine AW.loop ?_ | refine AW.skip ?_ | refine AW.exit ?_ | refine AW.ret ?_ | refine AD.cons hT rfl ?_ | refine AD.nil ?_ | refine AQ.cons hT rfl ?_ | refine AQ.nil ?_); conv => whnf)
    rw [wrap_i64 (8 * (t.size : Int)) (by omega) (by omega), wrap_i64 (8 * (t.size : Int) - 32) (by omega) (by omega)]
    refine ACond.dec (fun hat2 => ?_) (fun hat2 => ?_)
    · conv => whnf
      repeat ((first | refine AO.cons hT ?_ | refine AO.nil ?_ | refine AW.seq ?_ | refine AW.region ?_ | refine AW.cond ?_ | refine AW.block ?_ | refine AW.loop ?_ | refine AW.skip ?_ | refine AW.exit ?_ | refine AW.ret ?_ | refine AD.cons hT rfl ?_ | refine AD.nil ?_ | refine AQ.cons hT rfl ?_ | refine AQ.nil ?_); conv => whnf)
      refine ACall.val (by kernel_rfl) f10 rfl rfl ?_
      conv => whnf
      repeat ((first | refine AO.cons hT ?_ | refine AO.nil ?_ | refine AW.seq ?_ | refine AW.region ?_ | refine AW.cond ?_ | refine AW.block ?_ | refine AW.loop ?_ | refine AW.skip ?_ | refine AW.exit ?_ | refine AW.ret ?_ | refine AD.cons hT rfl ?_ | refine AD.nil ?_ | refine AQ.cons hT rfl ?_ | refine AQ.nil ?_); conv => whnf)
      exact AFin.mk rfl
    conv => whnf
    repeat ((first | refine AO.cons hT ?_ | refine AO.nil ?_ | refine AW.seq ?_ | refine AW.region ?_ | refine AW.cond ?_ | refine AW.block ?_ | refine AW.loop ?_ | refine AW.skip ?_ | refine AW.exit ?_ | refine AW.ret ?_ | refine AD.cons hT rfl ?_ | refine AD.nil ?_ | refine AQ.cons hT rfl ?_ | refine AQ.nil ?_); conv => whnf)
    obtain ⟨k, rfl⟩ : ∃ k : Nat, at_ = k := ⟨at_.toNat, by omega⟩
    have hk : k + 32 ≤ 8 * t.size := by omega
    have hlen : t.data.toList.length = t.size := by simp
    refine ALoop.mk (fun n E H => ∃ i : Nat, i ≤ 32 ∧ n = 32 - i ∧ E = pad [.v (.string s), .v (.int .i64 k), u32 b, .any, .any, .any, .v (.bool false), .v (.string t), .v (.string s), .v (.int .i64 0), .ms 1 0 0 t.size, .v (.int .i64 i)] 97 ∧ H = [.cells 5 ((flips b k t.data.toList i).map byteC)])
      (n := 32) _ _ ⟨0, by omega, rfl, rfl, rfl⟩ (Conv.fit ?_) ?_
    · repeat' (first | exact Fit.nil | refine Fit.any ?_ | refine Fit.same ?_)
    rintro _ _ _ ⟨i, hi, rfl, rfl, rfl⟩
    have hfl := flips_len b k t.data.toList i
    conv => whnf
    repeat ((first | refine AO.cons hT ?_ | refine AO.nil ?_ | refine AW.seq ?_ | refine AW.region ?_ | refine AW.cond ?_ | refine AW.block ?_ | refine AW.loop ?_ | refine AW.skip ?_ | refine AW.exit ?_ | refine AW.ret ?_ | refine AD.cons hT rfl ?_ | refine AD.nil ?_ | refine AQ.cons hT rfl ?_ | refine AQ.nil ?_); conv => whnf)
    refine ACond.dec (fun h => ?_) (fun h => ?_)
    · conv => whnf
      repeat ((first | refine AO.cons hT ?_ | refine AO.nil ?_ | refine AW.seq ?_ | refine AW.region ?_ | refine AW.cond ?_ | refine AW.block ?_ | refine AW.loop ?_ | refine AW.skip ?_ | refine AW.exit ?_ | refine AW.ret ?_ | refine AD.cons hT rfl ?_ | refine AD.nil ?_ | refine AQ.cons hT rfl ?_ | refine AQ.nil ?_); conv => whnf)
      rw [wrap_u64 (i : Int) (by omega) (by omega)]
      refine AReq.mk (by omega) ?_
      conv => whnf
      repeat ((first | refine AO.cons hT ?_ | refine AO.nil ?_ | refine AW.seq ?_ | refine AW.region ?_ | refine AW.cond ?_ | refine AW.block ?_ | refine AW.loop ?_ | refine AW.skip ?_ | refine AW.exit ?_ | refine AW.ret ?_ | refine AD.cons hT rfl ?_ | refine AD.nil ?_ | refine AQ.cons hT rfl ?_ | refine AQ.nil ?_); conv => whnf)
      have hsh : ((b.toNat : Int)).fdiv (2 ^ min (Int.toNat (i : Int)) IntKind.u32.bits) = (b >>> i).toNat := by
        rw [show min (Int.toNat (i : Int)) IntKind.u32.bits = i by show min _ 32 = _; omega]
        exact bit_shr b i
      rw [hsh]
      refine ACond.dec (fun hbit => ?_) (fun hbit => ?_)
      · have hbit' := (bit_of b i).1 hbit
        conv => whnf
        repeat ((first | refine AO.cons hT ?_ | refine AO.nil ?_ | refine AW.seq ?_ | refine AW.region ?_ | refine AW.cond ?_ | refine AW.block ?_ | refine AW.loop ?_ | refine AW.skip ?_ | refine AW.exit ?_ | refine AW.ret ?_ | refine AD.cons hT rfl ?_ | refine AD.nil ?_ | refine AQ.cons hT rfl ?_ | refine AQ.nil ?_); conv => whnf)
        rw [wrap_i64 ((k : Int) + i) (by omega) (by omega)]
        refine AReq.mk (by decide) ?_
        conv => whnf
        repeat ((first | refine AO.cons hT ?_ | refine AO.nil ?_ | refine AW.seq ?_ | refine AW.region ?_ | refine AW.cond ?_ | refine AW.block ?_ | refine AW.loop ?_ | refine AW.skip ?_ | refine AW.exit ?_ | refine AW.ret ?_ | refine AD.cons hT rfl ?_ | refine AD.nil ?_ | refine AQ.cons hT rfl ?_ | refine AQ.nil ?_); conv => whnf)
        have eq8 : ((k : Int) + i).tdiv 8 = ((k + i) / 8 : Nat) := by
          rw [Int.tdiv_eq_ediv_of_nonneg (by omega)]; norm_cast
        have er8 : ((k : Int) + i).tmod 8 = ((k + i) % 8 : Nat) := by
          rw [Int.tmod_eq_emod_of_nonneg (by omega)]; norm_cast
        rw [eq8, wrap_i64 (((k + i) / 8 : Nat) : Int) (by omega) (by omega)]
        refine AReq.mk (by omega) ?_
        conv => whnf
        repeat ((first | refine AO.cons hT ?_ | refine AO.nil ?_ | refine AW.seq ?_ | refine AW.region ?_ | refine AW.cond ?_ | refine AW.block ?_ | refine AW.loop ?_ | refine AW.skip ?_ | refine AW.exit ?_ | refine AW.ret ?_ | refine AD.cons hT rfl ?_ | refine AD.nil ?_ | refine AQ.cons hT rfl ?_ | refine AQ.nil ?_); conv => whnf)
        refine AIdx.map1 (f := byteC) (xs := flips b k t.data.toList i) (i := (k + i) / 8) (by omega) ?_
        conv => whnf
        repeat ((first | refine AO.cons hT ?_ | refine AO.nil ?_ | refine AW.seq ?_ | refine AW.region ?_ | refine AW.cond ?_ | refine AW.block ?_ | refine AW.loop ?_ | refine AW.skip ?_ | refine AW.exit ?_ | refine AW.ret ?_ | refine AD.cons hT rfl ?_ | refine AD.nil ?_ | refine AQ.cons hT rfl ?_ | refine AQ.nil ?_); conv => whnf)
        refine AReq.mk (by decide) ?_
        conv => whnf
        repeat ((first | refine AO.cons hT ?_ | refine AO.nil ?_ | refine AW.seq ?_ | refine AW.region ?_ | refine AW.cond ?_ | refine AW.block ?_ | refine AW.loop ?_ | refine AW.skip ?_ | refine AW.exit ?_ | refine AW.ret ?_ | refine AD.cons hT rfl ?_ | refine AD.nil ?_ | refine AQ.cons hT rfl ?_ | refine AQ.nil ?_); conv => whnf)
        rw [er8, wrap_u64 (((k + i) % 8 : Nat) : Int) (by omega) (by omega)]
        refine AReq.mk (by omega) ?_
        conv => whnf
        repeat ((first | refine AO.cons hT ?_ | refine AO.nil ?_ | refine AW.seq ?_ | refine AW.region ?_ | refine AW.cond ?_ | refine AW.block ?_ | refine AW.loop ?_ | refine AW.skip ?_ | refine AW.exit ?_ | refine AW.ret ?_ | refine AD.cons hT rfl ?_ | refine AD.nil ?_ | refine AQ.cons hT rfl ?_ | refine AQ.nil ?_); conv => whnf)
        refine AReq.mk (by omega) ?_
        conv => whnf
        repeat ((first | refine AO.cons hT ?_ | refine AO.nil ?_ | refine AW.seq ?_ | refine AW.region ?_ | refine AW.cond ?_ | refine AW.block ?_ | refine AW.loop ?_ | refine AW.skip ?_ | refine AW.exit ?_ | refine AW.ret ?_ | refine AD.cons hT rfl ?_ | refine AD.nil ?_ | refine AQ.cons hT rfl ?_ | refine AQ.nil ?_); conv => whnf)
        have hg : (flips b k t.data.toList i)[(k + i) / 8]'(by omega) = (flips b k t.data.toList i).getD ((k + i) / 8) 0 := by
          rw [List.getD_eq_getElem?_getD, List.getElem?_eq_getElem (by omega)]; rfl
        have hx : bitop BinOp.xor IntKind.u8 (((flips b k t.data.toList i)[(k + i) / 8]'(by omega)).toNat : Int) (IntKind.wrap .u8 (1 * 2 ^ min (Int.toNat (((k + i) % 8 : Nat) : Int)) IntKind.u8.bits)) = (((flips b k t.data.toList i).getD ((k + i) / 8) 0).toBitVec ^^^ (1#8 <<< ((k + i) % 8))).toNat := by
          have h8 : (k + i) % 8 < 8 := Nat.mod_lt _ (by decide)
          have e2 : min (Int.toNat (((k + i) % 8 : Nat) : Int)) IntKind.u8.bits = (k + i) % 8 := by show min _ 8 = _; omega
          have e3 : IntKind.wrap .u8 (1 * 2 ^ ((k + i) % 8)) = ((1#8 <<< ((k + i) % 8)).toNat : Int) := by
            rw [Int.one_mul, show ((2 : Int) ^ ((k + i) % 8)) = ((2 ^ ((k + i) % 8) : Nat) : Int) by norm_cast, wrap_u8, BitVec.toNat_shiftLeft]
            simp [Nat.shiftLeft_eq]
          rw [e2, e3, hg]
          exact bit_xor8 _ _
        refine AReq.mk rfl ?_
        conv => whnf
        repeat ((first | refine AO.cons hT ?_ | refine AO.nil ?_ | refine AW.seq ?_ | refine AW.region ?_ | refine AW.cond ?_ | refine AW.block ?_ | refine AW.loop ?_ | refine AW.skip ?_ | refine AW.exit ?_ | refine AW.ret ?_ | refine AD.cons hT rfl ?_ | refine AD.nil ?_ | refine AQ.cons hT rfl ?_ | refine AQ.nil ?_); conv => whnf)
        rw [hx]
        refine AUpd.setAt (xs := (flips b k t.data.toList i).map byteC) ((k + i) / 8) (by show 0 + Int.toNat (((k + i) / 8 : Nat) : Int) * 1 + 0 = _; omega) (by rw [List.length_map, hfl]; omega) ?_
        have e : ((flips b k t.data.toList i).map byteC).set ((k + i) / 8) (AV.v (.int .u8 (((flips b k t.data.toList i).getD ((k + i) / 8) 0).toBitVec ^^^ (1#8 <<< ((k + i) % 8))).toNat)) = (flips b k t.data.toList (i + 1)).map byteC := by
          simp only [flips, hbit', if_true, flip, List.map_set]
          rfl
        rw [e]
        conv => whnf
        repeat ((first | refine AO.cons hT ?_ | refine AO.nil ?_ | refine AW.seq ?_ | refine AW.region ?_ | refine AW.cond ?_ | refine AW.block ?_ | refine AW.loop ?_ | refine AW.skip ?_ | refine AW.exit ?_ | refine AW.ret ?_ | refine AD.cons hT rfl ?_ | refine AD.nil ?_ | refine AQ.cons hT rfl ?_ | refine AQ.nil ?_); conv => whnf)
        rw [wrap_i64 ((i : Int) + 1) (by omega) (by omega)]
        refine AHead.mk (32 - (i + 1)) _ _ (by omega) ⟨i + 1, by omega, rfl, rfl, rfl⟩ (Conv.fit ?_)
        repeat' (first | exact Fit.nil | refine Fit.any ?_ | refine Fit.same ?_)
      · have hbit' : b.getLsbD i = false := by
          cases hc : b.getLsbD i with
          | false => rfl
          | true => exact absurd ((bit_of b i).2 hc) hbit
        conv => whnf
        repeat ((first | refine AO.cons hT ?_ | refine AO.nil ?_ | refine AW.seq ?_ | refine AW.region ?_ | refine AW.cond ?_ | refine AW.block ?_ | refine AW.loop ?_ | refine AW.skip ?_ | refine AW.exit ?_ | refine AW.ret ?_ | refine AD.cons hT rfl ?_ | refine AD.nil ?_ | refine AQ.cons hT rfl ?_ | refine AQ.nil ?_); conv => whnf)
        rw [wrap_i64 ((i : Int) + 1) (by omega) (by omega)]
        have e : flips b k t.data.toList (i + 1) = flips b k t.data.toList i := by simp [flips, hbit']
        rw [← e]
        refine AHead.mk (32 - (i + 1)) _ _ (by omega) ⟨i + 1, by omega, rfl, rfl, rfl⟩ (Conv.fit ?_)
        repeat' (first | exact Fit.nil | refine Fit.any ?_ | refine Fit.same ?_)
    · obtain rfl : i = 32 := by omega
      conv => whnf
      repeat ((first | refine AO.cons hT ?_ | refine AO.nil ?_ | refine AW.seq ?_ | refine AW.region ?_ | refine AW.cond ?_ | refine AW.block ?_ | refine AW.loop ?_ | refine AW.skip ?_ | refine AW.exit ?_ | refine AW.ret ?_ | refine AD.cons hT rfl ?_ | refine AD.nil ?_ | refine AQ.cons hT rfl ?_ | refine AQ.nil ?_); conv => whnf)
      refine AOut.stay ?_
      conv => whnf
      repeat ((first | refine AO.cons hT ?_ | refine AO.nil ?_ | refine AW.seq ?_ | refine AW.region ?_ | refine AW.cond ?_ | refine AW.block ?_ | refine AW.loop ?_ | refine AW.skip ?_ | refine AW.exit ?_ | refine AW.ret ?_ | refine AD.cons hT rfl ?_ | refine AD.nil ?_ | refine AQ.cons hT rfl ?_ | refine AQ.nil ?_); conv => whnf)
      refine ACut.all (by simp [hfl]) ?_
      conv => whnf
      repeat ((first | refine AO.cons hT ?_ | refine AO.nil ?_ | refine AW.seq ?_ | refine AW.region ?_ | refine AW.cond ?_ | refine AW.block ?_ | refine AW.loop ?_ | refine AW.skip ?_ | refine AW.exit ?_ | refine AW.ret ?_ | refine AD.cons hT rfl ?_ | refine AD.nil ?_ | refine AQ.cons hT rfl ?_ | refine AQ.nil ?_); conv => whnf)
      refine AStr.mk ?_
      conv => whnf
      repeat ((first | refine AO.cons hT ?_ | refine AO.nil ?_ | refine AW.seq ?_ | refine AW.region ?_ | refine AW.cond ?_ | refine AW.block ?_ | refine AW.loop ?_ | refine AW.skip ?_ | refine AW.exit ?_ | refine AW.ret ?_ | refine AD.cons hT rfl ?_ | refine AD.nil ?_ | refine AQ.cons hT rfl ?_ | refine AQ.nil ?_); conv => whnf)
      have hfu := f11 ⟨(flips b k t.data.toList 32).toArray⟩ (by show (flips b k t.data.toList 32).toArray.size ≤ _; rw [List.size_toArray, flips_len]; omega)
      rw [unseal_burst s.data.toList b k _ hb (by rw [size_list]; omega) (by rw [hlist])] at hfu
      refine ACall.val (by kernel_rfl) hfu rfl rfl ?_
      conv => whnf
      repeat ((first | refine AO.cons hT ?_ | refine AO.nil ?_ | refine AW.seq ?_ | refine AW.region ?_ | refine AW.cond ?_ | refine AW.block ?_ | refine AW.loop ?_ | refine AW.skip ?_ | refine AW.exit ?_ | refine AW.ret ?_ | refine AD.cons hT rfl ?_ | refine AD.nil ?_ | refine AQ.cons hT rfl ?_ | refine AQ.nil ?_); conv => whnf)
      refine ASplit.yes (by simp) ?_
      conv => whnf
      repeat ((first | refine AO.cons hT ?_ | refine AO.nil ?_ | refine AW.seq ?_ | refine AW.region ?_ | refine AW.cond ?_ | refine AW.block ?_ | refine AW.loop ?_ | refine AW.skip ?_ | refine AW.exit ?_ | refine AW.ret ?_ | refine AD.cons hT rfl ?_ | refine AD.nil ?_ | refine AQ.cons hT rfl ?_ | refine AQ.nil ?_); conv => whnf)
      refine ASplit.yes (by decide) ?_
      conv => whnf
      repeat ((first | refine AO.cons hT ?_ | refine AO.nil ?_ | refine AW.seq ?_ | refine AW.region ?_ | refine AW.cond ?_ | refine AW.block ?_ | refine AW.loop ?_ | refine AW.skip ?_ | refine AW.exit ?_ | refine AW.ret ?_ | refine AD.cons hT rfl ?_ | refine AD.nil ?_ | refine AQ.cons hT rfl ?_ | refine AQ.nil ?_); conv => whnf)
      refine ACall.val (by kernel_rfl) f10 rfl rfl ?_
      conv => whnf
      repeat ((first | refine AO.cons hT ?_ | refine AO.nil ?_ | refine AW.seq ?_ | refine AW.region ?_ | refine AW.cond ?_ | refine AW.block ?_ | refine AW.loop ?_ | refine AW.skip ?_ | refine AW.exit ?_ | refine AW.ret ?_ | refine AD.cons hT rfl ?_ | refine AD.nil ?_ | refine AQ.cons hT rfl ?_ | refine AQ.nil ?_); conv => whnf)
      exact AFin.mk rfl
end Go.Aw.R1

set_option linter.unusedSimpArgs false
set_option linter.unusedVariables false
namespace Go.Proofs.Ytdhafeekjbnapaa
open Go Go.Aw Go.Aw.R1 Go.ChangeShapes Go.WideShapes Go.ChangeAt Go.RowKit

theorem burst_own : ownKnob Try.prog.godebug = none := by kernel_rfl
theorem burst_laid : laidOutB Try.prog = true := by kernel_rfl

theorem burst_u32 (n : Int) (h : (Lit.int .u32 n).wf = true) : ∃ x : BitVec 32, AV.v (.int .u32 n) = u32 x := by
  have hx : 0 ≤ n ∧ n ≤ 4294967295 := by simpa [Lit.wf, IntKind.min, IntKind.max, IntKind.signed, IntKind.bits] using h
  refine ⟨BitVec.ofNat 32 n.toNat, ?_⟩
  unfold u32
  rw [BitVec.toNat_ofNat, Nat.mod_eq_of_lt (by omega), Int.toNat_of_nonneg hx.1]

theorem burst_open : OpenA Try.prog [9, 3, 22] (fun x : ByteArray × (Int × (Int × Unit)) => [.v (.string x.1), .v (.int .i64 x.2.1), .v (.int .u32 x.2.2.1)]) (fun x => x.1.size ≤ maxLen ∧ (Lit.int .i64 x.2.1).wf = true ∧ (Lit.int .u32 x.2.2.1).wf = true ∧ True) :=
  openA_cons (openV_string Try.underlying9) (openA_cons (openV_int Try.underlying3) (openA_cons (openV_int Try.underlying22) openA_nil))

set_option maxRecDepth 100000 in
theorem burst_contract (H : Type) (enc : TypeId × Value → H) (W : World) (base : Nat) (args : Array Value) (ds gs : List (DataW H)) (before : List MemPlace)
    (hval : ∀ (j : Nat) t v, Try.f5.params[j]? = some t → args[j]? = some v → Value.okWide Try.prog W .any base t v)
    (hW : DataW.Whole enc Try.prog Try.f5.params.toList Rows.crcBurstSpec.vars false W args.toList ds gs before) :
    Calls Try.prog 5 args W fun e W' => ∃ v, e = .returned v ∧ Rows.crcBurstSpec.post enc Try.prog Try.f5 false true false false W args v W' :=
  law_contract burst_laid (by kernel_rfl) (t0 := 4) (by kernel_rfl) Try.underlying4 rfl (by rw [Try.params5]; exact burst_open)
    (fun a ha => by
      obtain ⟨x, hx⟩ := burst_u32 a.2.2.1 ha.2.2.1
      have h1 : -9223372036854775808 ≤ a.2.1 ∧ a.2.1 ≤ 9223372036854775807 := by simpa [Lit.wf, IntKind.min, IntKind.max, IntKind.signed, IntKind.bits] using ha.2.1
      have := f5 a.1 a.2.1 x h1
      rw [← hx] at this
      exact this)
    (fun H ds h => by
      rw [Try.params5] at h
      match ds, h with
      | [d0, d1, d2], _ => rfl) hval hW

set_option maxRecDepth 100000 in
theorem burst_lifted (os : Os) (started : os.Started) (H : Type) (enc : TypeId × Value → H) :
    ReturnsInHanded {} Try.checked os 5 .any (Rows.crcBurstSpec.pre6 enc Try.prog Try.f5 Rows.crcBurstRow.domain false) (Rows.crcBurstSpec.post enc Try.prog Try.f5 false true false false) := by
  refine returnsInHanded_of_change (C := Try.checked) burst_own started (by kernel_rfl) Try.func5
    (ChangeSpec.witness6 (enc := enc) (C := Try.checked) false ⟨#[], #[.string ⟨#[]⟩, .int .i64 0, .int .u32 0], []⟩ 8 (by kernel_rfl) (by kernel_rfl) (by kernel_rfl) (by kernel_rfl)) ?_
  intro W base args ds gs before hval hW hcnd _
  exact burst_contract H enc W base args ds gs before hval hW

theorem burst_over : Rows.crcBurstRow.holds Try.pinned (OpenSpec.ofChange Rows.crcBurstSpec) :=
  OpenClaim.holds_of_wide 5 Try.f5 rfl rfl rfl rfl rfl rfl rfl ⟨rfl, rfl, rfl, rfl, rfl⟩ rfl rfl rfl rfl rfl (by kernel_rfl) Try.func5 (by kernel_rfl)
    (of_decide_eq_true (by kernel_rfl)) (by unfold Func.isWrapper; first | (rw [if_pos (by decide +kernel)]; kernel_rfl) | (rw [if_neg (by decide +kernel)]; exact ⟨rfl, rfl⟩))
    (fun os started H enc _ => burst_lifted os started H enc)

theorem crcBurst : Rows.CrcBurstSaid := burst_over
#print axioms crcBurst
end Go.Proofs.Ytdhafeekjbnapaa

