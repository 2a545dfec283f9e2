/-
  Walks of the functions that the laws of stock reach, first part, no condition.
-/
import Derived.Test.YtdhafeekjbnapaaAwD
import Derived.Test.YtdhafeekjbnapaaProg
import Derived.KernelRfl
import Derived.Test.YtdhafeekjbnapaaAwE
set_option linter.unusedSimpArgs false
set_option linter.unusedVariables false
/-
  The types of this cut, in short.
-/
set_option linter.unusedSimpArgs false
set_option linter.unusedVariables false
namespace Go.Aw.R1
open Go

noncomputable def tbl : List (Nat × TI) := [(1, ⟨.fn, 1, 8, .v .nilFunc⟩),
  (2, ⟨.int .i64, 1, 8, .v (.int .i64 0)⟩),
  (3, ⟨.int .i64, 1, 8, .v (.int .i64 0)⟩),
  (4, ⟨.bool, 1, 1, .v (.bool false)⟩),
  (5, ⟨.int .u8, 1, 1, .v (.int .u8 0)⟩),
  (9, ⟨.str, 1, 16, .v (.string ⟨#[]⟩)⟩),
  (12, ⟨.int .u64, 1, 8, .v (.int .u64 0)⟩),
  (21, ⟨.int .i32, 1, 4, .v (.int .i32 0)⟩),
  (22, ⟨.int .u32, 1, 4, .v (.int .u32 0)⟩),
  (23, ⟨.fn, 1, 8, .v .nilFunc⟩),
  (24, ⟨.int .i64, 1, 8, .v (.int .i64 0)⟩),
  (26, ⟨.fn, 1, 8, .v .nilFunc⟩),
  (28, ⟨.fn, 1, 8, .v .nilFunc⟩),
  (29, ⟨.fn, 1, 8, .v .nilFunc⟩),
  (30, ⟨.fn, 1, 8, .v .nilFunc⟩),
  (31, ⟨.fn, 1, 8, .v .nilFunc⟩),
  (32, ⟨.fn, 1, 8, .v .nilFunc⟩),
  (34, ⟨.fn, 1, 8, .v .nilFunc⟩),
  (35, ⟨.fn, 1, 8, .v .nilFunc⟩),
  (36, ⟨.slice 5, 1, 24, .v (.slice none 0 0)⟩),
  (37, ⟨.int .u64, 1, 8, .v (.int .u64 0)⟩),
  (38, ⟨.fn, 1, 8, .v .nilFunc⟩),
  (39, ⟨.slice 41, 1, 24, .v (.slice none 0 0)⟩),
  (40, ⟨.struct [(0, false, 1), (1, false, 1), (2, false, 1)], 3, 24, .agg [.v (.bool false), .v (.int .i64 0), .v (.int .i64 0)]⟩),
  (41, ⟨.struct [(0, false, 1), (1, false, 1), (2, false, 1)], 3, 24, .agg [.v (.bool false), .v (.int .i64 0), .v (.int .i64 0)]⟩),
  (43, ⟨.fn, 1, 8, .v .nilFunc⟩),
  (45, ⟨.fn, 1, 8, .v .nilFunc⟩),
  (46, ⟨.fn, 1, 8, .v .nilFunc⟩),
  (47, ⟨.fn, 1, 8, .v .nilFunc⟩),
  (48, ⟨.fn, 1, 8, .v .nilFunc⟩),
  (49, ⟨.fn, 1, 8, .v .nilFunc⟩),
  (50, ⟨.fn, 1, 8, .v .nilFunc⟩),
  (51, ⟨.fn, 1, 8, .v .nilFunc⟩),
  (52, ⟨.slice 61, 1, 24, .v (.slice none 0 0)⟩),
  (54, ⟨.fn, 1, 8, .v .nilFunc⟩),
  (55, ⟨.slice 62, 1, 24, .v (.slice none 0 0)⟩),
  (57, ⟨.fn, 1, 8, .v .nilFunc⟩),
  (58, ⟨.fn, 1, 8, .v .nilFunc⟩),
  (59, ⟨.fn, 1, 8, .v .nilFunc⟩),
  (60, ⟨.fn, 1, 8, .v .nilFunc⟩),
  (61, ⟨.struct [(0, false, 1), (1, false, 1), (2, false, 1)], 3, 24, .agg [.v (.bool false), .v (.int .i64 0), .v (.int .i64 0)]⟩),
  (62, ⟨.struct [(0, false, 1), (1, false, 1), (2, false, 1)], 3, 24, .agg [.v (.bool false), .v (.int .i64 0), .v (.int .i64 0)]⟩),
  (63, ⟨.fn, 1, 8, .v .nilFunc⟩),
  (64, ⟨.fn, 1, 8, .v .nilFunc⟩),
  (65, ⟨.fn, 1, 8, .v .nilFunc⟩),
  (66, ⟨.fn, 1, 8, .v .nilFunc⟩),
  (67, ⟨.arr 32 22, 32, 128, .agg (List.replicate 32 (.v (.int .u32 0)))⟩),
  (68, ⟨.arr 32 22, 32, 128, .agg (List.replicate 32 (.v (.int .u32 0)))⟩),
  (69, ⟨.fn, 1, 8, .v .nilFunc⟩),
  (70, ⟨.fn, 1, 8, .v .nilFunc⟩),
  (71, ⟨.fn, 1, 8, .v .nilFunc⟩),
  (72, ⟨.map 76 3, 1, 8, .v (.map none)⟩),
  (74, ⟨.fn, 1, 8, .v .nilFunc⟩),
  (75, ⟨.struct [(0, false, 1), (1, false, 1)], 2, 16, .agg [.v (.bool false), .v (.int .i64 0)]⟩),
  (76, ⟨.struct [(0, false, 1), (1, false, 1)], 2, 16, .agg [.v (.bool false), .v (.int .i64 0)]⟩),
  (77, ⟨.fn, 1, 8, .v .nilFunc⟩),
  (78, ⟨.fn, 1, 8, .v .nilFunc⟩),
  (79, ⟨.fn, 1, 8, .v .nilFunc⟩),
  (80, ⟨.fn, 1, 8, .v .nilFunc⟩),
  (81, ⟨.fn, 1, 8, .v .nilFunc⟩),
  (82, ⟨.fn, 1, 8, .v .nilFunc⟩),
  (83, ⟨.arr 16 22, 16, 64, .agg (List.replicate 16 (.v (.int .u32 0)))⟩),
  (84, ⟨.fn, 1, 8, .v .nilFunc⟩),
  (86, ⟨.fn, 1, 8, .v .nilFunc⟩),
  (87, ⟨.fn, 1, 8, .v .nilFunc⟩),
  (88, ⟨.fn, 1, 8, .v .nilFunc⟩),
  (89, ⟨.fn, 1, 8, .v .nilFunc⟩),
  (90, ⟨.fn, 1, 8, .v .nilFunc⟩),
  (91, ⟨.int .i64, 1, 8, .v (.int .i64 0)⟩),
  (93, ⟨.fn, 1, 8, .v .nilFunc⟩),
  (94, ⟨.fn, 1, 8, .v .nilFunc⟩),
  (95, ⟨.fn, 1, 8, .v .nilFunc⟩),
  (97, ⟨.fn, 1, 8, .v .nilFunc⟩),
  (98, ⟨.fn, 1, 8, .v .nilFunc⟩),
  (99, ⟨.fn, 1, 8, .v .nilFunc⟩),
  (100, ⟨.int .u64, 1, 8, .v (.int .u64 0)⟩),
  (101, ⟨.fn, 1, 8, .v .nilFunc⟩),
  (102, ⟨.int .u64, 1, 8, .v (.int .u64 0)⟩),
  (103, ⟨.fn, 1, 8, .v .nilFunc⟩),
  (104, ⟨.fn, 1, 8, .v .nilFunc⟩),
  (105, ⟨.fn, 1, 8, .v .nilFunc⟩),
  (106, ⟨.ptr 3, 1, 8, .v (.pointer none)⟩),
  (107, ⟨.fn, 1, 8, .v .nilFunc⟩),
  (108, ⟨.ptr 102, 1, 8, .v (.pointer none)⟩),
  (110, ⟨.fn, 1, 8, .v .nilFunc⟩),
  (111, ⟨.fn, 1, 8, .v .nilFunc⟩),
  (117, ⟨.fn, 1, 8, .v .nilFunc⟩),
  (120, ⟨.fn, 1, 8, .v .nilFunc⟩),
  (121, ⟨.ptr 5, 1, 8, .v (.pointer none)⟩)]

noncomputable abbrev P : Program := Go.Proofs.Try.prog
noncomputable abbrev T : Nat → TI := tab tbl
theorem hT : TOk P T := tok_of P tbl (by kernel_rfl)
theorem hm : P.follows .mixedOrders = true := by kernel_rfl
noncomputable def body (f : Func) : Code := match f.body with | some c => c | none => .skip
end Go.Aw.R1

set_option linter.unusedSimpArgs false
set_option linter.unusedVariables false
set_option maxHeartbeats 4000000
namespace Go.Aw.R1
open Go

/-- a movement -/
structure Mv where
  p : Bool
  i : Int
  q : Int
deriving DecidableEq

def mvC (m : Mv) : List AV := [.v (.bool m.p), .v (.int .i64 m.i), .v (.int .i64 m.q)]
def mvs (l : List Mv) : AV := .vs 3 l.length (l.flatMap mvC)

def mok (m : Mv) : Prop := 1 ≤ m.i ∧ m.i ≤ 999999 ∧ m.q ≠ 0 ∧ -1000000 ≤ m.q ∧ m.q ≤ 1000000
instance (m : Mv) : Decidable (mok m) := by unfold mok; infer_instance
def mchk (m : Mv) : Int := if mok m then 0 else 2
theorem mchk_no {m : Mv} (h : ¬ mok m) : mchk m = 2 := if_neg h
theorem mchk_yes {m : Mv} (h : mok m) : mchk m = 0 := if_pos h

theorem f23 (m : Mv) : Fun P 23 [.agg (mvC m)] (.v (.int .i64 (mchk m))) := by
  refine spec_of hT (f := 23) (fn := Go.Proofs.Try.f23) (c := body Go.Proofs.Try.f23) (by kernel_rfl) (by kernel_rfl) ?_
  conv => whnf
  repeat' (first | (refine AO.cons hT ?_; conv => whnf) | (refine AO.nil ?_; conv => whnf) | (refine AW.seq ?_; conv => whnf) | (refine AW.region ?_; conv => whnf) | (refine AW.cond ?_; conv => whnf) | (refine AW.block ?_; conv => whnf) | (refine AW.loop ?_; conv => whnf) | (refine AW.skip ?_; conv => whnf) | (refine AW.exit ?_; conv => whnf) | (refine AW.ret ?_; conv => whnf) | (refine AF.one hT rfl ?_; conv => whnf) | (refine AF.nil ?_; conv => whnf) | (refine AF.imm hT rfl rfl rfl ?_; conv => whnf) | (refine AH.of hT rfl ?_; conv => whnf) | (refine ASplit.yes rfl ?_ <;> conv => whnf) | (refine ASplit.no rfl ?_ <;> conv => whnf) | (refine ACond.yes rfl ?_ <;> conv => whnf) | (refine ACond.no rfl ?_ <;> conv => whnf) | (refine ASplit.dec (fun _ => ?_) (fun _ => ?_) <;> conv => whnf) | (refine ASplit.ndec (fun _ => ?_) (fun _ => ?_) <;> conv => whnf) | (refine ACond.dec (fun _ => ?_) (fun _ => ?_) <;> conv => whnf) | (refine ACond.ndec (fun _ => ?_) (fun _ => ?_) <;> conv => whnf))
  all_goals
    refine AFin.val rfl ⟨?_, rfl⟩
    first
      | (rw [mchk_no (by unfold mok; omega)])
      | (rw [mchk_yes (by unfold mok; omega)])

theorem f24 (m : Mv) : Fun P 24 [.agg (mvC m)] (.v (.int .i64 (mchk m))) := by
  refine spec_of hT (f := 24) (fn := Go.Proofs.Try.f24) (c := body Go.Proofs.Try.f24) (by kernel_rfl) (by kernel_rfl) ?_
  conv => whnf
  repeat' (first | (refine AO.cons hT ?_; conv => whnf) | (refine AO.nil ?_; conv => whnf) | (refine AW.seq ?_; conv => whnf) | (refine AW.region ?_; conv => whnf) | (refine AW.cond ?_; conv => whnf) | (refine AW.block ?_; conv => whnf) | (refine AW.loop ?_; conv => whnf) | (refine AW.skip ?_; conv => whnf) | (refine AW.exit ?_; conv => whnf) | (refine AW.ret ?_; conv => whnf) | (refine AF.one hT rfl ?_; conv => whnf) | (refine AF.nil ?_; conv => whnf) | (refine AF.imm hT rfl rfl rfl ?_; conv => whnf) | (refine AH.of hT rfl ?_; conv => whnf) | (refine ASplit.yes rfl ?_ <;> conv => whnf) | (refine ASplit.no rfl ?_ <;> conv => whnf) | (refine ACond.yes rfl ?_ <;> conv => whnf) | (refine ACond.no rfl ?_ <;> conv => whnf) | (refine ASplit.dec (fun _ => ?_) (fun _ => ?_) <;> conv => whnf) | (refine ASplit.ndec (fun _ => ?_) (fun _ => ?_) <;> conv => whnf) | (refine ACond.dec (fun _ => ?_) (fun _ => ?_) <;> conv => whnf) | (refine ACond.ndec (fun _ => ?_) (fun _ => ?_) <;> conv => whnf))
  all_goals
    refine AFin.val rfl ⟨?_, rfl⟩
    first
      | (rw [mchk_no (by unfold mok; omega)])
      | (rw [mchk_yes (by unfold mok; omega)])

/-- of one thing -/
def mat (m : Mv) (p : Bool) (i : Int) : Bool := (m.p == p) && decide (m.i = i)
def sumOf (l : List Mv) (p : Bool) (i : Int) : Int := (l.filter fun m => mat m p i).foldl (fun n m => n + m.q) 0

theorem sumOf_snoc (l : List Mv) (m : Mv) (p : Bool) (i : Int) : sumOf (l ++ [m]) p i = if mat m p i then sumOf l p i + m.q else sumOf l p i := by
  unfold sumOf
  rw [List.filter_append, List.foldl_append]
  by_cases h : mat m p i
  · simp [h, List.filter_cons]
  · simp [h, List.filter_cons]

theorem sumOf_nil (p : Bool) (i : Int) : sumOf [] p i = 0 := rfl

theorem mvs_len (l : List Mv) : (l.flatMap mvC).length = l.length * 3 := by
  induction l with
  | nil => rfl
  | cons m l ih => rw [List.flatMap_cons, List.length_append, ih, List.length_cons, Nat.add_mul, Nat.one_mul]; exact Nat.add_comm _ _

theorem mvC_len (m : Mv) : (mvC m).length = 3 := rfl

theorem take_snoc {α : Type} (l : List α) (i : Nat) (h : i < l.length) : l.take (i + 1) = l.take i ++ [l[i]] := by
  rw [List.take_add_one, List.getElem?_eq_getElem h]; rfl

/-- sums of movements that stay small on the way -/
def small (l : List Mv) (p : Bool) (i : Int) : Prop := ∀ k, k ≤ l.length → -9223372036854775808 ≤ sumOf (l.take k) p i ∧ sumOf (l.take k) p i ≤ 9223372036854775807

theorem f44 (l : List Mv) (p : Bool) (id : Int) (hl : l.length ≤ 4611686018427387904) (hs : small l p id) : Fun P 44 [mvs l, .v (.bool p), .v (.int .i64 id)] (.v (.int .i64 (sumOf l p id))) := by
  refine spec_of hT (f := 44) (fn := Go.Proofs.Try.f44) (c := body Go.Proofs.Try.f44) (by kernel_rfl) (by kernel_rfl) ?_
  conv => whnf
  repeat ((first | refine AO.cons hT ?_ | refine AO.nil ?_ | refine AW.seq ?_ | refine AW.region ?_ | refine AW.cond ?_ | refine AW.block ?_ | refine AW.loop ?_ | refine AW.skip ?_ | refine AW.exit ?_ | refine AW.ret ?_ | refine AF.one hT rfl ?_ | refine AF.nil ?_ | refine AF.imm hT rfl rfl rfl ?_ | refine AH.of hT rfl ?_ | refine AD.cons hT rfl ?_ | refine AD.nil ?_ | refine AQ.cons hT rfl ?_ | refine AQ.nil ?_); conv => whnf)
  refine ALoop.mk (fun n E H => ∃ i : Nat, i ≤ l.length ∧ n = l.length - i ∧ E = pad [mvs l, .v (.bool p), .v (.int .i64 id), .any, .any, .any, .v (.int .i64 0), .v (.int .i64 (sumOf (l.take i) p id)), .v (.int .i64 i)] 39 ∧ H = [])
    (n := l.length) _ _ ⟨0, by omega, rfl, rfl, rfl⟩ (Conv.fit ?_) ?_
  · repeat' (first | exact Fit.nil | refine Fit.any ?_ | refine Fit.same ?_)
  rintro _ _ _ ⟨i, hi, rfl, rfl, rfl⟩
  conv => whnf
  repeat ((first | refine AO.cons hT ?_ | refine AO.nil ?_ | refine AW.seq ?_ | refine AW.region ?_ | refine AW.cond ?_ | refine AW.block ?_ | refine AW.loop ?_ | refine AW.skip ?_ | refine AW.exit ?_ | refine AW.ret ?_ | refine AF.one hT rfl ?_ | refine AF.nil ?_ | refine AF.imm hT rfl rfl rfl ?_ | refine AH.of hT rfl ?_ | refine AD.cons hT rfl ?_ | refine AD.nil ?_ | refine AQ.cons hT rfl ?_ | refine AQ.nil ?_); conv => whnf)
  refine ACond.dec (fun h => ?_) (fun h => ?_)
  · have hil : i < l.length := by omega
    conv => whnf
    repeat ((first | refine AO.cons hT ?_ | refine AO.nil ?_ | refine AW.seq ?_ | refine AW.region ?_ | refine AW.cond ?_ | refine AW.block ?_ | refine AW.loop ?_ | refine AW.skip ?_ | refine AW.exit ?_ | refine AW.ret ?_ | refine AF.one hT rfl ?_ | refine AF.nil ?_ | refine AF.imm hT rfl rfl rfl ?_ | refine AH.of hT rfl ?_ | refine AD.cons hT rfl ?_ | refine AD.nil ?_ | refine AQ.cons hT rfl ?_ | refine AQ.nil ?_); conv => whnf)
    refine AReq.mk (by omega) ?_
    conv => whnf
    repeat ((first | refine AO.cons hT ?_ | refine AO.nil ?_ | refine AW.seq ?_ | refine AW.region ?_ | refine AW.cond ?_ | refine AW.block ?_ | refine AW.loop ?_ | refine AW.skip ?_ | refine AW.exit ?_ | refine AW.ret ?_ | refine AF.one hT rfl ?_ | refine AF.nil ?_ | refine AF.imm hT rfl rfl rfl ?_ | refine AH.of hT rfl ?_ | refine AD.cons hT rfl ?_ | refine AD.nil ?_ | refine AQ.cons hT rfl ?_ | refine AQ.nil ?_); conv => whnf)
    refine AIdx.flat (enc := mvC) mvC_len (xs := l) (i := i) hil ?_
    conv => whnf
    repeat ((first | refine AO.cons hT ?_ | refine AO.nil ?_ | refine AW.seq ?_ | refine AW.region ?_ | refine AW.cond ?_ | refine AW.block ?_ | refine AW.loop ?_ | refine AW.skip ?_ | refine AW.exit ?_ | refine AW.ret ?_ | refine AF.one hT rfl ?_ | refine AF.nil ?_ | refine AF.imm hT rfl rfl rfl ?_ | refine AH.of hT rfl ?_ | refine AD.cons hT rfl ?_ | refine AD.nil ?_ | refine AQ.cons hT rfl ?_ | refine AQ.nil ?_); conv => whnf)
    have hsn := sumOf_snoc (l.take i) l[i] p id
    rw [← take_snoc l i hil] at hsn
    have hb := hs (i + 1) (by omega)
    refine ASplit.mk (fun hp => ?_) (fun hp => ?_)
    · conv => whnf
      repeat ((first | refine AO.cons hT ?_ | refine AO.nil ?_ | refine AW.seq ?_ | refine AW.region ?_ | refine AW.cond ?_ | refine AW.block ?_ | refine AW.loop ?_ | refine AW.skip ?_ | refine AW.exit ?_ | refine AW.ret ?_ | refine AF.one hT rfl ?_ | refine AF.nil ?_ | refine AF.imm hT rfl rfl rfl ?_ | refine AH.of hT rfl ?_ | refine AD.cons hT rfl ?_ | refine AD.nil ?_ | refine AQ.cons hT rfl ?_ | refine AQ.nil ?_); conv => whnf)
      refine AReq.mk (by omega) ?_
      conv => whnf
      repeat ((first | refine AO.cons hT ?_ | refine AO.nil ?_ | refine AW.seq ?_ | refine AW.region ?_ | refine AW.cond ?_ | refine AW.block ?_ | refine AW.loop ?_ | refine AW.skip ?_ | refine AW.exit ?_ | refine AW.ret ?_ | refine AF.one hT rfl ?_ | refine AF.nil ?_ | refine AF.imm hT rfl rfl rfl ?_ | refine AH.of hT rfl ?_ | refine AD.cons hT rfl ?_ | refine AD.nil ?_ | refine AQ.cons hT rfl ?_ | refine AQ.nil ?_); conv => whnf)
      refine AIdx.flat (enc := mvC) mvC_len (xs := l) (i := i) hil ?_
      conv => whnf
      repeat ((first | refine AO.cons hT ?_ | refine AO.nil ?_ | refine AW.seq ?_ | refine AW.region ?_ | refine AW.cond ?_ | refine AW.block ?_ | refine AW.loop ?_ | refine AW.skip ?_ | refine AW.exit ?_ | refine AW.ret ?_ | refine AF.one hT rfl ?_ | refine AF.nil ?_ | refine AF.imm hT rfl rfl rfl ?_ | refine AH.of hT rfl ?_ | refine AD.cons hT rfl ?_ | refine AD.nil ?_ | refine AQ.cons hT rfl ?_ | refine AQ.nil ?_); conv => whnf)
      refine ACond.dec (fun hid => ?_) (fun hid => ?_)
      · conv => whnf
        repeat ((first | refine AO.cons hT ?_ | refine AO.nil ?_ | refine AW.seq ?_ | refine AW.region ?_ | refine AW.cond ?_ | refine AW.block ?_ | refine AW.loop ?_ | refine AW.skip ?_ | refine AW.exit ?_ | refine AW.ret ?_ | refine AF.one hT rfl ?_ | refine AF.nil ?_ | refine AF.imm hT rfl rfl rfl ?_ | refine AH.of hT rfl ?_ | refine AD.cons hT rfl ?_ | refine AD.nil ?_ | refine AQ.cons hT rfl ?_ | refine AQ.nil ?_); conv => whnf)
        refine AReq.mk (by omega) ?_
        conv => whnf
        repeat ((first | refine AO.cons hT ?_ | refine AO.nil ?_ | refine AW.seq ?_ | refine AW.region ?_ | refine AW.cond ?_ | refine AW.block ?_ | refine AW.loop ?_ | refine AW.skip ?_ | refine AW.exit ?_ | refine AW.ret ?_ | refine AF.one hT rfl ?_ | refine AF.nil ?_ | refine AF.imm hT rfl rfl rfl ?_ | refine AH.of hT rfl ?_ | refine AD.cons hT rfl ?_ | refine AD.nil ?_ | refine AQ.cons hT rfl ?_ | refine AQ.nil ?_); conv => whnf)
        refine AIdx.flat (enc := mvC) mvC_len (xs := l) (i := i) hil ?_
        conv => whnf
        repeat ((first | refine AO.cons hT ?_ | refine AO.nil ?_ | refine AW.seq ?_ | refine AW.region ?_ | refine AW.cond ?_ | refine AW.block ?_ | refine AW.loop ?_ | refine AW.skip ?_ | refine AW.exit ?_ | refine AW.ret ?_ | refine AF.one hT rfl ?_ | refine AF.nil ?_ | refine AF.imm hT rfl rfl rfl ?_ | refine AH.of hT rfl ?_ | refine AD.cons hT rfl ?_ | refine AD.nil ?_ | refine AQ.cons hT rfl ?_ | refine AQ.nil ?_); conv => whnf)
        have e : sumOf (l.take (i + 1)) p id = sumOf (l.take i) p id + l[i].q := by
          rw [hsn, if_pos (by unfold mat; rw [hp, hid]; simp)]
        rw [wrap_i64 (sumOf (l.take i) p id + l[i].q) (by omega) (by omega), wrap_i64 ((i : Int) + 1) (by omega) (by omega), ← e]
        refine AHead.mk (l.length - (i + 1)) _ _ (by omega) ⟨i + 1, by omega, rfl, rfl, rfl⟩ (Conv.fit ?_)
        repeat' (first | exact Fit.nil | refine Fit.any ?_ | refine Fit.same ?_)
      · conv => whnf
        repeat ((first | refine AO.cons hT ?_ | refine AO.nil ?_ | refine AW.seq ?_ | refine AW.region ?_ | refine AW.cond ?_ | refine AW.block ?_ | refine AW.loop ?_ | refine AW.skip ?_ | refine AW.exit ?_ | refine AW.ret ?_ | refine AF.one hT rfl ?_ | refine AF.nil ?_ | refine AF.imm hT rfl rfl rfl ?_ | refine AH.of hT rfl ?_ | refine AD.cons hT rfl ?_ | refine AD.nil ?_ | refine AQ.cons hT rfl ?_ | refine AQ.nil ?_); conv => whnf)
        have e : sumOf (l.take (i + 1)) p id = sumOf (l.take i) p id := by
          rw [hsn, if_neg (by unfold mat; simp [hid])]
        rw [wrap_i64 ((i : Int) + 1) (by omega) (by omega), ← e]
        refine AHead.mk (l.length - (i + 1)) _ _ (by omega) ⟨i + 1, by omega, rfl, rfl, rfl⟩ (Conv.fit ?_)
        repeat' (first | exact Fit.nil | refine Fit.any ?_ | refine Fit.same ?_)
    · conv => whnf
      repeat ((first | refine AO.cons hT ?_ | refine AO.nil ?_ | refine AW.seq ?_ | refine AW.region ?_ | refine AW.cond ?_ | refine AW.block ?_ | refine AW.loop ?_ | refine AW.skip ?_ | refine AW.exit ?_ | refine AW.ret ?_ | refine AF.one hT rfl ?_ | refine AF.nil ?_ | refine AF.imm hT rfl rfl rfl ?_ | refine AH.of hT rfl ?_ | refine AD.cons hT rfl ?_ | refine AD.nil ?_ | refine AQ.cons hT rfl ?_ | refine AQ.nil ?_); conv => whnf)
      refine ACond.no rfl ?_
      conv => whnf
      repeat ((first | refine AO.cons hT ?_ | refine AO.nil ?_ | refine AW.seq ?_ | refine AW.region ?_ | refine AW.cond ?_ | refine AW.block ?_ | refine AW.loop ?_ | refine AW.skip ?_ | refine AW.exit ?_ | refine AW.ret ?_ | refine AF.one hT rfl ?_ | refine AF.nil ?_ | refine AF.imm hT rfl rfl rfl ?_ | refine AH.of hT rfl ?_ | refine AD.cons hT rfl ?_ | refine AD.nil ?_ | refine AQ.cons hT rfl ?_ | refine AQ.nil ?_); conv => whnf)
      have e : sumOf (l.take (i + 1)) p id = sumOf (l.take i) p id := by
        rw [hsn, if_neg (by unfold mat; simp [hp])]
      rw [wrap_i64 ((i : Int) + 1) (by omega) (by omega), ← e]
      refine AHead.mk (l.length - (i + 1)) _ _ (by omega) ⟨i + 1, by omega, rfl, rfl, rfl⟩ (Conv.fit ?_)
      repeat' (first | exact Fit.nil | refine Fit.any ?_ | refine Fit.same ?_)
  · obtain rfl : i = l.length := by omega
    conv => whnf
    repeat ((first | refine AO.cons hT ?_ | refine AO.nil ?_ | refine AW.seq ?_ | refine AW.region ?_ | refine AW.cond ?_ | refine AW.block ?_ | refine AW.loop ?_ | refine AW.skip ?_ | refine AW.exit ?_ | refine AW.ret ?_ | refine AF.one hT rfl ?_ | refine AF.nil ?_ | refine AF.imm hT rfl rfl rfl ?_ | refine AH.of hT rfl ?_ | refine AD.cons hT rfl ?_ | refine AD.nil ?_ | refine AQ.cons hT rfl ?_ | refine AQ.nil ?_); conv => whnf)
    refine AOut.stay ?_
    conv => whnf
    repeat ((first | refine AO.cons hT ?_ | refine AO.nil ?_ | refine AW.seq ?_ | refine AW.region ?_ | refine AW.cond ?_ | refine AW.block ?_ | refine AW.loop ?_ | refine AW.skip ?_ | refine AW.exit ?_ | refine AW.ret ?_ | refine AF.one hT rfl ?_ | refine AF.nil ?_ | refine AF.imm hT rfl rfl rfl ?_ | refine AH.of hT rfl ?_ | refine AD.cons hT rfl ?_ | refine AD.nil ?_ | refine AQ.cons hT rfl ?_ | refine AQ.nil ?_); conv => whnf)
    refine AFin.val rfl ⟨?_, rfl⟩
    rw [List.take_length]
end Go.Aw.R1

set_option linter.unusedSimpArgs false
set_option linter.unusedVariables false
set_option maxHeartbeats 4000000
namespace Go.Aw.R1
open Go

def okAt (l : List Mv) (k : Nat) : Prop := ∀ h : k < l.length, mok l[k] ∧ 0 ≤ sumOf (l.take (k + 1)) l[k].p l[k].i ∧ sumOf (l.take (k + 1)) l[k].p l[k].i ≤ 1000000
def good (l : List Mv) : Prop := l.length ≤ 1000 ∧ ∀ k, okAt l k
open Classical in
noncomputable def chkF (l : List Mv) : Int := if good l then 0 else 40
theorem chkF_yes {l : List Mv} (h : good l) : chkF l = 0 := if_pos h
theorem chkF_no {l : List Mv} (h : ¬ good l) : chkF l = 40 := if_neg h

theorem sum_bound (l : List Mv) (p : Bool) (i : Int) : ∀ k, k ≤ l.length → (∀ (j : Nat) (h : j < l.length), j < k → mok l[j]) → -1000000 * (k : Int) ≤ sumOf (l.take k) p i ∧ sumOf (l.take k) p i ≤ 1000000 * k
  | 0, _, _ => by simp [sumOf_nil]
  | k + 1, hk, h => by
    have ih := sum_bound l p i k (by omega) (fun j hj hjk => h j hj (by omega))
    rw [take_snoc l k (by omega), sumOf_snoc]
    have hm := h k (by omega) (by omega)
    unfold mok at hm
    split <;> (simp only [Int.natCast_add] ; omega)

theorem small_of (l : List Mv) (hl : l.length ≤ 1001) (h : ∀ m ∈ l, mok m) (p : Bool) (i : Int) : small l p i := fun k hk => by
  have := sum_bound l p i k hk (fun j hj _ => h _ (List.getElem_mem hj))
  omega

theorem mem_take {l : List Mv} {k : Nat} {m : Mv} (h : m ∈ l.take k) : ∃ (j : Nat) (hj : j < l.length), j < k ∧ l[j] = m := by
  obtain ⟨j, hj, e⟩ := List.getElem_of_mem h
  simp at hj
  exact ⟨j, by omega, by omega, by simpa using e⟩

theorem flat_take (l : List Mv) : ∀ k, (l.take k).flatMap mvC = (l.flatMap mvC).take (k * 3) := by
  induction l with
  | nil => simp
  | cons m l ih =>
    intro k
    cases k with
    | zero => simp
    | succ k =>
      rw [List.take_succ_cons, List.flatMap_cons, List.flatMap_cons, ih k, Nat.add_mul]
      show [_, _, _] ++ _ = ([_, _, _] ++ _).take (k * 3 + 3)
      simp [List.take_succ_cons]

theorem cut_take (l : List Mv) (k : Nat) (h : k ≤ l.length) : AV.vs 3 (k - 0) (List.take ((k - 0) * 3) (List.drop (0 * 3) (l.flatMap mvC))) = mvs (l.take k) := by
  unfold mvs
  rw [flat_take, List.length_take, Nat.min_eq_left h]
  rfl

theorem renL_mvs (ρ : Nat → Nat) (l : List Mv) : renL ρ (l.flatMap mvC) = l.flatMap mvC := by
  induction l with
  | nil => rfl
  | cons m l ih => rw [List.flatMap_cons, renL_append, ih]; rfl
theorem ren_mvs (ρ : Nat → Nat) (l : List Mv) : (mvs l).ren ρ = mvs l := by
  unfold mvs
  simp only [AV.ren, renL_mvs]

theorem f26 (l : List Mv) (hl : l.length ≤ 4611686018427387904) : Fun P 26 [mvs l] (.v (.int .i64 (chkF l))) := by
  refine spec_of hT (f := 26) (fn := Go.Proofs.Try.f26) (c := body Go.Proofs.Try.f26) (by kernel_rfl) (by kernel_rfl) ?_
  conv => whnf
  repeat ((first | refine AO.cons hT ?_ | refine AO.nil ?_ | refine AW.seq ?_ | refine AW.region ?_ | refine AW.cond ?_ | refine AW.block ?_ | refine AW.loop ?_ | refine AW.skip ?_ | refine AW.exit ?_ | refine AW.ret ?_ | refine AF.one hT rfl ?_ | refine AF.nil ?_ | refine AF.imm hT rfl rfl rfl ?_ | refine AH.of hT rfl ?_ | refine AD.cons hT rfl ?_ | refine AD.nil ?_ | refine AQ.cons hT rfl ?_ | refine AQ.nil ?_); conv => whnf)
  refine ACond.dec (fun h => ?_) (fun h => ?_)
  · conv => whnf
    repeat ((first | refine AO.cons hT ?_ | refine AO.nil ?_ | refine AW.seq ?_ | refine AW.region ?_ | refine AW.cond ?_ | refine AW.block ?_ | refine AW.loop ?_ | refine AW.skip ?_ | refine AW.exit ?_ | refine AW.ret ?_ | refine AF.one hT rfl ?_ | refine AF.nil ?_ | refine AF.imm hT rfl rfl rfl ?_ | refine AH.of hT rfl ?_ | refine AD.cons hT rfl ?_ | refine AD.nil ?_ | refine AQ.cons hT rfl ?_ | refine AQ.nil ?_); conv => whnf)
    refine AFin.val rfl ⟨?_, rfl⟩
    rw [chkF_no (fun hg => by have := hg.1; omega)]
  have hlen : l.length ≤ 1000 := by omega
  conv => whnf
  repeat ((first | refine AO.cons hT ?_ | refine AO.nil ?_ | refine AW.seq ?_ | refine AW.region ?_ | refine AW.cond ?_ | refine AW.block ?_ | refine AW.loop ?_ | refine AW.skip ?_ | refine AW.exit ?_ | refine AW.ret ?_ | refine AF.one hT rfl ?_ | refine AF.nil ?_ | refine AF.imm hT rfl rfl rfl ?_ | refine AH.of hT rfl ?_ | refine AD.cons hT rfl ?_ | refine AD.nil ?_ | refine AQ.cons hT rfl ?_ | refine AQ.nil ?_); conv => whnf)
  refine ALoop.mk (fun n E H => ∃ i : Nat, i ≤ l.length ∧ (∀ k, k < i → okAt l k) ∧ n = l.length - i ∧ E = pad [mvs l, .any, .v (.int .i64 0), .v (.int .i64 i)] 41 ∧ H = [])
    (n := l.length) _ _ ⟨0, by omega, by omega, rfl, rfl, rfl⟩ (Conv.fit ?_) ?_
  · repeat' (first | exact Fit.nil | refine Fit.any ?_ | refine Fit.same ?_)
  rintro _ _ _ ⟨i, hi, hok, rfl, rfl, rfl⟩
  conv => whnf
  repeat ((first | refine AO.cons hT ?_ | refine AO.nil ?_ | refine AW.seq ?_ | refine AW.region ?_ | refine AW.cond ?_ | refine AW.block ?_ | refine AW.loop ?_ | refine AW.skip ?_ | refine AW.exit ?_ | refine AW.ret ?_ | refine AF.one hT rfl ?_ | refine AF.nil ?_ | refine AF.imm hT rfl rfl rfl ?_ | refine AH.of hT rfl ?_ | refine AD.cons hT rfl ?_ | refine AD.nil ?_ | refine AQ.cons hT rfl ?_ | refine AQ.nil ?_); conv => whnf)
  refine ACond.dec (fun h => ?_) (fun h => ?_)
  · have hil : i < l.length := by omega
    conv => whnf
    repeat ((first | refine AO.cons hT ?_ | refine AO.nil ?_ | refine AW.seq ?_ | refine AW.region ?_ | refine AW.cond ?_ | refine AW.block ?_ | refine AW.loop ?_ | refine AW.skip ?_ | refine AW.exit ?_ | refine AW.ret ?_ | refine AF.one hT rfl ?_ | refine AF.nil ?_ | refine AF.imm hT rfl rfl rfl ?_ | refine AH.of hT rfl ?_ | refine AD.cons hT rfl ?_ | refine AD.nil ?_ | refine AQ.cons hT rfl ?_ | refine AQ.nil ?_); conv => whnf)
    refine AReq.mk (by omega) ?_
    conv => whnf
    repeat ((first | refine AO.cons hT ?_ | refine AO.nil ?_ | refine AW.seq ?_ | refine AW.region ?_ | refine AW.cond ?_ | refine AW.block ?_ | refine AW.loop ?_ | refine AW.skip ?_ | refine AW.exit ?_ | refine AW.ret ?_ | refine AF.one hT rfl ?_ | refine AF.nil ?_ | refine AF.imm hT rfl rfl rfl ?_ | refine AH.of hT rfl ?_ | refine AD.cons hT rfl ?_ | refine AD.nil ?_ | refine AQ.cons hT rfl ?_ | refine AQ.nil ?_); conv => whnf)
    refine AIdx.flat (enc := mvC) mvC_len (xs := l) (i := i) hil ?_
    conv => whnf
    repeat ((first | refine AO.cons hT ?_ | refine AO.nil ?_ | refine AW.seq ?_ | refine AW.region ?_ | refine AW.cond ?_ | refine AW.block ?_ | refine AW.loop ?_ | refine AW.skip ?_ | refine AW.exit ?_ | refine AW.ret ?_ | refine AF.one hT rfl ?_ | refine AF.nil ?_ | refine AF.imm hT rfl rfl rfl ?_ | refine AH.of hT rfl ?_ | refine AD.cons hT rfl ?_ | refine AD.nil ?_ | refine AQ.cons hT rfl ?_ | refine AQ.nil ?_); conv => whnf)
    refine ACall.val (by kernel_rfl) (f24 l[i]) rfl rfl ?_
    conv => whnf
    repeat ((first | refine AO.cons hT ?_ | refine AO.nil ?_ | refine AW.seq ?_ | refine AW.region ?_ | refine AW.cond ?_ | refine AW.block ?_ | refine AW.loop ?_ | refine AW.skip ?_ | refine AW.exit ?_ | refine AW.ret ?_ | refine AF.one hT rfl ?_ | refine AF.nil ?_ | refine AF.imm hT rfl rfl rfl ?_ | refine AH.of hT rfl ?_ | refine AD.cons hT rfl ?_ | refine AD.nil ?_ | refine AQ.cons hT rfl ?_ | refine AQ.nil ?_); conv => whnf)
    by_cases hmo : mok l[i]
    · rw [mchk_yes hmo]
      refine ACond.no rfl ?_
      conv => whnf
      repeat ((first | refine AO.cons hT ?_ | refine AO.nil ?_ | refine AW.seq ?_ | refine AW.region ?_ | refine AW.cond ?_ | refine AW.block ?_ | refine AW.loop ?_ | refine AW.skip ?_ | refine AW.exit ?_ | refine AW.ret ?_ | refine AF.one hT rfl ?_ | refine AF.nil ?_ | refine AF.imm hT rfl rfl rfl ?_ | refine AH.of hT rfl ?_ | refine AD.cons hT rfl ?_ | refine AD.nil ?_ | refine AQ.cons hT rfl ?_ | refine AQ.nil ?_); conv => whnf)
      refine AW.plan hm (.one 0 (.one 1 (.one 2 (.one 3 (.one 4 (.one 5 (.one 6 (.one 7 (.one 9 (.one 10 (.one 11 (.one 12 (.one 8 (.one 13 (.one 14 (.one 15 .nil)))))))))))))))) (by kernel_rfl) ?_
      conv => whnf
      repeat ((first | refine AO.cons hT ?_ | refine AO.nil ?_ | refine AW.seq ?_ | refine AW.region ?_ | refine AW.cond ?_ | refine AW.block ?_ | refine AW.loop ?_ | refine AW.skip ?_ | refine AW.exit ?_ | refine AW.ret ?_ | refine AF.one hT rfl ?_ | refine AF.nil ?_ | refine AF.imm hT rfl rfl rfl ?_ | refine AH.of hT rfl ?_ | refine AD.cons hT rfl ?_ | refine AD.nil ?_ | refine AQ.cons hT rfl ?_ | refine AQ.nil ?_); conv => whnf)
      rw [wrap_i64 ((i : Int) + 1) (by omega) (by omega)]
      refine AReq.mk (by omega) ?_
      conv => whnf
      repeat ((first | refine AO.cons hT ?_ | refine AO.nil ?_ | refine AW.seq ?_ | refine AW.region ?_ | refine AW.cond ?_ | refine AW.block ?_ | refine AW.loop ?_ | refine AW.skip ?_ | refine AW.exit ?_ | refine AW.ret ?_ | refine AF.one hT rfl ?_ | refine AF.nil ?_ | refine AF.imm hT rfl rfl rfl ?_ | refine AH.of hT rfl ?_ | refine AD.cons hT rfl ?_ | refine AD.nil ?_ | refine AQ.cons hT rfl ?_ | refine AQ.nil ?_); conv => whnf)
      refine ACut.iff.2 ⟨by rw [mvs_len]; simp; omega, ?_⟩
      conv => whnf
      repeat ((first | refine AO.cons hT ?_ | refine AO.nil ?_ | refine AW.seq ?_ | refine AW.region ?_ | refine AW.cond ?_ | refine AW.block ?_ | refine AW.loop ?_ | refine AW.skip ?_ | refine AW.exit ?_ | refine AW.ret ?_ | refine AF.one hT rfl ?_ | refine AF.nil ?_ | refine AF.imm hT rfl rfl rfl ?_ | refine AH.of hT rfl ?_ | refine AD.cons hT rfl ?_ | refine AD.nil ?_ | refine AQ.cons hT rfl ?_ | refine AQ.nil ?_); conv => whnf)
      refine AReq.mk (by omega) ?_
      conv => whnf
      repeat ((first | refine AO.cons hT ?_ | refine AO.nil ?_ | refine AW.seq ?_ | refine AW.region ?_ | refine AW.cond ?_ | refine AW.block ?_ | refine AW.loop ?_ | refine AW.skip ?_ | refine AW.exit ?_ | refine AW.ret ?_ | refine AF.one hT rfl ?_ | refine AF.nil ?_ | refine AF.imm hT rfl rfl rfl ?_ | refine AH.of hT rfl ?_ | refine AD.cons hT rfl ?_ | refine AD.nil ?_ | refine AQ.cons hT rfl ?_ | refine AQ.nil ?_); conv => whnf)
      refine AIdx.flat (enc := mvC) mvC_len (xs := l) (i := i) hil ?_
      conv => whnf
      repeat ((first | refine AO.cons hT ?_ | refine AO.nil ?_ | refine AW.seq ?_ | refine AW.region ?_ | refine AW.cond ?_ | refine AW.block ?_ | refine AW.loop ?_ | refine AW.skip ?_ | refine AW.exit ?_ | refine AW.ret ?_ | refine AF.one hT rfl ?_ | refine AF.nil ?_ | refine AF.imm hT rfl rfl rfl ?_ | refine AH.of hT rfl ?_ | refine AD.cons hT rfl ?_ | refine AD.nil ?_ | refine AQ.cons hT rfl ?_ | refine AQ.nil ?_); conv => whnf)
      refine AReq.mk (by omega) ?_
      conv => whnf
      repeat ((first | refine AO.cons hT ?_ | refine AO.nil ?_ | refine AW.seq ?_ | refine AW.region ?_ | refine AW.cond ?_ | refine AW.block ?_ | refine AW.loop ?_ | refine AW.skip ?_ | refine AW.exit ?_ | refine AW.ret ?_ | refine AF.one hT rfl ?_ | refine AF.nil ?_ | refine AF.imm hT rfl rfl rfl ?_ | refine AH.of hT rfl ?_ | refine AD.cons hT rfl ?_ | refine AD.nil ?_ | refine AQ.cons hT rfl ?_ | refine AQ.nil ?_); conv => whnf)
      refine AIdx.flat (enc := mvC) mvC_len (xs := l) (i := i) hil ?_
      conv => whnf
      repeat ((first | refine AO.cons hT ?_ | refine AO.nil ?_ | refine AW.seq ?_ | refine AW.region ?_ | refine AW.cond ?_ | refine AW.block ?_ | refine AW.loop ?_ | refine AW.skip ?_ | refine AW.exit ?_ | refine AW.ret ?_ | refine AF.one hT rfl ?_ | refine AF.nil ?_ | refine AF.imm hT rfl rfl rfl ?_ | refine AH.of hT rfl ?_ | refine AD.cons hT rfl ?_ | refine AD.nil ?_ | refine AQ.cons hT rfl ?_ | refine AQ.nil ?_); conv => whnf)
      have hall : ∀ m ∈ l.take (i + 1), mok m := fun m hm => by
        obtain ⟨j, hj, hjk, rfl⟩ := mem_take hm
        rcases Nat.lt_or_ge j i with h1 | h1
        · exact (hok j h1 hj).1
        · obtain rfl : j = i := by omega
          exact hmo
      have hcall := f44 (l.take (i + 1)) l[i].p l[i].i (by rw [List.length_take]; omega) (small_of _ (by rw [List.length_take]; omega) hall _ _)
      have e1 : Int.toNat ((i : Int) + 1) = i + 1 := by omega
      rw [e1, cut_take l (i + 1) hil]
      refine ACall.val (by kernel_rfl) hcall (by simp [renL, ren_mvs, AV.ren]) rfl ?_
      conv => whnf
      repeat ((first | refine AO.cons hT ?_ | refine AO.nil ?_ | refine AW.seq ?_ | refine AW.region ?_ | refine AW.cond ?_ | refine AW.block ?_ | refine AW.loop ?_ | refine AW.skip ?_ | refine AW.exit ?_ | refine AW.ret ?_ | refine AF.one hT rfl ?_ | refine AF.nil ?_ | refine AF.imm hT rfl rfl rfl ?_ | refine AH.of hT rfl ?_ | refine AD.cons hT rfl ?_ | refine AD.nil ?_ | refine AQ.cons hT rfl ?_ | refine AQ.nil ?_); conv => whnf)
      refine ASplit.dec (fun hneg => ?_) (fun hneg => ?_)
      · conv => whnf
        repeat ((first | refine AO.cons hT ?_ | refine AO.nil ?_ | refine AW.seq ?_ | refine AW.region ?_ | refine AW.cond ?_ | refine AW.block ?_ | refine AW.loop ?_ | refine AW.skip ?_ | refine AW.exit ?_ | refine AW.ret ?_ | refine AF.one hT rfl ?_ | refine AF.nil ?_ | refine AF.imm hT rfl rfl rfl ?_ | refine AH.of hT rfl ?_ | refine AD.cons hT rfl ?_ | refine AD.nil ?_ | refine AQ.cons hT rfl ?_ | refine AQ.nil ?_); conv => whnf)
        refine ACond.yes rfl ?_
        conv => whnf
        repeat ((first | refine AO.cons hT ?_ | refine AO.nil ?_ | refine AW.seq ?_ | refine AW.region ?_ | refine AW.cond ?_ | refine AW.block ?_ | refine AW.loop ?_ | refine AW.skip ?_ | refine AW.exit ?_ | refine AW.ret ?_ | refine AF.one hT rfl ?_ | refine AF.nil ?_ | refine AF.imm hT rfl rfl rfl ?_ | refine AH.of hT rfl ?_ | refine AD.cons hT rfl ?_ | refine AD.nil ?_ | refine AQ.cons hT rfl ?_ | refine AQ.nil ?_); conv => whnf)
        refine AOut.stay ?_
        refine AFin.val rfl ⟨?_, rfl⟩
        rw [chkF_no (fun hg => by have := (hg.2 i hil).2; omega)]
      · conv => whnf
        repeat ((first | refine AO.cons hT ?_ | refine AO.nil ?_ | refine AW.seq ?_ | refine AW.region ?_ | refine AW.cond ?_ | refine AW.block ?_ | refine AW.loop ?_ | refine AW.skip ?_ | refine AW.exit ?_ | refine AW.ret ?_ | refine AF.one hT rfl ?_ | refine AF.nil ?_ | refine AF.imm hT rfl rfl rfl ?_ | refine AH.of hT rfl ?_ | refine AD.cons hT rfl ?_ | refine AD.nil ?_ | refine AQ.cons hT rfl ?_ | refine AQ.nil ?_); conv => whnf)
        refine ACond.dec (fun hbig => ?_) (fun hbig => ?_)
        · conv => whnf
          repeat ((first | refine AO.cons hT ?_ | refine AO.nil ?_ | refine AW.seq ?_ | refine AW.region ?_ | refine AW.cond ?_ | refine AW.block ?_ | refine AW.loop ?_ | refine AW.skip ?_ | refine AW.exit ?_ | refine AW.ret ?_ | refine AF.one hT rfl ?_ | refine AF.nil ?_ | refine AF.imm hT rfl rfl rfl ?_ | refine AH.of hT rfl ?_ | refine AD.cons hT rfl ?_ | refine AD.nil ?_ | refine AQ.cons hT rfl ?_ | refine AQ.nil ?_); conv => whnf)
          refine AOut.stay ?_
          refine AFin.val rfl ⟨?_, rfl⟩
          rw [chkF_no (fun hg => by have := (hg.2 i hil).2; omega)]
        · conv => whnf
          repeat ((first | refine AO.cons hT ?_ | refine AO.nil ?_ | refine AW.seq ?_ | refine AW.region ?_ | refine AW.cond ?_ | refine AW.block ?_ | refine AW.loop ?_ | refine AW.skip ?_ | refine AW.exit ?_ | refine AW.ret ?_ | refine AF.one hT rfl ?_ | refine AF.nil ?_ | refine AF.imm hT rfl rfl rfl ?_ | refine AH.of hT rfl ?_ | refine AD.cons hT rfl ?_ | refine AD.nil ?_ | refine AQ.cons hT rfl ?_ | refine AQ.nil ?_); conv => whnf)
          rw [wrap_i64 ((i : Int) + 1) (by omega) (by omega)]
          refine AHead.mk (l.length - (i + 1)) _ _ (by omega) ⟨i + 1, by omega, ?_, rfl, rfl, rfl⟩ (Conv.fit ?_)
          · intro k hk
            rcases Nat.lt_or_ge k i with h1 | h1
            · exact hok k h1
            · obtain rfl : k = i := by omega
              exact fun _ => ⟨hmo, by omega, by omega⟩
          · repeat' (first | exact Fit.nil | refine Fit.any ?_ | refine Fit.same ?_)
    · rw [mchk_no hmo]
      refine ACond.yes rfl ?_
      conv => whnf
      repeat ((first | refine AO.cons hT ?_ | refine AO.nil ?_ | refine AW.seq ?_ | refine AW.region ?_ | refine AW.cond ?_ | refine AW.block ?_ | refine AW.loop ?_ | refine AW.skip ?_ | refine AW.exit ?_ | refine AW.ret ?_ | refine AF.one hT rfl ?_ | refine AF.nil ?_ | refine AF.imm hT rfl rfl rfl ?_ | refine AH.of hT rfl ?_ | refine AD.cons hT rfl ?_ | refine AD.nil ?_ | refine AQ.cons hT rfl ?_ | refine AQ.nil ?_); conv => whnf)
      refine AOut.stay ?_
      refine AFin.val rfl ⟨?_, rfl⟩
      rw [chkF_no (fun hg => hmo (hg.2 i hil).1)]
  · obtain rfl : i = l.length := by omega
    conv => whnf
    repeat ((first | refine AO.cons hT ?_ | refine AO.nil ?_ | refine AW.seq ?_ | refine AW.region ?_ | refine AW.cond ?_ | refine AW.block ?_ | refine AW.loop ?_ | refine AW.skip ?_ | refine AW.exit ?_ | refine AW.ret ?_ | refine AF.one hT rfl ?_ | refine AF.nil ?_ | refine AF.imm hT rfl rfl rfl ?_ | refine AH.of hT rfl ?_ | refine AD.cons hT rfl ?_ | refine AD.nil ?_ | refine AQ.cons hT rfl ?_ | refine AQ.nil ?_); conv => whnf)
    refine AOut.stay ?_
    conv => whnf
    repeat ((first | refine AO.cons hT ?_ | refine AO.nil ?_ | refine AW.seq ?_ | refine AW.region ?_ | refine AW.cond ?_ | refine AW.block ?_ | refine AW.loop ?_ | refine AW.skip ?_ | refine AW.exit ?_ | refine AW.ret ?_ | refine AF.one hT rfl ?_ | refine AF.nil ?_ | refine AF.imm hT rfl rfl rfl ?_ | refine AH.of hT rfl ?_ | refine AD.cons hT rfl ?_ | refine AD.nil ?_ | refine AQ.cons hT rfl ?_ | refine AQ.nil ?_); conv => whnf)
    refine AFin.val rfl ⟨?_, rfl⟩
    rw [chkF_yes ⟨hlen, fun k hk => hok k hk hk⟩]
end Go.Aw.R1

set_option linter.unusedSimpArgs false
set_option linter.unusedVariables false
set_option maxHeartbeats 4000000
namespace Go.Aw.R1
open Go

def mvK : List EK := [.bool, .int .i64, .int .i64]
def mvV (m : Mv) : List Value := [.bool m.p, .int .i64 m.i, .int .i64 m.q]
theorem eqL_mv (a b : Mv) : eqL (mvV a) (mvV b) = decide (a = b) := by
  simp only [mvV, eqL, eqv, Bool.and_true]
  obtain ⟨p, i, q⟩ := a
  obtain ⟨p', i', q'⟩ := b
  rw [Bool.eq_iff_iff]
  simp [Bool.beq_eq_decide_eq]

theorem f27 (a b : List Mv) (hl : a.length ≤ 4611686018427387904) (hl2 : b.length ≤ 4611686018427387904) : Fun P 27 [mvs a, mvs b] (.v (.bool (decide (a = b)))) := by
  refine spec_of hT (f := 27) (fn := Go.Proofs.Try.f27) (c := body Go.Proofs.Try.f27) (by kernel_rfl) (by kernel_rfl) ?_
  conv => whnf
  repeat ((first | refine AO.cons hT ?_ | refine AO.nil ?_ | refine AW.seq ?_ | refine AW.region ?_ | refine AW.cond ?_ | refine AW.block ?_ | refine AW.loop ?_ | refine AW.skip ?_ | refine AW.exit ?_ | refine AW.ret ?_ | refine AF.one hT rfl ?_ | refine AF.nil ?_ | refine AF.imm hT rfl rfl rfl ?_ | refine AH.of hT rfl ?_ | refine AD.cons hT rfl ?_ | refine AD.nil ?_ | refine AQ.cons hT rfl ?_ | refine AQ.nil ?_); conv => whnf)
  refine ACond.ndec (fun h => ?_) (fun h => ?_)
  · conv => whnf
    repeat ((first | refine AO.cons hT ?_ | refine AO.nil ?_ | refine AW.seq ?_ | refine AW.region ?_ | refine AW.cond ?_ | refine AW.block ?_ | refine AW.loop ?_ | refine AW.skip ?_ | refine AW.exit ?_ | refine AW.ret ?_ | refine AF.one hT rfl ?_ | refine AF.nil ?_ | refine AF.imm hT rfl rfl rfl ?_ | refine AH.of hT rfl ?_ | refine AD.cons hT rfl ?_ | refine AD.nil ?_ | refine AQ.cons hT rfl ?_ | refine AQ.nil ?_); conv => whnf)
    refine AFin.val rfl ⟨?_, rfl⟩
    rw [decide_eq_false (fun e => h (by rw [e]))]
  have hlen : a.length = b.length := by omega
  conv => whnf
  repeat ((first | refine AO.cons hT ?_ | refine AO.nil ?_ | refine AW.seq ?_ | refine AW.region ?_ | refine AW.cond ?_ | refine AW.block ?_ | refine AW.loop ?_ | refine AW.skip ?_ | refine AW.exit ?_ | refine AW.ret ?_ | refine AF.one hT rfl ?_ | refine AF.nil ?_ | refine AF.imm hT rfl rfl rfl ?_ | refine AH.of hT rfl ?_ | refine AD.cons hT rfl ?_ | refine AD.nil ?_ | refine AQ.cons hT rfl ?_ | refine AQ.nil ?_); conv => whnf)
  refine ALoop.mk (fun n E H => ∃ i : Nat, i ≤ a.length ∧ (∀ k, k < i → a[k]? = b[k]?) ∧ n = a.length - i ∧ E = pad [mvs a, mvs b, .any, .any, .v (.bool false), .v (.int .i64 i)] 26 ∧ H = [])
    (n := a.length) _ _ ⟨0, by omega, by omega, rfl, rfl, rfl⟩ (Conv.fit ?_) ?_
  · repeat' (first | exact Fit.nil | refine Fit.any ?_ | refine Fit.same ?_)
  rintro _ _ _ ⟨i, hi, hok, rfl, rfl, rfl⟩
  conv => whnf
  repeat ((first | refine AO.cons hT ?_ | refine AO.nil ?_ | refine AW.seq ?_ | refine AW.region ?_ | refine AW.cond ?_ | refine AW.block ?_ | refine AW.loop ?_ | refine AW.skip ?_ | refine AW.exit ?_ | refine AW.ret ?_ | refine AF.one hT rfl ?_ | refine AF.nil ?_ | refine AF.imm hT rfl rfl rfl ?_ | refine AH.of hT rfl ?_ | refine AD.cons hT rfl ?_ | refine AD.nil ?_ | refine AQ.cons hT rfl ?_ | refine AQ.nil ?_); conv => whnf)
  refine ACond.dec (fun h => ?_) (fun h => ?_)
  · have hil : i < a.length := by omega
    have hil2 : i < b.length := by omega
    conv => whnf
    repeat ((first | refine AO.cons hT ?_ | refine AO.nil ?_ | refine AW.seq ?_ | refine AW.region ?_ | refine AW.cond ?_ | refine AW.block ?_ | refine AW.loop ?_ | refine AW.skip ?_ | refine AW.exit ?_ | refine AW.ret ?_ | refine AF.one hT rfl ?_ | refine AF.nil ?_ | refine AF.imm hT rfl rfl rfl ?_ | refine AH.of hT rfl ?_ | refine AD.cons hT rfl ?_ | refine AD.nil ?_ | refine AQ.cons hT rfl ?_ | refine AQ.nil ?_); conv => whnf)
    refine AW.plan hm (.one 0 (.one 1 (.one 2 (.one 4 (.one 5 (.one 6 (.one 3 (.one 7 (.one 8 .nil))))))))) (by kernel_rfl) ?_
    conv => whnf
    repeat ((first | refine AO.cons hT ?_ | refine AO.nil ?_ | refine AW.seq ?_ | refine AW.region ?_ | refine AW.cond ?_ | refine AW.block ?_ | refine AW.loop ?_ | refine AW.skip ?_ | refine AW.exit ?_ | refine AW.ret ?_ | refine AF.one hT rfl ?_ | refine AF.nil ?_ | refine AF.imm hT rfl rfl rfl ?_ | refine AH.of hT rfl ?_ | refine AD.cons hT rfl ?_ | refine AD.nil ?_ | refine AQ.cons hT rfl ?_ | refine AQ.nil ?_); conv => whnf)
    refine AReq.mk (by omega) ?_
    conv => whnf
    repeat ((first | refine AO.cons hT ?_ | refine AO.nil ?_ | refine AW.seq ?_ | refine AW.region ?_ | refine AW.cond ?_ | refine AW.block ?_ | refine AW.loop ?_ | refine AW.skip ?_ | refine AW.exit ?_ | refine AW.ret ?_ | refine AF.one hT rfl ?_ | refine AF.nil ?_ | refine AF.imm hT rfl rfl rfl ?_ | refine AH.of hT rfl ?_ | refine AD.cons hT rfl ?_ | refine AD.nil ?_ | refine AQ.cons hT rfl ?_ | refine AQ.nil ?_); conv => whnf)
    refine AIdx.flat (enc := mvC) mvC_len (xs := a) (i := i) hil ?_
    conv => whnf
    repeat ((first | refine AO.cons hT ?_ | refine AO.nil ?_ | refine AW.seq ?_ | refine AW.region ?_ | refine AW.cond ?_ | refine AW.block ?_ | refine AW.loop ?_ | refine AW.skip ?_ | refine AW.exit ?_ | refine AW.ret ?_ | refine AF.one hT rfl ?_ | refine AF.nil ?_ | refine AF.imm hT rfl rfl rfl ?_ | refine AH.of hT rfl ?_ | refine AD.cons hT rfl ?_ | refine AD.nil ?_ | refine AQ.cons hT rfl ?_ | refine AQ.nil ?_); conv => whnf)
    refine AReq.mk (by omega) ?_
    conv => whnf
    repeat ((first | refine AO.cons hT ?_ | refine AO.nil ?_ | refine AW.seq ?_ | refine AW.region ?_ | refine AW.cond ?_ | refine AW.block ?_ | refine AW.loop ?_ | refine AW.skip ?_ | refine AW.exit ?_ | refine AW.ret ?_ | refine AF.one hT rfl ?_ | refine AF.nil ?_ | refine AF.imm hT rfl rfl rfl ?_ | refine AH.of hT rfl ?_ | refine AD.cons hT rfl ?_ | refine AD.nil ?_ | refine AQ.cons hT rfl ?_ | refine AQ.nil ?_); conv => whnf)
    refine AIdx.flat (enc := mvC) mvC_len (xs := b) (i := i) hil2 ?_
    conv => whnf
    repeat ((first | refine AO.cons hT ?_ | refine AO.nil ?_ | refine AW.seq ?_ | refine AW.region ?_ | refine AW.cond ?_ | refine AW.block ?_ | refine AW.loop ?_ | refine AW.skip ?_ | refine AW.exit ?_ | refine AW.ret ?_ | refine AF.one hT rfl ?_ | refine AF.nil ?_ | refine AF.imm hT rfl rfl rfl ?_ | refine AH.of hT rfl ?_ | refine AD.cons hT rfl ?_ | refine AD.nil ?_ | refine AQ.cons hT rfl ?_ | refine AQ.nil ?_); conv => whnf)
    refine AEqs.neq (ks := mvK) (vx := mvV a[i]) (vy := mvV b[i]) (by kernel_rfl) (by kernel_rfl) rfl rfl rfl rfl ?_
    rw [eqL_mv]
    conv => whnf
    repeat ((first | refine AO.cons hT ?_ | refine AO.nil ?_ | refine AW.seq ?_ | refine AW.region ?_ | refine AW.cond ?_ | refine AW.block ?_ | refine AW.loop ?_ | refine AW.skip ?_ | refine AW.exit ?_ | refine AW.ret ?_ | refine AF.one hT rfl ?_ | refine AF.nil ?_ | refine AF.imm hT rfl rfl rfl ?_ | refine AH.of hT rfl ?_ | refine AD.cons hT rfl ?_ | refine AD.nil ?_ | refine AQ.cons hT rfl ?_ | refine AQ.nil ?_); conv => whnf)
    refine ACond.ndec (fun he => ?_) (fun he => ?_)
    · conv => whnf
      repeat ((first | refine AO.cons hT ?_ | refine AO.nil ?_ | refine AW.seq ?_ | refine AW.region ?_ | refine AW.cond ?_ | refine AW.block ?_ | refine AW.loop ?_ | refine AW.skip ?_ | refine AW.exit ?_ | refine AW.ret ?_ | refine AF.one hT rfl ?_ | refine AF.nil ?_ | refine AF.imm hT rfl rfl rfl ?_ | refine AH.of hT rfl ?_ | refine AD.cons hT rfl ?_ | refine AD.nil ?_ | refine AQ.cons hT rfl ?_ | refine AQ.nil ?_); conv => whnf)
      refine AOut.stay ?_
      refine AFin.val rfl ⟨?_, rfl⟩
      rw [decide_eq_false (fun e => he (by subst e; rfl))]
    · conv => whnf
      repeat ((first | refine AO.cons hT ?_ | refine AO.nil ?_ | refine AW.seq ?_ | refine AW.region ?_ | refine AW.cond ?_ | refine AW.block ?_ | refine AW.loop ?_ | refine AW.skip ?_ | refine AW.exit ?_ | refine AW.ret ?_ | refine AF.one hT rfl ?_ | refine AF.nil ?_ | refine AF.imm hT rfl rfl rfl ?_ | refine AH.of hT rfl ?_ | refine AD.cons hT rfl ?_ | refine AD.nil ?_ | refine AQ.cons hT rfl ?_ | refine AQ.nil ?_); conv => whnf)
      rw [wrap_i64 ((i : Int) + 1) (by omega) (by omega)]
      refine AHead.mk (a.length - (i + 1)) _ _ (by omega) ⟨i + 1, by omega, ?_, rfl, rfl, rfl⟩ (Conv.fit ?_)
      · intro k hk
        rcases Nat.lt_or_ge k i with h1 | h1
        · exact hok k h1
        · obtain rfl : k = i := by omega
          rw [List.getElem?_eq_getElem hil, List.getElem?_eq_getElem hil2, he]
      · repeat' (first | exact Fit.nil | refine Fit.any ?_ | refine Fit.same ?_)
  · obtain rfl : i = a.length := by omega
    conv => whnf
    repeat ((first | refine AO.cons hT ?_ | refine AO.nil ?_ | refine AW.seq ?_ | refine AW.region ?_ | refine AW.cond ?_ | refine AW.block ?_ | refine AW.loop ?_ | refine AW.skip ?_ | refine AW.exit ?_ | refine AW.ret ?_ | refine AF.one hT rfl ?_ | refine AF.nil ?_ | refine AF.imm hT rfl rfl rfl ?_ | refine AH.of hT rfl ?_ | refine AD.cons hT rfl ?_ | refine AD.nil ?_ | refine AQ.cons hT rfl ?_ | refine AQ.nil ?_); conv => whnf)
    refine AOut.stay ?_
    conv => whnf
    repeat ((first | refine AO.cons hT ?_ | refine AO.nil ?_ | refine AW.seq ?_ | refine AW.region ?_ | refine AW.cond ?_ | refine AW.block ?_ | refine AW.loop ?_ | refine AW.skip ?_ | refine AW.exit ?_ | refine AW.ret ?_ | refine AF.one hT rfl ?_ | refine AF.nil ?_ | refine AF.imm hT rfl rfl rfl ?_ | refine AH.of hT rfl ?_ | refine AD.cons hT rfl ?_ | refine AD.nil ?_ | refine AQ.cons hT rfl ?_ | refine AQ.nil ?_); conv => whnf)
    refine AFin.val rfl ⟨?_, rfl⟩
    rw [decide_eq_true]
    apply List.ext_getElem?
    intro k
    rcases Nat.lt_or_ge k a.length with h1 | h1
    · exact hok k h1
    · rw [List.getElem?_eq_none h1, List.getElem?_eq_none (by omega)]

/-! ### what is there of things -/
abbrev Th := Bool × Int
def thV (k : Th) : Value := .agg #[.bool k.1, .int .i64 k.2]
def thA (k : Th) : AV := .agg [.v (.bool k.1), .v (.int .i64 k.2)]
def nV (n : Int) : AV := .v (.int .i64 n)
def thOk (k : Th) : Prop := (Lit.int .i64 k.2).wf = true

theorem laid1 : laidOutB P = true := by kernel_rfl
theorem th_fields : (P.fieldsOf 76).toList.map (fun f => (f.name != "_", f.type, f.offset)) = [(true, 4, 0), (true, 3, 1)] := by kernel_rfl
theorem th_und : P.underlying 76 = some (.struct (P.fieldsOf 76)) := by kernel_rfl
theorem lit_bi {Q : Program} {t t1 t2 : Nat} (hkt : Q.keyType t = true) (hc : Q.cellsOf t = 2) (hc4 : Q.cellsOf t1 = 1) (hc3 : Q.cellsOf t2 = 1) (hu4 : Q.underlying t1 = some .bool) (hu3 : Q.underlying t2 = some (.int .i64)) (hn : ∃ n, Q.types.size = n + 1)
    (hf : (Q.fieldsOf t).toList.map (fun f => (f.name != "_", f.type, f.offset)) = [(true, t1, 0), (true, t2, 1)]) (hu : Q.underlying t = some (.struct (Q.fieldsOf t))) (p : Bool) (i : Int) (h : (Lit.int .i64 i).wf = true) : keyOf Q t (.agg #[.bool p, .int .i64 i]) = some (.string (keyBytes [.bool p, .int .i64 i])) := by
  obtain ⟨n, hn⟩ := hn
  generalize Q.fieldsOf t = fs at hf hu
  unfold keyOf
  simp only [hu]
  rw [if_pos (by simp [hkt, Value.formed, hu, hc]), hn]
  unfold Program.keyLits
  simp only [hu, Value.cells]
  obtain ⟨fs⟩ := fs
  rcases fs with _ | ⟨f1, _ | ⟨f2, _ | ⟨f3, r⟩⟩⟩
  · simp at hf
  · simp at hf
  · simp only [List.map_cons, List.map_nil, List.cons.injEq, Prod.mk.injEq, and_true] at hf
    obtain ⟨⟨a1, a2, a3⟩, b1, b2, b3⟩ := hf
    rw [if_pos ⟨by rw [hc]; rfl, by
      show Array.all ⟨[f1, f2]⟩ _ = true
      rw [List.all_toArray]
      simp only [List.all_cons, List.all_nil, a1, b1, Bool.and_true]⟩, List.mapM_cons, List.mapM_cons, List.mapM_nil]
    simp [Program.keyLits, a2, a3, b2, b3, hc4, hc3, hu4, hu3, h]
  · simp at hf
theorem size_pos {Q : Program} {n : Nat} (h : Nat.ble (n + 1) Q.types.size = true) : n < Q.types.size := Nat.le_of_ble_eq_true h
theorem size_succ {Q : Program} (h : Nat.ble 1 Q.types.size = true) : ∃ n, Q.types.size = n + 1 := ⟨Q.types.size - 1, by have := Nat.le_of_ble_eq_true h; omega⟩
theorem th_lit (p : Bool) (i : Int) (h : (Lit.int .i64 i).wf = true) : keyOf P 76 (.agg #[.bool p, .int .i64 i]) = some (.string (keyBytes [.bool p, .int .i64 i])) :=
  lit_bi (by kernel_rfl) (by kernel_rfl) (by kernel_rfl) (by kernel_rfl) (by kernel_rfl) (by kernel_rfl) (size_succ (by kernel_rfl)) th_fields th_und p i h

theorem thK : KEnc P 76 thV thA thOk where
  keyed := Go.Maps.Keyed.of_law (deep_law_laid laid1 (m := 2) (by omega) (size_pos (by kernel_rfl)) (by kernel_rfl) (by kernel_rfl))
  lit := by
    rintro ⟨p, i⟩ h
    exact ⟨_, th_lit p i h⟩
  inj := by
    rintro ⟨p, i⟩ ⟨p', i'⟩ h
    simpa [thV] using h
  rep := by
    rintro w m I ⟨p, i⟩ y h
    simp only [thA, Rep, RepL] at h
    obtain ⟨ys, rfl, ⟨y1, z1, rfl, rfl, y2, z2, rfl, rfl, rfl⟩, _⟩ := h
    rfl
end Go.Aw.R1

set_option linter.unusedSimpArgs false
set_option linter.unusedVariables false
set_option maxHeartbeats 4000000
namespace Go.Aw.R1
open Go

/-- what stands under a key -/
def look (L : List (Th × Int)) (k : Th) : Int := match L.find? (fun x => x.1 == k) with | some x => x.2 | none => 0

structure Held (L : List (Th × Int)) (l : List Mv) : Prop where
  nd : (L.map (·.1)).Nodup
  ok : ∀ x ∈ L, thOk x.1
  sum : ∀ k, look L k = sumOf l k.1 k.2
  mem : ∀ k, k ∈ L.map (·.1) ↔ ∃ m ∈ l, m.p = k.1 ∧ m.i = k.2

theorem Held.nil : Held [] [] := ⟨by simp, by simp, fun k => rfl, by simp⟩

theorem look_none {L : List (Th × Int)} {k : Th} (h : ∀ x ∈ L, x.1 ≠ k) : look L k = 0 := by
  unfold look
  rw [List.find?_eq_none.2 (fun x hx => by simpa using h x hx)]

theorem look_at {L : List (Th × Int)} (hn : (L.map (·.1)).Nodup) {j : Nat} {k : Th} {b : Int} (h : L[j]? = some (k, b)) : look L k = b := by
  unfold look
  induction L generalizing j with
  | nil => simp at h
  | cons x L ih =>
    rw [List.find?_cons]
    cases j with
    | zero => simp at h; subst h; simp
    | succ j =>
      simp at h
      have hx : (x.1 == k) = false := by
        rw [beq_eq_false_iff_ne]
        rintro rfl
        have := (List.nodup_cons.1 hn).1
        exact this (List.mem_map.2 ⟨_, List.mem_of_getElem? h, rfl⟩)
      rw [hx]
      exact ih (List.nodup_cons.1 hn).2 h

theorem mat_iff (m : Mv) (k : Th) : mat m k.1 k.2 = true ↔ (m.p, m.i) = k := by
  obtain ⟨p, i⟩ := k
  unfold mat
  simp [Prod.mk.injEq]

theorem look_snoc (L : List (Th × Int)) (k k' : Th) (b : Int) (h : ∀ x ∈ L, x.1 ≠ k) : look (L ++ [(k, b)]) k' = if k = k' then b else look L k' := by
  unfold look
  rw [List.find?_append]
  by_cases e : k = k'
  · subst e
    rw [List.find?_eq_none.2 (fun x hx => by simpa using h x hx)]
    simp
  · rw [if_neg e]
    cases hf : L.find? (fun x => x.1 == k') with
    | some x => simp
    | none => simp [List.find?_cons, e]

theorem look_set (L : List (Th × Int)) (hn : (L.map (·.1)).Nodup) {j : Nat} {k : Th} {b b' : Int} (h : L[j]? = some (k, b)) (k' : Th) : look (L.set j (k, b')) k' = if k = k' then b' else look L k' := by
  induction L generalizing j with
  | nil => simp at h
  | cons x L ih =>
    cases j with
    | zero =>
      simp at h; subst h
      unfold look
      simp only [List.set_cons_zero, List.find?_cons]
      by_cases e : k = k'
      · subst e; simp
      · have : (k == k') = false := beq_eq_false_iff_ne.2 e
        simp [this, e]
    | succ j =>
      simp at h
      have hi := ih (List.nodup_cons.1 hn).2 h
      unfold look at hi ⊢
      simp only [List.set_cons_succ, List.find?_cons]
      by_cases e : x.1 = k'
      · have hk : k ≠ k' := by
          rintro rfl
          have := (List.nodup_cons.1 hn).1
          exact this (by show x.1 ∈ _; rw [e]; exact List.mem_map.2 ⟨_, List.mem_of_getElem? h, rfl⟩)
        have e' : (x.1 == k') = true := by simpa using e
        rw [e', if_neg hk]
      · have e' : (x.1 == k') = false := beq_eq_false_iff_ne.2 e
        rw [e']
        exact hi

theorem Held.push {L : List (Th × Int)} {l : List Mv} (h : Held L l) (m : Mv) (hm : mok m) (hno : ∀ x ∈ L, x.1 ≠ (m.p, m.i)) : Held (L ++ [((m.p, m.i), m.q)]) (l ++ [m]) where
  nd := by
    rw [List.map_append, List.nodup_append]
    refine ⟨h.nd, by simp, fun a ha b hb => ?_⟩
    obtain ⟨x, hx, rfl⟩ := List.mem_map.1 ha
    simp at hb
    subst hb
    exact hno x hx
  ok := by
    intro x hx
    rcases List.mem_append.1 hx with hx | hx
    · exact h.ok x hx
    · simp at hx; subst hx
      unfold mok at hm
      simp [thOk, Lit.wf, IntKind.min, IntKind.max, IntKind.signed, IntKind.bits]
      omega
  sum := by
    intro k
    rw [look_snoc _ _ _ _ hno, sumOf_snoc]
    have := mat_iff m k
    by_cases e : (m.p, m.i) = k
    · rw [if_pos e, if_pos (this.2 e), ← h.sum k, look_none (fun x hx => by rw [← e]; exact hno x hx)]
      omega
    · rw [if_neg e, if_neg (fun hc => e (this.1 hc))]
      exact h.sum k
  mem := by
    rintro ⟨p, i⟩
    rw [List.map_append, List.mem_append, h.mem]
    simp only [List.map_cons, List.map_nil, List.mem_singleton, List.mem_append]
    constructor
    · rintro (⟨m', h1, h2⟩ | h1)
      · exact ⟨m', .inl h1, h2⟩
      · have h1 := Prod.mk.inj h1; exact ⟨m, .inr rfl, h1.1.symm, h1.2.symm⟩
    · rintro ⟨m', h1 | rfl, h2, h3⟩
      · exact .inl ⟨m', h1, h2, h3⟩
      · right; show (p, i) = _; rw [← h2, ← h3]

theorem Held.set {L : List (Th × Int)} {l : List Mv} (h : Held L l) (m : Mv) {j : Nat} {b : Int} (hj : L[j]? = some ((m.p, m.i), b)) : Held (L.set j ((m.p, m.i), b + m.q)) (l ++ [m]) := by
  have hkeys : (L.set j ((m.p, m.i), b + m.q)).map (·.1) = L.map (·.1) := by
    rw [List.map_set]
    exact set_same (by rw [List.getElem?_map, hj]; rfl)
  refine ⟨by rw [hkeys]; exact h.nd, ?_, ?_, ?_⟩
  · intro x hx
    rcases List.mem_or_eq_of_mem_set hx with hx | rfl
    · exact h.ok x hx
    · have := h.ok _ (List.mem_of_getElem? hj)
      exact this
  · intro k
    rw [look_set L h.nd hj, sumOf_snoc]
    have := mat_iff m k
    by_cases e : (m.p, m.i) = k
    · rw [if_pos e, if_pos (this.2 e), ← h.sum k, ← e, look_at h.nd hj]
    · rw [if_neg e, if_neg (fun hc => e (this.1 hc))]
      exact h.sum k
  · rintro ⟨p, i⟩
    rw [hkeys, h.mem]
    constructor
    · rintro ⟨m', h1, h2⟩; exact ⟨m', by simp [h1], h2⟩
    · rintro ⟨m', h1, h2, h3⟩
      rcases List.mem_append.1 h1 with h1 | h1
      · exact ⟨m', h1, h2, h3⟩
      · simp at h1; subst h1
        have : (m'.p, m'.i) ∈ L.map (·.1) := List.mem_map.2 ⟨_, List.mem_of_getElem? hj, rfl⟩
        rw [h2, h3] at this
        exact (h.mem (p, i)).1 this

theorem ren_em (ρ : Nat → Nat) (L : List (Th × Int)) : (em thA nV L).map (fun x => (x.1.ren ρ, x.2.ren ρ)) = em thA nV L := by
  simp [em, thA, nV, AV.ren, renL, Function.comp_def]

theorem f56 (L : List (Th × Int)) (l : List Mv) (m : Mv) (bs : List Nat) (clk : Nat) (h : Held L l) (hmo : mok m) (hs : -9223372036854775808 ≤ sumOf (l ++ [m]) m.p m.i ∧ sumOf (l ++ [m]) m.p m.i ≤ 9223372036854775807) :
    Spec P 56 [.agg (mvC m), .ptr 0 0] [.cells 72 [.mp 1], .map (em thA nV L) bs clk] (fun r H => ∃ L' bs' clk', r = nV (sumOf (l ++ [m]) m.p m.i) ∧ H = [.cells 72 [.mp 1], .map (em thA nV L') bs' clk'] ∧ Held L' (l ++ [m])) := by
  refine spec_of hT (f := 56) (fn := Go.Proofs.Try.f56) (c := body Go.Proofs.Try.f56) (by kernel_rfl) (by kernel_rfl) ?_
  conv => whnf
  repeat ((first | refine AO.cons hT ?_ | refine AO.nil ?_ | refine AW.seq ?_ | refine AW.region ?_ | refine AW.cond ?_ | refine AW.block ?_ | refine AW.loop ?_ | refine AW.skip ?_ | refine AW.exit ?_ | refine AW.ret ?_ | refine AF.one hT rfl ?_ | refine AF.nil ?_ | refine AF.imm hT rfl rfl rfl ?_ | refine AH.of hT rfl ?_ | refine AD.cons hT rfl ?_ | refine AD.nil ?_ | refine AQ.cons hT rfl ?_ | refine AQ.nil ?_); conv => whnf)
  have hkey : thOk (m.p, m.i) := by
    have hm' := hmo
    unfold mok at hm'
    simp [thOk, Lit.wf, IntKind.min, IntKind.max, IntKind.signed, IntKind.bits]
    omega
  refine AW.conv _ _ (Conv.freeze 2 rfl) ?_
  refine AW.mapLen (l := 1) rfl (fun hlen hnd => ?_)
  have hlen : bs.length = L.length := by simpa [em] using hlen
  refine AW.plan hm (.one 3 (.one 0 (.one 1 (.imm 4 (.fork 2 (.one 5 (.one 6 (.one 7 .nil))) 6 (.one 7 (.one 2 (.one 5 .nil))) (.one 8 .nil)))))) (by kernel_rfl) ?_
  conv => whnf
  repeat ((first | refine AO.cons hT ?_ | refine AO.nil ?_ | refine AW.seq ?_ | refine AW.region ?_ | refine AW.cond ?_ | refine AW.block ?_ | refine AW.loop ?_ | refine AW.skip ?_ | refine AW.exit ?_ | refine AW.ret ?_ | refine AF.one hT rfl ?_ | refine AF.nil ?_ | refine AF.imm hT rfl rfl rfl ?_ | refine AH.of hT rfl ?_ | refine AD.cons hT rfl ?_ | refine AD.nil ?_ | refine AQ.cons hT rfl ?_ | refine AQ.nil ?_); conv => whnf)
  have hq : -9223372036854775808 ≤ m.q ∧ m.q ≤ 9223372036854775807 := by have h' := hmo; unfold mok at h'; omega
  have hu : P.underlying 72 = some (.map 76 3) := by kernel_rfl
  have hne : (T 3).u ≠ .other := by simp [show (T 3).u = .int .i64 from rfl]
  by_cases hno : ∀ x ∈ L, x.1 ≠ (m.p, m.i)
  · have hwr : IntKind.wrap .i64 (0 + m.q) = m.q := by rw [Int.zero_add]; exact wrap_i64 _ hq.1 hq.2
    apply AF.meet
    · conv => whnf
      repeat ((first | refine AO.cons hT ?_ | refine AO.nil ?_ | refine AW.seq ?_ | refine AW.region ?_ | refine AW.cond ?_ | refine AW.block ?_ | refine AW.loop ?_ | refine AW.skip ?_ | refine AW.exit ?_ | refine AW.ret ?_ | refine AF.one hT rfl ?_ | refine AF.nil ?_ | refine AF.imm hT rfl rfl rfl ?_ | refine AH.of hT rfl ?_ | refine AD.cons hT rfl ?_ | refine AD.nil ?_ | refine AQ.cons hT rfl ?_ | refine AQ.nil ?_); conv => whnf)
      refine AOp.lookup (a := (m.p, m.i)) hT thK hu hne rfl rfl rfl h.ok hkey (fun _ => ?_) (fun j b hj => absurd rfl (hno _ (List.mem_of_getElem? hj)))
      conv => whnf
      repeat ((first | refine AO.cons hT ?_ | refine AO.nil ?_ | refine AW.seq ?_ | refine AW.region ?_ | refine AW.cond ?_ | refine AW.block ?_ | refine AW.loop ?_ | refine AW.skip ?_ | refine AW.exit ?_ | refine AW.ret ?_ | refine AF.one hT rfl ?_ | refine AF.nil ?_ | refine AF.imm hT rfl rfl rfl ?_ | refine AH.of hT rfl ?_ | refine AD.cons hT rfl ?_ | refine AD.nil ?_ | refine AQ.cons hT rfl ?_ | refine AQ.nil ?_); conv => whnf)
      refine AOp.mapEntry (a := (m.p, m.i)) (z := 0) hT thK hu hne rfl rfl rfl rfl h.ok hkey (fun _ hlen => ?_) (fun j b s hj => absurd rfl (hno _ (List.mem_of_getElem? hj)))
      conv => whnf
      repeat ((first | refine AO.cons hT ?_ | refine AO.nil ?_ | refine AW.seq ?_ | refine AW.region ?_ | refine AW.cond ?_ | refine AW.block ?_ | refine AW.loop ?_ | refine AW.skip ?_ | refine AW.exit ?_ | refine AW.ret ?_ | refine AF.one hT rfl ?_ | refine AF.nil ?_ | refine AF.imm hT rfl rfl rfl ?_ | refine AH.of hT rfl ?_ | refine AD.cons hT rfl ?_ | refine AD.nil ?_ | refine AQ.cons hT rfl ?_ | refine AQ.nil ?_); conv => whnf)
      exact ⟨rfl, rfl, rfl⟩
    · conv => whnf
      repeat ((first | refine AO.cons hT ?_ | refine AO.nil ?_ | refine AW.seq ?_ | refine AW.region ?_ | refine AW.cond ?_ | refine AW.block ?_ | refine AW.loop ?_ | refine AW.skip ?_ | refine AW.exit ?_ | refine AW.ret ?_ | refine AF.one hT rfl ?_ | refine AF.nil ?_ | refine AF.imm hT rfl rfl rfl ?_ | refine AH.of hT rfl ?_ | refine AD.cons hT rfl ?_ | refine AD.nil ?_ | refine AQ.cons hT rfl ?_ | refine AQ.nil ?_); conv => whnf)
      refine AOp.mapEntry (a := (m.p, m.i)) (z := 0) hT thK hu hne rfl rfl rfl rfl h.ok hkey (fun _ hlen => ?_) (fun j b s hj => absurd rfl (hno _ (List.mem_of_getElem? hj)))
      conv => whnf
      repeat ((first | refine AO.cons hT ?_ | refine AO.nil ?_ | refine AW.seq ?_ | refine AW.region ?_ | refine AW.cond ?_ | refine AW.block ?_ | refine AW.loop ?_ | refine AW.skip ?_ | refine AW.exit ?_ | refine AW.ret ?_ | refine AF.one hT rfl ?_ | refine AF.nil ?_ | refine AF.imm hT rfl rfl rfl ?_ | refine AH.of hT rfl ?_ | refine AD.cons hT rfl ?_ | refine AD.nil ?_ | refine AQ.cons hT rfl ?_ | refine AQ.nil ?_); conv => whnf)
      refine AOp.lookup (a := (m.p, m.i)) hT thK hu hne rfl rfl rfl (fun x hx => (List.mem_append.1 hx).elim (h.ok x) (fun hx => by simp at hx; subst hx; exact hkey)) hkey (fun hc => absurd rfl (hc ((m.p, m.i), 0) (by simp))) (fun j b hj => ?_)
      have hb : b = 0 := by
        rcases List.mem_append.1 (List.mem_of_getElem? hj) with hx | hx
        · exact absurd rfl (hno _ hx)
        · simpa using hx
      subst hb
      conv => whnf
      repeat ((first | refine AO.cons hT ?_ | refine AO.nil ?_ | refine AW.seq ?_ | refine AW.region ?_ | refine AW.cond ?_ | refine AW.block ?_ | refine AW.loop ?_ | refine AW.skip ?_ | refine AW.exit ?_ | refine AW.ret ?_ | refine AF.one hT rfl ?_ | refine AF.nil ?_ | refine AF.imm hT rfl rfl rfl ?_ | refine AH.of hT rfl ?_ | refine AD.cons hT rfl ?_ | refine AD.nil ?_ | refine AQ.cons hT rfl ?_ | refine AQ.nil ?_); conv => whnf)
      exact ⟨rfl, rfl, rfl⟩
    · conv => whnf
      repeat ((first | refine AO.cons hT ?_ | refine AO.nil ?_ | refine AW.seq ?_ | refine AW.region ?_ | refine AW.cond ?_ | refine AW.block ?_ | refine AW.loop ?_ | refine AW.skip ?_ | refine AW.exit ?_ | refine AW.ret ?_ | refine AF.one hT rfl ?_ | refine AF.nil ?_ | refine AF.imm hT rfl rfl rfl ?_ | refine AH.of hT rfl ?_ | refine AD.cons hT rfl ?_ | refine AD.nil ?_ | refine AQ.cons hT rfl ?_ | refine AQ.nil ?_); conv => whnf)
      rw [hwr]
      refine AOp.entryStore (a := (m.p, m.i)) (b := 0) (b' := m.q) (j := L.length) (s := clk) (L := L ++ [((m.p, m.i), 0)]) thK rfl rfl rfl rfl (by simp) ?_ ?_
      · rw [← hlen]; simp
      have hset : (L ++ [((m.p, m.i), (0 : Int))]).set L.length ((m.p, m.i), m.q) = L ++ [((m.p, m.i), m.q)] := by simp
      rw [hset]
      have hH := h.push m hmo hno
      conv => whnf
      repeat ((first | refine AO.cons hT ?_ | refine AO.nil ?_ | refine AW.seq ?_ | refine AW.region ?_ | refine AW.cond ?_ | refine AW.block ?_ | refine AW.loop ?_ | refine AW.skip ?_ | refine AW.exit ?_ | refine AW.ret ?_ | refine AF.one hT rfl ?_ | refine AF.nil ?_ | refine AF.imm hT rfl rfl rfl ?_ | refine AH.of hT rfl ?_ | refine AD.cons hT rfl ?_ | refine AD.nil ?_ | refine AQ.cons hT rfl ?_ | refine AQ.nil ?_); conv => whnf)
      refine AOp.lookup (a := (m.p, m.i)) hT thK hu hne rfl rfl rfl hH.ok hkey (fun hc => absurd rfl (hc ((m.p, m.i), m.q) (by simp))) (fun j b hj => ?_)
      have hb : b = sumOf (l ++ [m]) m.p m.i := by rw [← hH.sum (m.p, m.i), look_at hH.nd hj]
      subst hb
      conv => whnf
      repeat ((first | refine AO.cons hT ?_ | refine AO.nil ?_ | refine AW.seq ?_ | refine AW.region ?_ | refine AW.cond ?_ | refine AW.block ?_ | refine AW.loop ?_ | refine AW.skip ?_ | refine AW.exit ?_ | refine AW.ret ?_ | refine AF.one hT rfl ?_ | refine AF.nil ?_ | refine AF.imm hT rfl rfl rfl ?_ | refine AH.of hT rfl ?_ | refine AD.cons hT rfl ?_ | refine AD.nil ?_ | refine AQ.cons hT rfl ?_ | refine AQ.nil ?_); conv => whnf)
      refine AFin.to (nV (sumOf (l ++ [m]) m.p m.i)) [.cells 72 [.mp 1], .map (em thA nV (L ++ [((m.p, m.i), m.q)])) (bs ++ [clk]) (clk + 1)] (Conv.ren [0, 1] _ (by intro i hi; match i, hi with | 0, _ => rfl | 1, _ => rfl) (by decide) (Fit.refl _) (.same rfl (.same (by simp [ABlk.ren, ren_em]) .nil))) ⟨_, _, _, rfl, rfl, hH⟩
  · obtain ⟨x, hx, hxk⟩ : ∃ x ∈ L, x.1 = (m.p, m.i) := by
      apply Classical.byContradiction
      intro hc
      exact hno (fun x hx he => hc ⟨x, hx, he⟩)
    obtain ⟨k, b0⟩ := x
    simp only at hxk
    subst hxk
    obtain ⟨j0, hj0⟩ := List.getElem?_of_mem hx
    have hjl : j0 < L.length := (List.getElem?_eq_some_iff.1 hj0).1
    have huniq : ∀ (j : Nat) (b : Int), L[j]? = some ((m.p, m.i), b) → j = j0 ∧ b = b0 := by
      intro j b hj
      have e : j = j0 := nodup_at h.nd (x := (m.p, m.i)) (by rw [List.getElem?_map, hj]; rfl) (by rw [List.getElem?_map, hj0]; rfl)
      subst e
      rw [hj0] at hj
      cases hj
      exact ⟨rfl, rfl⟩
    have hH := h.set m hj0
    have hval : sumOf (l ++ [m]) m.p m.i = b0 + m.q := by
      rw [← hH.sum (m.p, m.i), look_at hH.nd (j := j0) (b := b0 + m.q) (by rw [List.getElem?_set_self hjl])]
    have hwr : IntKind.wrap .i64 (b0 + m.q) = b0 + m.q := wrap_i64 _ (by rw [← hval]; exact hs.1) (by rw [← hval]; exact hs.2)
    have hbs : bs[j0]? = some (bs[j0]'(by omega)) := List.getElem?_eq_getElem (by omega)
    generalize bs[j0]'(by omega) = s0 at hbs
    apply AF.meet
    · conv => whnf
      repeat ((first | refine AO.cons hT ?_ | refine AO.nil ?_ | refine AW.seq ?_ | refine AW.region ?_ | refine AW.cond ?_ | refine AW.block ?_ | refine AW.loop ?_ | refine AW.skip ?_ | refine AW.exit ?_ | refine AW.ret ?_ | refine AF.one hT rfl ?_ | refine AF.nil ?_ | refine AF.imm hT rfl rfl rfl ?_ | refine AH.of hT rfl ?_ | refine AD.cons hT rfl ?_ | refine AD.nil ?_ | refine AQ.cons hT rfl ?_ | refine AQ.nil ?_); conv => whnf)
      refine AOp.lookup (a := (m.p, m.i)) hT thK hu hne rfl rfl rfl h.ok hkey (fun hc => absurd rfl (hc _ hx)) (fun j b hj => ?_)
      obtain ⟨rfl, rfl⟩ := huniq j b hj
      conv => whnf
      repeat ((first | refine AO.cons hT ?_ | refine AO.nil ?_ | refine AW.seq ?_ | refine AW.region ?_ | refine AW.cond ?_ | refine AW.block ?_ | refine AW.loop ?_ | refine AW.skip ?_ | refine AW.exit ?_ | refine AW.ret ?_ | refine AF.one hT rfl ?_ | refine AF.nil ?_ | refine AF.imm hT rfl rfl rfl ?_ | refine AH.of hT rfl ?_ | refine AD.cons hT rfl ?_ | refine AD.nil ?_ | refine AQ.cons hT rfl ?_ | refine AQ.nil ?_); conv => whnf)
      refine AOp.mapEntry (a := (m.p, m.i)) (z := 0) hT thK hu hne rfl rfl rfl rfl h.ok hkey (fun hc _ => absurd rfl (hc _ hx)) (fun j' b' s hj' hs' => ?_)
      obtain ⟨rfl, rfl⟩ := huniq j' b' hj'
      obtain rfl : s0 = s := by rw [hbs] at hs'; cases hs'; rfl
      conv => whnf
      repeat ((first | refine AO.cons hT ?_ | refine AO.nil ?_ | refine AW.seq ?_ | refine AW.region ?_ | refine AW.cond ?_ | refine AW.block ?_ | refine AW.loop ?_ | refine AW.skip ?_ | refine AW.exit ?_ | refine AW.ret ?_ | refine AF.one hT rfl ?_ | refine AF.nil ?_ | refine AF.imm hT rfl rfl rfl ?_ | refine AH.of hT rfl ?_ | refine AD.cons hT rfl ?_ | refine AD.nil ?_ | refine AQ.cons hT rfl ?_ | refine AQ.nil ?_); conv => whnf)
      exact ⟨rfl, rfl, rfl⟩
    · conv => whnf
      repeat ((first | refine AO.cons hT ?_ | refine AO.nil ?_ | refine AW.seq ?_ | refine AW.region ?_ | refine AW.cond ?_ | refine AW.block ?_ | refine AW.loop ?_ | refine AW.skip ?_ | refine AW.exit ?_ | refine AW.ret ?_ | refine AF.one hT rfl ?_ | refine AF.nil ?_ | refine AF.imm hT rfl rfl rfl ?_ | refine AH.of hT rfl ?_ | refine AD.cons hT rfl ?_ | refine AD.nil ?_ | refine AQ.cons hT rfl ?_ | refine AQ.nil ?_); conv => whnf)
      refine AOp.mapEntry (a := (m.p, m.i)) (z := 0) hT thK hu hne rfl rfl rfl rfl h.ok hkey (fun hc _ => absurd rfl (hc _ hx)) (fun j' b' s hj' hs' => ?_)
      obtain ⟨rfl, rfl⟩ := huniq j' b' hj'
      obtain rfl : s0 = s := by rw [hbs] at hs'; cases hs'; rfl
      conv => whnf
      repeat ((first | refine AO.cons hT ?_ | refine AO.nil ?_ | refine AW.seq ?_ | refine AW.region ?_ | refine AW.cond ?_ | refine AW.block ?_ | refine AW.loop ?_ | refine AW.skip ?_ | refine AW.exit ?_ | refine AW.ret ?_ | refine AF.one hT rfl ?_ | refine AF.nil ?_ | refine AF.imm hT rfl rfl rfl ?_ | refine AH.of hT rfl ?_ | refine AD.cons hT rfl ?_ | refine AD.nil ?_ | refine AQ.cons hT rfl ?_ | refine AQ.nil ?_); conv => whnf)
      refine AOp.lookup (a := (m.p, m.i)) hT thK hu hne rfl rfl rfl h.ok hkey (fun hc => absurd rfl (hc _ hx)) (fun j b hj => ?_)
      obtain ⟨rfl, rfl⟩ := huniq j b hj
      conv => whnf
      repeat ((first | refine AO.cons hT ?_ | refine AO.nil ?_ | refine AW.seq ?_ | refine AW.region ?_ | refine AW.cond ?_ | refine AW.block ?_ | refine AW.loop ?_ | refine AW.skip ?_ | refine AW.exit ?_ | refine AW.ret ?_ | refine AF.one hT rfl ?_ | refine AF.nil ?_ | refine AF.imm hT rfl rfl rfl ?_ | refine AH.of hT rfl ?_ | refine AD.cons hT rfl ?_ | refine AD.nil ?_ | refine AQ.cons hT rfl ?_ | refine AQ.nil ?_); conv => whnf)
      exact ⟨rfl, rfl, rfl⟩
    · conv => whnf
      repeat ((first | refine AO.cons hT ?_ | refine AO.nil ?_ | refine AW.seq ?_ | refine AW.region ?_ | refine AW.cond ?_ | refine AW.block ?_ | refine AW.loop ?_ | refine AW.skip ?_ | refine AW.exit ?_ | refine AW.ret ?_ | refine AF.one hT rfl ?_ | refine AF.nil ?_ | refine AF.imm hT rfl rfl rfl ?_ | refine AH.of hT rfl ?_ | refine AD.cons hT rfl ?_ | refine AD.nil ?_ | refine AQ.cons hT rfl ?_ | refine AQ.nil ?_); conv => whnf)
      rw [hwr]
      refine AOp.entryStore (a := (m.p, m.i)) (b := b0) (b' := b0 + m.q) (j := j0) (s := s0) (L := L) thK rfl rfl rfl rfl hj0 hbs ?_
      conv => whnf
      repeat ((first | refine AO.cons hT ?_ | refine AO.nil ?_ | refine AW.seq ?_ | refine AW.region ?_ | refine AW.cond ?_ | refine AW.block ?_ | refine AW.loop ?_ | refine AW.skip ?_ | refine AW.exit ?_ | refine AW.ret ?_ | refine AF.one hT rfl ?_ | refine AF.nil ?_ | refine AF.imm hT rfl rfl rfl ?_ | refine AH.of hT rfl ?_ | refine AD.cons hT rfl ?_ | refine AD.nil ?_ | refine AQ.cons hT rfl ?_ | refine AQ.nil ?_); conv => whnf)
      refine AOp.lookup (a := (m.p, m.i)) hT thK hu hne rfl rfl rfl hH.ok hkey (fun hc => absurd rfl (hc ((m.p, m.i), b0 + m.q) (List.mem_of_getElem? (i := j0) (by rw [List.getElem?_set_self hjl])))) (fun j b hj => ?_)
      have hb : b = sumOf (l ++ [m]) m.p m.i := by rw [← hH.sum (m.p, m.i), look_at hH.nd hj]
      subst hb
      conv => whnf
      repeat ((first | refine AO.cons hT ?_ | refine AO.nil ?_ | refine AW.seq ?_ | refine AW.region ?_ | refine AW.cond ?_ | refine AW.block ?_ | refine AW.loop ?_ | refine AW.skip ?_ | refine AW.exit ?_ | refine AW.ret ?_ | refine AF.one hT rfl ?_ | refine AF.nil ?_ | refine AF.imm hT rfl rfl rfl ?_ | refine AH.of hT rfl ?_ | refine AD.cons hT rfl ?_ | refine AD.nil ?_ | refine AQ.cons hT rfl ?_ | refine AQ.nil ?_); conv => whnf)
      refine AFin.to (nV (sumOf (l ++ [m]) m.p m.i)) [.cells 72 [.mp 1], .map (em thA nV (L.set j0 ((m.p, m.i), b0 + m.q))) bs clk] (Conv.ren [0, 1] _ (by intro i hi; match i, hi with | 0, _ => rfl | 1, _ => rfl) (by decide) (Fit.refl _) (.same rfl (.same (by simp [ABlk.ren, ren_em]) .nil))) ⟨_, _, _, rfl, rfl, hH⟩
end Go.Aw.R1

set_option linter.unusedSimpArgs false
set_option linter.unusedVariables false
set_option maxHeartbeats 4000000
namespace Go.Aw.R1
open Go

theorem f52 : Spec P 52 [] [] fun r H => r = .tup [.fn 56 [] [.ptr 1 0], .mp 0] ∧ H = [.map [] [] 0, .cells 72 [.mp 0]] := by
  refine spec_of hT (f := 52) (fn := Go.Proofs.Try.f52) (c := body Go.Proofs.Try.f52) (by kernel_rfl) (by kernel_rfl) ?_
  conv => whnf
  repeat ((first | refine AO.cons hT ?_ | refine AO.nil ?_ | refine AW.seq ?_ | refine AW.region ?_ | refine AW.cond ?_ | refine AW.block ?_ | refine AW.loop ?_ | refine AW.skip ?_ | refine AW.exit ?_ | refine AW.ret ?_ | refine AF.one hT rfl ?_ | refine AF.nil ?_ | refine AF.imm hT rfl rfl rfl ?_ | refine AH.of hT rfl ?_ | refine AD.cons hT rfl ?_ | refine AD.nil ?_ | refine AQ.cons hT rfl ?_ | refine AQ.nil ?_); conv => whnf)
  refine AOp.makeMap ?_
  conv => whnf
  repeat ((first | refine AO.cons hT ?_ | refine AO.nil ?_ | refine AW.seq ?_ | refine AW.region ?_ | refine AW.cond ?_ | refine AW.block ?_ | refine AW.loop ?_ | refine AW.skip ?_ | refine AW.exit ?_ | refine AW.ret ?_ | refine AF.one hT rfl ?_ | refine AF.nil ?_ | refine AF.imm hT rfl rfl rfl ?_ | refine AH.of hT rfl ?_ | refine AD.cons hT rfl ?_ | refine AD.nil ?_ | refine AQ.cons hT rfl ?_ | refine AQ.nil ?_); conv => whnf)
  refine AW.plan hm (.one 0 (.one 2 (.one 1 (.one 3 .nil)))) (by kernel_rfl) ?_
  conv => whnf
  repeat ((first | refine AO.cons hT ?_ | refine AO.nil ?_ | refine AW.seq ?_ | refine AW.region ?_ | refine AW.cond ?_ | refine AW.block ?_ | refine AW.loop ?_ | refine AW.skip ?_ | refine AW.exit ?_ | refine AW.ret ?_ | refine AF.one hT rfl ?_ | refine AF.nil ?_ | refine AF.imm hT rfl rfl rfl ?_ | refine AH.of hT rfl ?_ | refine AD.cons hT rfl ?_ | refine AD.nil ?_ | refine AQ.cons hT rfl ?_ | refine AQ.nil ?_); conv => whnf)
  exact AFin.mk ⟨rfl, rfl⟩

theorem okAt_iff {l : List Mv} {i : Nat} (h : i < l.length) : okAt l i ↔ mok l[i] ∧ 0 ≤ sumOf (l.take (i + 1)) l[i].p l[i].i ∧ sumOf (l.take (i + 1)) l[i].p l[i].i ≤ 1000000 := ⟨fun h' => h' h, fun h' _ => h'⟩

theorem f42 (l : List Mv) (hl : l.length ≤ 4611686018427387904) : Spec P 42 [mvs l] [] fun r H => (good l ∧ ∃ L bs clk, Held L l ∧ r = .tup [.mp 0, .v (.bool true)] ∧ H = [.map (em thA nV L) bs clk]) ∨ (¬ good l ∧ r = .tup [.v (.map none), .v (.bool false)] ∧ H = []) := by
  refine spec_of hT (f := 42) (fn := Go.Proofs.Try.f42) (c := body Go.Proofs.Try.f42) (by kernel_rfl) (by kernel_rfl) ?_
  conv => whnf
  repeat ((first | refine AO.cons hT ?_ | refine AO.nil ?_ | refine AW.seq ?_ | refine AW.region ?_ | refine AW.cond ?_ | refine AW.block ?_ | refine AW.loop ?_ | refine AW.skip ?_ | refine AW.exit ?_ | refine AW.ret ?_ | refine AF.one hT rfl ?_ | refine AF.nil ?_ | refine AF.imm hT rfl rfl rfl ?_ | refine AH.of hT rfl ?_ | refine AD.cons hT rfl ?_ | refine AD.nil ?_ | refine AQ.cons hT rfl ?_ | refine AQ.nil ?_); conv => whnf)
  refine ACond.dec (fun h => ?_) (fun h => ?_)
  · conv => whnf
    repeat ((first | refine AO.cons hT ?_ | refine AO.nil ?_ | refine AW.seq ?_ | refine AW.region ?_ | refine AW.cond ?_ | refine AW.block ?_ | refine AW.loop ?_ | refine AW.skip ?_ | refine AW.exit ?_ | refine AW.ret ?_ | refine AF.one hT rfl ?_ | refine AF.nil ?_ | refine AF.imm hT rfl rfl rfl ?_ | refine AH.of hT rfl ?_ | refine AD.cons hT rfl ?_ | refine AD.nil ?_ | refine AQ.cons hT rfl ?_ | refine AQ.nil ?_); conv => whnf)
    exact AFin.mk (.inr ⟨fun hg => by have := hg.1; omega, rfl, rfl⟩)
  have hlen : l.length ≤ 1000 := by omega
  conv => whnf
  repeat ((first | refine AO.cons hT ?_ | refine AO.nil ?_ | refine AW.seq ?_ | refine AW.region ?_ | refine AW.cond ?_ | refine AW.block ?_ | refine AW.loop ?_ | refine AW.skip ?_ | refine AW.exit ?_ | refine AW.ret ?_ | refine AF.one hT rfl ?_ | refine AF.nil ?_ | refine AF.imm hT rfl rfl rfl ?_ | refine AH.of hT rfl ?_ | refine AD.cons hT rfl ?_ | refine AD.nil ?_ | refine AQ.cons hT rfl ?_ | refine AQ.nil ?_); conv => whnf)
  refine ACall.of (by kernel_rfl) f52 [] [] List.nodup_nil .nil (by simp) (by simp) .nil (.inl rfl) ?_
  rintro _ _ ⟨rfl, rfl⟩
  conv => whnf
  repeat ((first | refine AO.cons hT ?_ | refine AO.nil ?_ | refine AW.seq ?_ | refine AW.region ?_ | refine AW.cond ?_ | refine AW.block ?_ | refine AW.loop ?_ | refine AW.skip ?_ | refine AW.exit ?_ | refine AW.ret ?_ | refine AF.one hT rfl ?_ | refine AF.nil ?_ | refine AF.imm hT rfl rfl rfl ?_ | refine AH.of hT rfl ?_ | refine AD.cons hT rfl ?_ | refine AD.nil ?_ | refine AQ.cons hT rfl ?_ | refine AQ.nil ?_); conv => whnf)
  refine ALoop.mk (fun n E H => ∃ (i : Nat) (L : List (Th × Int)) (bs : List Nat) (clk : Nat), i ≤ l.length ∧ Held L (l.take i) ∧ (∀ k, k < i → okAt l k) ∧ n = l.length - i ∧
      E = pad [mvs l, .any, .v (.map none), .v (.bool false), .fn 56 [] [.ptr 1 0], .mp 0, .any, .any, .any, .any, .any, .any, .any, .any, .any, .any, mvs l, .v (.int .i64 l.length), .v (.int .i64 i)] 36 ∧ H = [.map (em thA nV L) bs clk, .cells 72 [.mp 0]])
    (n := l.length) _ _ ⟨0, [], [], 0, by omega, Held.nil, by omega, rfl, rfl, rfl⟩ (Conv.fit ?_) ?_
  · repeat' (first | exact Fit.nil | refine Fit.any ?_ | refine Fit.same ?_)
  rintro _ _ _ ⟨i, L, bs, clk, hi, hH, hok, rfl, rfl, rfl⟩
  conv => whnf
  repeat ((first | refine AO.cons hT ?_ | refine AO.nil ?_ | refine AW.seq ?_ | refine AW.region ?_ | refine AW.cond ?_ | refine AW.block ?_ | refine AW.loop ?_ | refine AW.skip ?_ | refine AW.exit ?_ | refine AW.ret ?_ | refine AF.one hT rfl ?_ | refine AF.nil ?_ | refine AF.imm hT rfl rfl rfl ?_ | refine AH.of hT rfl ?_ | refine AD.cons hT rfl ?_ | refine AD.nil ?_ | refine AQ.cons hT rfl ?_ | refine AQ.nil ?_); conv => whnf)
  refine ACond.dec (fun h => ?_) (fun h => ?_)
  · have hil : i < l.length := by omega
    conv => whnf
    repeat ((first | refine AO.cons hT ?_ | refine AO.nil ?_ | refine AW.seq ?_ | refine AW.region ?_ | refine AW.cond ?_ | refine AW.block ?_ | refine AW.loop ?_ | refine AW.skip ?_ | refine AW.exit ?_ | refine AW.ret ?_ | refine AF.one hT rfl ?_ | refine AF.nil ?_ | refine AF.imm hT rfl rfl rfl ?_ | refine AH.of hT rfl ?_ | refine AD.cons hT rfl ?_ | refine AD.nil ?_ | refine AQ.cons hT rfl ?_ | refine AQ.nil ?_); conv => whnf)
    refine AReq.mk (by omega) ?_
    conv => whnf
    repeat ((first | refine AO.cons hT ?_ | refine AO.nil ?_ | refine AW.seq ?_ | refine AW.region ?_ | refine AW.cond ?_ | refine AW.block ?_ | refine AW.loop ?_ | refine AW.skip ?_ | refine AW.exit ?_ | refine AW.ret ?_ | refine AF.one hT rfl ?_ | refine AF.nil ?_ | refine AF.imm hT rfl rfl rfl ?_ | refine AH.of hT rfl ?_ | refine AD.cons hT rfl ?_ | refine AD.nil ?_ | refine AQ.cons hT rfl ?_ | refine AQ.nil ?_); conv => whnf)
    refine AIdx.flat (enc := mvC) mvC_len (xs := l) (i := i) hil ?_
    conv => whnf
    repeat ((first | refine AO.cons hT ?_ | refine AO.nil ?_ | refine AW.seq ?_ | refine AW.region ?_ | refine AW.cond ?_ | refine AW.block ?_ | refine AW.loop ?_ | refine AW.skip ?_ | refine AW.exit ?_ | refine AW.ret ?_ | refine AF.one hT rfl ?_ | refine AF.nil ?_ | refine AF.imm hT rfl rfl rfl ?_ | refine AH.of hT rfl ?_ | refine AD.cons hT rfl ?_ | refine AD.nil ?_ | refine AQ.cons hT rfl ?_ | refine AQ.nil ?_); conv => whnf)
    refine ACall.val (by kernel_rfl) (f23 l[i]) rfl rfl ?_
    conv => whnf
    repeat ((first | refine AO.cons hT ?_ | refine AO.nil ?_ | refine AW.seq ?_ | refine AW.region ?_ | refine AW.cond ?_ | refine AW.block ?_ | refine AW.loop ?_ | refine AW.skip ?_ | refine AW.exit ?_ | refine AW.ret ?_ | refine AF.one hT rfl ?_ | refine AF.nil ?_ | refine AF.imm hT rfl rfl rfl ?_ | refine AH.of hT rfl ?_ | refine AD.cons hT rfl ?_ | refine AD.nil ?_ | refine AQ.cons hT rfl ?_ | refine AQ.nil ?_); conv => whnf)
    by_cases hmo : mok l[i]
    · rw [mchk_yes hmo]
      refine ACond.no rfl ?_
      conv => whnf
      repeat ((first | refine AO.cons hT ?_ | refine AO.nil ?_ | refine AW.seq ?_ | refine AW.region ?_ | refine AW.cond ?_ | refine AW.block ?_ | refine AW.loop ?_ | refine AW.skip ?_ | refine AW.exit ?_ | refine AW.ret ?_ | refine AF.one hT rfl ?_ | refine AF.nil ?_ | refine AF.imm hT rfl rfl rfl ?_ | refine AH.of hT rfl ?_ | refine AD.cons hT rfl ?_ | refine AD.nil ?_ | refine AQ.cons hT rfl ?_ | refine AQ.nil ?_); conv => whnf)
      have hall : ∀ (j : Nat) (h : j < l.length), j < i + 1 → mok l[j] := fun j hj hjk => by
        rcases Nat.lt_or_ge j i with h1 | h1
        · exact (hok j h1 hj).1
        · obtain rfl : j = i := by omega
          exact hmo
      have hb := sum_bound l l[i].p l[i].i (i + 1) (by omega) hall
      have hts := take_snoc l i hil
      have hcall := f56 L (l.take i) l[i] bs clk hH hmo (by rw [← hts]; omega)
      rw [← hts] at hcall
      refine ACall.of (by kernel_rfl) hcall [1, 0] [] (by simp) (.same rfl (.same (by simp [ABlk.ren, ren_em]) .nil)) (by simp) (by simp) (LendL.same [.agg (mvC l[i]), .ptr 0 0]) (.inl rfl) ?_
      rintro _ _ ⟨L', bs', clk', rfl, rfl, hH'⟩
      have hm1 : ∀ (x : ABlk), mergeH (nm [1, 0] [ABlk.map (em thA nV L) bs clk, .cells 72 [.mp 0], x].length) [ABlk.map (em thA nV L) bs clk, .cells 72 [.mp 0], x] [1, 0] [.cells 72 [.mp 1], .map (em thA nV L') bs' clk'] = [.map (em thA nV L') bs' clk', .cells 72 [.mp 0], x] := by
        intro x
        simp [mergeH, ABlk.ren, ren_em, renL, AV.ren, nm]
      have hdrop : ∀ (k : Nat) (xs : List AV) (x : ABlk), (renL (nm [0, 1] 3) xs = xs) → Conv 0 xs [.map (em thA nV L') bs' clk', .cells 72 [.mp 0], x] xs [.map (em thA nV L') bs' clk', .cells 72 [.mp 0]] := by
        intro k xs x hx
        exact Conv.ren [0, 1] xs (by omega) (by decide) (by rw [show [ABlk.map (em thA nV L') bs' clk', .cells 72 [.mp 0], x].length = 3 from rfl, hx]; exact Fit.refl _) (.same (by simp [ABlk.ren, ren_em]) (.same rfl .nil))
      rw [hm1]
      conv => whnf
      repeat ((first | refine AO.cons hT ?_ | refine AO.nil ?_ | refine AW.seq ?_ | refine AW.region ?_ | refine AW.cond ?_ | refine AW.block ?_ | refine AW.loop ?_ | refine AW.skip ?_ | refine AW.exit ?_ | refine AW.ret ?_ | refine AF.one hT rfl ?_ | refine AF.nil ?_ | refine AF.imm hT rfl rfl rfl ?_ | refine AH.of hT rfl ?_ | refine AD.cons hT rfl ?_ | refine AD.nil ?_ | refine AQ.cons hT rfl ?_ | refine AQ.nil ?_); conv => whnf)
      refine ASplit.dec (fun hneg => ?_) (fun hneg => ?_)
      · conv => whnf
        repeat ((first | refine AO.cons hT ?_ | refine AO.nil ?_ | refine AW.seq ?_ | refine AW.region ?_ | refine AW.cond ?_ | refine AW.block ?_ | refine AW.loop ?_ | refine AW.skip ?_ | refine AW.exit ?_ | refine AW.ret ?_ | refine AF.one hT rfl ?_ | refine AF.nil ?_ | refine AF.imm hT rfl rfl rfl ?_ | refine AH.of hT rfl ?_ | refine AD.cons hT rfl ?_ | refine AD.nil ?_ | refine AQ.cons hT rfl ?_ | refine AQ.nil ?_); conv => whnf)
        refine ACond.yes rfl ?_
        conv => whnf
        repeat ((first | refine AO.cons hT ?_ | refine AO.nil ?_ | refine AW.seq ?_ | refine AW.region ?_ | refine AW.cond ?_ | refine AW.block ?_ | refine AW.loop ?_ | refine AW.skip ?_ | refine AW.exit ?_ | refine AW.ret ?_ | refine AF.one hT rfl ?_ | refine AF.nil ?_ | refine AF.imm hT rfl rfl rfl ?_ | refine AH.of hT rfl ?_ | refine AD.cons hT rfl ?_ | refine AD.nil ?_ | refine AQ.cons hT rfl ?_ | refine AQ.nil ?_); conv => whnf)
        refine AOut.stay ?_
        refine AFin.to (.tup [.v (.map none), .v (.bool false)]) [] (Conv.ren [] _ (by simp) (by simp) (Fit.refl _) .nil) (.inr ⟨fun hg => by have := ((okAt_iff hil).1 (hg.2 i)).2; omega, rfl, rfl⟩)
      · conv => whnf
        repeat ((first | refine AO.cons hT ?_ | refine AO.nil ?_ | refine AW.seq ?_ | refine AW.region ?_ | refine AW.cond ?_ | refine AW.block ?_ | refine AW.loop ?_ | refine AW.skip ?_ | refine AW.exit ?_ | refine AW.ret ?_ | refine AF.one hT rfl ?_ | refine AF.nil ?_ | refine AF.imm hT rfl rfl rfl ?_ | refine AH.of hT rfl ?_ | refine AD.cons hT rfl ?_ | refine AD.nil ?_ | refine AQ.cons hT rfl ?_ | refine AQ.nil ?_); conv => whnf)
        refine ACond.dec (fun hbig => ?_) (fun hbig => ?_)
        · conv => whnf
          repeat ((first | refine AO.cons hT ?_ | refine AO.nil ?_ | refine AW.seq ?_ | refine AW.region ?_ | refine AW.cond ?_ | refine AW.block ?_ | refine AW.loop ?_ | refine AW.skip ?_ | refine AW.exit ?_ | refine AW.ret ?_ | refine AF.one hT rfl ?_ | refine AF.nil ?_ | refine AF.imm hT rfl rfl rfl ?_ | refine AH.of hT rfl ?_ | refine AD.cons hT rfl ?_ | refine AD.nil ?_ | refine AQ.cons hT rfl ?_ | refine AQ.nil ?_); conv => whnf)
          refine AOut.stay ?_
          refine AFin.to (.tup [.v (.map none), .v (.bool false)]) [] (Conv.ren [] _ (by simp) (by simp) (Fit.refl _) .nil) (.inr ⟨fun hg => by have := ((okAt_iff hil).1 (hg.2 i)).2; omega, rfl, rfl⟩)
        · conv => whnf
          repeat ((first | refine AO.cons hT ?_ | refine AO.nil ?_ | refine AW.seq ?_ | refine AW.region ?_ | refine AW.cond ?_ | refine AW.block ?_ | refine AW.loop ?_ | refine AW.skip ?_ | refine AW.exit ?_ | refine AW.ret ?_ | refine AF.one hT rfl ?_ | refine AF.nil ?_ | refine AF.imm hT rfl rfl rfl ?_ | refine AH.of hT rfl ?_ | refine AD.cons hT rfl ?_ | refine AD.nil ?_ | refine AQ.cons hT rfl ?_ | refine AQ.nil ?_); conv => whnf)
          rw [wrap_i64 ((i : Int) + 1) (by omega) (by omega)]
          refine AHead.mk (l.length - (i + 1)) _ _ (by omega) ⟨i + 1, L', bs', clk', by omega, hH', ?_, rfl, rfl, rfl⟩ (Conv.trans (Conv.fit ?_) (hdrop 0 _ _ ?_))
          · intro k hk
            rcases Nat.lt_or_ge k i with h1 | h1
            · exact hok k h1
            · obtain rfl : k = i := by omega
              exact (okAt_iff hil).2 ⟨hmo, by omega, by omega⟩
          · repeat' (first | exact Fit.nil | refine Fit.any ?_ | refine Fit.same ?_)
          · simp [renL, AV.ren, ren_mvs, nm, pad]
    · rw [mchk_no hmo]
      refine ACond.yes rfl ?_
      conv => whnf
      repeat ((first | refine AO.cons hT ?_ | refine AO.nil ?_ | refine AW.seq ?_ | refine AW.region ?_ | refine AW.cond ?_ | refine AW.block ?_ | refine AW.loop ?_ | refine AW.skip ?_ | refine AW.exit ?_ | refine AW.ret ?_ | refine AF.one hT rfl ?_ | refine AF.nil ?_ | refine AF.imm hT rfl rfl rfl ?_ | refine AH.of hT rfl ?_ | refine AD.cons hT rfl ?_ | refine AD.nil ?_ | refine AQ.cons hT rfl ?_ | refine AQ.nil ?_); conv => whnf)
      refine AOut.stay ?_
      refine AFin.to (.tup [.v (.map none), .v (.bool false)]) [] (Conv.ren [] _ (by simp) (by simp) (Fit.refl _) .nil) (.inr ⟨fun hg => hmo (hg.2 i hil).1, rfl, rfl⟩)
  · obtain rfl : i = l.length := by omega
    rw [List.take_length] at hH
    conv => whnf
    repeat ((first | refine AO.cons hT ?_ | refine AO.nil ?_ | refine AW.seq ?_ | refine AW.region ?_ | refine AW.cond ?_ | refine AW.block ?_ | refine AW.loop ?_ | refine AW.skip ?_ | refine AW.exit ?_ | refine AW.ret ?_ | refine AF.one hT rfl ?_ | refine AF.nil ?_ | refine AF.imm hT rfl rfl rfl ?_ | refine AH.of hT rfl ?_ | refine AD.cons hT rfl ?_ | refine AD.nil ?_ | refine AQ.cons hT rfl ?_ | refine AQ.nil ?_); conv => whnf)
    refine AOut.stay ?_
    conv => whnf
    repeat ((first | refine AO.cons hT ?_ | refine AO.nil ?_ | refine AW.seq ?_ | refine AW.region ?_ | refine AW.cond ?_ | refine AW.block ?_ | refine AW.loop ?_ | refine AW.skip ?_ | refine AW.exit ?_ | refine AW.ret ?_ | refine AF.one hT rfl ?_ | refine AF.nil ?_ | refine AF.imm hT rfl rfl rfl ?_ | refine AH.of hT rfl ?_ | refine AD.cons hT rfl ?_ | refine AD.nil ?_ | refine AQ.cons hT rfl ?_ | refine AQ.nil ?_); conv => whnf)
    refine AFin.to (.tup [.mp 0, .v (.bool true)]) [.map (em thA nV L) bs clk] (Conv.ren [0] _ (by simp) (by simp) (Fit.refl _) (.same (by simp [ABlk.ren, ren_em]) .nil)) (.inl ⟨⟨hlen, fun k hk => hok k hk hk⟩, L, bs, clk, hH, rfl, rfl⟩)
end Go.Aw.R1

set_option linter.unusedSimpArgs false
set_option linter.unusedVariables false
set_option maxHeartbeats 4000000
namespace Go.Aw.R1
open Go

theorem f25 (l : List Mv) (hl : l.length ≤ 4611686018427387904) : Fun P 25 [mvs l] (nV (chkF l)) := by
  refine spec_of hT (f := 25) (fn := Go.Proofs.Try.f25) (c := body Go.Proofs.Try.f25) (by kernel_rfl) (by kernel_rfl) ?_
  conv => whnf
  repeat ((first | refine AO.cons hT ?_ | refine AO.nil ?_ | refine AW.seq ?_ | refine AW.region ?_ | refine AW.cond ?_ | refine AW.block ?_ | refine AW.loop ?_ | refine AW.skip ?_ | refine AW.exit ?_ | refine AW.ret ?_ | refine AF.one hT rfl ?_ | refine AF.nil ?_ | refine AF.imm hT rfl rfl rfl ?_ | refine AH.of hT rfl ?_ | refine AD.cons hT rfl ?_ | refine AD.nil ?_ | refine AQ.cons hT rfl ?_ | refine AQ.nil ?_); conv => whnf)
  refine ACall.spec (by kernel_rfl) (f42 l hl) (by simp [renL, AV.ren, renL_mvs, mvs]) ?_
  rintro _ _ (⟨hg, L, bs, clk, hH, rfl, rfl⟩ | ⟨hg, rfl, rfl⟩)
  · conv => whnf
    repeat ((first | refine AO.cons hT ?_ | refine AO.nil ?_ | refine AW.seq ?_ | refine AW.region ?_ | refine AW.cond ?_ | refine AW.block ?_ | refine AW.loop ?_ | refine AW.skip ?_ | refine AW.exit ?_ | refine AW.ret ?_ | refine AF.one hT rfl ?_ | refine AF.nil ?_ | refine AF.imm hT rfl rfl rfl ?_ | refine AH.of hT rfl ?_ | refine AD.cons hT rfl ?_ | refine AD.nil ?_ | refine AQ.cons hT rfl ?_ | refine AQ.nil ?_); conv => whnf)
    refine ACond.no rfl ?_
    conv => whnf
    repeat ((first | refine AO.cons hT ?_ | refine AO.nil ?_ | refine AW.seq ?_ | refine AW.region ?_ | refine AW.cond ?_ | refine AW.block ?_ | refine AW.loop ?_ | refine AW.skip ?_ | refine AW.exit ?_ | refine AW.ret ?_ | refine AF.one hT rfl ?_ | refine AF.nil ?_ | refine AF.imm hT rfl rfl rfl ?_ | refine AH.of hT rfl ?_ | refine AD.cons hT rfl ?_ | refine AD.nil ?_ | refine AQ.cons hT rfl ?_ | refine AQ.nil ?_); conv => whnf)
    refine AFin.val rfl ⟨?_, rfl⟩
    rw [chkF_yes hg]; rfl
  · conv => whnf
    repeat ((first | refine AO.cons hT ?_ | refine AO.nil ?_ | refine AW.seq ?_ | refine AW.region ?_ | refine AW.cond ?_ | refine AW.block ?_ | refine AW.loop ?_ | refine AW.skip ?_ | refine AW.exit ?_ | refine AW.ret ?_ | refine AF.one hT rfl ?_ | refine AF.nil ?_ | refine AF.imm hT rfl rfl rfl ?_ | refine AH.of hT rfl ?_ | refine AD.cons hT rfl ?_ | refine AD.nil ?_ | refine AQ.cons hT rfl ?_ | refine AQ.nil ?_); conv => whnf)
    refine ACond.yes rfl ?_
    conv => whnf
    repeat ((first | refine AO.cons hT ?_ | refine AO.nil ?_ | refine AW.seq ?_ | refine AW.region ?_ | refine AW.cond ?_ | refine AW.block ?_ | refine AW.loop ?_ | refine AW.skip ?_ | refine AW.exit ?_ | refine AW.ret ?_ | refine AF.one hT rfl ?_ | refine AF.nil ?_ | refine AF.imm hT rfl rfl rfl ?_ | refine AH.of hT rfl ?_ | refine AD.cons hT rfl ?_ | refine AD.nil ?_ | refine AQ.cons hT rfl ?_ | refine AQ.nil ?_); conv => whnf)
    refine AFin.val rfl ⟨?_, rfl⟩
    rw [chkF_no hg]; rfl

open Classical in
noncomputable def ofF' (l : List Mv) (p : Bool) (i : Int) : Int := if good l then sumOf l p i else 0

theorem good_small {l : List Mv} (hg : good l) (p : Bool) (i : Int) : small l p i :=
  small_of l (by have := hg.1; omega) (fun m hm => by
    obtain ⟨j, hj, rfl⟩ := List.getElem_of_mem hm
    exact (hg.2 j hj).1) p i

theorem f33 (l : List Mv) (p : Bool) (i : Int) (hl : l.length ≤ 4611686018427387904) : Fun P 33 [mvs l, .v (.bool p), nV i] (nV (ofF' l p i)) := by
  refine spec_of hT (f := 33) (fn := Go.Proofs.Try.f33) (c := body Go.Proofs.Try.f33) (by kernel_rfl) (by kernel_rfl) ?_
  conv => whnf
  repeat ((first | refine AO.cons hT ?_ | refine AO.nil ?_ | refine AW.seq ?_ | refine AW.region ?_ | refine AW.cond ?_ | refine AW.block ?_ | refine AW.loop ?_ | refine AW.skip ?_ | refine AW.exit ?_ | refine AW.ret ?_ | refine AF.one hT rfl ?_ | refine AF.nil ?_ | refine AF.imm hT rfl rfl rfl ?_ | refine AH.of hT rfl ?_ | refine AD.cons hT rfl ?_ | refine AD.nil ?_ | refine AQ.cons hT rfl ?_ | refine AQ.nil ?_); conv => whnf)
  refine ACall.val (by kernel_rfl) (f26 l hl) (by simp [renL, AV.ren, renL_mvs, mvs, nV]) rfl ?_
  by_cases hg : good l
  · rw [chkF_yes hg]
    conv => whnf
    repeat ((first | refine AO.cons hT ?_ | refine AO.nil ?_ | refine AW.seq ?_ | refine AW.region ?_ | refine AW.cond ?_ | refine AW.block ?_ | refine AW.loop ?_ | refine AW.skip ?_ | refine AW.exit ?_ | refine AW.ret ?_ | refine AF.one hT rfl ?_ | refine AF.nil ?_ | refine AF.imm hT rfl rfl rfl ?_ | refine AH.of hT rfl ?_ | refine AD.cons hT rfl ?_ | refine AD.nil ?_ | refine AQ.cons hT rfl ?_ | refine AQ.nil ?_); conv => whnf)
    refine ACond.no rfl ?_
    conv => whnf
    repeat ((first | refine AO.cons hT ?_ | refine AO.nil ?_ | refine AW.seq ?_ | refine AW.region ?_ | refine AW.cond ?_ | refine AW.block ?_ | refine AW.loop ?_ | refine AW.skip ?_ | refine AW.exit ?_ | refine AW.ret ?_ | refine AF.one hT rfl ?_ | refine AF.nil ?_ | refine AF.imm hT rfl rfl rfl ?_ | refine AH.of hT rfl ?_ | refine AD.cons hT rfl ?_ | refine AD.nil ?_ | refine AQ.cons hT rfl ?_ | refine AQ.nil ?_); conv => whnf)
    refine ACall.val (by kernel_rfl) (f44 l p i hl (good_small hg p i)) (by simp [renL, AV.ren, renL_mvs, mvs, nV]) rfl ?_
    conv => whnf
    repeat ((first | refine AO.cons hT ?_ | refine AO.nil ?_ | refine AW.seq ?_ | refine AW.region ?_ | refine AW.cond ?_ | refine AW.block ?_ | refine AW.loop ?_ | refine AW.skip ?_ | refine AW.exit ?_ | refine AW.ret ?_ | refine AF.one hT rfl ?_ | refine AF.nil ?_ | refine AF.imm hT rfl rfl rfl ?_ | refine AH.of hT rfl ?_ | refine AD.cons hT rfl ?_ | refine AD.nil ?_ | refine AQ.cons hT rfl ?_ | refine AQ.nil ?_); conv => whnf)
    refine AFin.val rfl ⟨?_, rfl⟩
    rw [ofF', if_pos hg]; rfl
  · rw [chkF_no hg]
    conv => whnf
    repeat ((first | refine AO.cons hT ?_ | refine AO.nil ?_ | refine AW.seq ?_ | refine AW.region ?_ | refine AW.cond ?_ | refine AW.block ?_ | refine AW.loop ?_ | refine AW.skip ?_ | refine AW.exit ?_ | refine AW.ret ?_ | refine AF.one hT rfl ?_ | refine AF.nil ?_ | refine AF.imm hT rfl rfl rfl ?_ | refine AH.of hT rfl ?_ | refine AD.cons hT rfl ?_ | refine AD.nil ?_ | refine AQ.cons hT rfl ?_ | refine AQ.nil ?_); conv => whnf)
    refine ACond.yes rfl ?_
    conv => whnf
    repeat ((first | refine AO.cons hT ?_ | refine AO.nil ?_ | refine AW.seq ?_ | refine AW.region ?_ | refine AW.cond ?_ | refine AW.block ?_ | refine AW.loop ?_ | refine AW.skip ?_ | refine AW.exit ?_ | refine AW.ret ?_ | refine AF.one hT rfl ?_ | refine AF.nil ?_ | refine AF.imm hT rfl rfl rfl ?_ | refine AH.of hT rfl ?_ | refine AD.cons hT rfl ?_ | refine AD.nil ?_ | refine AQ.cons hT rfl ?_ | refine AQ.nil ?_); conv => whnf)
    refine AFin.val rfl ⟨?_, rfl⟩
    rw [ofF', if_neg hg]; rfl

theorem f32 (l : List Mv) (p : Bool) (i : Int) (hl : l.length ≤ 4611686018427387904) (hi : thOk (p, i)) : Fun P 32 [mvs l, .v (.bool p), nV i] (nV (ofF' l p i)) := by
  refine spec_of hT (f := 32) (fn := Go.Proofs.Try.f32) (c := body Go.Proofs.Try.f32) (by kernel_rfl) (by kernel_rfl) ?_
  conv => whnf
  repeat ((first | refine AO.cons hT ?_ | refine AO.nil ?_ | refine AW.seq ?_ | refine AW.region ?_ | refine AW.cond ?_ | refine AW.block ?_ | refine AW.loop ?_ | refine AW.skip ?_ | refine AW.exit ?_ | refine AW.ret ?_ | refine AF.one hT rfl ?_ | refine AF.nil ?_ | refine AF.imm hT rfl rfl rfl ?_ | refine AH.of hT rfl ?_ | refine AD.cons hT rfl ?_ | refine AD.nil ?_ | refine AQ.cons hT rfl ?_ | refine AQ.nil ?_); conv => whnf)
  refine ACall.spec (by kernel_rfl) (f42 l hl) (by simp [renL, AV.ren, renL_mvs, mvs]) ?_
  have hu : P.underlying 72 = some (.map 76 3) := by kernel_rfl
  have hne : (T 3).u ≠ .other := by simp [show (T 3).u = .int .i64 from rfl]
  rintro _ _ (⟨hg, L, bs, clk, hH, rfl, rfl⟩ | ⟨hg, rfl, rfl⟩)
  · simp only [List.map_cons, List.map_nil, ABlk.ren, ren_em]
    conv => whnf
    repeat ((first | refine AO.cons hT ?_ | refine AO.nil ?_ | refine AW.seq ?_ | refine AW.region ?_ | refine AW.cond ?_ | refine AW.block ?_ | refine AW.loop ?_ | refine AW.skip ?_ | refine AW.exit ?_ | refine AW.ret ?_ | refine AF.one hT rfl ?_ | refine AF.nil ?_ | refine AF.imm hT rfl rfl rfl ?_ | refine AH.of hT rfl ?_ | refine AD.cons hT rfl ?_ | refine AD.nil ?_ | refine AQ.cons hT rfl ?_ | refine AQ.nil ?_); conv => whnf)
    refine AOp.lookup (a := (p, i)) hT thK hu hne rfl rfl rfl hH.ok hi (fun hno => ?_) (fun j b hj => ?_)
    · conv => whnf
      repeat ((first | refine AO.cons hT ?_ | refine AO.nil ?_ | refine AW.seq ?_ | refine AW.region ?_ | refine AW.cond ?_ | refine AW.block ?_ | refine AW.loop ?_ | refine AW.skip ?_ | refine AW.exit ?_ | refine AW.ret ?_ | refine AF.one hT rfl ?_ | refine AF.nil ?_ | refine AF.imm hT rfl rfl rfl ?_ | refine AH.of hT rfl ?_ | refine AD.cons hT rfl ?_ | refine AD.nil ?_ | refine AQ.cons hT rfl ?_ | refine AQ.nil ?_); conv => whnf)
      refine AFin.val rfl ⟨?_, rfl⟩
      rw [ofF', if_pos hg, ← hH.sum (p, i), look_none hno]; rfl
    · conv => whnf
      repeat ((first | refine AO.cons hT ?_ | refine AO.nil ?_ | refine AW.seq ?_ | refine AW.region ?_ | refine AW.cond ?_ | refine AW.block ?_ | refine AW.loop ?_ | refine AW.skip ?_ | refine AW.exit ?_ | refine AW.ret ?_ | refine AF.one hT rfl ?_ | refine AF.nil ?_ | refine AF.imm hT rfl rfl rfl ?_ | refine AH.of hT rfl ?_ | refine AD.cons hT rfl ?_ | refine AD.nil ?_ | refine AQ.cons hT rfl ?_ | refine AQ.nil ?_); conv => whnf)
      refine AFin.val rfl ⟨?_, rfl⟩
      rw [ofF', if_pos hg, ← hH.sum (p, i), look_at hH.nd hj]; rfl
  · conv => whnf
    repeat ((first | refine AO.cons hT ?_ | refine AO.nil ?_ | refine AW.seq ?_ | refine AW.region ?_ | refine AW.cond ?_ | refine AW.block ?_ | refine AW.loop ?_ | refine AW.skip ?_ | refine AW.exit ?_ | refine AW.ret ?_ | refine AF.one hT rfl ?_ | refine AF.nil ?_ | refine AF.imm hT rfl rfl rfl ?_ | refine AH.of hT rfl ?_ | refine AD.cons hT rfl ?_ | refine AD.nil ?_ | refine AQ.cons hT rfl ?_ | refine AQ.nil ?_); conv => whnf)
    refine AOp.lookupNil (a := (p, i)) hT thK hu hne rfl rfl hi ?_
    conv => whnf
    repeat ((first | refine AO.cons hT ?_ | refine AO.nil ?_ | refine AW.seq ?_ | refine AW.region ?_ | refine AW.cond ?_ | refine AW.block ?_ | refine AW.loop ?_ | refine AW.skip ?_ | refine AW.exit ?_ | refine AW.ret ?_ | refine AF.one hT rfl ?_ | refine AF.nil ?_ | refine AF.imm hT rfl rfl rfl ?_ | refine AH.of hT rfl ?_ | refine AD.cons hT rfl ?_ | refine AD.nil ?_ | refine AQ.cons hT rfl ?_ | refine AQ.nil ?_); conv => whnf)
    refine AFin.val rfl ⟨?_, rfl⟩
    rw [ofF', if_neg hg]; rfl
end Go.Aw.R1

set_option linter.unusedSimpArgs false
set_option linter.unusedVariables false
set_option maxHeartbeats 4000000
namespace Go.Aw.R1
open Go

theorem flat_snoc (l : List Mv) (m : Mv) : (l ++ [m]).flatMap mvC = l.flatMap mvC ++ mvC m := by simp

theorem flat_one (l : List Mv) (m : Mv) : (l ++ [m]).flatMap mvC = l.flatMap mvC ++ [.v (.bool m.p), .v (.int .i64 m.i), .v (.int .i64 m.q)] := flat_snoc l m

theorem f43 (l : List Mv) (m : Mv) (hl : l.length ≤ 100000) : Spec P 43 [mvs l, nV l.length, .agg (mvC m)] [] fun r H => r = .tup [.ms 3 0 0 (l.length + 1), nV 0] ∧ H = [.cells 41 ((l ++ [m]).flatMap mvC)] := by
  refine spec_of hT (f := 43) (fn := Go.Proofs.Try.f43) (c := body Go.Proofs.Try.f43) (by kernel_rfl) (by kernel_rfl) ?_
  conv => whnf
  repeat ((first | refine AO.cons hT ?_ | refine AO.nil ?_ | refine AW.seq ?_ | refine AW.region ?_ | refine AW.cond ?_ | refine AW.block ?_ | refine AW.loop ?_ | refine AW.skip ?_ | refine AW.exit ?_ | refine AW.ret ?_ | refine AF.one hT rfl ?_ | refine AF.nil ?_ | refine AF.imm hT rfl rfl rfl ?_ | refine AH.of hT rfl ?_ | refine AD.cons hT rfl ?_ | refine AD.nil ?_ | refine AQ.cons hT rfl ?_ | refine AQ.nil ?_); conv => whnf)
  refine ASplit.no (by rw [decide_eq_false_iff_not]; omega) ?_
  conv => whnf
  repeat ((first | refine AO.cons hT ?_ | refine AO.nil ?_ | refine AW.seq ?_ | refine AW.region ?_ | refine AW.cond ?_ | refine AW.block ?_ | refine AW.loop ?_ | refine AW.skip ?_ | refine AW.exit ?_ | refine AW.ret ?_ | refine AF.one hT rfl ?_ | refine AF.nil ?_ | refine AF.imm hT rfl rfl rfl ?_ | refine AH.of hT rfl ?_ | refine AD.cons hT rfl ?_ | refine AD.nil ?_ | refine AQ.cons hT rfl ?_ | refine AQ.nil ?_); conv => whnf)
  refine ACond.no (by rw [decide_eq_false_iff_not]; omega) ?_
  conv => whnf
  repeat ((first | refine AO.cons hT ?_ | refine AO.nil ?_ | refine AW.seq ?_ | refine AW.region ?_ | refine AW.cond ?_ | refine AW.block ?_ | refine AW.loop ?_ | refine AW.skip ?_ | refine AW.exit ?_ | refine AW.ret ?_ | refine AF.one hT rfl ?_ | refine AF.nil ?_ | refine AF.imm hT rfl rfl rfl ?_ | refine AH.of hT rfl ?_ | refine AD.cons hT rfl ?_ | refine AD.nil ?_ | refine AQ.cons hT rfl ?_ | refine AQ.nil ?_); conv => whnf)
  refine AW.plan hm (.one 0 (.one 1 (.one 2 (.one 3 (.one 7 (.one 8 (.one 9 (.one 4 (.one 5 (.one 6 (.one 10 (.one 11 (.one 12 .nil))))))))))))) (by kernel_rfl) ?_
  conv => whnf
  repeat ((first | refine AO.cons hT ?_ | refine AO.nil ?_ | refine AW.seq ?_ | refine AW.region ?_ | refine AW.cond ?_ | refine AW.block ?_ | refine AW.loop ?_ | refine AW.skip ?_ | refine AW.exit ?_ | refine AW.ret ?_ | refine AF.one hT rfl ?_ | refine AF.nil ?_ | refine AF.imm hT rfl rfl rfl ?_ | refine AH.of hT rfl ?_ | refine AD.cons hT rfl ?_ | refine AD.nil ?_ | refine AQ.cons hT rfl ?_ | refine AQ.nil ?_); conv => whnf)
  refine AReq.mk (by omega) ?_
  conv => whnf
  repeat ((first | refine AO.cons hT ?_ | refine AO.nil ?_ | refine AW.seq ?_ | refine AW.region ?_ | refine AW.cond ?_ | refine AW.block ?_ | refine AW.loop ?_ | refine AW.skip ?_ | refine AW.exit ?_ | refine AW.ret ?_ | refine AF.one hT rfl ?_ | refine AF.nil ?_ | refine AF.imm hT rfl rfl rfl ?_ | refine AH.of hT rfl ?_ | refine AD.cons hT rfl ?_ | refine AD.nil ?_ | refine AQ.cons hT rfl ?_ | refine AQ.nil ?_); conv => whnf)
  refine AReq.mk (by omega) ?_
  conv => whnf
  repeat ((first | refine AO.cons hT ?_ | refine AO.nil ?_ | refine AW.seq ?_ | refine AW.region ?_ | refine AW.cond ?_ | refine AW.block ?_ | refine AW.loop ?_ | refine AW.skip ?_ | refine AW.exit ?_ | refine AW.ret ?_ | refine AF.one hT rfl ?_ | refine AF.nil ?_ | refine AF.imm hT rfl rfl rfl ?_ | refine AH.of hT rfl ?_ | refine AD.cons hT rfl ?_ | refine AD.nil ?_ | refine AQ.cons hT rfl ?_ | refine AQ.nil ?_); conv => whnf)
  have e1 : Int.toNat (l.length : Int) = l.length := by omega
  rw [e1]
  refine ACut.iff.2 ⟨by rw [mvs_len]; simp, ?_⟩
  have ec : List.take ((l.length - 0) * 3) (List.drop (0 * 3) (List.flatMap mvC l)) = l.flatMap mvC := by
    simp only [Nat.sub_zero, Nat.zero_mul, List.drop_zero]
    exact List.take_of_length_le (by rw [mvs_len]; exact Nat.le_refl _)
  rw [ec]
  conv => whnf
  repeat ((first | refine AO.cons hT ?_ | refine AO.nil ?_ | refine AW.seq ?_ | refine AW.region ?_ | refine AW.cond ?_ | refine AW.block ?_ | refine AW.loop ?_ | refine AW.skip ?_ | refine AW.exit ?_ | refine AW.ret ?_ | refine AF.one hT rfl ?_ | refine AF.nil ?_ | refine AF.imm hT rfl rfl rfl ?_ | refine AH.of hT rfl ?_ | refine AD.cons hT rfl ?_ | refine AD.nil ?_ | refine AQ.cons hT rfl ?_ | refine AQ.nil ?_); conv => whnf)
  refine AReq.mk (by omega) ?_
  conv => whnf
  repeat ((first | refine AO.cons hT ?_ | refine AO.nil ?_ | refine AW.seq ?_ | refine AW.region ?_ | refine AW.cond ?_ | refine AW.block ?_ | refine AW.loop ?_ | refine AW.skip ?_ | refine AW.exit ?_ | refine AW.ret ?_ | refine AF.one hT rfl ?_ | refine AF.nil ?_ | refine AF.imm hT rfl rfl rfl ?_ | refine AH.of hT rfl ?_ | refine AD.cons hT rfl ?_ | refine AD.nil ?_ | refine AQ.cons hT rfl ?_ | refine AQ.nil ?_); conv => whnf)
  rw [e1]
  refine ACut.iff.2 ⟨by rw [mvs_len]; omega, ?_⟩
  conv => whnf
  repeat ((first | refine AO.cons hT ?_ | refine AO.nil ?_ | refine AW.seq ?_ | refine AW.region ?_ | refine AW.cond ?_ | refine AW.block ?_ | refine AW.loop ?_ | refine AW.skip ?_ | refine AW.exit ?_ | refine AW.ret ?_ | refine AF.one hT rfl ?_ | refine AF.nil ?_ | refine AF.imm hT rfl rfl rfl ?_ | refine AH.of hT rfl ?_ | refine AD.cons hT rfl ?_ | refine AD.nil ?_ | refine AQ.cons hT rfl ?_ | refine AQ.nil ?_); conv => whnf)
  have eb : (T 41).bytes = 24 := rfl
  refine AReq.mk (by rw [eb]; omega) ?_
  refine ASplit.no (by decide) ?_
  conv => whnf
  repeat ((first | refine AO.cons hT ?_ | refine AO.nil ?_ | refine AW.seq ?_ | refine AW.region ?_ | refine AW.cond ?_ | refine AW.block ?_ | refine AW.loop ?_ | refine AW.skip ?_ | refine AW.exit ?_ | refine AW.ret ?_ | refine AF.one hT rfl ?_ | refine AF.nil ?_ | refine AF.imm hT rfl rfl rfl ?_ | refine AH.of hT rfl ?_ | refine AD.cons hT rfl ?_ | refine AD.nil ?_ | refine AQ.cons hT rfl ?_ | refine AQ.nil ?_); conv => whnf)
  refine AReq.mk ⟨by rw [List.length_append, mvs_len, show (T 41).size = 3 from rfl]; simp; omega, by rw [eb]; omega⟩ ?_
  conv => whnf
  repeat ((first | refine AO.cons hT ?_ | refine AO.nil ?_ | refine AW.seq ?_ | refine AW.region ?_ | refine AW.cond ?_ | refine AW.block ?_ | refine AW.loop ?_ | refine AW.skip ?_ | refine AW.exit ?_ | refine AW.ret ?_ | refine AF.one hT rfl ?_ | refine AF.nil ?_ | refine AF.imm hT rfl rfl rfl ?_ | refine AH.of hT rfl ?_ | refine AD.cons hT rfl ?_ | refine AD.nil ?_ | refine AQ.cons hT rfl ?_ | refine AQ.nil ?_); conv => whnf)
  rw [show l.length - 0 + 1 + (l.length - l.length) = l.length + 1 by omega, show (l.length - l.length) * 3 = 0 by omega, List.take_zero, List.append_nil, ← flat_one l m]
  refine AFin.to (.tup [.ms 3 0 0 (l.length + 1), nV 0]) [.cells 41 ((l ++ [m]).flatMap mvC)] (Conv.ren [2] _ (by simp) (by simp) (Fit.refl _) (.same (by simp only [ABlk.ren, renL_mvs]; rfl) .nil)) ⟨rfl, rfl⟩

open Classical in
noncomputable def addF (l : List Mv) (m : Mv) : Int :=
  if ¬ good l then 40 else if ¬ mok m then 2 else if l.length ≥ 1000 then 37 else if sumOf l m.p m.i + m.q < 0 then 34 else if sumOf l m.p m.i + m.q > 1000000 then 8 else 0

/-- what adding a movement leaves -/
def AddR (l : List Mv) (m : Mv) (r : AV) (H : List ABlk) : Prop :=
  (addF l m = 0 ∧ r = .tup [.ms 3 0 0 (l.length + 1), nV 0] ∧ H = [.cells 41 ((l ++ [m]).flatMap mvC)]) ∨ (addF l m ≠ 0 ∧ r = .tup [.v (.slice none 0 0), nV (addF l m)] ∧ H = [])

theorem AddR.err {l : List Mv} {m : Mv} {e : Int} (h : addF l m = e) (he : e ≠ 0) (H : List ABlk) : AFin 0 (.tup [.v (.slice none 0 0), nV e]) H (AddR l m) :=
  AFin.to (.tup [.v (.slice none 0 0), nV e]) [] (Conv.ren [] _ (by simp) (by simp) (Fit.refl _) .nil) (.inr ⟨by rw [h]; exact he, by rw [h], rfl⟩)

theorem good_sum {l : List Mv} (hg : good l) (p : Bool) (i : Int) : -1000000000 ≤ sumOf l p i ∧ sumOf l p i ≤ 1000000000 := by
  have h := sum_bound l p i l.length (Nat.le_refl _) (fun j hj _ => (hg.2 j hj).1)
  rw [List.take_length] at h
  have := hg.1
  omega

theorem mok_th {m : Mv} (h : mok m) : thOk (m.p, m.i) := by
  unfold mok at h
  simp [thOk, Lit.wf, IntKind.min, IntKind.max, IntKind.signed, IntKind.bits]
  omega

theorem f21 (l : List Mv) (m : Mv) (hl : l.length ≤ 4611686018427387904) : Spec P 21 [mvs l, .agg (mvC m)] [] (AddR l m) := by
  refine spec_of hT (f := 21) (fn := Go.Proofs.Try.f21) (c := body Go.Proofs.Try.f21) (by kernel_rfl) (by kernel_rfl) ?_
  conv => whnf
  repeat ((first | refine AO.cons hT ?_ | refine AO.nil ?_ | refine AW.seq ?_ | refine AW.region ?_ | refine AW.cond ?_ | refine AW.block ?_ | refine AW.loop ?_ | refine AW.skip ?_ | refine AW.exit ?_ | refine AW.ret ?_ | refine AF.one hT rfl ?_ | refine AF.nil ?_ | refine AF.imm hT rfl rfl rfl ?_ | refine AH.of hT rfl ?_ | refine AD.cons hT rfl ?_ | refine AD.nil ?_ | refine AQ.cons hT rfl ?_ | refine AQ.nil ?_); conv => whnf)
  refine ACall.spec (by kernel_rfl) (f42 l hl) (by simp [renL, AV.ren, renL_mvs, mvs]) ?_
  have hu : P.underlying 72 = some (.map 76 3) := by kernel_rfl
  have hne : (T 3).u ≠ .other := by simp [show (T 3).u = .int .i64 from rfl]
  rintro _ _ (⟨hg, L, bs, clk, hH, rfl, rfl⟩ | ⟨hg, rfl, rfl⟩)
  · simp only [List.map_cons, List.map_nil, ABlk.ren, ren_em]
    conv => whnf
    repeat ((first | refine AO.cons hT ?_ | refine AO.nil ?_ | refine AW.seq ?_ | refine AW.region ?_ | refine AW.cond ?_ | refine AW.block ?_ | refine AW.loop ?_ | refine AW.skip ?_ | refine AW.exit ?_ | refine AW.ret ?_ | refine AF.one hT rfl ?_ | refine AF.nil ?_ | refine AF.imm hT rfl rfl rfl ?_ | refine AH.of hT rfl ?_ | refine AD.cons hT rfl ?_ | refine AD.nil ?_ | refine AQ.cons hT rfl ?_ | refine AQ.nil ?_); conv => whnf)
    refine ACond.no rfl ?_
    conv => whnf
    repeat ((first | refine AO.cons hT ?_ | refine AO.nil ?_ | refine AW.seq ?_ | refine AW.region ?_ | refine AW.cond ?_ | refine AW.block ?_ | refine AW.loop ?_ | refine AW.skip ?_ | refine AW.exit ?_ | refine AW.ret ?_ | refine AF.one hT rfl ?_ | refine AF.nil ?_ | refine AF.imm hT rfl rfl rfl ?_ | refine AH.of hT rfl ?_ | refine AD.cons hT rfl ?_ | refine AD.nil ?_ | refine AQ.cons hT rfl ?_ | refine AQ.nil ?_); conv => whnf)
    refine ACall.val (by kernel_rfl) (f23 m) rfl rfl ?_
    by_cases hmo : mok m
    · rw [mchk_yes hmo]
      have hm' := hmo
      unfold mok at hm'
      have hgs := good_sum hg m.p m.i
      conv => whnf
      repeat ((first | refine AO.cons hT ?_ | refine AO.nil ?_ | refine AW.seq ?_ | refine AW.region ?_ | refine AW.cond ?_ | refine AW.block ?_ | refine AW.loop ?_ | refine AW.skip ?_ | refine AW.exit ?_ | refine AW.ret ?_ | refine AF.one hT rfl ?_ | refine AF.nil ?_ | refine AF.imm hT rfl rfl rfl ?_ | refine AH.of hT rfl ?_ | refine AD.cons hT rfl ?_ | refine AD.nil ?_ | refine AQ.cons hT rfl ?_ | refine AQ.nil ?_); conv => whnf)
      refine ACond.no rfl ?_
      conv => whnf
      repeat ((first | refine AO.cons hT ?_ | refine AO.nil ?_ | refine AW.seq ?_ | refine AW.region ?_ | refine AW.cond ?_ | refine AW.block ?_ | refine AW.loop ?_ | refine AW.skip ?_ | refine AW.exit ?_ | refine AW.ret ?_ | refine AF.one hT rfl ?_ | refine AF.nil ?_ | refine AF.imm hT rfl rfl rfl ?_ | refine AH.of hT rfl ?_ | refine AD.cons hT rfl ?_ | refine AD.nil ?_ | refine AQ.cons hT rfl ?_ | refine AQ.nil ?_); conv => whnf)
      refine AW.conv _ _ (Conv.freeze 0 rfl) ?_
      refine AW.plan hm (.one 0 (.one 1 (.one 3 (.one 7 (.one 2 (.one 4 (.one 5 (.imm 8 (.one 6 (.one 9 (.one 10 .nil))))))))))) (by kernel_rfl) ?_
      conv => whnf
      repeat ((first | refine AO.cons hT ?_ | refine AO.nil ?_ | refine AW.seq ?_ | refine AW.region ?_ | refine AW.cond ?_ | refine AW.block ?_ | refine AW.loop ?_ | refine AW.skip ?_ | refine AW.exit ?_ | refine AW.ret ?_ | refine AF.one hT rfl ?_ | refine AF.nil ?_ | refine AF.imm hT rfl rfl rfl ?_ | refine AH.of hT rfl ?_ | refine AD.cons hT rfl ?_ | refine AD.nil ?_ | refine AQ.cons hT rfl ?_ | refine AQ.nil ?_); conv => whnf)
      refine AOp.lookupV (a := (m.p, m.i)) (z := 0) (sumOf l m.p m.i) hT thK hu hne rfl rfl rfl rfl hH.ok (mok_th hmo) (fun hno => by rw [← hH.sum (m.p, m.i), look_none hno]) (fun j b hj => by rw [← hH.sum (m.p, m.i), look_at hH.nd hj]) ?_
      conv => whnf
      repeat ((first | refine AO.cons hT ?_ | refine AO.nil ?_ | refine AW.seq ?_ | refine AW.region ?_ | refine AW.cond ?_ | refine AW.block ?_ | refine AW.loop ?_ | refine AW.skip ?_ | refine AW.exit ?_ | refine AW.ret ?_ | refine AF.one hT rfl ?_ | refine AF.nil ?_ | refine AF.imm hT rfl rfl rfl ?_ | refine AH.of hT rfl ?_ | refine AD.cons hT rfl ?_ | refine AD.nil ?_ | refine AQ.cons hT rfl ?_ | refine AQ.nil ?_); conv => whnf)
      rw [wrap_i64 (sumOf l m.p m.i + m.q) (by omega) (by omega)]
      refine ACond.dec (fun h1 => ?_) (fun h1 => ?_)
      · conv => whnf
        repeat ((first | refine AO.cons hT ?_ | refine AO.nil ?_ | refine AW.seq ?_ | refine AW.region ?_ | refine AW.cond ?_ | refine AW.block ?_ | refine AW.loop ?_ | refine AW.skip ?_ | refine AW.exit ?_ | refine AW.ret ?_ | refine AF.one hT rfl ?_ | refine AF.nil ?_ | refine AF.imm hT rfl rfl rfl ?_ | refine AH.of hT rfl ?_ | refine AD.cons hT rfl ?_ | refine AD.nil ?_ | refine AQ.cons hT rfl ?_ | refine AQ.nil ?_); conv => whnf)
        exact AddR.err (by unfold addF; rw [if_neg (by simpa using hg), if_neg (by simpa using hmo), if_pos (by omega)]) (by decide) _
      conv => whnf
      repeat ((first | refine AO.cons hT ?_ | refine AO.nil ?_ | refine AW.seq ?_ | refine AW.region ?_ | refine AW.cond ?_ | refine AW.block ?_ | refine AW.loop ?_ | refine AW.skip ?_ | refine AW.exit ?_ | refine AW.ret ?_ | refine AF.one hT rfl ?_ | refine AF.nil ?_ | refine AF.imm hT rfl rfl rfl ?_ | refine AH.of hT rfl ?_ | refine AD.cons hT rfl ?_ | refine AD.nil ?_ | refine AQ.cons hT rfl ?_ | refine AQ.nil ?_); conv => whnf)
      refine ACond.dec (fun h2 => ?_) (fun h2 => ?_)
      · conv => whnf
        repeat ((first | refine AO.cons hT ?_ | refine AO.nil ?_ | refine AW.seq ?_ | refine AW.region ?_ | refine AW.cond ?_ | refine AW.block ?_ | refine AW.loop ?_ | refine AW.skip ?_ | refine AW.exit ?_ | refine AW.ret ?_ | refine AF.one hT rfl ?_ | refine AF.nil ?_ | refine AF.imm hT rfl rfl rfl ?_ | refine AH.of hT rfl ?_ | refine AD.cons hT rfl ?_ | refine AD.nil ?_ | refine AQ.cons hT rfl ?_ | refine AQ.nil ?_); conv => whnf)
        exact AddR.err (by unfold addF; rw [if_neg (by simpa using hg), if_neg (by simpa using hmo), if_neg (by omega), if_pos h2]) (by decide) _
      conv => whnf
      repeat ((first | refine AO.cons hT ?_ | refine AO.nil ?_ | refine AW.seq ?_ | refine AW.region ?_ | refine AW.cond ?_ | refine AW.block ?_ | refine AW.loop ?_ | refine AW.skip ?_ | refine AW.exit ?_ | refine AW.ret ?_ | refine AF.one hT rfl ?_ | refine AF.nil ?_ | refine AF.imm hT rfl rfl rfl ?_ | refine AH.of hT rfl ?_ | refine AD.cons hT rfl ?_ | refine AD.nil ?_ | refine AQ.cons hT rfl ?_ | refine AQ.nil ?_); conv => whnf)
      refine ACond.dec (fun h3 => ?_) (fun h3 => ?_)
      · conv => whnf
        repeat ((first | refine AO.cons hT ?_ | refine AO.nil ?_ | refine AW.seq ?_ | refine AW.region ?_ | refine AW.cond ?_ | refine AW.block ?_ | refine AW.loop ?_ | refine AW.skip ?_ | refine AW.exit ?_ | refine AW.ret ?_ | refine AF.one hT rfl ?_ | refine AF.nil ?_ | refine AF.imm hT rfl rfl rfl ?_ | refine AH.of hT rfl ?_ | refine AD.cons hT rfl ?_ | refine AD.nil ?_ | refine AQ.cons hT rfl ?_ | refine AQ.nil ?_); conv => whnf)
        exact AddR.err (by unfold addF; rw [if_neg (by simpa using hg), if_neg (by simpa using hmo), if_neg (by omega), if_neg h2, if_pos h3]) (by decide) _
      conv => whnf
      repeat ((first | refine AO.cons hT ?_ | refine AO.nil ?_ | refine AW.seq ?_ | refine AW.region ?_ | refine AW.cond ?_ | refine AW.block ?_ | refine AW.loop ?_ | refine AW.skip ?_ | refine AW.exit ?_ | refine AW.ret ?_ | refine AF.one hT rfl ?_ | refine AF.nil ?_ | refine AF.imm hT rfl rfl rfl ?_ | refine AH.of hT rfl ?_ | refine AD.cons hT rfl ?_ | refine AD.nil ?_ | refine AQ.cons hT rfl ?_ | refine AQ.nil ?_); conv => whnf)
      refine ACall.spec (by kernel_rfl) (f43 l m (by omega)) (by simp [renL, AV.ren, renL_mvs, mvs, mvC, nV]) ?_
      rintro _ _ ⟨rfl, rfl⟩
      conv => whnf
      repeat ((first | refine AO.cons hT ?_ | refine AO.nil ?_ | refine AW.seq ?_ | refine AW.region ?_ | refine AW.cond ?_ | refine AW.block ?_ | refine AW.loop ?_ | refine AW.skip ?_ | refine AW.exit ?_ | refine AW.ret ?_ | refine AF.one hT rfl ?_ | refine AF.nil ?_ | refine AF.imm hT rfl rfl rfl ?_ | refine AH.of hT rfl ?_ | refine AD.cons hT rfl ?_ | refine AD.nil ?_ | refine AQ.cons hT rfl ?_ | refine AQ.nil ?_); conv => whnf)
      have hz : addF l m = 0 := by unfold addF; rw [if_neg (by simpa using hg), if_neg (by simpa using hmo), if_neg (by omega), if_neg h2, if_neg h3]
      refine AFin.to (.tup [.ms 3 0 0 (l.length + 1), nV 0]) [.cells 41 ((l ++ [m]).flatMap mvC)] (Conv.ren [2] _ (by simp) (by simp) (Fit.refl _) (.same (by show some (ABlk.cells 41 (renL _ _)) = some (ABlk.cells 41 (renL _ _)); rw [renL_mvs, renL_mvs]) .nil)) (.inl ⟨hz, rfl, rfl⟩)
    · rw [mchk_no hmo]
      conv => whnf
      repeat ((first | refine AO.cons hT ?_ | refine AO.nil ?_ | refine AW.seq ?_ | refine AW.region ?_ | refine AW.cond ?_ | refine AW.block ?_ | refine AW.loop ?_ | refine AW.skip ?_ | refine AW.exit ?_ | refine AW.ret ?_ | refine AF.one hT rfl ?_ | refine AF.nil ?_ | refine AF.imm hT rfl rfl rfl ?_ | refine AH.of hT rfl ?_ | refine AD.cons hT rfl ?_ | refine AD.nil ?_ | refine AQ.cons hT rfl ?_ | refine AQ.nil ?_); conv => whnf)
      refine ACond.yes rfl ?_
      conv => whnf
      repeat ((first | refine AO.cons hT ?_ | refine AO.nil ?_ | refine AW.seq ?_ | refine AW.region ?_ | refine AW.cond ?_ | refine AW.block ?_ | refine AW.loop ?_ | refine AW.skip ?_ | refine AW.exit ?_ | refine AW.ret ?_ | refine AF.one hT rfl ?_ | refine AF.nil ?_ | refine AF.imm hT rfl rfl rfl ?_ | refine AH.of hT rfl ?_ | refine AD.cons hT rfl ?_ | refine AD.nil ?_ | refine AQ.cons hT rfl ?_ | refine AQ.nil ?_); conv => whnf)
      exact AddR.err (by unfold addF; rw [if_neg (by simpa using hg), if_pos hmo]) (by decide) _
  · conv => whnf
    repeat ((first | refine AO.cons hT ?_ | refine AO.nil ?_ | refine AW.seq ?_ | refine AW.region ?_ | refine AW.cond ?_ | refine AW.block ?_ | refine AW.loop ?_ | refine AW.skip ?_ | refine AW.exit ?_ | refine AW.ret ?_ | refine AF.one hT rfl ?_ | refine AF.nil ?_ | refine AF.imm hT rfl rfl rfl ?_ | refine AH.of hT rfl ?_ | refine AD.cons hT rfl ?_ | refine AD.nil ?_ | refine AQ.cons hT rfl ?_ | refine AQ.nil ?_); conv => whnf)
    refine ACond.yes rfl ?_
    conv => whnf
    repeat ((first | refine AO.cons hT ?_ | refine AO.nil ?_ | refine AW.seq ?_ | refine AW.region ?_ | refine AW.cond ?_ | refine AW.block ?_ | refine AW.loop ?_ | refine AW.skip ?_ | refine AW.exit ?_ | refine AW.ret ?_ | refine AF.one hT rfl ?_ | refine AF.nil ?_ | refine AF.imm hT rfl rfl rfl ?_ | refine AH.of hT rfl ?_ | refine AD.cons hT rfl ?_ | refine AD.nil ?_ | refine AQ.cons hT rfl ?_ | refine AQ.nil ?_); conv => whnf)
    exact AddR.err (by unfold addF; rw [if_pos hg]) (by decide) _

theorem f22 (l : List Mv) (m : Mv) (hl : l.length ≤ 4611686018427387904) : Spec P 22 [mvs l, .agg (mvC m)] [] (AddR l m) := by
  refine spec_of hT (f := 22) (fn := Go.Proofs.Try.f22) (c := body Go.Proofs.Try.f22) (by kernel_rfl) (by kernel_rfl) ?_
  conv => whnf
  repeat ((first | refine AO.cons hT ?_ | refine AO.nil ?_ | refine AW.seq ?_ | refine AW.region ?_ | refine AW.cond ?_ | refine AW.block ?_ | refine AW.loop ?_ | refine AW.skip ?_ | refine AW.exit ?_ | refine AW.ret ?_ | refine AF.one hT rfl ?_ | refine AF.nil ?_ | refine AF.imm hT rfl rfl rfl ?_ | refine AH.of hT rfl ?_ | refine AD.cons hT rfl ?_ | refine AD.nil ?_ | refine AQ.cons hT rfl ?_ | refine AQ.nil ?_); conv => whnf)
  refine ACall.val (by kernel_rfl) (f26 l hl) (by simp [renL, AV.ren, renL_mvs, mvs]) rfl ?_
  by_cases hg : good l
  · rw [chkF_yes hg]
    conv => whnf
    repeat ((first | refine AO.cons hT ?_ | refine AO.nil ?_ | refine AW.seq ?_ | refine AW.region ?_ | refine AW.cond ?_ | refine AW.block ?_ | refine AW.loop ?_ | refine AW.skip ?_ | refine AW.exit ?_ | refine AW.ret ?_ | refine AF.one hT rfl ?_ | refine AF.nil ?_ | refine AF.imm hT rfl rfl rfl ?_ | refine AH.of hT rfl ?_ | refine AD.cons hT rfl ?_ | refine AD.nil ?_ | refine AQ.cons hT rfl ?_ | refine AQ.nil ?_); conv => whnf)
    refine ACond.no rfl ?_
    conv => whnf
    repeat ((first | refine AO.cons hT ?_ | refine AO.nil ?_ | refine AW.seq ?_ | refine AW.region ?_ | refine AW.cond ?_ | refine AW.block ?_ | refine AW.loop ?_ | refine AW.skip ?_ | refine AW.exit ?_ | refine AW.ret ?_ | refine AF.one hT rfl ?_ | refine AF.nil ?_ | refine AF.imm hT rfl rfl rfl ?_ | refine AH.of hT rfl ?_ | refine AD.cons hT rfl ?_ | refine AD.nil ?_ | refine AQ.cons hT rfl ?_ | refine AQ.nil ?_); conv => whnf)
    refine ACall.val (by kernel_rfl) (f24 m) rfl rfl ?_
    by_cases hmo : mok m
    · rw [mchk_yes hmo]
      have hm' := hmo
      unfold mok at hm'
      have hgs := good_sum hg m.p m.i
      have hlen := hg.1
      conv => whnf
      repeat ((first | refine AO.cons hT ?_ | refine AO.nil ?_ | refine AW.seq ?_ | refine AW.region ?_ | refine AW.cond ?_ | refine AW.block ?_ | refine AW.loop ?_ | refine AW.skip ?_ | refine AW.exit ?_ | refine AW.ret ?_ | refine AF.one hT rfl ?_ | refine AF.nil ?_ | refine AF.imm hT rfl rfl rfl ?_ | refine AH.of hT rfl ?_ | refine AD.cons hT rfl ?_ | refine AD.nil ?_ | refine AQ.cons hT rfl ?_ | refine AQ.nil ?_); conv => whnf)
      refine ACond.no rfl ?_
      conv => whnf
      repeat ((first | refine AO.cons hT ?_ | refine AO.nil ?_ | refine AW.seq ?_ | refine AW.region ?_ | refine AW.cond ?_ | refine AW.block ?_ | refine AW.loop ?_ | refine AW.skip ?_ | refine AW.exit ?_ | refine AW.ret ?_ | refine AF.one hT rfl ?_ | refine AF.nil ?_ | refine AF.imm hT rfl rfl rfl ?_ | refine AH.of hT rfl ?_ | refine AD.cons hT rfl ?_ | refine AD.nil ?_ | refine AQ.cons hT rfl ?_ | refine AQ.nil ?_); conv => whnf)
      refine ACond.dec (fun h1 => ?_) (fun h1 => ?_)
      · conv => whnf
        repeat ((first | refine AO.cons hT ?_ | refine AO.nil ?_ | refine AW.seq ?_ | refine AW.region ?_ | refine AW.cond ?_ | refine AW.block ?_ | refine AW.loop ?_ | refine AW.skip ?_ | refine AW.exit ?_ | refine AW.ret ?_ | refine AF.one hT rfl ?_ | refine AF.nil ?_ | refine AF.imm hT rfl rfl rfl ?_ | refine AH.of hT rfl ?_ | refine AD.cons hT rfl ?_ | refine AD.nil ?_ | refine AQ.cons hT rfl ?_ | refine AQ.nil ?_); conv => whnf)
        exact AddR.err (by unfold addF; rw [if_neg (by simpa using hg), if_neg (by simpa using hmo), if_pos (by omega)]) (by decide) _
      conv => whnf
      repeat ((first | refine AO.cons hT ?_ | refine AO.nil ?_ | refine AW.seq ?_ | refine AW.region ?_ | refine AW.cond ?_ | refine AW.block ?_ | refine AW.loop ?_ | refine AW.skip ?_ | refine AW.exit ?_ | refine AW.ret ?_ | refine AF.one hT rfl ?_ | refine AF.nil ?_ | refine AF.imm hT rfl rfl rfl ?_ | refine AH.of hT rfl ?_ | refine AD.cons hT rfl ?_ | refine AD.nil ?_ | refine AQ.cons hT rfl ?_ | refine AQ.nil ?_); conv => whnf)
      refine AW.conv _ _ (Conv.freeze 0 rfl) ?_
      refine AW.plan hm (.one 0 (.one 1 (.one 3 (.one 6 (.one 2 (.one 4 (.imm 7 (.one 5 (.one 8 (.one 9 .nil)))))))))) (by kernel_rfl) ?_
      conv => whnf
      repeat ((first | refine AO.cons hT ?_ | refine AO.nil ?_ | refine AW.seq ?_ | refine AW.region ?_ | refine AW.cond ?_ | refine AW.block ?_ | refine AW.loop ?_ | refine AW.skip ?_ | refine AW.exit ?_ | refine AW.ret ?_ | refine AF.one hT rfl ?_ | refine AF.nil ?_ | refine AF.imm hT rfl rfl rfl ?_ | refine AH.of hT rfl ?_ | refine AD.cons hT rfl ?_ | refine AD.nil ?_ | refine AQ.cons hT rfl ?_ | refine AQ.nil ?_); conv => whnf)
      refine ACall.val (by kernel_rfl) (f44 l m.p m.i hl (good_small hg m.p m.i)) (by simp [renL, AV.ren, renL_mvs, mvs, nV]) rfl ?_
      conv => whnf
      repeat ((first | refine AO.cons hT ?_ | refine AO.nil ?_ | refine AW.seq ?_ | refine AW.region ?_ | refine AW.cond ?_ | refine AW.block ?_ | refine AW.loop ?_ | refine AW.skip ?_ | refine AW.exit ?_ | refine AW.ret ?_ | refine AF.one hT rfl ?_ | refine AF.nil ?_ | refine AF.imm hT rfl rfl rfl ?_ | refine AH.of hT rfl ?_ | refine AD.cons hT rfl ?_ | refine AD.nil ?_ | refine AQ.cons hT rfl ?_ | refine AQ.nil ?_); conv => whnf)
      rw [wrap_i64 (sumOf l m.p m.i + m.q) (by omega) (by omega)]
      refine ACond.dec (fun h2 => ?_) (fun h2 => ?_)
      · conv => whnf
        repeat ((first | refine AO.cons hT ?_ | refine AO.nil ?_ | refine AW.seq ?_ | refine AW.region ?_ | refine AW.cond ?_ | refine AW.block ?_ | refine AW.loop ?_ | refine AW.skip ?_ | refine AW.exit ?_ | refine AW.ret ?_ | refine AF.one hT rfl ?_ | refine AF.nil ?_ | refine AF.imm hT rfl rfl rfl ?_ | refine AH.of hT rfl ?_ | refine AD.cons hT rfl ?_ | refine AD.nil ?_ | refine AQ.cons hT rfl ?_ | refine AQ.nil ?_); conv => whnf)
        exact AddR.err (by unfold addF; rw [if_neg (by simpa using hg), if_neg (by simpa using hmo), if_neg (by omega), if_pos h2]) (by decide) _
      conv => whnf
      repeat ((first | refine AO.cons hT ?_ | refine AO.nil ?_ | refine AW.seq ?_ | refine AW.region ?_ | refine AW.cond ?_ | refine AW.block ?_ | refine AW.loop ?_ | refine AW.skip ?_ | refine AW.exit ?_ | refine AW.ret ?_ | refine AF.one hT rfl ?_ | refine AF.nil ?_ | refine AF.imm hT rfl rfl rfl ?_ | refine AH.of hT rfl ?_ | refine AD.cons hT rfl ?_ | refine AD.nil ?_ | refine AQ.cons hT rfl ?_ | refine AQ.nil ?_); conv => whnf)
      refine ACond.dec (fun h3 => ?_) (fun h3 => ?_)
      · conv => whnf
        repeat ((first | refine AO.cons hT ?_ | refine AO.nil ?_ | refine AW.seq ?_ | refine AW.region ?_ | refine AW.cond ?_ | refine AW.block ?_ | refine AW.loop ?_ | refine AW.skip ?_ | refine AW.exit ?_ | refine AW.ret ?_ | refine AF.one hT rfl ?_ | refine AF.nil ?_ | refine AF.imm hT rfl rfl rfl ?_ | refine AH.of hT rfl ?_ | refine AD.cons hT rfl ?_ | refine AD.nil ?_ | refine AQ.cons hT rfl ?_ | refine AQ.nil ?_); conv => whnf)
        exact AddR.err (by unfold addF; rw [if_neg (by simpa using hg), if_neg (by simpa using hmo), if_neg (by omega), if_neg h2, if_pos h3]) (by decide) _
      have hz : addF l m = 0 := by unfold addF; rw [if_neg (by simpa using hg), if_neg (by simpa using hmo), if_neg (by omega), if_neg h2, if_neg h3]
      have eb : (T 41).bytes = 24 := rfl
      conv => whnf
      repeat ((first | refine AO.cons hT ?_ | refine AO.nil ?_ | refine AW.seq ?_ | refine AW.region ?_ | refine AW.cond ?_ | refine AW.block ?_ | refine AW.loop ?_ | refine AW.skip ?_ | refine AW.exit ?_ | refine AW.ret ?_ | refine AF.one hT rfl ?_ | refine AF.nil ?_ | refine AF.imm hT rfl rfl rfl ?_ | refine AH.of hT rfl ?_ | refine AD.cons hT rfl ?_ | refine AD.nil ?_ | refine AQ.cons hT rfl ?_ | refine AQ.nil ?_); conv => whnf)
      refine AW.plan hm (.one 1 (.imm 3 (.fork 0 (.fork 2 (.one 4 .nil) 4 (.one 2 .nil) .nil) 4 (.one 0 (.one 2 .nil)) (.one 5 (.one 6 (.one 7 .nil)))))) (by kernel_rfl) ?_
      conv => whnf
      repeat ((first | refine AO.cons hT ?_ | refine AO.nil ?_ | refine AW.seq ?_ | refine AW.region ?_ | refine AW.cond ?_ | refine AW.block ?_ | refine AW.loop ?_ | refine AW.skip ?_ | refine AW.exit ?_ | refine AW.ret ?_ | refine AF.one hT rfl ?_ | refine AF.nil ?_ | refine AF.imm hT rfl rfl rfl ?_ | refine AH.of hT rfl ?_ | refine AD.cons hT rfl ?_ | refine AD.nil ?_ | refine AQ.cons hT rfl ?_ | refine AQ.nil ?_); conv => whnf)
      by_cases hl0 : l.length = 0
      · have hnil : l = [] := List.eq_nil_of_length_eq_zero hl0
        apply AF.meet
        · conv => whnf
          repeat ((first | refine AO.cons hT ?_ | refine AO.nil ?_ | refine AW.seq ?_ | refine AW.region ?_ | refine AW.cond ?_ | refine AW.block ?_ | refine AW.loop ?_ | refine AW.skip ?_ | refine AW.exit ?_ | refine AW.ret ?_ | refine AF.one hT rfl ?_ | refine AF.nil ?_ | refine AF.imm hT rfl rfl rfl ?_ | refine AH.of hT rfl ?_ | refine AD.cons hT rfl ?_ | refine AD.nil ?_ | refine AQ.cons hT rfl ?_ | refine AQ.nil ?_); conv => whnf)
          apply AF.meet
          · conv => whnf
            repeat ((first | refine AO.cons hT ?_ | refine AO.nil ?_ | refine AW.seq ?_ | refine AW.region ?_ | refine AW.cond ?_ | refine AW.block ?_ | refine AW.loop ?_ | refine AW.skip ?_ | refine AW.exit ?_ | refine AW.ret ?_ | refine AF.one hT rfl ?_ | refine AF.nil ?_ | refine AF.imm hT rfl rfl rfl ?_ | refine AH.of hT rfl ?_ | refine AD.cons hT rfl ?_ | refine AD.nil ?_ | refine AQ.cons hT rfl ?_ | refine AQ.nil ?_); conv => whnf)
            refine AReq.mk (by rw [eb]; omega) ?_
            refine ASplit.yes (by rw [decide_eq_true_iff]; omega) ?_
            conv => whnf
            repeat ((first | refine AO.cons hT ?_ | refine AO.nil ?_ | refine AW.seq ?_ | refine AW.region ?_ | refine AW.cond ?_ | refine AW.block ?_ | refine AW.loop ?_ | refine AW.skip ?_ | refine AW.exit ?_ | refine AW.ret ?_ | refine AF.one hT rfl ?_ | refine AF.nil ?_ | refine AF.imm hT rfl rfl rfl ?_ | refine AH.of hT rfl ?_ | refine AD.cons hT rfl ?_ | refine AD.nil ?_ | refine AQ.cons hT rfl ?_ | refine AQ.nil ?_); conv => whnf)
            exact ⟨rfl, rfl, rfl⟩
          · conv => whnf
            repeat ((first | refine AO.cons hT ?_ | refine AO.nil ?_ | refine AW.seq ?_ | refine AW.region ?_ | refine AW.cond ?_ | refine AW.block ?_ | refine AW.loop ?_ | refine AW.skip ?_ | refine AW.exit ?_ | refine AW.ret ?_ | refine AF.one hT rfl ?_ | refine AF.nil ?_ | refine AF.imm hT rfl rfl rfl ?_ | refine AH.of hT rfl ?_ | refine AD.cons hT rfl ?_ | refine AD.nil ?_ | refine AQ.cons hT rfl ?_ | refine AQ.nil ?_); conv => whnf)
            refine AReq.mk (by rw [eb]; omega) ?_
            refine ASplit.yes (by rw [decide_eq_true_iff]; omega) ?_
            conv => whnf
            repeat ((first | refine AO.cons hT ?_ | refine AO.nil ?_ | refine AW.seq ?_ | refine AW.region ?_ | refine AW.cond ?_ | refine AW.block ?_ | refine AW.loop ?_ | refine AW.skip ?_ | refine AW.exit ?_ | refine AW.ret ?_ | refine AF.one hT rfl ?_ | refine AF.nil ?_ | refine AF.imm hT rfl rfl rfl ?_ | refine AH.of hT rfl ?_ | refine AD.cons hT rfl ?_ | refine AD.nil ?_ | refine AQ.cons hT rfl ?_ | refine AQ.nil ?_); conv => whnf)
            exact ⟨rfl, rfl, rfl⟩
          · conv => whnf
            repeat ((first | refine AO.cons hT ?_ | refine AO.nil ?_ | refine AW.seq ?_ | refine AW.region ?_ | refine AW.cond ?_ | refine AW.block ?_ | refine AW.loop ?_ | refine AW.skip ?_ | refine AW.exit ?_ | refine AW.ret ?_ | refine AF.one hT rfl ?_ | refine AF.nil ?_ | refine AF.imm hT rfl rfl rfl ?_ | refine AH.of hT rfl ?_ | refine AD.cons hT rfl ?_ | refine AD.nil ?_ | refine AQ.cons hT rfl ?_ | refine AQ.nil ?_); conv => whnf)
            exact ⟨rfl, rfl, rfl⟩
        · conv => whnf
          repeat ((first | refine AO.cons hT ?_ | refine AO.nil ?_ | refine AW.seq ?_ | refine AW.region ?_ | refine AW.cond ?_ | refine AW.block ?_ | refine AW.loop ?_ | refine AW.skip ?_ | refine AW.exit ?_ | refine AW.ret ?_ | refine AF.one hT rfl ?_ | refine AF.nil ?_ | refine AF.imm hT rfl rfl rfl ?_ | refine AH.of hT rfl ?_ | refine AD.cons hT rfl ?_ | refine AD.nil ?_ | refine AQ.cons hT rfl ?_ | refine AQ.nil ?_); conv => whnf)
          refine AReq.mk (by rw [eb]; omega) ?_
          refine ASplit.yes (by rw [decide_eq_true_iff]; omega) ?_
          conv => whnf
          repeat ((first | refine AO.cons hT ?_ | refine AO.nil ?_ | refine AW.seq ?_ | refine AW.region ?_ | refine AW.cond ?_ | refine AW.block ?_ | refine AW.loop ?_ | refine AW.skip ?_ | refine AW.exit ?_ | refine AW.ret ?_ | refine AF.one hT rfl ?_ | refine AF.nil ?_ | refine AF.imm hT rfl rfl rfl ?_ | refine AH.of hT rfl ?_ | refine AD.cons hT rfl ?_ | refine AD.nil ?_ | refine AQ.cons hT rfl ?_ | refine AQ.nil ?_); conv => whnf)
          exact ⟨rfl, rfl, rfl⟩
        · conv => whnf
          repeat ((first | refine AO.cons hT ?_ | refine AO.nil ?_ | refine AW.seq ?_ | refine AW.region ?_ | refine AW.cond ?_ | refine AW.block ?_ | refine AW.loop ?_ | refine AW.skip ?_ | refine AW.exit ?_ | refine AW.ret ?_ | refine AF.one hT rfl ?_ | refine AF.nil ?_ | refine AF.imm hT rfl rfl rfl ?_ | refine AH.of hT rfl ?_ | refine AD.cons hT rfl ?_ | refine AD.nil ?_ | refine AQ.cons hT rfl ?_ | refine AQ.nil ?_); conv => whnf)
          refine AReq.mk (by rw [eb]; omega) ?_
          refine ASplit.no (by decide) ?_
          conv => whnf
          repeat ((first | refine AO.cons hT ?_ | refine AO.nil ?_ | refine AW.seq ?_ | refine AW.region ?_ | refine AW.cond ?_ | refine AW.block ?_ | refine AW.loop ?_ | refine AW.skip ?_ | refine AW.exit ?_ | refine AW.ret ?_ | refine AF.one hT rfl ?_ | refine AF.nil ?_ | refine AF.imm hT rfl rfl rfl ?_ | refine AH.of hT rfl ?_ | refine AD.cons hT rfl ?_ | refine AD.nil ?_ | refine AQ.cons hT rfl ?_ | refine AQ.nil ?_); conv => whnf)
          subst hnil
          exact AFin.to (.tup [.ms 3 0 0 1, nV 0]) [.cells 41 (mvC m)] (Conv.ren [1] _ (by simp) (by simp) (Fit.refl _) (.same rfl .nil)) (.inl ⟨hz, rfl, rfl⟩)
      · skip
        apply AF.meet
        · conv => whnf
          repeat ((first | refine AO.cons hT ?_ | refine AO.nil ?_ | refine AW.seq ?_ | refine AW.region ?_ | refine AW.cond ?_ | refine AW.block ?_ | refine AW.loop ?_ | refine AW.skip ?_ | refine AW.exit ?_ | refine AW.ret ?_ | refine AF.one hT rfl ?_ | refine AF.nil ?_ | refine AF.imm hT rfl rfl rfl ?_ | refine AH.of hT rfl ?_ | refine AD.cons hT rfl ?_ | refine AD.nil ?_ | refine AQ.cons hT rfl ?_ | refine AQ.nil ?_); conv => whnf)
          apply AF.meet
          · conv => whnf
            repeat ((first | refine AO.cons hT ?_ | refine AO.nil ?_ | refine AW.seq ?_ | refine AW.region ?_ | refine AW.cond ?_ | refine AW.block ?_ | refine AW.loop ?_ | refine AW.skip ?_ | refine AW.exit ?_ | refine AW.ret ?_ | refine AF.one hT rfl ?_ | refine AF.nil ?_ | refine AF.imm hT rfl rfl rfl ?_ | refine AH.of hT rfl ?_ | refine AD.cons hT rfl ?_ | refine AD.nil ?_ | refine AQ.cons hT rfl ?_ | refine AQ.nil ?_); conv => whnf)
            refine AReq.mk (by rw [eb]; omega) ?_
            refine ASplit.no (by rw [decide_eq_false_iff_not]; omega) ?_
            conv => whnf
            repeat ((first | refine AO.cons hT ?_ | refine AO.nil ?_ | refine AW.seq ?_ | refine AW.region ?_ | refine AW.cond ?_ | refine AW.block ?_ | refine AW.loop ?_ | refine AW.skip ?_ | refine AW.exit ?_ | refine AW.ret ?_ | refine AF.one hT rfl ?_ | refine AF.nil ?_ | refine AF.imm hT rfl rfl rfl ?_ | refine AH.of hT rfl ?_ | refine AD.cons hT rfl ?_ | refine AD.nil ?_ | refine AQ.cons hT rfl ?_ | refine AQ.nil ?_); conv => whnf)
            exact ⟨rfl, rfl, rfl⟩
          · conv => whnf
            repeat ((first | refine AO.cons hT ?_ | refine AO.nil ?_ | refine AW.seq ?_ | refine AW.region ?_ | refine AW.cond ?_ | refine AW.block ?_ | refine AW.loop ?_ | refine AW.skip ?_ | refine AW.exit ?_ | refine AW.ret ?_ | refine AF.one hT rfl ?_ | refine AF.nil ?_ | refine AF.imm hT rfl rfl rfl ?_ | refine AH.of hT rfl ?_ | refine AD.cons hT rfl ?_ | refine AD.nil ?_ | refine AQ.cons hT rfl ?_ | refine AQ.nil ?_); conv => whnf)
            refine AReq.mk (by rw [eb]; omega) ?_
            refine ASplit.no (by rw [decide_eq_false_iff_not]; omega) ?_
            conv => whnf
            repeat ((first | refine AO.cons hT ?_ | refine AO.nil ?_ | refine AW.seq ?_ | refine AW.region ?_ | refine AW.cond ?_ | refine AW.block ?_ | refine AW.loop ?_ | refine AW.skip ?_ | refine AW.exit ?_ | refine AW.ret ?_ | refine AF.one hT rfl ?_ | refine AF.nil ?_ | refine AF.imm hT rfl rfl rfl ?_ | refine AH.of hT rfl ?_ | refine AD.cons hT rfl ?_ | refine AD.nil ?_ | refine AQ.cons hT rfl ?_ | refine AQ.nil ?_); conv => whnf)
            exact ⟨rfl, rfl, rfl⟩
          · conv => whnf
            repeat ((first | refine AO.cons hT ?_ | refine AO.nil ?_ | refine AW.seq ?_ | refine AW.region ?_ | refine AW.cond ?_ | refine AW.block ?_ | refine AW.loop ?_ | refine AW.skip ?_ | refine AW.exit ?_ | refine AW.ret ?_ | refine AF.one hT rfl ?_ | refine AF.nil ?_ | refine AF.imm hT rfl rfl rfl ?_ | refine AH.of hT rfl ?_ | refine AD.cons hT rfl ?_ | refine AD.nil ?_ | refine AQ.cons hT rfl ?_ | refine AQ.nil ?_); conv => whnf)
            exact ⟨rfl, rfl, rfl⟩
        · conv => whnf
          repeat ((first | refine AO.cons hT ?_ | refine AO.nil ?_ | refine AW.seq ?_ | refine AW.region ?_ | refine AW.cond ?_ | refine AW.block ?_ | refine AW.loop ?_ | refine AW.skip ?_ | refine AW.exit ?_ | refine AW.ret ?_ | refine AF.one hT rfl ?_ | refine AF.nil ?_ | refine AF.imm hT rfl rfl rfl ?_ | refine AH.of hT rfl ?_ | refine AD.cons hT rfl ?_ | refine AD.nil ?_ | refine AQ.cons hT rfl ?_ | refine AQ.nil ?_); conv => whnf)
          refine AReq.mk (by rw [eb]; omega) ?_
          refine ASplit.no (by rw [decide_eq_false_iff_not]; omega) ?_
          conv => whnf
          repeat ((first | refine AO.cons hT ?_ | refine AO.nil ?_ | refine AW.seq ?_ | refine AW.region ?_ | refine AW.cond ?_ | refine AW.block ?_ | refine AW.loop ?_ | refine AW.skip ?_ | refine AW.exit ?_ | refine AW.ret ?_ | refine AF.one hT rfl ?_ | refine AF.nil ?_ | refine AF.imm hT rfl rfl rfl ?_ | refine AH.of hT rfl ?_ | refine AD.cons hT rfl ?_ | refine AD.nil ?_ | refine AQ.cons hT rfl ?_ | refine AQ.nil ?_); conv => whnf)
          exact ⟨rfl, rfl, rfl⟩
        · conv => whnf
          repeat ((first | refine AO.cons hT ?_ | refine AO.nil ?_ | refine AW.seq ?_ | refine AW.region ?_ | refine AW.cond ?_ | refine AW.block ?_ | refine AW.loop ?_ | refine AW.skip ?_ | refine AW.exit ?_ | refine AW.ret ?_ | refine AF.one hT rfl ?_ | refine AF.nil ?_ | refine AF.imm hT rfl rfl rfl ?_ | refine AH.of hT rfl ?_ | refine AD.cons hT rfl ?_ | refine AD.nil ?_ | refine AQ.cons hT rfl ?_ | refine AQ.nil ?_); conv => whnf)
          refine AReq.mk ⟨by rw [List.nil_append, mvs_len, show (T 41).size = 3 from rfl]; omega, by rw [eb]; omega⟩ ?_
          conv => whnf
          repeat ((first | refine AO.cons hT ?_ | refine AO.nil ?_ | refine AW.seq ?_ | refine AW.region ?_ | refine AW.cond ?_ | refine AW.block ?_ | refine AW.loop ?_ | refine AW.skip ?_ | refine AW.exit ?_ | refine AW.ret ?_ | refine AF.one hT rfl ?_ | refine AF.nil ?_ | refine AF.imm hT rfl rfl rfl ?_ | refine AH.of hT rfl ?_ | refine AD.cons hT rfl ?_ | refine AD.nil ?_ | refine AQ.cons hT rfl ?_ | refine AQ.nil ?_); conv => whnf)
          rw [List.nil_append, ← flat_one l m, show 0 + l.length + 1 = l.length + 1 by omega]
          refine AFin.to (.tup [.ms 3 0 0 (l.length + 1), nV 0]) [.cells 41 ((l ++ [m]).flatMap mvC)] (Conv.ren [2] _ (by simp) (by simp) (Fit.refl _) (.same (by show some (ABlk.cells 41 _) = some (ABlk.cells 41 (renL _ _)); rw [renL_mvs]) .nil)) (.inl ⟨hz, rfl, rfl⟩)
    · rw [mchk_no hmo]
      conv => whnf
      repeat ((first | refine AO.cons hT ?_ | refine AO.nil ?_ | refine AW.seq ?_ | refine AW.region ?_ | refine AW.cond ?_ | refine AW.block ?_ | refine AW.loop ?_ | refine AW.skip ?_ | refine AW.exit ?_ | refine AW.ret ?_ | refine AF.one hT rfl ?_ | refine AF.nil ?_ | refine AF.imm hT rfl rfl rfl ?_ | refine AH.of hT rfl ?_ | refine AD.cons hT rfl ?_ | refine AD.nil ?_ | refine AQ.cons hT rfl ?_ | refine AQ.nil ?_); conv => whnf)
      refine ACond.yes rfl ?_
      conv => whnf
      repeat ((first | refine AO.cons hT ?_ | refine AO.nil ?_ | refine AW.seq ?_ | refine AW.region ?_ | refine AW.cond ?_ | refine AW.block ?_ | refine AW.loop ?_ | refine AW.skip ?_ | refine AW.exit ?_ | refine AW.ret ?_ | refine AF.one hT rfl ?_ | refine AF.nil ?_ | refine AF.imm hT rfl rfl rfl ?_ | refine AH.of hT rfl ?_ | refine AD.cons hT rfl ?_ | refine AD.nil ?_ | refine AQ.cons hT rfl ?_ | refine AQ.nil ?_); conv => whnf)
      exact AddR.err (by unfold addF; rw [if_neg (by simpa using hg), if_pos hmo]) (by decide) _
  · rw [chkF_no hg]
    conv => whnf
    repeat ((first | refine AO.cons hT ?_ | refine AO.nil ?_ | refine AW.seq ?_ | refine AW.region ?_ | refine AW.cond ?_ | refine AW.block ?_ | refine AW.loop ?_ | refine AW.skip ?_ | refine AW.exit ?_ | refine AW.ret ?_ | refine AF.one hT rfl ?_ | refine AF.nil ?_ | refine AF.imm hT rfl rfl rfl ?_ | refine AH.of hT rfl ?_ | refine AD.cons hT rfl ?_ | refine AD.nil ?_ | refine AQ.cons hT rfl ?_ | refine AQ.nil ?_); conv => whnf)
    refine ACond.yes rfl ?_
    conv => whnf
    repeat ((first | refine AO.cons hT ?_ | refine AO.nil ?_ | refine AW.seq ?_ | refine AW.region ?_ | refine AW.cond ?_ | refine AW.block ?_ | refine AW.loop ?_ | refine AW.skip ?_ | refine AW.exit ?_ | refine AW.ret ?_ | refine AF.one hT rfl ?_ | refine AF.nil ?_ | refine AF.imm hT rfl rfl rfl ?_ | refine AH.of hT rfl ?_ | refine AD.cons hT rfl ?_ | refine AD.nil ?_ | refine AQ.cons hT rfl ?_ | refine AQ.nil ?_); conv => whnf)
    exact AddR.err (by unfold addF; rw [if_pos hg]) (by decide) _
end Go.Aw.R1

