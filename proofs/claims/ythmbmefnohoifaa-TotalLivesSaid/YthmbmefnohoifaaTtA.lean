/-
  The statement TotalLives: a row that is not dead decides on some facts, without any condition.
-/
import Derived.Test.YthmbmefnohoifaaAwG
import Derived.Test.YthmbmefnohoifaaProg
import Derived.KernelRfl
set_option linter.unusedSimpArgs false
set_option linter.unusedVariables false
/-
  The types of this cut, in short.
-/
set_option linter.unusedSimpArgs false
set_option linter.unusedVariables false
namespace Go.Aw.T1
open Go

noncomputable def tbl : List (Nat × TI) := [(1, ⟨.fn, 1, 8, .v .nilFunc⟩),
  (2, ⟨.int .i64, 1, 8, .v (.int .i64 0)⟩),
  (3, ⟨.int .i64, 1, 8, .v (.int .i64 0)⟩),
  (4, ⟨.bool, 1, 1, .v (.bool false)⟩),
  (5, ⟨.int .u8, 1, 1, .v (.int .u8 0)⟩),
  (9, ⟨.str, 1, 16, .v (.string ⟨#[]⟩)⟩),
  (12, ⟨.int .u64, 1, 8, .v (.int .u64 0)⟩),
  (21, ⟨.int .i32, 1, 4, .v (.int .i32 0)⟩),
  (22, ⟨.slice 3, 1, 24, .v (.slice none 0 0)⟩),
  (23, ⟨.slice 52, 1, 24, .v (.slice none 0 0)⟩),
  (24, ⟨.struct [(0, false, 1), (1, false, 1), (2, false, 1), (3, false, 1)], 4, 96, .agg [.v (.slice none 0 0), .v (.slice none 0 0), .v (.slice none 0 0), .v (.slice none 0 0)]⟩),
  (25, ⟨.struct [(0, false, 1), (1, false, 1), (2, false, 1), (3, false, 1)], 4, 96, .agg [.v (.slice none 0 0), .v (.slice none 0 0), .v (.slice none 0 0), .v (.slice none 0 0)]⟩),
  (26, ⟨.fn, 1, 8, .v .nilFunc⟩),
  (27, ⟨.struct [(0, false, 1), (1, false, 1), (2, false, 1)], 3, 24, .agg [.v (.int .i64 0), .v (.bool false), .v (.int .i64 0)]⟩),
  (28, ⟨.struct [(0, false, 1), (1, false, 1), (2, false, 1)], 3, 24, .agg [.v (.int .i64 0), .v (.bool false), .v (.int .i64 0)]⟩),
  (30, ⟨.fn, 1, 8, .v .nilFunc⟩),
  (31, ⟨.struct [(0, false, 1), (1, false, 1), (2, false, 1)], 3, 24, .agg [.v (.int .i64 0), .v (.bool false), .v (.int .i64 0)]⟩),
  (33, ⟨.fn, 1, 8, .v .nilFunc⟩),
  (34, ⟨.arr 8 3, 8, 64, .agg (List.replicate 8 (.v (.int .i64 0)))⟩),
  (35, ⟨.int .i64, 1, 8, .v (.int .i64 0)⟩),
  (37, ⟨.fn, 1, 8, .v .nilFunc⟩),
  (39, ⟨.fn, 1, 8, .v .nilFunc⟩),
  (40, ⟨.fn, 1, 8, .v .nilFunc⟩),
  (41, ⟨.fn, 1, 8, .v .nilFunc⟩),
  (42, ⟨.fn, 1, 8, .v .nilFunc⟩),
  (43, ⟨.fn, 1, 8, .v .nilFunc⟩),
  (44, ⟨.fn, 1, 8, .v .nilFunc⟩),
  (45, ⟨.fn, 1, 8, .v .nilFunc⟩),
  (46, ⟨.fn, 1, 8, .v .nilFunc⟩),
  (48, ⟨.fn, 1, 8, .v .nilFunc⟩),
  (49, ⟨.fn, 1, 8, .v .nilFunc⟩),
  (50, ⟨.fn, 1, 8, .v .nilFunc⟩),
  (51, ⟨.struct [(0, false, 1), (1, false, 1), (2, false, 1), (3, false, 1), (4, false, 1)], 5, 40, .agg [.v (.int .i64 0), .v (.int .i64 0), .v (.int .i64 0), .v (.int .i64 0), .v (.int .i64 0)]⟩),
  (52, ⟨.struct [(0, false, 1), (1, false, 1), (2, false, 1), (3, false, 1), (4, false, 1)], 5, 40, .agg [.v (.int .i64 0), .v (.int .i64 0), .v (.int .i64 0), .v (.int .i64 0), .v (.int .i64 0)]⟩),
  (53, ⟨.arr 40 4, 40, 40, .agg (List.replicate 40 (.v (.bool false)))⟩),
  (54, ⟨.fn, 1, 8, .v .nilFunc⟩),
  (55, ⟨.slice 61, 1, 24, .v (.slice none 0 0)⟩),
  (56, ⟨.arr 8 55, 8, 192, .agg (List.replicate 8 (.v (.slice none 0 0)))⟩),
  (57, ⟨.fn, 1, 8, .v .nilFunc⟩),
  (59, ⟨.fn, 1, 8, .v .nilFunc⟩),
  (60, ⟨.struct [(0, false, 1), (1, false, 1)], 2, 16, .agg [.v (.int .i64 0), .v (.int .i64 0)]⟩),
  (61, ⟨.struct [(0, false, 1), (1, false, 1)], 2, 16, .agg [.v (.int .i64 0), .v (.int .i64 0)]⟩),
  (62, ⟨.fn, 1, 8, .v .nilFunc⟩),
  (63, ⟨.fn, 1, 8, .v .nilFunc⟩),
  (64, ⟨.fn, 1, 8, .v .nilFunc⟩),
  (65, ⟨.fn, 1, 8, .v .nilFunc⟩),
  (66, ⟨.fn, 1, 8, .v .nilFunc⟩),
  (67, ⟨.fn, 1, 8, .v .nilFunc⟩),
  (68, ⟨.fn, 1, 8, .v .nilFunc⟩),
  (69, ⟨.fn, 1, 8, .v .nilFunc⟩),
  (70, ⟨.fn, 1, 8, .v .nilFunc⟩),
  (71, ⟨.fn, 1, 8, .v .nilFunc⟩),
  (72, ⟨.struct [(0, false, 1), (1, false, 1), (2, false, 1), (3, false, 1), (4, false, 1)], 5, 40, .agg [.v (.int .i64 0), .v (.int .i64 0), .v (.int .i64 0), .v (.int .i64 0), .v (.int .i64 0)]⟩),
  (73, ⟨.fn, 1, 8, .v .nilFunc⟩),
  (74, ⟨.fn, 1, 8, .v .nilFunc⟩),
  (75, ⟨.fn, 1, 8, .v .nilFunc⟩),
  (76, ⟨.fn, 1, 8, .v .nilFunc⟩),
  (77, ⟨.fn, 1, 8, .v .nilFunc⟩),
  (78, ⟨.fn, 1, 8, .v .nilFunc⟩),
  (79, ⟨.fn, 1, 8, .v .nilFunc⟩),
  (80, ⟨.fn, 1, 8, .v .nilFunc⟩),
  (81, ⟨.slice 26, 1, 24, .v (.slice none 0 0)⟩),
  (82, ⟨.fn, 1, 8, .v .nilFunc⟩),
  (83, ⟨.fn, 1, 8, .v .nilFunc⟩),
  (84, ⟨.int .u64, 1, 8, .v (.int .u64 0)⟩),
  (85, ⟨.fn, 1, 8, .v .nilFunc⟩),
  (86, ⟨.int .i64, 1, 8, .v (.int .i64 0)⟩),
  (88, ⟨.fn, 1, 8, .v .nilFunc⟩),
  (89, ⟨.fn, 1, 8, .v .nilFunc⟩),
  (90, ⟨.fn, 1, 8, .v .nilFunc⟩),
  (91, ⟨.fn, 1, 8, .v .nilFunc⟩),
  (92, ⟨.fn, 1, 8, .v .nilFunc⟩),
  (93, ⟨.int .u32, 1, 4, .v (.int .u32 0)⟩),
  (94, ⟨.fn, 1, 8, .v .nilFunc⟩),
  (95, ⟨.int .u64, 1, 8, .v (.int .u64 0)⟩),
  (96, ⟨.int .u64, 1, 8, .v (.int .u64 0)⟩),
  (97, ⟨.fn, 1, 8, .v .nilFunc⟩),
  (98, ⟨.fn, 1, 8, .v .nilFunc⟩),
  (99, ⟨.fn, 1, 8, .v .nilFunc⟩),
  (100, ⟨.ptr 3, 1, 8, .v (.pointer none)⟩),
  (101, ⟨.fn, 1, 8, .v .nilFunc⟩),
  (102, ⟨.ptr 96, 1, 8, .v (.pointer none)⟩),
  (104, ⟨.fn, 1, 8, .v .nilFunc⟩),
  (105, ⟨.fn, 1, 8, .v .nilFunc⟩),
  (111, ⟨.fn, 1, 8, .v .nilFunc⟩),
  (114, ⟨.fn, 1, 8, .v .nilFunc⟩),
  (115, ⟨.ptr 5, 1, 8, .v (.pointer none)⟩)]

noncomputable abbrev P : Program := Go.Proofs.Try.prog
noncomputable abbrev T : Nat → TI := tab tbl
theorem hT : TOk P T := tok_of P tbl (by kernel_rfl)
theorem hm : P.follows .mixedOrders = true := by kernel_rfl
noncomputable def body (f : Func) : Code := match f.body with | some c => c | none => .skip
end Go.Aw.T1

set_option linter.unusedSimpArgs false
set_option linter.unusedVariables false
set_option maxHeartbeats 1000000
namespace Go.Aw.T1
open Go Go.Proofs

abbrev nV (n : Int) : AV := .v (.int .i64 n)
abbrev bV (b : Bool) : AV := .v (.bool b)
structure Ro where
  g : Int
  w : Int
  lo : Int
  hi : Int
  way : Int
def roC (r : Ro) : List AV := [nV r.g, nV r.w, nV r.lo, nV r.hi, nV r.way]
theorem roC_len (r : Ro) : (roC r).length = 5 := rfl
theorem ros_ren (ρ : Nat → Nat) (l : List Ro) : renL ρ (l.flatMap roC) = l.flatMap roC := by
  induction l with
  | nil => rfl
  | cons a l ih => rw [List.flatMap_cons, renL_append, ih]; rfl
def roV (l : List Ro) : AV := .vs 5 l.length (l.flatMap roC)
theorem roV_ren (ρ : Nat → Nat) (l : List Ro) : (roV l).ren ρ = roV l := by simp only [roV, AV.ren, ros_ren]
theorem roV1 (ρ : Nat → Nat) (l : List Ro) : renL ρ [roV l] = [roV l] := by show [(roV l).ren ρ] = _; rw [roV_ren]
structure Fc where
  g : Int
  w : Bool
  a : Int
def fcC (f : Fc) : List AV := [nV f.g, bV f.w, nV f.a]
abbrev roA (r : Ro) : AV := .agg (roC r)
abbrev fcA (f : Fc) : AV := .agg (fcC f)

theorem Fit.eq {x x' : AV} {xs xs' : List AV} (e : x' = x) (h : Fit xs xs') : Fit (x :: xs) (x' :: xs') := by
  rw [e]; exact .same h

theorem nb1 {b : Bool} (h : (!b) = true) : b = false := by cases b <;> first | rfl | cases h
theorem nb0 {b : Bool} (h : (!b) = false) : b = true := by cases b <;> first | rfl | cases h
def rowB (r : Ro) : Bool := decide (1 ≤ r.g) && decide (r.g < 16) && decide (1 ≤ r.w) && decide (r.w ≤ 3) && (decide (0 ≤ r.lo) && decide (r.lo ≤ r.hi) && decide (r.hi ≤ 1000000000000)) && (decide (1 ≤ r.way) && decide (r.way ≤ 5))
theorem f48 (r : Ro) : Fun P 48 [roA r] (bV (decide (1 ≤ r.g) && decide (r.g < 16) && decide (1 ≤ r.w) && decide (r.w ≤ 3))) := by
  refine spec_of hT (f := 48) (fn := Go.Proofs.Try.f48) (c := body Go.Proofs.Try.f48) (by kernel_rfl) (by kernel_rfl) ?_
  conv => whnf
  repeat ((first | refine AO.cons hT ?_ | refine AO.nil ?_ | refine AW.seq ?_ | refine AW.region ?_ | refine AW.cond ?_ | refine AW.block ?_ | refine AW.loop ?_ | refine AW.skip ?_ | refine AW.exit ?_ | refine AW.ret ?_ | refine AW.label ?_ | refine AW.scope ?_ | refine AF.one hT rfl ?_ | refine AF.nil ?_ | refine AF.imm hT rfl rfl rfl ?_ | refine AH.of hT rfl ?_ | refine AD.cons hT rfl ?_ | refine AD.nil ?_ | refine AQ.cons hT rfl ?_ | refine AQ.nil ?_); conv => whnf)
  refine ASplit.dec (fun h1 => ?_) (fun h1 => ?_)
  · rw [decide_eq_true h1]
    conv => whnf
    repeat ((first | refine AO.cons hT ?_ | refine AO.nil ?_ | refine AW.seq ?_ | refine AW.region ?_ | refine AW.cond ?_ | refine AW.block ?_ | refine AW.loop ?_ | refine AW.skip ?_ | refine AW.exit ?_ | refine AW.ret ?_ | refine AW.label ?_ | refine AW.scope ?_ | refine AF.one hT rfl ?_ | refine AF.nil ?_ | refine AF.imm hT rfl rfl rfl ?_ | refine AH.of hT rfl ?_ | refine AD.cons hT rfl ?_ | refine AD.nil ?_ | refine AQ.cons hT rfl ?_ | refine AQ.nil ?_); conv => whnf)
    refine ASplit.dec (fun h2 => ?_) (fun h2 => ?_)
    · rw [decide_eq_true h2]
      conv => whnf
      repeat ((first | refine AO.cons hT ?_ | refine AO.nil ?_ | refine AW.seq ?_ | refine AW.region ?_ | refine AW.cond ?_ | refine AW.block ?_ | refine AW.loop ?_ | refine AW.skip ?_ | refine AW.exit ?_ | refine AW.ret ?_ | refine AW.label ?_ | refine AW.scope ?_ | refine AF.one hT rfl ?_ | refine AF.nil ?_ | refine AF.imm hT rfl rfl rfl ?_ | refine AH.of hT rfl ?_ | refine AD.cons hT rfl ?_ | refine AD.nil ?_ | refine AQ.cons hT rfl ?_ | refine AQ.nil ?_); conv => whnf)
      refine ASplit.dec (fun h3 => ?_) (fun h3 => ?_)
      · rw [decide_eq_true h3]
        conv => whnf
        repeat ((first | refine AO.cons hT ?_ | refine AO.nil ?_ | refine AW.seq ?_ | refine AW.region ?_ | refine AW.cond ?_ | refine AW.block ?_ | refine AW.loop ?_ | refine AW.skip ?_ | refine AW.exit ?_ | refine AW.ret ?_ | refine AW.label ?_ | refine AW.scope ?_ | refine AF.one hT rfl ?_ | refine AF.nil ?_ | refine AF.imm hT rfl rfl rfl ?_ | refine AH.of hT rfl ?_ | refine AD.cons hT rfl ?_ | refine AD.nil ?_ | refine AQ.cons hT rfl ?_ | refine AQ.nil ?_); conv => whnf)
        exact AFin.val rfl ⟨rfl, rfl⟩
      · rw [decide_eq_false h3]
        conv => whnf
        repeat (first | (refine AW.label ?_; conv => whnf) | (refine AW.scope ?_; conv => whnf) | (refine AO.cons hT ?_; conv => whnf) | (refine AO.nil ?_; conv => whnf) | (refine AW.seq ?_; conv => whnf) | (refine AW.region ?_; conv => whnf) | (refine AW.cond ?_; conv => whnf) | (refine AW.block ?_; conv => whnf) | (refine AW.loop ?_; conv => whnf) | (refine AW.skip ?_; conv => whnf) | (refine AW.exit ?_; conv => whnf) | (refine AW.ret ?_; conv => whnf) | (refine AF.one hT rfl ?_; conv => whnf) | (refine AF.nil ?_; conv => whnf) | (refine AF.imm hT rfl rfl rfl ?_; conv => whnf) | (refine AH.of hT rfl ?_; conv => whnf) | (refine ASplit.yes rfl ?_; conv => whnf) | (refine ACond.yes rfl ?_; conv => whnf) | (refine ASplit.no rfl ?_; conv => whnf) | (refine ACond.no rfl ?_; conv => whnf) | (refine ASplit.yes (by decide) ?_; conv => whnf) | (refine ACond.yes (by decide) ?_; conv => whnf) | (refine AReq.mk (by decide) ?_; conv => whnf) | (refine AIdx.iff.2 ⟨by decide, ?_⟩; conv => whnf))
        exact AFin.val rfl ⟨rfl, rfl⟩
    · rw [decide_eq_false h2]
      conv => whnf
      repeat (first | (refine AW.label ?_; conv => whnf) | (refine AW.scope ?_; conv => whnf) | (refine AO.cons hT ?_; conv => whnf) | (refine AO.nil ?_; conv => whnf) | (refine AW.seq ?_; conv => whnf) | (refine AW.region ?_; conv => whnf) | (refine AW.cond ?_; conv => whnf) | (refine AW.block ?_; conv => whnf) | (refine AW.loop ?_; conv => whnf) | (refine AW.skip ?_; conv => whnf) | (refine AW.exit ?_; conv => whnf) | (refine AW.ret ?_; conv => whnf) | (refine AF.one hT rfl ?_; conv => whnf) | (refine AF.nil ?_; conv => whnf) | (refine AF.imm hT rfl rfl rfl ?_; conv => whnf) | (refine AH.of hT rfl ?_; conv => whnf) | (refine ASplit.yes rfl ?_; conv => whnf) | (refine ACond.yes rfl ?_; conv => whnf) | (refine ASplit.no rfl ?_; conv => whnf) | (refine ACond.no rfl ?_; conv => whnf) | (refine ASplit.yes (by decide) ?_; conv => whnf) | (refine ACond.yes (by decide) ?_; conv => whnf) | (refine AReq.mk (by decide) ?_; conv => whnf) | (refine AIdx.iff.2 ⟨by decide, ?_⟩; conv => whnf))
      exact AFin.val rfl ⟨rfl, rfl⟩
  · rw [decide_eq_false h1]
    conv => whnf
    repeat (first | (refine AW.label ?_; conv => whnf) | (refine AW.scope ?_; conv => whnf) | (refine AO.cons hT ?_; conv => whnf) | (refine AO.nil ?_; conv => whnf) | (refine AW.seq ?_; conv => whnf) | (refine AW.region ?_; conv => whnf) | (refine AW.cond ?_; conv => whnf) | (refine AW.block ?_; conv => whnf) | (refine AW.loop ?_; conv => whnf) | (refine AW.skip ?_; conv => whnf) | (refine AW.exit ?_; conv => whnf) | (refine AW.ret ?_; conv => whnf) | (refine AF.one hT rfl ?_; conv => whnf) | (refine AF.nil ?_; conv => whnf) | (refine AF.imm hT rfl rfl rfl ?_; conv => whnf) | (refine AH.of hT rfl ?_; conv => whnf) | (refine ASplit.yes rfl ?_; conv => whnf) | (refine ACond.yes rfl ?_; conv => whnf) | (refine ASplit.no rfl ?_; conv => whnf) | (refine ACond.no rfl ?_; conv => whnf) | (refine ASplit.yes (by decide) ?_; conv => whnf) | (refine ACond.yes (by decide) ?_; conv => whnf) | (refine AReq.mk (by decide) ?_; conv => whnf) | (refine AIdx.iff.2 ⟨by decide, ?_⟩; conv => whnf))
    exact AFin.val rfl ⟨rfl, rfl⟩
theorem f49 (r : Ro) : Fun P 49 [roA r] (bV (decide (0 ≤ r.lo) && decide (r.lo ≤ r.hi) && decide (r.hi ≤ 1000000000000))) := by
  refine spec_of hT (f := 49) (fn := Go.Proofs.Try.f49) (c := body Go.Proofs.Try.f49) (by kernel_rfl) (by kernel_rfl) ?_
  conv => whnf
  repeat ((first | refine AO.cons hT ?_ | refine AO.nil ?_ | refine AW.seq ?_ | refine AW.region ?_ | refine AW.cond ?_ | refine AW.block ?_ | refine AW.loop ?_ | refine AW.skip ?_ | refine AW.exit ?_ | refine AW.ret ?_ | refine AW.label ?_ | refine AW.scope ?_ | refine AF.one hT rfl ?_ | refine AF.nil ?_ | refine AF.imm hT rfl rfl rfl ?_ | refine AH.of hT rfl ?_ | refine AD.cons hT rfl ?_ | refine AD.nil ?_ | refine AQ.cons hT rfl ?_ | refine AQ.nil ?_); conv => whnf)
  refine ASplit.dec (fun h1 => ?_) (fun h1 => ?_)
  · rw [decide_eq_true h1]
    conv => whnf
    repeat ((first | refine AO.cons hT ?_ | refine AO.nil ?_ | refine AW.seq ?_ | refine AW.region ?_ | refine AW.cond ?_ | refine AW.block ?_ | refine AW.loop ?_ | refine AW.skip ?_ | refine AW.exit ?_ | refine AW.ret ?_ | refine AW.label ?_ | refine AW.scope ?_ | refine AF.one hT rfl ?_ | refine AF.nil ?_ | refine AF.imm hT rfl rfl rfl ?_ | refine AH.of hT rfl ?_ | refine AD.cons hT rfl ?_ | refine AD.nil ?_ | refine AQ.cons hT rfl ?_ | refine AQ.nil ?_); conv => whnf)
    refine ASplit.dec (fun h2 => ?_) (fun h2 => ?_)
    · rw [decide_eq_true h2]
      conv => whnf
      repeat ((first | refine AO.cons hT ?_ | refine AO.nil ?_ | refine AW.seq ?_ | refine AW.region ?_ | refine AW.cond ?_ | refine AW.block ?_ | refine AW.loop ?_ | refine AW.skip ?_ | refine AW.exit ?_ | refine AW.ret ?_ | refine AW.label ?_ | refine AW.scope ?_ | refine AF.one hT rfl ?_ | refine AF.nil ?_ | refine AF.imm hT rfl rfl rfl ?_ | refine AH.of hT rfl ?_ | refine AD.cons hT rfl ?_ | refine AD.nil ?_ | refine AQ.cons hT rfl ?_ | refine AQ.nil ?_); conv => whnf)
      exact AFin.val rfl ⟨rfl, rfl⟩
    · rw [decide_eq_false h2]
      conv => whnf
      repeat (first | (refine AW.label ?_; conv => whnf) | (refine AW.scope ?_; conv => whnf) | (refine AO.cons hT ?_; conv => whnf) | (refine AO.nil ?_; conv => whnf) | (refine AW.seq ?_; conv => whnf) | (refine AW.region ?_; conv => whnf) | (refine AW.cond ?_; conv => whnf) | (refine AW.block ?_; conv => whnf) | (refine AW.loop ?_; conv => whnf) | (refine AW.skip ?_; conv => whnf) | (refine AW.exit ?_; conv => whnf) | (refine AW.ret ?_; conv => whnf) | (refine AF.one hT rfl ?_; conv => whnf) | (refine AF.nil ?_; conv => whnf) | (refine AF.imm hT rfl rfl rfl ?_; conv => whnf) | (refine AH.of hT rfl ?_; conv => whnf) | (refine ASplit.yes rfl ?_; conv => whnf) | (refine ACond.yes rfl ?_; conv => whnf) | (refine ASplit.no rfl ?_; conv => whnf) | (refine ACond.no rfl ?_; conv => whnf) | (refine ASplit.yes (by decide) ?_; conv => whnf) | (refine ACond.yes (by decide) ?_; conv => whnf) | (refine AReq.mk (by decide) ?_; conv => whnf) | (refine AIdx.iff.2 ⟨by decide, ?_⟩; conv => whnf))
      exact AFin.val rfl ⟨rfl, rfl⟩
  · rw [decide_eq_false h1]
    conv => whnf
    repeat (first | (refine AW.label ?_; conv => whnf) | (refine AW.scope ?_; conv => whnf) | (refine AO.cons hT ?_; conv => whnf) | (refine AO.nil ?_; conv => whnf) | (refine AW.seq ?_; conv => whnf) | (refine AW.region ?_; conv => whnf) | (refine AW.cond ?_; conv => whnf) | (refine AW.block ?_; conv => whnf) | (refine AW.loop ?_; conv => whnf) | (refine AW.skip ?_; conv => whnf) | (refine AW.exit ?_; conv => whnf) | (refine AW.ret ?_; conv => whnf) | (refine AF.one hT rfl ?_; conv => whnf) | (refine AF.nil ?_; conv => whnf) | (refine AF.imm hT rfl rfl rfl ?_; conv => whnf) | (refine AH.of hT rfl ?_; conv => whnf) | (refine ASplit.yes rfl ?_; conv => whnf) | (refine ACond.yes rfl ?_; conv => whnf) | (refine ASplit.no rfl ?_; conv => whnf) | (refine ACond.no rfl ?_; conv => whnf) | (refine ASplit.yes (by decide) ?_; conv => whnf) | (refine ACond.yes (by decide) ?_; conv => whnf) | (refine AReq.mk (by decide) ?_; conv => whnf) | (refine AIdx.iff.2 ⟨by decide, ?_⟩; conv => whnf))
    exact AFin.val rfl ⟨rfl, rfl⟩
theorem f50 (r : Ro) : Fun P 50 [roA r] (bV (decide (1 ≤ r.way) && decide (r.way ≤ 5))) := by
  refine spec_of hT (f := 50) (fn := Go.Proofs.Try.f50) (c := body Go.Proofs.Try.f50) (by kernel_rfl) (by kernel_rfl) ?_
  conv => whnf
  repeat ((first | refine AO.cons hT ?_ | refine AO.nil ?_ | refine AW.seq ?_ | refine AW.region ?_ | refine AW.cond ?_ | refine AW.block ?_ | refine AW.loop ?_ | refine AW.skip ?_ | refine AW.exit ?_ | refine AW.ret ?_ | refine AW.label ?_ | refine AW.scope ?_ | refine AF.one hT rfl ?_ | refine AF.nil ?_ | refine AF.imm hT rfl rfl rfl ?_ | refine AH.of hT rfl ?_ | refine AD.cons hT rfl ?_ | refine AD.nil ?_ | refine AQ.cons hT rfl ?_ | refine AQ.nil ?_); conv => whnf)
  refine ASplit.dec (fun h1 => ?_) (fun h1 => ?_)
  · rw [decide_eq_true h1]
    conv => whnf
    repeat ((first | refine AO.cons hT ?_ | refine AO.nil ?_ | refine AW.seq ?_ | refine AW.region ?_ | refine AW.cond ?_ | refine AW.block ?_ | refine AW.loop ?_ | refine AW.skip ?_ | refine AW.exit ?_ | refine AW.ret ?_ | refine AW.label ?_ | refine AW.scope ?_ | refine AF.one hT rfl ?_ | refine AF.nil ?_ | refine AF.imm hT rfl rfl rfl ?_ | refine AH.of hT rfl ?_ | refine AD.cons hT rfl ?_ | refine AD.nil ?_ | refine AQ.cons hT rfl ?_ | refine AQ.nil ?_); conv => whnf)
    exact AFin.val rfl ⟨rfl, rfl⟩
  · rw [decide_eq_false h1]
    conv => whnf
    repeat (first | (refine AW.label ?_; conv => whnf) | (refine AW.scope ?_; conv => whnf) | (refine AO.cons hT ?_; conv => whnf) | (refine AO.nil ?_; conv => whnf) | (refine AW.seq ?_; conv => whnf) | (refine AW.region ?_; conv => whnf) | (refine AW.cond ?_; conv => whnf) | (refine AW.block ?_; conv => whnf) | (refine AW.loop ?_; conv => whnf) | (refine AW.skip ?_; conv => whnf) | (refine AW.exit ?_; conv => whnf) | (refine AW.ret ?_; conv => whnf) | (refine AF.one hT rfl ?_; conv => whnf) | (refine AF.nil ?_; conv => whnf) | (refine AF.imm hT rfl rfl rfl ?_; conv => whnf) | (refine AH.of hT rfl ?_; conv => whnf) | (refine ASplit.yes rfl ?_; conv => whnf) | (refine ACond.yes rfl ?_; conv => whnf) | (refine ASplit.no rfl ?_; conv => whnf) | (refine ACond.no rfl ?_; conv => whnf) | (refine ASplit.yes (by decide) ?_; conv => whnf) | (refine ACond.yes (by decide) ?_; conv => whnf) | (refine AReq.mk (by decide) ?_; conv => whnf) | (refine AIdx.iff.2 ⟨by decide, ?_⟩; conv => whnf))
    exact AFin.val rfl ⟨rfl, rfl⟩
theorem f37 (r : Ro) : Fun P 37 [roA r] (nV (if rowB r then 0 else 36)) := by
  refine spec_of hT (f := 37) (fn := Go.Proofs.Try.f37) (c := body Go.Proofs.Try.f37) (by kernel_rfl) (by kernel_rfl) ?_
  unfold rowB
  conv => whnf
  repeat ((first | refine AO.cons hT ?_ | refine AO.nil ?_ | refine AW.seq ?_ | refine AW.region ?_ | refine AW.cond ?_ | refine AW.block ?_ | refine AW.loop ?_ | refine AW.skip ?_ | refine AW.exit ?_ | refine AW.ret ?_ | refine AW.label ?_ | refine AW.scope ?_ | refine AF.one hT rfl ?_ | refine AF.nil ?_ | refine AF.imm hT rfl rfl rfl ?_ | refine AH.of hT rfl ?_ | refine AD.cons hT rfl ?_ | refine AD.nil ?_ | refine AQ.cons hT rfl ?_ | refine AQ.nil ?_ | (refine ALoop.un ?_) | (refine ALp.step (T := T) ?_) | (refine AIdx.sp rfl ?_) | (refine AReq.mk (by decide) ?_) | (refine ACall.val (by kernel_rfl) (f48 r) rfl rfl ?_) | (refine ACall.val (by kernel_rfl) (f49 r) rfl rfl ?_) | (refine ACall.val (by kernel_rfl) (f50 r) rfl rfl ?_) | (refine ACond.yes (by decide) ?_) | (refine ACond.no (by decide) ?_)); conv => whnf)
  refine ACond.mk (fun h => ?_) (fun h => ?_)
  · have h : (decide (1 ≤ r.g) && decide (r.g < 16) && decide (1 ≤ r.w) && decide (r.w ≤ 3)) = false := nb1 h
    rw [h]
    conv => whnf
    repeat ((first | refine AO.cons hT ?_ | refine AO.nil ?_ | refine AW.seq ?_ | refine AW.region ?_ | refine AW.cond ?_ | refine AW.block ?_ | refine AW.loop ?_ | refine AW.skip ?_ | refine AW.exit ?_ | refine AW.ret ?_ | refine AW.label ?_ | refine AW.scope ?_ | refine AF.one hT rfl ?_ | refine AF.nil ?_ | refine AF.imm hT rfl rfl rfl ?_ | refine AH.of hT rfl ?_ | refine AD.cons hT rfl ?_ | refine AD.nil ?_ | refine AQ.cons hT rfl ?_ | refine AQ.nil ?_ | (refine ALoop.un ?_) | (refine ALp.step (T := T) ?_) | (refine AIdx.sp rfl ?_) | (refine AReq.mk (by decide) ?_) | (refine ACall.val (by kernel_rfl) (f48 r) rfl rfl ?_) | (refine ACall.val (by kernel_rfl) (f49 r) rfl rfl ?_) | (refine ACall.val (by kernel_rfl) (f50 r) rfl rfl ?_) | (refine ACond.yes (by decide) ?_) | (refine ACond.no (by decide) ?_)); conv => whnf)
    exact AFin.val rfl ⟨rfl, rfl⟩
  have h : (decide (1 ≤ r.g) && decide (r.g < 16) && decide (1 ≤ r.w) && decide (r.w ≤ 3)) = true := nb0 h
  rw [h]
  conv => whnf
  repeat ((first | refine AO.cons hT ?_ | refine AO.nil ?_ | refine AW.seq ?_ | refine AW.region ?_ | refine AW.cond ?_ | refine AW.block ?_ | refine AW.loop ?_ | refine AW.skip ?_ | refine AW.exit ?_ | refine AW.ret ?_ | refine AW.label ?_ | refine AW.scope ?_ | refine AF.one hT rfl ?_ | refine AF.nil ?_ | refine AF.imm hT rfl rfl rfl ?_ | refine AH.of hT rfl ?_ | refine AD.cons hT rfl ?_ | refine AD.nil ?_ | refine AQ.cons hT rfl ?_ | refine AQ.nil ?_ | (refine ALoop.un ?_) | (refine ALp.step (T := T) ?_) | (refine AIdx.sp rfl ?_) | (refine AReq.mk (by decide) ?_) | (refine ACall.val (by kernel_rfl) (f48 r) rfl rfl ?_) | (refine ACall.val (by kernel_rfl) (f49 r) rfl rfl ?_) | (refine ACall.val (by kernel_rfl) (f50 r) rfl rfl ?_) | (refine ACond.yes (by decide) ?_) | (refine ACond.no (by decide) ?_)); conv => whnf)
  refine ACond.mk (fun h => ?_) (fun h => ?_)
  · have h : (decide (0 ≤ r.lo) && decide (r.lo ≤ r.hi) && decide (r.hi ≤ 1000000000000)) = false := nb1 h
    rw [h]
    conv => whnf
    repeat ((first | refine AO.cons hT ?_ | refine AO.nil ?_ | refine AW.seq ?_ | refine AW.region ?_ | refine AW.cond ?_ | refine AW.block ?_ | refine AW.loop ?_ | refine AW.skip ?_ | refine AW.exit ?_ | refine AW.ret ?_ | refine AW.label ?_ | refine AW.scope ?_ | refine AF.one hT rfl ?_ | refine AF.nil ?_ | refine AF.imm hT rfl rfl rfl ?_ | refine AH.of hT rfl ?_ | refine AD.cons hT rfl ?_ | refine AD.nil ?_ | refine AQ.cons hT rfl ?_ | refine AQ.nil ?_ | (refine ALoop.un ?_) | (refine ALp.step (T := T) ?_) | (refine AIdx.sp rfl ?_) | (refine AReq.mk (by decide) ?_) | (refine ACall.val (by kernel_rfl) (f48 r) rfl rfl ?_) | (refine ACall.val (by kernel_rfl) (f49 r) rfl rfl ?_) | (refine ACall.val (by kernel_rfl) (f50 r) rfl rfl ?_) | (refine ACond.yes (by decide) ?_) | (refine ACond.no (by decide) ?_)); conv => whnf)
    exact AFin.val rfl ⟨rfl, rfl⟩
  have h : (decide (0 ≤ r.lo) && decide (r.lo ≤ r.hi) && decide (r.hi ≤ 1000000000000)) = true := nb0 h
  rw [h]
  conv => whnf
  repeat ((first | refine AO.cons hT ?_ | refine AO.nil ?_ | refine AW.seq ?_ | refine AW.region ?_ | refine AW.cond ?_ | refine AW.block ?_ | refine AW.loop ?_ | refine AW.skip ?_ | refine AW.exit ?_ | refine AW.ret ?_ | refine AW.label ?_ | refine AW.scope ?_ | refine AF.one hT rfl ?_ | refine AF.nil ?_ | refine AF.imm hT rfl rfl rfl ?_ | refine AH.of hT rfl ?_ | refine AD.cons hT rfl ?_ | refine AD.nil ?_ | refine AQ.cons hT rfl ?_ | refine AQ.nil ?_ | (refine ALoop.un ?_) | (refine ALp.step (T := T) ?_) | (refine AIdx.sp rfl ?_) | (refine AReq.mk (by decide) ?_) | (refine ACall.val (by kernel_rfl) (f48 r) rfl rfl ?_) | (refine ACall.val (by kernel_rfl) (f49 r) rfl rfl ?_) | (refine ACall.val (by kernel_rfl) (f50 r) rfl rfl ?_) | (refine ACond.yes (by decide) ?_) | (refine ACond.no (by decide) ?_)); conv => whnf)
  refine ACond.mk (fun h => ?_) (fun h => ?_)
  · have h : (decide (1 ≤ r.way) && decide (r.way ≤ 5)) = false := nb1 h
    rw [h]
    conv => whnf
    repeat ((first | refine AO.cons hT ?_ | refine AO.nil ?_ | refine AW.seq ?_ | refine AW.region ?_ | refine AW.cond ?_ | refine AW.block ?_ | refine AW.loop ?_ | refine AW.skip ?_ | refine AW.exit ?_ | refine AW.ret ?_ | refine AW.label ?_ | refine AW.scope ?_ | refine AF.one hT rfl ?_ | refine AF.nil ?_ | refine AF.imm hT rfl rfl rfl ?_ | refine AH.of hT rfl ?_ | refine AD.cons hT rfl ?_ | refine AD.nil ?_ | refine AQ.cons hT rfl ?_ | refine AQ.nil ?_ | (refine ALoop.un ?_) | (refine ALp.step (T := T) ?_) | (refine AIdx.sp rfl ?_) | (refine AReq.mk (by decide) ?_) | (refine ACall.val (by kernel_rfl) (f48 r) rfl rfl ?_) | (refine ACall.val (by kernel_rfl) (f49 r) rfl rfl ?_) | (refine ACall.val (by kernel_rfl) (f50 r) rfl rfl ?_) | (refine ACond.yes (by decide) ?_) | (refine ACond.no (by decide) ?_)); conv => whnf)
    exact AFin.val rfl ⟨rfl, rfl⟩
  have h : (decide (1 ≤ r.way) && decide (r.way ≤ 5)) = true := nb0 h
  rw [h]
  conv => whnf
  repeat ((first | refine AO.cons hT ?_ | refine AO.nil ?_ | refine AW.seq ?_ | refine AW.region ?_ | refine AW.cond ?_ | refine AW.block ?_ | refine AW.loop ?_ | refine AW.skip ?_ | refine AW.exit ?_ | refine AW.ret ?_ | refine AW.label ?_ | refine AW.scope ?_ | refine AF.one hT rfl ?_ | refine AF.nil ?_ | refine AF.imm hT rfl rfl rfl ?_ | refine AH.of hT rfl ?_ | refine AD.cons hT rfl ?_ | refine AD.nil ?_ | refine AQ.cons hT rfl ?_ | refine AQ.nil ?_ | (refine ALoop.un ?_) | (refine ALp.step (T := T) ?_) | (refine AIdx.sp rfl ?_) | (refine AReq.mk (by decide) ?_) | (refine ACall.val (by kernel_rfl) (f48 r) rfl rfl ?_) | (refine ACall.val (by kernel_rfl) (f49 r) rfl rfl ?_) | (refine ACall.val (by kernel_rfl) (f50 r) rfl rfl ?_) | (refine ACond.yes (by decide) ?_) | (refine ACond.no (by decide) ?_)); conv => whnf)
  exact AFin.val rfl ⟨rfl, rfl⟩

def tabB (l : List Ro) : Bool := decide (1 ≤ l.length) && decide (l.length ≤ 20) && l.all rowB
theorem all_get {l : List Ro} {i : Nat} (h : i < l.length) (hb : rowB l[i] = false) : l.all rowB = false := by
  rw [List.all_eq_false]; exact ⟨_, List.getElem_mem h, by simp [hb]⟩
theorem f18 (l : List Ro) : Fun P 18 [roV l] (nV (if tabB l then 0 else 36)) := by
  refine spec_of hT (f := 18) (fn := Go.Proofs.Try.f18) (c := body Go.Proofs.Try.f18) (by kernel_rfl) (by kernel_rfl) ?_
  unfold tabB
  conv => whnf
  repeat ((first | refine AO.cons hT ?_ | refine AO.nil ?_ | refine AW.seq ?_ | refine AW.region ?_ | refine AW.cond ?_ | refine AW.block ?_ | refine AW.loop ?_ | refine AW.skip ?_ | refine AW.exit ?_ | refine AW.ret ?_ | refine AW.label ?_ | refine AW.scope ?_ | refine AF.one hT rfl ?_ | refine AF.nil ?_ | refine AF.imm hT rfl rfl rfl ?_ | refine AH.of hT rfl ?_ | refine AD.cons hT rfl ?_ | refine AD.nil ?_ | refine AQ.cons hT rfl ?_ | refine AQ.nil ?_); conv => whnf)
  refine ASplit.dec (fun h1 => ?_) (fun h1 => ?_)
  · rw [decide_eq_false (show ¬ 1 ≤ l.length by omega)]
    conv => whnf
    repeat (first | (refine AW.label ?_; conv => whnf) | (refine AW.scope ?_; conv => whnf) | (refine AO.cons hT ?_; conv => whnf) | (refine AO.nil ?_; conv => whnf) | (refine AW.seq ?_; conv => whnf) | (refine AW.region ?_; conv => whnf) | (refine AW.cond ?_; conv => whnf) | (refine AW.block ?_; conv => whnf) | (refine AW.loop ?_; conv => whnf) | (refine AW.skip ?_; conv => whnf) | (refine AW.exit ?_; conv => whnf) | (refine AW.ret ?_; conv => whnf) | (refine AF.one hT rfl ?_; conv => whnf) | (refine AF.nil ?_; conv => whnf) | (refine AF.imm hT rfl rfl rfl ?_; conv => whnf) | (refine AH.of hT rfl ?_; conv => whnf) | (refine ASplit.yes rfl ?_; conv => whnf) | (refine ACond.yes rfl ?_; conv => whnf) | (refine ASplit.no rfl ?_; conv => whnf) | (refine ACond.no rfl ?_; conv => whnf) | (refine ASplit.yes (by decide) ?_; conv => whnf) | (refine ACond.yes (by decide) ?_; conv => whnf) | (refine AReq.mk (by decide) ?_; conv => whnf) | (refine AIdx.iff.2 ⟨by decide, ?_⟩; conv => whnf))
    exact AFin.val rfl ⟨rfl, rfl⟩
  conv => whnf
  repeat ((first | refine AO.cons hT ?_ | refine AO.nil ?_ | refine AW.seq ?_ | refine AW.region ?_ | refine AW.cond ?_ | refine AW.block ?_ | refine AW.loop ?_ | refine AW.skip ?_ | refine AW.exit ?_ | refine AW.ret ?_ | refine AW.label ?_ | refine AW.scope ?_ | refine AF.one hT rfl ?_ | refine AF.nil ?_ | refine AF.imm hT rfl rfl rfl ?_ | refine AH.of hT rfl ?_ | refine AD.cons hT rfl ?_ | refine AD.nil ?_ | refine AQ.cons hT rfl ?_ | refine AQ.nil ?_); conv => whnf)
  refine ACond.dec (fun h2 => ?_) (fun h2 => ?_)
  · rw [decide_eq_false (show ¬ l.length ≤ 20 by omega), Bool.and_false]
    conv => whnf
    repeat (first | (refine AW.label ?_; conv => whnf) | (refine AW.scope ?_; conv => whnf) | (refine AO.cons hT ?_; conv => whnf) | (refine AO.nil ?_; conv => whnf) | (refine AW.seq ?_; conv => whnf) | (refine AW.region ?_; conv => whnf) | (refine AW.cond ?_; conv => whnf) | (refine AW.block ?_; conv => whnf) | (refine AW.loop ?_; conv => whnf) | (refine AW.skip ?_; conv => whnf) | (refine AW.exit ?_; conv => whnf) | (refine AW.ret ?_; conv => whnf) | (refine AF.one hT rfl ?_; conv => whnf) | (refine AF.nil ?_; conv => whnf) | (refine AF.imm hT rfl rfl rfl ?_; conv => whnf) | (refine AH.of hT rfl ?_; conv => whnf) | (refine ASplit.yes rfl ?_; conv => whnf) | (refine ACond.yes rfl ?_; conv => whnf) | (refine ASplit.no rfl ?_; conv => whnf) | (refine ACond.no rfl ?_; conv => whnf) | (refine ASplit.yes (by decide) ?_; conv => whnf) | (refine ACond.yes (by decide) ?_; conv => whnf) | (refine AReq.mk (by decide) ?_; conv => whnf) | (refine AIdx.iff.2 ⟨by decide, ?_⟩; conv => whnf))
    exact AFin.val rfl ⟨rfl, rfl⟩
  rw [decide_eq_true (show 1 ≤ l.length by omega), decide_eq_true (show l.length ≤ 20 by omega), Bool.true_and, Bool.true_and]
  conv => whnf
  repeat ((first | refine AO.cons hT ?_ | refine AO.nil ?_ | refine AW.seq ?_ | refine AW.region ?_ | refine AW.cond ?_ | refine AW.block ?_ | refine AW.loop ?_ | refine AW.skip ?_ | refine AW.exit ?_ | refine AW.ret ?_ | refine AW.label ?_ | refine AW.scope ?_ | refine AF.one hT rfl ?_ | refine AF.nil ?_ | refine AF.imm hT rfl rfl rfl ?_ | refine AH.of hT rfl ?_ | refine AD.cons hT rfl ?_ | refine AD.nil ?_ | refine AQ.cons hT rfl ?_ | refine AQ.nil ?_); conv => whnf)
  refine ALoop.mk (fun j E H => ∃ i : Nat, j + i = l.length ∧ (∀ k (h : k < l.length), k < i → rowB l[k] = true) ∧ E = pad ([.any, .any, .v (.int .i64 0)] ++ List.replicate 11 .any ++ [roV l, nV l.length, nV i]) 26 ∧ H = [])
    (n := l.length) _ _ ⟨0, rfl, fun _ _ h => absurd h (Nat.not_lt_zero _), rfl, rfl⟩ (Conv.fit (by repeat' (first | exact Fit.nil | refine Fit.any ?_ | refine Fit.same ?_))) ?_
  rintro j _ _ ⟨i, hj, hok, rfl, rfl⟩
  conv => whnf
  repeat ((first | refine AO.cons hT ?_ | refine AO.nil ?_ | refine AW.seq ?_ | refine AW.region ?_ | refine AW.cond ?_ | refine AW.block ?_ | refine AW.loop ?_ | refine AW.skip ?_ | refine AW.exit ?_ | refine AW.ret ?_ | refine AW.label ?_ | refine AW.scope ?_ | refine AF.one hT rfl ?_ | refine AF.nil ?_ | refine AF.imm hT rfl rfl rfl ?_ | refine AH.of hT rfl ?_ | refine AD.cons hT rfl ?_ | refine AD.nil ?_ | refine AQ.cons hT rfl ?_ | refine AQ.nil ?_); conv => whnf)
  refine ACond.dec (fun h3 => ?_) (fun h3 => ?_)
  · have hil : i < l.length := by omega
    have w1 : IntKind.wrap .i64 ((i : Int) + 1) = ((i + 1 : Nat) : Int) := by rw [wrap_i64 _ (by omega) (by omega)]; omega
    conv => whnf
    repeat ((first | refine AO.cons hT ?_ | refine AO.nil ?_ | refine AW.seq ?_ | refine AW.region ?_ | refine AW.cond ?_ | refine AW.block ?_ | refine AW.loop ?_ | refine AW.skip ?_ | refine AW.exit ?_ | refine AW.ret ?_ | refine AW.label ?_ | refine AW.scope ?_ | refine AF.one hT rfl ?_ | refine AF.nil ?_ | refine AF.imm hT rfl rfl rfl ?_ | refine AH.of hT rfl ?_ | refine AD.cons hT rfl ?_ | refine AD.nil ?_ | refine AQ.cons hT rfl ?_ | refine AQ.nil ?_ | (refine AReq.mk (by omega) ?_) | (refine AIdx.flat (enc := roC) roC_len (xs := l) (i := i) hil ?_) | (refine ACall.val (by kernel_rfl) (f37 l[i]) rfl rfl ?_)); conv => whnf)
    refine ACond.mk (fun h4 => ?_) (fun h4 => ?_)
    · have hb : rowB l[i] = false := by
        rcases Bool.eq_false_or_eq_true (rowB l[i]) with g | g
        · rw [g] at h4; simp at h4
        · exact g
      rw [all_get hil hb, hb]
      conv => whnf
      repeat ((first | refine AO.cons hT ?_ | refine AO.nil ?_ | refine AW.seq ?_ | refine AW.region ?_ | refine AW.cond ?_ | refine AW.block ?_ | refine AW.loop ?_ | refine AW.skip ?_ | refine AW.exit ?_ | refine AW.ret ?_ | refine AW.label ?_ | refine AW.scope ?_ | refine AF.one hT rfl ?_ | refine AF.nil ?_ | refine AF.imm hT rfl rfl rfl ?_ | refine AH.of hT rfl ?_ | refine AD.cons hT rfl ?_ | refine AD.nil ?_ | refine AQ.cons hT rfl ?_ | refine AQ.nil ?_ | (refine AReq.mk (by omega) ?_) | (refine AIdx.flat (enc := roC) roC_len (xs := l) (i := i) hil ?_) | (refine ACall.val (by kernel_rfl) (f37 l[i]) rfl rfl ?_)); conv => whnf)
      refine AOut.stay ?_
      conv => whnf
      repeat ((first | refine AO.cons hT ?_ | refine AO.nil ?_ | refine AW.seq ?_ | refine AW.region ?_ | refine AW.cond ?_ | refine AW.block ?_ | refine AW.loop ?_ | refine AW.skip ?_ | refine AW.exit ?_ | refine AW.ret ?_ | refine AW.label ?_ | refine AW.scope ?_ | refine AF.one hT rfl ?_ | refine AF.nil ?_ | refine AF.imm hT rfl rfl rfl ?_ | refine AH.of hT rfl ?_ | refine AD.cons hT rfl ?_ | refine AD.nil ?_ | refine AQ.cons hT rfl ?_ | refine AQ.nil ?_ | (refine AReq.mk (by omega) ?_) | (refine AIdx.flat (enc := roC) roC_len (xs := l) (i := i) hil ?_) | (refine ACall.val (by kernel_rfl) (f37 l[i]) rfl rfl ?_)); conv => whnf)
      exact AFin.val rfl ⟨rfl, rfl⟩
    · have hb : rowB l[i] = true := by
        rcases Bool.eq_false_or_eq_true (rowB l[i]) with g | g
        · exact g
        · rw [g] at h4; simp at h4
      conv => whnf
      repeat ((first | refine AO.cons hT ?_ | refine AO.nil ?_ | refine AW.seq ?_ | refine AW.region ?_ | refine AW.cond ?_ | refine AW.block ?_ | refine AW.loop ?_ | refine AW.skip ?_ | refine AW.exit ?_ | refine AW.ret ?_ | refine AW.label ?_ | refine AW.scope ?_ | refine AF.one hT rfl ?_ | refine AF.nil ?_ | refine AF.imm hT rfl rfl rfl ?_ | refine AH.of hT rfl ?_ | refine AD.cons hT rfl ?_ | refine AD.nil ?_ | refine AQ.cons hT rfl ?_ | refine AQ.nil ?_ | (refine AReq.mk (by omega) ?_) | (refine AIdx.flat (enc := roC) roC_len (xs := l) (i := i) hil ?_) | (refine ACall.val (by kernel_rfl) (f37 l[i]) rfl rfl ?_)); conv => whnf)
      rw [w1]
      refine AHead.mk (j - 1) _ _ (by omega) ⟨i + 1, by omega, ?_, rfl, rfl⟩ (Conv.ren [] _ (fun _ h => absurd h (Nat.not_lt_zero _)) (by decide) ?_ .nil)
      · intro k hk hki
        rcases Nat.lt_or_ge k i with g | g
        · exact hok k hk g
        · obtain rfl : k = i := by omega
          exact hb
      · repeat' (first | exact Fit.nil | refine Fit.any ?_ | refine Fit.same ?_ | refine Fit.eq (roV_ren _ _) ?_)
  · have hall : l.all rowB = true := by
      rw [List.all_eq_true]
      intro r hr
      obtain ⟨k, hk, rfl⟩ := List.mem_iff_getElem.1 hr
      exact hok k hk (by omega)
    rw [hall]
    conv => whnf
    repeat ((first | refine AO.cons hT ?_ | refine AO.nil ?_ | refine AW.seq ?_ | refine AW.region ?_ | refine AW.cond ?_ | refine AW.block ?_ | refine AW.loop ?_ | refine AW.skip ?_ | refine AW.exit ?_ | refine AW.ret ?_ | refine AW.label ?_ | refine AW.scope ?_ | refine AF.one hT rfl ?_ | refine AF.nil ?_ | refine AF.imm hT rfl rfl rfl ?_ | refine AH.of hT rfl ?_ | refine AD.cons hT rfl ?_ | refine AD.nil ?_ | refine AQ.cons hT rfl ?_ | refine AQ.nil ?_ | (refine AReq.mk (by omega) ?_) | (refine AIdx.flat (enc := roC) roC_len (xs := l) (i := i) hil ?_) | (refine ACall.val (by kernel_rfl) (f37 l[i]) rfl rfl ?_)); conv => whnf)
    refine AOut.stay ?_
    conv => whnf
    repeat ((first | refine AO.cons hT ?_ | refine AO.nil ?_ | refine AW.seq ?_ | refine AW.region ?_ | refine AW.cond ?_ | refine AW.block ?_ | refine AW.loop ?_ | refine AW.skip ?_ | refine AW.exit ?_ | refine AW.ret ?_ | refine AW.label ?_ | refine AW.scope ?_ | refine AF.one hT rfl ?_ | refine AF.nil ?_ | refine AF.imm hT rfl rfl rfl ?_ | refine AH.of hT rfl ?_ | refine AD.cons hT rfl ?_ | refine AD.nil ?_ | refine AQ.cons hT rfl ?_ | refine AQ.nil ?_ | (refine AReq.mk (by omega) ?_) | (refine AIdx.flat (enc := roC) roC_len (xs := l) (i := i) hil ?_) | (refine ACall.val (by kernel_rfl) (f37 l[i]) rfl rfl ?_)); conv => whnf)
    exact AFin.val rfl ⟨rfl, rfl⟩
def factB (f : Fc) : Bool := !(decide (f.g < 0) || decide (4 ≤ f.g) || decide (f.a < 0) || decide (1000000000000 < f.a))
theorem f20 (f : Fc) : Fun P 20 [fcA f] (nV (if factB f then 0 else 2)) := by
  refine spec_of hT (f := 20) (fn := Go.Proofs.Try.f20) (c := body Go.Proofs.Try.f20) (by kernel_rfl) (by kernel_rfl) ?_
  unfold factB
  conv => whnf
  repeat ((first | refine AO.cons hT ?_ | refine AO.nil ?_ | refine AW.seq ?_ | refine AW.region ?_ | refine AW.cond ?_ | refine AW.block ?_ | refine AW.loop ?_ | refine AW.skip ?_ | refine AW.exit ?_ | refine AW.ret ?_ | refine AW.label ?_ | refine AW.scope ?_ | refine AF.one hT rfl ?_ | refine AF.nil ?_ | refine AF.imm hT rfl rfl rfl ?_ | refine AH.of hT rfl ?_ | refine AD.cons hT rfl ?_ | refine AD.nil ?_ | refine AQ.cons hT rfl ?_ | refine AQ.nil ?_); conv => whnf)
  refine ASplit.dec (fun h1 => ?_) (fun h1 => ?_)
  · rw [decide_eq_true h1]
    conv => whnf
    repeat (first | (refine AW.label ?_; conv => whnf) | (refine AW.scope ?_; conv => whnf) | (refine AO.cons hT ?_; conv => whnf) | (refine AO.nil ?_; conv => whnf) | (refine AW.seq ?_; conv => whnf) | (refine AW.region ?_; conv => whnf) | (refine AW.cond ?_; conv => whnf) | (refine AW.block ?_; conv => whnf) | (refine AW.loop ?_; conv => whnf) | (refine AW.skip ?_; conv => whnf) | (refine AW.exit ?_; conv => whnf) | (refine AW.ret ?_; conv => whnf) | (refine AF.one hT rfl ?_; conv => whnf) | (refine AF.nil ?_; conv => whnf) | (refine AF.imm hT rfl rfl rfl ?_; conv => whnf) | (refine AH.of hT rfl ?_; conv => whnf) | (refine ASplit.yes rfl ?_; conv => whnf) | (refine ACond.yes rfl ?_; conv => whnf) | (refine ASplit.no rfl ?_; conv => whnf) | (refine ACond.no rfl ?_; conv => whnf) | (refine ASplit.yes (by decide) ?_; conv => whnf) | (refine ACond.yes (by decide) ?_; conv => whnf) | (refine AReq.mk (by decide) ?_; conv => whnf) | (refine AIdx.iff.2 ⟨by decide, ?_⟩; conv => whnf))
    exact AFin.val rfl ⟨rfl, rfl⟩
  rw [decide_eq_false h1]
  conv => whnf
  repeat ((first | refine AO.cons hT ?_ | refine AO.nil ?_ | refine AW.seq ?_ | refine AW.region ?_ | refine AW.cond ?_ | refine AW.block ?_ | refine AW.loop ?_ | refine AW.skip ?_ | refine AW.exit ?_ | refine AW.ret ?_ | refine AW.label ?_ | refine AW.scope ?_ | refine AF.one hT rfl ?_ | refine AF.nil ?_ | refine AF.imm hT rfl rfl rfl ?_ | refine AH.of hT rfl ?_ | refine AD.cons hT rfl ?_ | refine AD.nil ?_ | refine AQ.cons hT rfl ?_ | refine AQ.nil ?_); conv => whnf)
  refine ASplit.dec (fun h2 => ?_) (fun h2 => ?_)
  · rw [decide_eq_true h2]
    conv => whnf
    repeat (first | (refine AW.label ?_; conv => whnf) | (refine AW.scope ?_; conv => whnf) | (refine AO.cons hT ?_; conv => whnf) | (refine AO.nil ?_; conv => whnf) | (refine AW.seq ?_; conv => whnf) | (refine AW.region ?_; conv => whnf) | (refine AW.cond ?_; conv => whnf) | (refine AW.block ?_; conv => whnf) | (refine AW.loop ?_; conv => whnf) | (refine AW.skip ?_; conv => whnf) | (refine AW.exit ?_; conv => whnf) | (refine AW.ret ?_; conv => whnf) | (refine AF.one hT rfl ?_; conv => whnf) | (refine AF.nil ?_; conv => whnf) | (refine AF.imm hT rfl rfl rfl ?_; conv => whnf) | (refine AH.of hT rfl ?_; conv => whnf) | (refine ASplit.yes rfl ?_; conv => whnf) | (refine ACond.yes rfl ?_; conv => whnf) | (refine ASplit.no rfl ?_; conv => whnf) | (refine ACond.no rfl ?_; conv => whnf) | (refine ASplit.yes (by decide) ?_; conv => whnf) | (refine ACond.yes (by decide) ?_; conv => whnf) | (refine AReq.mk (by decide) ?_; conv => whnf) | (refine AIdx.iff.2 ⟨by decide, ?_⟩; conv => whnf))
    exact AFin.val rfl ⟨rfl, rfl⟩
  rw [decide_eq_false h2]
  conv => whnf
  repeat ((first | refine AO.cons hT ?_ | refine AO.nil ?_ | refine AW.seq ?_ | refine AW.region ?_ | refine AW.cond ?_ | refine AW.block ?_ | refine AW.loop ?_ | refine AW.skip ?_ | refine AW.exit ?_ | refine AW.ret ?_ | refine AW.label ?_ | refine AW.scope ?_ | refine AF.one hT rfl ?_ | refine AF.nil ?_ | refine AF.imm hT rfl rfl rfl ?_ | refine AH.of hT rfl ?_ | refine AD.cons hT rfl ?_ | refine AD.nil ?_ | refine AQ.cons hT rfl ?_ | refine AQ.nil ?_); conv => whnf)
  refine ASplit.dec (fun h3 => ?_) (fun h3 => ?_)
  · rw [decide_eq_true h3]
    conv => whnf
    repeat (first | (refine AW.label ?_; conv => whnf) | (refine AW.scope ?_; conv => whnf) | (refine AO.cons hT ?_; conv => whnf) | (refine AO.nil ?_; conv => whnf) | (refine AW.seq ?_; conv => whnf) | (refine AW.region ?_; conv => whnf) | (refine AW.cond ?_; conv => whnf) | (refine AW.block ?_; conv => whnf) | (refine AW.loop ?_; conv => whnf) | (refine AW.skip ?_; conv => whnf) | (refine AW.exit ?_; conv => whnf) | (refine AW.ret ?_; conv => whnf) | (refine AF.one hT rfl ?_; conv => whnf) | (refine AF.nil ?_; conv => whnf) | (refine AF.imm hT rfl rfl rfl ?_; conv => whnf) | (refine AH.of hT rfl ?_; conv => whnf) | (refine ASplit.yes rfl ?_; conv => whnf) | (refine ACond.yes rfl ?_; conv => whnf) | (refine ASplit.no rfl ?_; conv => whnf) | (refine ACond.no rfl ?_; conv => whnf) | (refine ASplit.yes (by decide) ?_; conv => whnf) | (refine ACond.yes (by decide) ?_; conv => whnf) | (refine AReq.mk (by decide) ?_; conv => whnf) | (refine AIdx.iff.2 ⟨by decide, ?_⟩; conv => whnf))
    exact AFin.val rfl ⟨rfl, rfl⟩
  rw [decide_eq_false h3]
  conv => whnf
  repeat ((first | refine AO.cons hT ?_ | refine AO.nil ?_ | refine AW.seq ?_ | refine AW.region ?_ | refine AW.cond ?_ | refine AW.block ?_ | refine AW.loop ?_ | refine AW.skip ?_ | refine AW.exit ?_ | refine AW.ret ?_ | refine AW.label ?_ | refine AW.scope ?_ | refine AF.one hT rfl ?_ | refine AF.nil ?_ | refine AF.imm hT rfl rfl rfl ?_ | refine AH.of hT rfl ?_ | refine AD.cons hT rfl ?_ | refine AD.nil ?_ | refine AQ.cons hT rfl ?_ | refine AQ.nil ?_); conv => whnf)
  refine ACond.dec (fun h4 => ?_) (fun h4 => ?_)
  · rw [decide_eq_true h4]
    conv => whnf
    repeat ((first | refine AO.cons hT ?_ | refine AO.nil ?_ | refine AW.seq ?_ | refine AW.region ?_ | refine AW.cond ?_ | refine AW.block ?_ | refine AW.loop ?_ | refine AW.skip ?_ | refine AW.exit ?_ | refine AW.ret ?_ | refine AW.label ?_ | refine AW.scope ?_ | refine AF.one hT rfl ?_ | refine AF.nil ?_ | refine AF.imm hT rfl rfl rfl ?_ | refine AH.of hT rfl ?_ | refine AD.cons hT rfl ?_ | refine AD.nil ?_ | refine AQ.cons hT rfl ?_ | refine AQ.nil ?_); conv => whnf)
    exact AFin.val rfl ⟨rfl, rfl⟩
  rw [decide_eq_false h4]
  conv => whnf
  repeat ((first | refine AO.cons hT ?_ | refine AO.nil ?_ | refine AW.seq ?_ | refine AW.region ?_ | refine AW.cond ?_ | refine AW.block ?_ | refine AW.loop ?_ | refine AW.skip ?_ | refine AW.exit ?_ | refine AW.ret ?_ | refine AW.label ?_ | refine AW.scope ?_ | refine AF.one hT rfl ?_ | refine AF.nil ?_ | refine AF.imm hT rfl rfl rfl ?_ | refine AH.of hT rfl ?_ | refine AD.cons hT rfl ?_ | refine AD.nil ?_ | refine AQ.cons hT rfl ?_ | refine AQ.nil ?_); conv => whnf)
  exact AFin.val rfl ⟨rfl, rfl⟩
theorem f38 (l : List Ro) (f : Fc) : Fun P 38 [roV l, fcA f] (nV (if tabB l then if factB f then 0 else 2 else 36)) := by
  refine spec_of hT (f := 38) (fn := Go.Proofs.Try.f38) (c := body Go.Proofs.Try.f38) (by kernel_rfl) (by kernel_rfl) ?_
  conv => whnf
  repeat ((first | refine AO.cons hT ?_ | refine AO.nil ?_ | refine AW.seq ?_ | refine AW.region ?_ | refine AW.cond ?_ | refine AW.block ?_ | refine AW.loop ?_ | refine AW.skip ?_ | refine AW.exit ?_ | refine AW.ret ?_ | refine AW.label ?_ | refine AW.scope ?_ | refine AF.one hT rfl ?_ | refine AF.nil ?_ | refine AF.imm hT rfl rfl rfl ?_ | refine AH.of hT rfl ?_ | refine AD.cons hT rfl ?_ | refine AD.nil ?_ | refine AQ.cons hT rfl ?_ | refine AQ.nil ?_); conv => whnf)
  refine ACall.val (by kernel_rfl) (f18 l) (roV1 _ _) rfl ?_
  rcases Bool.eq_false_or_eq_true (tabB l) with g | g
  · rw [g]
    simp only [if_true]
    conv => whnf
    repeat ((first | refine AO.cons hT ?_ | refine AO.nil ?_ | refine AW.seq ?_ | refine AW.region ?_ | refine AW.cond ?_ | refine AW.block ?_ | refine AW.loop ?_ | refine AW.skip ?_ | refine AW.exit ?_ | refine AW.ret ?_ | refine AW.label ?_ | refine AW.scope ?_ | refine AF.one hT rfl ?_ | refine AF.nil ?_ | refine AF.imm hT rfl rfl rfl ?_ | refine AH.of hT rfl ?_ | refine AD.cons hT rfl ?_ | refine AD.nil ?_ | refine AQ.cons hT rfl ?_ | refine AQ.nil ?_); conv => whnf)
    refine ACond.no rfl ?_
    conv => whnf
    repeat ((first | refine AO.cons hT ?_ | refine AO.nil ?_ | refine AW.seq ?_ | refine AW.region ?_ | refine AW.cond ?_ | refine AW.block ?_ | refine AW.loop ?_ | refine AW.skip ?_ | refine AW.exit ?_ | refine AW.ret ?_ | refine AW.label ?_ | refine AW.scope ?_ | refine AF.one hT rfl ?_ | refine AF.nil ?_ | refine AF.imm hT rfl rfl rfl ?_ | refine AH.of hT rfl ?_ | refine AD.cons hT rfl ?_ | refine AD.nil ?_ | refine AQ.cons hT rfl ?_ | refine AQ.nil ?_); conv => whnf)
    refine ACall.val (by kernel_rfl) (f20 f) rfl rfl ?_
    conv => whnf
    repeat ((first | refine AO.cons hT ?_ | refine AO.nil ?_ | refine AW.seq ?_ | refine AW.region ?_ | refine AW.cond ?_ | refine AW.block ?_ | refine AW.loop ?_ | refine AW.skip ?_ | refine AW.exit ?_ | refine AW.ret ?_ | refine AW.label ?_ | refine AW.scope ?_ | refine AF.one hT rfl ?_ | refine AF.nil ?_ | refine AF.imm hT rfl rfl rfl ?_ | refine AH.of hT rfl ?_ | refine AD.cons hT rfl ?_ | refine AD.nil ?_ | refine AQ.cons hT rfl ?_ | refine AQ.nil ?_); conv => whnf)
    exact AFin.val rfl ⟨rfl, rfl⟩
  · rw [g]
    simp only [Bool.false_eq_true, if_false]
    conv => whnf
    repeat ((first | refine AO.cons hT ?_ | refine AO.nil ?_ | refine AW.seq ?_ | refine AW.region ?_ | refine AW.cond ?_ | refine AW.block ?_ | refine AW.loop ?_ | refine AW.skip ?_ | refine AW.exit ?_ | refine AW.ret ?_ | refine AW.label ?_ | refine AW.scope ?_ | refine AF.one hT rfl ?_ | refine AF.nil ?_ | refine AF.imm hT rfl rfl rfl ?_ | refine AH.of hT rfl ?_ | refine AD.cons hT rfl ?_ | refine AD.nil ?_ | refine AQ.cons hT rfl ?_ | refine AQ.nil ?_); conv => whnf)
    refine ACond.yes rfl ?_
    conv => whnf
    repeat ((first | refine AO.cons hT ?_ | refine AO.nil ?_ | refine AW.seq ?_ | refine AW.region ?_ | refine AW.cond ?_ | refine AW.block ?_ | refine AW.loop ?_ | refine AW.skip ?_ | refine AW.exit ?_ | refine AW.ret ?_ | refine AW.label ?_ | refine AW.scope ?_ | refine AF.one hT rfl ?_ | refine AF.nil ?_ | refine AF.imm hT rfl rfl rfl ?_ | refine AH.of hT rfl ?_ | refine AD.cons hT rfl ?_ | refine AD.nil ?_ | refine AQ.cons hT rfl ?_ | refine AQ.nil ?_); conv => whnf)
    exact AFin.val rfl ⟨rfl, rfl⟩
end Go.Aw.T1

set_option linter.unusedSimpArgs false
set_option linter.unusedVariables false
set_option maxHeartbeats 1000000
namespace Go.Aw.T1
open Go Go.Proofs

def bitI (n : Int) (k : Nat) : Bool := decide (n / 2 ^ k % 2 = 1)
def fitB (r : Ro) (f : Fc) : Bool := bitI r.g f.g.toNat && bitI r.w (if f.w then 1 else 0) && decide (r.lo ≤ f.a) && decide (f.a ≤ r.hi)
theorem rowB_iff {r : Ro} : rowB r = true ↔ 1 ≤ r.g ∧ r.g < 16 ∧ 1 ≤ r.w ∧ r.w ≤ 3 ∧ 0 ≤ r.lo ∧ r.lo ≤ r.hi ∧ r.hi ≤ 1000000000000 ∧ 1 ≤ r.way ∧ r.way ≤ 5 := by
  unfold rowB
  simp only [Bool.and_eq_true, decide_eq_true_eq]
  constructor
  · rintro ⟨⟨⟨⟨⟨a, b⟩, c⟩, d⟩, ⟨e, f⟩, g⟩, h, i⟩; exact ⟨a, b, c, d, e, f, g, h, i⟩
  · rintro ⟨a, b, c, d, e, f, g, h, i⟩; exact ⟨⟨⟨⟨⟨a, b⟩, c⟩, d⟩, ⟨e, f⟩, g⟩, h, i⟩
theorem factB_iff {f : Fc} : factB f = true ↔ 0 ≤ f.g ∧ f.g ≤ 3 ∧ 0 ≤ f.a ∧ f.a ≤ 1000000000000 := by
  unfold factB
  simp only [Bool.not_eq_true', Bool.or_eq_false_iff, decide_eq_false_iff_not]
  omega
theorem bit_tab : ∀ g : Fin 16, ∀ k : Fin 4, decide (bitop .and .i64 (((g : Nat) : Int).fdiv (2 ^ min (k : Nat) 64)) 1 = 1) = bitI ((g : Nat) : Int) (k : Nat) := by decide +kernel
theorem bit_w : ∀ w : Fin 4, ∀ b : Bool, (!decide (bitop .and .i64 ((w : Nat) : Int) (if b then 2 else 1) = 0)) = bitI ((w : Nat) : Int) (if b then 1 else 0) := by decide +kernel
theorem bit_g {g : Int} {k : Int} (h1 : 0 ≤ g) (h2 : g < 16) (h3 : 0 ≤ k) (h4 : k < 4) : decide (bitop .and .i64 (g.fdiv (2 ^ min k.toNat IntKind.i64.bits)) 1 = 1) = bitI g k.toNat := by
  have := bit_tab ⟨g.toNat, by omega⟩ ⟨k.toNat, by omega⟩
  simp only at this
  rw [Int.toNat_of_nonneg h1] at this
  exact this
theorem bit_w' {w : Int} {b : Bool} (h1 : 0 ≤ w) (h2 : w < 4) : (!decide (bitop .and .i64 w (if b then 2 else 1) = 0)) = bitI w (if b then 1 else 0) := by
  have := bit_w ⟨w.toNat, by omega⟩ b
  simp only at this
  rw [Int.toNat_of_nonneg h1] at this
  exact this
theorem f39 (r : Ro) (f : Fc) (hr : rowB r = true) (hf : factB f = true) : Fun P 39 [roA r, fcA f] (bV (fitB r f)) := by
  obtain ⟨a1, a2, a3, a4, a5, a6, a7, a8, a9⟩ := rowB_iff.1 hr
  obtain ⟨b1, b2, b3, b4⟩ := factB_iff.1 hf
  have hg := bit_g (g := r.g) (k := f.g) (by omega) a2 b1 (by omega)
  have hw := bit_w' (w := r.w) (b := f.w) (by omega) (by omega)
  refine spec_of hT (f := 39) (fn := Go.Proofs.Try.f39) (c := body Go.Proofs.Try.f39) (by kernel_rfl) (by kernel_rfl) ?_
  unfold fitB
  obtain ⟨fg, fw, fa⟩ := f
  have b1 : 0 ≤ fg := b1
  dsimp only at hg hw ⊢
  rw [← hg, ← hw]
  clear hg hw
  cases fw <;>
  · conv => whnf
    repeat ((first | refine AO.cons hT ?_ | refine AO.nil ?_ | refine AW.seq ?_ | refine AW.region ?_ | refine AW.cond ?_ | refine AW.block ?_ | refine AW.loop ?_ | refine AW.skip ?_ | refine AW.exit ?_ | refine AW.ret ?_ | refine AW.label ?_ | refine AW.scope ?_ | refine AF.one hT rfl ?_ | refine AF.nil ?_ | refine AF.imm hT rfl rfl rfl ?_ | refine AH.of hT rfl ?_ | refine AD.cons hT rfl ?_ | refine AD.nil ?_ | refine AQ.cons hT rfl ?_ | refine AQ.nil ?_ | (refine AReq.mk b1 ?_)); conv => whnf)
    refine ACond.mk (fun h => ?_) (fun h => ?_) <;> first | (cases h; done) | skip
    conv => whnf
    repeat ((first | refine AO.cons hT ?_ | refine AO.nil ?_ | refine AW.seq ?_ | refine AW.region ?_ | refine AW.cond ?_ | refine AW.block ?_ | refine AW.loop ?_ | refine AW.skip ?_ | refine AW.exit ?_ | refine AW.ret ?_ | refine AW.label ?_ | refine AW.scope ?_ | refine AF.one hT rfl ?_ | refine AF.nil ?_ | refine AF.imm hT rfl rfl rfl ?_ | refine AH.of hT rfl ?_ | refine AD.cons hT rfl ?_ | refine AD.nil ?_ | refine AQ.cons hT rfl ?_ | refine AQ.nil ?_ | (refine AReq.mk b1 ?_)); conv => whnf)
    refine ASplit.mk (fun h1 => ?_) (fun h1 => ?_)
    · rw [h1, Bool.true_and]
      conv => whnf
      repeat ((first | refine AO.cons hT ?_ | refine AO.nil ?_ | refine AW.seq ?_ | refine AW.region ?_ | refine AW.cond ?_ | refine AW.block ?_ | refine AW.loop ?_ | refine AW.skip ?_ | refine AW.exit ?_ | refine AW.ret ?_ | refine AW.label ?_ | refine AW.scope ?_ | refine AF.one hT rfl ?_ | refine AF.nil ?_ | refine AF.imm hT rfl rfl rfl ?_ | refine AH.of hT rfl ?_ | refine AD.cons hT rfl ?_ | refine AD.nil ?_ | refine AQ.cons hT rfl ?_ | refine AQ.nil ?_ | (refine AReq.mk b1 ?_)); conv => whnf)
      refine ASplit.mk (fun h2 => ?_) (fun h2 => ?_)
      · simp only [Bool.false_eq_true, if_false, if_true]
        rw [h2, Bool.true_and]
        conv => whnf
        repeat ((first | refine AO.cons hT ?_ | refine AO.nil ?_ | refine AW.seq ?_ | refine AW.region ?_ | refine AW.cond ?_ | refine AW.block ?_ | refine AW.loop ?_ | refine AW.skip ?_ | refine AW.exit ?_ | refine AW.ret ?_ | refine AW.label ?_ | refine AW.scope ?_ | refine AF.one hT rfl ?_ | refine AF.nil ?_ | refine AF.imm hT rfl rfl rfl ?_ | refine AH.of hT rfl ?_ | refine AD.cons hT rfl ?_ | refine AD.nil ?_ | refine AQ.cons hT rfl ?_ | refine AQ.nil ?_ | (refine AReq.mk b1 ?_)); conv => whnf)
        refine ASplit.mk (fun h3 => ?_) (fun h3 => ?_)
        · rw [h3, Bool.true_and]
          conv => whnf
          repeat ((first | refine AO.cons hT ?_ | refine AO.nil ?_ | refine AW.seq ?_ | refine AW.region ?_ | refine AW.cond ?_ | refine AW.block ?_ | refine AW.loop ?_ | refine AW.skip ?_ | refine AW.exit ?_ | refine AW.ret ?_ | refine AW.label ?_ | refine AW.scope ?_ | refine AF.one hT rfl ?_ | refine AF.nil ?_ | refine AF.imm hT rfl rfl rfl ?_ | refine AH.of hT rfl ?_ | refine AD.cons hT rfl ?_ | refine AD.nil ?_ | refine AQ.cons hT rfl ?_ | refine AQ.nil ?_ | (refine AReq.mk b1 ?_)); conv => whnf)
          exact AFin.val rfl ⟨rfl, rfl⟩
        · rw [h3, Bool.false_and]
          conv => whnf
          repeat (first | (refine AW.label ?_; conv => whnf) | (refine AW.scope ?_; conv => whnf) | (refine AO.cons hT ?_; conv => whnf) | (refine AO.nil ?_; conv => whnf) | (refine AW.seq ?_; conv => whnf) | (refine AW.region ?_; conv => whnf) | (refine AW.cond ?_; conv => whnf) | (refine AW.block ?_; conv => whnf) | (refine AW.loop ?_; conv => whnf) | (refine AW.skip ?_; conv => whnf) | (refine AW.exit ?_; conv => whnf) | (refine AW.ret ?_; conv => whnf) | (refine AF.one hT rfl ?_; conv => whnf) | (refine AF.nil ?_; conv => whnf) | (refine AF.imm hT rfl rfl rfl ?_; conv => whnf) | (refine AH.of hT rfl ?_; conv => whnf) | (refine ASplit.yes rfl ?_; conv => whnf) | (refine ACond.yes rfl ?_; conv => whnf) | (refine ASplit.no rfl ?_; conv => whnf) | (refine ACond.no rfl ?_; conv => whnf) | (refine ASplit.yes (by decide) ?_; conv => whnf) | (refine ACond.yes (by decide) ?_; conv => whnf) | (refine AReq.mk (by decide) ?_; conv => whnf) | (refine AIdx.iff.2 ⟨by decide, ?_⟩; conv => whnf) | (refine AReq.mk b1 ?_; conv => whnf))
          exact AFin.val rfl ⟨rfl, rfl⟩
      · simp only [Bool.false_eq_true, if_false, if_true]
        rw [h2]
        conv => whnf
        repeat (first | (refine AW.label ?_; conv => whnf) | (refine AW.scope ?_; conv => whnf) | (refine AO.cons hT ?_; conv => whnf) | (refine AO.nil ?_; conv => whnf) | (refine AW.seq ?_; conv => whnf) | (refine AW.region ?_; conv => whnf) | (refine AW.cond ?_; conv => whnf) | (refine AW.block ?_; conv => whnf) | (refine AW.loop ?_; conv => whnf) | (refine AW.skip ?_; conv => whnf) | (refine AW.exit ?_; conv => whnf) | (refine AW.ret ?_; conv => whnf) | (refine AF.one hT rfl ?_; conv => whnf) | (refine AF.nil ?_; conv => whnf) | (refine AF.imm hT rfl rfl rfl ?_; conv => whnf) | (refine AH.of hT rfl ?_; conv => whnf) | (refine ASplit.yes rfl ?_; conv => whnf) | (refine ACond.yes rfl ?_; conv => whnf) | (refine ASplit.no rfl ?_; conv => whnf) | (refine ACond.no rfl ?_; conv => whnf) | (refine ASplit.yes (by decide) ?_; conv => whnf) | (refine ACond.yes (by decide) ?_; conv => whnf) | (refine AReq.mk (by decide) ?_; conv => whnf) | (refine AIdx.iff.2 ⟨by decide, ?_⟩; conv => whnf) | (refine AReq.mk b1 ?_; conv => whnf))
        exact AFin.val rfl ⟨rfl, rfl⟩
    · rw [h1]
      conv => whnf
      repeat (first | (refine AW.label ?_; conv => whnf) | (refine AW.scope ?_; conv => whnf) | (refine AO.cons hT ?_; conv => whnf) | (refine AO.nil ?_; conv => whnf) | (refine AW.seq ?_; conv => whnf) | (refine AW.region ?_; conv => whnf) | (refine AW.cond ?_; conv => whnf) | (refine AW.block ?_; conv => whnf) | (refine AW.loop ?_; conv => whnf) | (refine AW.skip ?_; conv => whnf) | (refine AW.exit ?_; conv => whnf) | (refine AW.ret ?_; conv => whnf) | (refine AF.one hT rfl ?_; conv => whnf) | (refine AF.nil ?_; conv => whnf) | (refine AF.imm hT rfl rfl rfl ?_; conv => whnf) | (refine AH.of hT rfl ?_; conv => whnf) | (refine ASplit.yes rfl ?_; conv => whnf) | (refine ACond.yes rfl ?_; conv => whnf) | (refine ASplit.no rfl ?_; conv => whnf) | (refine ACond.no rfl ?_; conv => whnf) | (refine ASplit.yes (by decide) ?_; conv => whnf) | (refine ACond.yes (by decide) ?_; conv => whnf) | (refine AReq.mk (by decide) ?_; conv => whnf) | (refine AIdx.iff.2 ⟨by decide, ?_⟩; conv => whnf) | (refine AReq.mk b1 ?_; conv => whnf))
      exact AFin.val rfl ⟨rfl, rfl⟩
def decG (f : Fc) : List Ro → Nat → Int × Int × Int
  | [], _ => (0, 0, 36)
  | r :: rs, i => if fitB r f then (r.way, (i : Int), 0) else decG f rs (i + 1)
def decF (l : List Ro) (f : Fc) : Int × Int × Int := if tabB l then if factB f then decG f l 0 else (0, 0, 2) else (0, 0, 36)
def trip (x : Int × Int × Int) : AV := .tup [nV x.1, nV x.2.1, nV x.2.2]
theorem tabB_row {l : List Ro} (h : tabB l = true) : l.length ≤ 20 ∧ 1 ≤ l.length ∧ ∀ r ∈ l, rowB r = true := by
  unfold tabB at h
  simp only [Bool.and_eq_true, decide_eq_true_eq, List.all_eq_true] at h
  exact ⟨h.1.2, h.1.1, h.2⟩
theorem f19 (l : List Ro) (f : Fc) : Fun P 19 [roV l, fcA f] (trip (decF l f)) := by
  refine spec_of hT (f := 19) (fn := Go.Proofs.Try.f19) (c := body Go.Proofs.Try.f19) (by kernel_rfl) (by kernel_rfl) ?_
  unfold decF
  have h38 := f38 l f
  conv => whnf
  repeat ((first | refine AO.cons hT ?_ | refine AO.nil ?_ | refine AW.seq ?_ | refine AW.region ?_ | refine AW.cond ?_ | refine AW.block ?_ | refine AW.loop ?_ | refine AW.skip ?_ | refine AW.exit ?_ | refine AW.ret ?_ | refine AW.label ?_ | refine AW.scope ?_ | refine AF.one hT rfl ?_ | refine AF.nil ?_ | refine AF.imm hT rfl rfl rfl ?_ | refine AH.of hT rfl ?_ | refine AD.cons hT rfl ?_ | refine AD.nil ?_ | refine AQ.cons hT rfl ?_ | refine AQ.nil ?_); conv => whnf)
  refine ACall.val (by kernel_rfl) h38 (show [(roV l).ren _, _] = _ by rw [roV_ren]; rfl) rfl ?_
  rcases Bool.eq_false_or_eq_true (tabB l) with g | g
  · rcases Bool.eq_false_or_eq_true (factB f) with g2 | g2
    · obtain ⟨t1, t2, t3⟩ := tabB_row g
      simp only [g, g2, if_true]
      conv => whnf
      repeat ((first | refine AO.cons hT ?_ | refine AO.nil ?_ | refine AW.seq ?_ | refine AW.region ?_ | refine AW.cond ?_ | refine AW.block ?_ | refine AW.loop ?_ | refine AW.skip ?_ | refine AW.exit ?_ | refine AW.ret ?_ | refine AW.label ?_ | refine AW.scope ?_ | refine AF.one hT rfl ?_ | refine AF.nil ?_ | refine AF.imm hT rfl rfl rfl ?_ | refine AH.of hT rfl ?_ | refine AD.cons hT rfl ?_ | refine AD.nil ?_ | refine AQ.cons hT rfl ?_ | refine AQ.nil ?_); conv => whnf)
      refine ACond.no rfl ?_
      conv => whnf
      repeat ((first | refine AO.cons hT ?_ | refine AO.nil ?_ | refine AW.seq ?_ | refine AW.region ?_ | refine AW.cond ?_ | refine AW.block ?_ | refine AW.loop ?_ | refine AW.skip ?_ | refine AW.exit ?_ | refine AW.ret ?_ | refine AW.label ?_ | refine AW.scope ?_ | refine AF.one hT rfl ?_ | refine AF.nil ?_ | refine AF.imm hT rfl rfl rfl ?_ | refine AH.of hT rfl ?_ | refine AD.cons hT rfl ?_ | refine AD.nil ?_ | refine AQ.cons hT rfl ?_ | refine AQ.nil ?_); conv => whnf)
      refine ALoop.mk (fun j E H => ∃ i : Nat, j + i = l.length ∧ decG f (l.drop i) i = decG f l 0 ∧ E = pad ([.any, .any, .any, .ptr 0 0, .v (.int .i64 0), .v (.int .i64 0), .v (.int .i64 0), .v (.int .i64 0)] ++ List.replicate 8 .any ++ [roV l, nV l.length, nV i]) 31 ∧ H = [.cells 28 (fcC f)])
        (n := l.length) _ _ ⟨0, rfl, rfl, rfl, rfl⟩ (Conv.fit (by repeat' (first | exact Fit.nil | refine Fit.any ?_ | refine Fit.same ?_))) ?_
      rintro j _ _ ⟨i, hj, hd, rfl, rfl⟩
      conv => whnf
      repeat ((first | refine AO.cons hT ?_ | refine AO.nil ?_ | refine AW.seq ?_ | refine AW.region ?_ | refine AW.cond ?_ | refine AW.block ?_ | refine AW.loop ?_ | refine AW.skip ?_ | refine AW.exit ?_ | refine AW.ret ?_ | refine AW.label ?_ | refine AW.scope ?_ | refine AF.one hT rfl ?_ | refine AF.nil ?_ | refine AF.imm hT rfl rfl rfl ?_ | refine AH.of hT rfl ?_ | refine AD.cons hT rfl ?_ | refine AD.nil ?_ | refine AQ.cons hT rfl ?_ | refine AQ.nil ?_); conv => whnf)
      refine ACond.dec (fun h3 => ?_) (fun h3 => ?_)
      · have hil : i < l.length := by omega
        have w1 : IntKind.wrap .i64 ((i : Int) + 1) = ((i + 1 : Nat) : Int) := by rw [wrap_i64 _ (by omega) (by omega)]; omega
        rw [List.drop_eq_getElem_cons hil, decG] at hd
        have h39 := f39 l[i] f (t3 _ (List.getElem_mem hil)) g2
        conv => whnf
        repeat ((first | refine AO.cons hT ?_ | refine AO.nil ?_ | refine AW.seq ?_ | refine AW.region ?_ | refine AW.cond ?_ | refine AW.block ?_ | refine AW.loop ?_ | refine AW.skip ?_ | refine AW.exit ?_ | refine AW.ret ?_ | refine AW.label ?_ | refine AW.scope ?_ | refine AF.one hT rfl ?_ | refine AF.nil ?_ | refine AF.imm hT rfl rfl rfl ?_ | refine AH.of hT rfl ?_ | refine AD.cons hT rfl ?_ | refine AD.nil ?_ | refine AQ.cons hT rfl ?_ | refine AQ.nil ?_ | (refine AReq.mk (by omega) ?_) | (refine AIdx.flat (enc := roC) roC_len (xs := l) (i := i) hil ?_) | (refine ACall.val (by kernel_rfl) h39 rfl rfl ?_)); conv => whnf)
        refine ACond.mk (fun h4 => ?_) (fun h4 => ?_)
        · have h4 := nb1 h4
          rw [h4] at hd
          simp only [Bool.false_eq_true, if_false] at hd
          conv => whnf
          repeat ((first | refine AO.cons hT ?_ | refine AO.nil ?_ | refine AW.seq ?_ | refine AW.region ?_ | refine AW.cond ?_ | refine AW.block ?_ | refine AW.loop ?_ | refine AW.skip ?_ | refine AW.exit ?_ | refine AW.ret ?_ | refine AW.label ?_ | refine AW.scope ?_ | refine AF.one hT rfl ?_ | refine AF.nil ?_ | refine AF.imm hT rfl rfl rfl ?_ | refine AH.of hT rfl ?_ | refine AD.cons hT rfl ?_ | refine AD.nil ?_ | refine AQ.cons hT rfl ?_ | refine AQ.nil ?_ | (refine AReq.mk (by omega) ?_) | (refine AIdx.flat (enc := roC) roC_len (xs := l) (i := i) hil ?_) | (refine ACall.val (by kernel_rfl) h39 rfl rfl ?_)); conv => whnf)
          rw [w1]
          refine AHead.mk (j - 1) _ _ (by omega) ⟨i + 1, by omega, hd, rfl, rfl⟩ (Conv.ren [0] _ (fun _ h => absurd h (Nat.not_lt_zero _)) (by decide) ?_ (.same rfl .nil))
          repeat' (first | exact Fit.nil | refine Fit.any ?_ | refine Fit.same ?_ | refine Fit.eq (roV_ren _ _) ?_)
        · have h4 := nb0 h4
          rw [h4] at hd
          simp only [if_true] at hd
          rw [← hd]
          conv => whnf
          repeat ((first | refine AO.cons hT ?_ | refine AO.nil ?_ | refine AW.seq ?_ | refine AW.region ?_ | refine AW.cond ?_ | refine AW.block ?_ | refine AW.loop ?_ | refine AW.skip ?_ | refine AW.exit ?_ | refine AW.ret ?_ | refine AW.label ?_ | refine AW.scope ?_ | refine AF.one hT rfl ?_ | refine AF.nil ?_ | refine AF.imm hT rfl rfl rfl ?_ | refine AH.of hT rfl ?_ | refine AD.cons hT rfl ?_ | refine AD.nil ?_ | refine AQ.cons hT rfl ?_ | refine AQ.nil ?_ | (refine AReq.mk (by omega) ?_) | (refine AIdx.flat (enc := roC) roC_len (xs := l) (i := i) hil ?_) | (refine ACall.val (by kernel_rfl) h39 rfl rfl ?_)); conv => whnf)
          refine AOut.stay ?_
          conv => whnf
          repeat ((first | refine AO.cons hT ?_ | refine AO.nil ?_ | refine AW.seq ?_ | refine AW.region ?_ | refine AW.cond ?_ | refine AW.block ?_ | refine AW.loop ?_ | refine AW.skip ?_ | refine AW.exit ?_ | refine AW.ret ?_ | refine AW.label ?_ | refine AW.scope ?_ | refine AF.one hT rfl ?_ | refine AF.nil ?_ | refine AF.imm hT rfl rfl rfl ?_ | refine AH.of hT rfl ?_ | refine AD.cons hT rfl ?_ | refine AD.nil ?_ | refine AQ.cons hT rfl ?_ | refine AQ.nil ?_ | (refine AReq.mk (by omega) ?_) | (refine AIdx.flat (enc := roC) roC_len (xs := l) (i := i) hil ?_) | (refine ACall.val (by kernel_rfl) h39 rfl rfl ?_)); conv => whnf)
          exact AFin.val rfl ⟨rfl, rfl⟩
      · rw [List.drop_eq_nil_of_le (by omega)] at hd
        rw [← hd]
        conv => whnf
        repeat ((first | refine AO.cons hT ?_ | refine AO.nil ?_ | refine AW.seq ?_ | refine AW.region ?_ | refine AW.cond ?_ | refine AW.block ?_ | refine AW.loop ?_ | refine AW.skip ?_ | refine AW.exit ?_ | refine AW.ret ?_ | refine AW.label ?_ | refine AW.scope ?_ | refine AF.one hT rfl ?_ | refine AF.nil ?_ | refine AF.imm hT rfl rfl rfl ?_ | refine AH.of hT rfl ?_ | refine AD.cons hT rfl ?_ | refine AD.nil ?_ | refine AQ.cons hT rfl ?_ | refine AQ.nil ?_ | (refine AReq.mk (by omega) ?_) | (refine AIdx.flat (enc := roC) roC_len (xs := l) (i := i) hil ?_) | (refine ACall.val (by kernel_rfl) h39 rfl rfl ?_)); conv => whnf)
        refine AOut.stay ?_
        conv => whnf
        repeat ((first | refine AO.cons hT ?_ | refine AO.nil ?_ | refine AW.seq ?_ | refine AW.region ?_ | refine AW.cond ?_ | refine AW.block ?_ | refine AW.loop ?_ | refine AW.skip ?_ | refine AW.exit ?_ | refine AW.ret ?_ | refine AW.label ?_ | refine AW.scope ?_ | refine AF.one hT rfl ?_ | refine AF.nil ?_ | refine AF.imm hT rfl rfl rfl ?_ | refine AH.of hT rfl ?_ | refine AD.cons hT rfl ?_ | refine AD.nil ?_ | refine AQ.cons hT rfl ?_ | refine AQ.nil ?_ | (refine AReq.mk (by omega) ?_) | (refine AIdx.flat (enc := roC) roC_len (xs := l) (i := i) hil ?_) | (refine ACall.val (by kernel_rfl) h39 rfl rfl ?_)); conv => whnf)
        exact AFin.val rfl ⟨rfl, rfl⟩
    · simp only [g, g2, if_true, Bool.false_eq_true, if_false]
      conv => whnf
      repeat ((first | refine AO.cons hT ?_ | refine AO.nil ?_ | refine AW.seq ?_ | refine AW.region ?_ | refine AW.cond ?_ | refine AW.block ?_ | refine AW.loop ?_ | refine AW.skip ?_ | refine AW.exit ?_ | refine AW.ret ?_ | refine AW.label ?_ | refine AW.scope ?_ | refine AF.one hT rfl ?_ | refine AF.nil ?_ | refine AF.imm hT rfl rfl rfl ?_ | refine AH.of hT rfl ?_ | refine AD.cons hT rfl ?_ | refine AD.nil ?_ | refine AQ.cons hT rfl ?_ | refine AQ.nil ?_); conv => whnf)
      refine ACond.yes rfl ?_
      conv => whnf
      repeat ((first | refine AO.cons hT ?_ | refine AO.nil ?_ | refine AW.seq ?_ | refine AW.region ?_ | refine AW.cond ?_ | refine AW.block ?_ | refine AW.loop ?_ | refine AW.skip ?_ | refine AW.exit ?_ | refine AW.ret ?_ | refine AW.label ?_ | refine AW.scope ?_ | refine AF.one hT rfl ?_ | refine AF.nil ?_ | refine AF.imm hT rfl rfl rfl ?_ | refine AH.of hT rfl ?_ | refine AD.cons hT rfl ?_ | refine AD.nil ?_ | refine AQ.cons hT rfl ?_ | refine AQ.nil ?_); conv => whnf)
      exact AFin.val rfl ⟨rfl, rfl⟩
  · simp only [g, Bool.false_eq_true, if_false]
    conv => whnf
    repeat ((first | refine AO.cons hT ?_ | refine AO.nil ?_ | refine AW.seq ?_ | refine AW.region ?_ | refine AW.cond ?_ | refine AW.block ?_ | refine AW.loop ?_ | refine AW.skip ?_ | refine AW.exit ?_ | refine AW.ret ?_ | refine AW.label ?_ | refine AW.scope ?_ | refine AF.one hT rfl ?_ | refine AF.nil ?_ | refine AF.imm hT rfl rfl rfl ?_ | refine AH.of hT rfl ?_ | refine AD.cons hT rfl ?_ | refine AD.nil ?_ | refine AQ.cons hT rfl ?_ | refine AQ.nil ?_); conv => whnf)
    refine ACond.yes rfl ?_
    conv => whnf
    repeat ((first | refine AO.cons hT ?_ | refine AO.nil ?_ | refine AW.seq ?_ | refine AW.region ?_ | refine AW.cond ?_ | refine AW.block ?_ | refine AW.loop ?_ | refine AW.skip ?_ | refine AW.exit ?_ | refine AW.ret ?_ | refine AW.label ?_ | refine AW.scope ?_ | refine AF.one hT rfl ?_ | refine AF.nil ?_ | refine AF.imm hT rfl rfl rfl ?_ | refine AH.of hT rfl ?_ | refine AD.cons hT rfl ?_ | refine AD.nil ?_ | refine AQ.cons hT rfl ?_ | refine AQ.nil ?_); conv => whnf)
    exact AFin.val rfl ⟨rfl, rfl⟩
end Go.Aw.T1

set_option linter.unusedSimpArgs false
set_option linter.unusedVariables false
set_option maxHeartbeats 1000000
namespace Go.Aw.T1
open Go Go.Proofs

theorem f43 (r : Ro) : Fun P 43 [roA r] (nV (if rowB r then 0 else 36)) := by
  refine spec_of hT (f := 43) (fn := Go.Proofs.Try.f43) (c := body Go.Proofs.Try.f43) (by kernel_rfl) (by kernel_rfl) ?_
  have hb : ∀ b, rowB r = b → (if rowB r = true then (0 : Int) else 36) = if b = true then 0 else 36 := fun b h => by rw [h]
  have hi := rowB_iff (r := r)
  conv => whnf
  repeat' (first | (refine AW.label ?_; conv => whnf) | (refine AW.scope ?_; conv => whnf) | (refine AO.cons hT ?_; conv => whnf) | (refine AO.nil ?_; conv => whnf) | (refine AW.seq ?_; conv => whnf) | (refine AW.region ?_; conv => whnf) | (refine AW.cond ?_; conv => whnf) | (refine AW.block ?_; conv => whnf) | (refine AW.loop ?_; conv => whnf) | (refine AW.skip ?_; conv => whnf) | (refine AW.exit ?_; conv => whnf) | (refine AW.ret ?_; conv => whnf) | (refine AF.one hT rfl ?_; conv => whnf) | (refine AF.nil ?_; conv => whnf) | (refine AF.imm hT rfl rfl rfl ?_; conv => whnf) | (refine AH.of hT rfl ?_; conv => whnf) | (refine ASplit.yes rfl ?_ <;> conv => whnf) | (refine ASplit.no rfl ?_ <;> conv => whnf) | (refine ACond.yes rfl ?_ <;> conv => whnf) | (refine ACond.no rfl ?_ <;> conv => whnf) | (refine ASplit.dec (fun _ => ?_) (fun _ => ?_) <;> conv => whnf) | (refine ASplit.ndec (fun _ => ?_) (fun _ => ?_) <;> conv => whnf) | (refine ACond.dec (fun _ => ?_) (fun _ => ?_) <;> conv => whnf) | (refine ACond.ndec (fun _ => ?_) (fun _ => ?_) <;> conv => whnf))
  all_goals refine AFin.val rfl ⟨congrArg nV ?_, rfl⟩
  all_goals first
    | (rw [hb true (hi.2 (by omega))]; rfl)
    | (rw [hb false (by cases h : rowB r with
        | false => rfl
        | true => have := hi.1 h; omega)]; rfl)
theorem f44 (f : Fc) : Fun P 44 [fcA f] (nV (if factB f then 0 else 2)) := by
  refine spec_of hT (f := 44) (fn := Go.Proofs.Try.f44) (c := body Go.Proofs.Try.f44) (by kernel_rfl) (by kernel_rfl) ?_
  have hb : ∀ b, factB f = b → (if factB f = true then (0 : Int) else 2) = if b = true then 0 else 2 := fun b h => by rw [h]
  have hi := factB_iff (f := f)
  conv => whnf
  repeat' (first | (refine AW.label ?_; conv => whnf) | (refine AW.scope ?_; conv => whnf) | (refine AO.cons hT ?_; conv => whnf) | (refine AO.nil ?_; conv => whnf) | (refine AW.seq ?_; conv => whnf) | (refine AW.region ?_; conv => whnf) | (refine AW.cond ?_; conv => whnf) | (refine AW.block ?_; conv => whnf) | (refine AW.loop ?_; conv => whnf) | (refine AW.skip ?_; conv => whnf) | (refine AW.exit ?_; conv => whnf) | (refine AW.ret ?_; conv => whnf) | (refine AF.one hT rfl ?_; conv => whnf) | (refine AF.nil ?_; conv => whnf) | (refine AF.imm hT rfl rfl rfl ?_; conv => whnf) | (refine AH.of hT rfl ?_; conv => whnf) | (refine ASplit.yes rfl ?_ <;> conv => whnf) | (refine ASplit.no rfl ?_ <;> conv => whnf) | (refine ACond.yes rfl ?_ <;> conv => whnf) | (refine ACond.no rfl ?_ <;> conv => whnf) | (refine ASplit.dec (fun _ => ?_) (fun _ => ?_) <;> conv => whnf) | (refine ASplit.ndec (fun _ => ?_) (fun _ => ?_) <;> conv => whnf) | (refine ACond.dec (fun _ => ?_) (fun _ => ?_) <;> conv => whnf) | (refine ACond.ndec (fun _ => ?_) (fun _ => ?_) <;> conv => whnf))
  all_goals refine AFin.val rfl ⟨congrArg nV ?_, rfl⟩
  all_goals first
    | (rw [hb true (hi.2 (by omega))]; rfl)
    | (rw [hb false (by cases h : factB f with
        | false => rfl
        | true => have := hi.1 h; omega)]; rfl)
theorem f25 (l : List Ro) (hl : l.length ≤ 9223372036854775807) : Fun P 25 [roV l] (nV (if tabB l then 0 else 36)) := by
  refine spec_of hT (f := 25) (fn := Go.Proofs.Try.f25) (c := body Go.Proofs.Try.f25) (by kernel_rfl) (by kernel_rfl) ?_
  unfold tabB
  conv => whnf
  repeat ((first | refine AO.cons hT ?_ | refine AO.nil ?_ | refine AW.seq ?_ | refine AW.region ?_ | refine AW.cond ?_ | refine AW.block ?_ | refine AW.loop ?_ | refine AW.skip ?_ | refine AW.exit ?_ | refine AW.ret ?_ | refine AW.label ?_ | refine AW.scope ?_ | refine AF.one hT rfl ?_ | refine AF.nil ?_ | refine AF.imm hT rfl rfl rfl ?_ | refine AH.of hT rfl ?_ | refine AD.cons hT rfl ?_ | refine AD.nil ?_ | refine AQ.cons hT rfl ?_ | refine AQ.nil ?_); conv => whnf)
  refine ASplit.dec (fun h1 => ?_) (fun h1 => ?_)
  · rw [decide_eq_false (show ¬ 1 ≤ l.length by omega)]
    conv => whnf
    repeat (first | (refine AW.label ?_; conv => whnf) | (refine AW.scope ?_; conv => whnf) | (refine AO.cons hT ?_; conv => whnf) | (refine AO.nil ?_; conv => whnf) | (refine AW.seq ?_; conv => whnf) | (refine AW.region ?_; conv => whnf) | (refine AW.cond ?_; conv => whnf) | (refine AW.block ?_; conv => whnf) | (refine AW.loop ?_; conv => whnf) | (refine AW.skip ?_; conv => whnf) | (refine AW.exit ?_; conv => whnf) | (refine AW.ret ?_; conv => whnf) | (refine AF.one hT rfl ?_; conv => whnf) | (refine AF.nil ?_; conv => whnf) | (refine AF.imm hT rfl rfl rfl ?_; conv => whnf) | (refine AH.of hT rfl ?_; conv => whnf) | (refine ASplit.yes rfl ?_; conv => whnf) | (refine ACond.yes rfl ?_; conv => whnf) | (refine ASplit.no rfl ?_; conv => whnf) | (refine ACond.no rfl ?_; conv => whnf) | (refine ASplit.yes (by decide) ?_; conv => whnf) | (refine ACond.yes (by decide) ?_; conv => whnf) | (refine AReq.mk (by decide) ?_; conv => whnf) | (refine AIdx.iff.2 ⟨by decide, ?_⟩; conv => whnf))
    exact AFin.val rfl ⟨rfl, rfl⟩
  conv => whnf
  repeat ((first | refine AO.cons hT ?_ | refine AO.nil ?_ | refine AW.seq ?_ | refine AW.region ?_ | refine AW.cond ?_ | refine AW.block ?_ | refine AW.loop ?_ | refine AW.skip ?_ | refine AW.exit ?_ | refine AW.ret ?_ | refine AW.label ?_ | refine AW.scope ?_ | refine AF.one hT rfl ?_ | refine AF.nil ?_ | refine AF.imm hT rfl rfl rfl ?_ | refine AH.of hT rfl ?_ | refine AD.cons hT rfl ?_ | refine AD.nil ?_ | refine AQ.cons hT rfl ?_ | refine AQ.nil ?_); conv => whnf)
  refine ACond.dec (fun h2 => ?_) (fun h2 => ?_)
  · rw [decide_eq_false (show ¬ l.length ≤ 20 by omega), Bool.and_false]
    conv => whnf
    repeat (first | (refine AW.label ?_; conv => whnf) | (refine AW.scope ?_; conv => whnf) | (refine AO.cons hT ?_; conv => whnf) | (refine AO.nil ?_; conv => whnf) | (refine AW.seq ?_; conv => whnf) | (refine AW.region ?_; conv => whnf) | (refine AW.cond ?_; conv => whnf) | (refine AW.block ?_; conv => whnf) | (refine AW.loop ?_; conv => whnf) | (refine AW.skip ?_; conv => whnf) | (refine AW.exit ?_; conv => whnf) | (refine AW.ret ?_; conv => whnf) | (refine AF.one hT rfl ?_; conv => whnf) | (refine AF.nil ?_; conv => whnf) | (refine AF.imm hT rfl rfl rfl ?_; conv => whnf) | (refine AH.of hT rfl ?_; conv => whnf) | (refine ASplit.yes rfl ?_; conv => whnf) | (refine ACond.yes rfl ?_; conv => whnf) | (refine ASplit.no rfl ?_; conv => whnf) | (refine ACond.no rfl ?_; conv => whnf) | (refine ASplit.yes (by decide) ?_; conv => whnf) | (refine ACond.yes (by decide) ?_; conv => whnf) | (refine AReq.mk (by decide) ?_; conv => whnf) | (refine AIdx.iff.2 ⟨by decide, ?_⟩; conv => whnf))
    exact AFin.val rfl ⟨rfl, rfl⟩
  rw [decide_eq_true (show 1 ≤ l.length by omega), decide_eq_true (show l.length ≤ 20 by omega), Bool.true_and, Bool.true_and]
  conv => whnf
  repeat ((first | refine AO.cons hT ?_ | refine AO.nil ?_ | refine AW.seq ?_ | refine AW.region ?_ | refine AW.cond ?_ | refine AW.block ?_ | refine AW.loop ?_ | refine AW.skip ?_ | refine AW.exit ?_ | refine AW.ret ?_ | refine AW.label ?_ | refine AW.scope ?_ | refine AF.one hT rfl ?_ | refine AF.nil ?_ | refine AF.imm hT rfl rfl rfl ?_ | refine AH.of hT rfl ?_ | refine AD.cons hT rfl ?_ | refine AD.nil ?_ | refine AQ.cons hT rfl ?_ | refine AQ.nil ?_); conv => whnf)
  refine ALoop.mk (fun j E H => ∃ i : Nat, j + i = l.length ∧ (∀ k (h : k < l.length), k < i → rowB l[k] = true) ∧ E = pad [roV l, .any, .any, nV i] 24 ∧ H = [])
    (n := l.length) _ _ ⟨0, rfl, fun _ _ h => absurd h (Nat.not_lt_zero _), rfl, rfl⟩ (Conv.fit (by repeat' (first | exact Fit.nil | refine Fit.any ?_ | refine Fit.same ?_))) ?_
  rintro j _ _ ⟨i, hj, hok, rfl, rfl⟩
  conv => whnf
  repeat ((first | refine AO.cons hT ?_ | refine AO.nil ?_ | refine AW.seq ?_ | refine AW.region ?_ | refine AW.cond ?_ | refine AW.block ?_ | refine AW.loop ?_ | refine AW.skip ?_ | refine AW.exit ?_ | refine AW.ret ?_ | refine AW.label ?_ | refine AW.scope ?_ | refine AF.one hT rfl ?_ | refine AF.nil ?_ | refine AF.imm hT rfl rfl rfl ?_ | refine AH.of hT rfl ?_ | refine AD.cons hT rfl ?_ | refine AD.nil ?_ | refine AQ.cons hT rfl ?_ | refine AQ.nil ?_); conv => whnf)
  refine ACond.dec (fun h3 => ?_) (fun h3 => ?_)
  · have hil : i < l.length := by omega
    have w1 : IntKind.wrap .i64 ((i : Int) + 1) = ((i + 1 : Nat) : Int) := by rw [wrap_i64 _ (by omega) (by omega)]; omega
    conv => whnf
    repeat ((first | refine AO.cons hT ?_ | refine AO.nil ?_ | refine AW.seq ?_ | refine AW.region ?_ | refine AW.cond ?_ | refine AW.block ?_ | refine AW.loop ?_ | refine AW.skip ?_ | refine AW.exit ?_ | refine AW.ret ?_ | refine AW.label ?_ | refine AW.scope ?_ | refine AF.one hT rfl ?_ | refine AF.nil ?_ | refine AF.imm hT rfl rfl rfl ?_ | refine AH.of hT rfl ?_ | refine AD.cons hT rfl ?_ | refine AD.nil ?_ | refine AQ.cons hT rfl ?_ | refine AQ.nil ?_ | (refine AReq.mk (by omega) ?_) | (refine AIdx.flat (enc := roC) roC_len (xs := l) (i := i) hil ?_) | (refine ACall.val (by kernel_rfl) (f43 l[i]) rfl rfl ?_)); conv => whnf)
    refine ACond.mk (fun h4 => ?_) (fun h4 => ?_)
    · have hb : rowB l[i] = false := by
        rcases Bool.eq_false_or_eq_true (rowB l[i]) with g | g
        · rw [g] at h4; simp at h4
        · exact g
      rw [all_get hil hb]
      conv => whnf
      repeat ((first | refine AO.cons hT ?_ | refine AO.nil ?_ | refine AW.seq ?_ | refine AW.region ?_ | refine AW.cond ?_ | refine AW.block ?_ | refine AW.loop ?_ | refine AW.skip ?_ | refine AW.exit ?_ | refine AW.ret ?_ | refine AW.label ?_ | refine AW.scope ?_ | refine AF.one hT rfl ?_ | refine AF.nil ?_ | refine AF.imm hT rfl rfl rfl ?_ | refine AH.of hT rfl ?_ | refine AD.cons hT rfl ?_ | refine AD.nil ?_ | refine AQ.cons hT rfl ?_ | refine AQ.nil ?_ | (refine AReq.mk (by omega) ?_) | (refine AIdx.flat (enc := roC) roC_len (xs := l) (i := i) hil ?_) | (refine ACall.val (by kernel_rfl) (f43 l[i]) rfl rfl ?_)); conv => whnf)
      refine AOut.stay ?_
      conv => whnf
      repeat ((first | refine AO.cons hT ?_ | refine AO.nil ?_ | refine AW.seq ?_ | refine AW.region ?_ | refine AW.cond ?_ | refine AW.block ?_ | refine AW.loop ?_ | refine AW.skip ?_ | refine AW.exit ?_ | refine AW.ret ?_ | refine AW.label ?_ | refine AW.scope ?_ | refine AF.one hT rfl ?_ | refine AF.nil ?_ | refine AF.imm hT rfl rfl rfl ?_ | refine AH.of hT rfl ?_ | refine AD.cons hT rfl ?_ | refine AD.nil ?_ | refine AQ.cons hT rfl ?_ | refine AQ.nil ?_ | (refine AReq.mk (by omega) ?_) | (refine AIdx.flat (enc := roC) roC_len (xs := l) (i := i) hil ?_) | (refine ACall.val (by kernel_rfl) (f43 l[i]) rfl rfl ?_)); conv => whnf)
      exact AFin.val rfl ⟨rfl, rfl⟩
    · have hb : rowB l[i] = true := by
        rcases Bool.eq_false_or_eq_true (rowB l[i]) with g | g
        · exact g
        · rw [g] at h4; simp at h4
      conv => whnf
      repeat ((first | refine AO.cons hT ?_ | refine AO.nil ?_ | refine AW.seq ?_ | refine AW.region ?_ | refine AW.cond ?_ | refine AW.block ?_ | refine AW.loop ?_ | refine AW.skip ?_ | refine AW.exit ?_ | refine AW.ret ?_ | refine AW.label ?_ | refine AW.scope ?_ | refine AF.one hT rfl ?_ | refine AF.nil ?_ | refine AF.imm hT rfl rfl rfl ?_ | refine AH.of hT rfl ?_ | refine AD.cons hT rfl ?_ | refine AD.nil ?_ | refine AQ.cons hT rfl ?_ | refine AQ.nil ?_ | (refine AReq.mk (by omega) ?_) | (refine AIdx.flat (enc := roC) roC_len (xs := l) (i := i) hil ?_) | (refine ACall.val (by kernel_rfl) (f43 l[i]) rfl rfl ?_)); conv => whnf)
      rw [w1]
      refine AHead.mk (j - 1) _ _ (by omega) ⟨i + 1, by omega, ?_, rfl, rfl⟩ (Conv.fit (by repeat' (first | exact Fit.nil | refine Fit.any ?_ | refine Fit.same ?_)))
      intro k hk hki
      rcases Nat.lt_or_ge k i with g | g
      · exact hok k hk g
      · obtain rfl : k = i := by omega
        exact hb
  · have hall : l.all rowB = true := by
      rw [List.all_eq_true]
      intro r hr
      obtain ⟨k, hk, rfl⟩ := List.mem_iff_getElem.1 hr
      exact hok k hk (by omega)
    rw [hall]
    conv => whnf
    repeat ((first | refine AO.cons hT ?_ | refine AO.nil ?_ | refine AW.seq ?_ | refine AW.region ?_ | refine AW.cond ?_ | refine AW.block ?_ | refine AW.loop ?_ | refine AW.skip ?_ | refine AW.exit ?_ | refine AW.ret ?_ | refine AW.label ?_ | refine AW.scope ?_ | refine AF.one hT rfl ?_ | refine AF.nil ?_ | refine AF.imm hT rfl rfl rfl ?_ | refine AH.of hT rfl ?_ | refine AD.cons hT rfl ?_ | refine AD.nil ?_ | refine AQ.cons hT rfl ?_ | refine AQ.nil ?_ | (refine AReq.mk (by omega) ?_) | (refine AIdx.flat (enc := roC) roC_len (xs := l) (i := i) hil ?_) | (refine ACall.val (by kernel_rfl) (f43 l[i]) rfl rfl ?_)); conv => whnf)
    refine AOut.stay ?_
    conv => whnf
    repeat ((first | refine AO.cons hT ?_ | refine AO.nil ?_ | refine AW.seq ?_ | refine AW.region ?_ | refine AW.cond ?_ | refine AW.block ?_ | refine AW.loop ?_ | refine AW.skip ?_ | refine AW.exit ?_ | refine AW.ret ?_ | refine AW.label ?_ | refine AW.scope ?_ | refine AF.one hT rfl ?_ | refine AF.nil ?_ | refine AF.imm hT rfl rfl rfl ?_ | refine AH.of hT rfl ?_ | refine AD.cons hT rfl ?_ | refine AD.nil ?_ | refine AQ.cons hT rfl ?_ | refine AQ.nil ?_ | (refine AReq.mk (by omega) ?_) | (refine AIdx.flat (enc := roC) roC_len (xs := l) (i := i) hil ?_) | (refine ACall.val (by kernel_rfl) (f43 l[i]) rfl rfl ?_)); conv => whnf)
    exact AFin.val rfl ⟨rfl, rfl⟩
theorem bit_half {n : Int} (h0 : 0 ≤ n) (k : Nat) : bitI (n.tdiv 2) k = bitI n (k + 1) := by
  unfold bitI
  rw [Int.tdiv_eq_ediv_of_nonneg h0, Int.ediv_ediv_of_nonneg (by omega)]
  congr 4
  rw [Int.pow_succ, Int.mul_comm]
theorem f45 (n : Int) (k : Int) (h0 : 0 ≤ n) (hn : n ≤ 9223372036854775807) (hk0 : 0 ≤ k) (hk : k ≤ 64) : Fun P 45 [nV n, nV k] (bV (bitI n k.toNat)) := by
  refine spec_of hT (f := 45) (fn := Go.Proofs.Try.f45) (c := body Go.Proofs.Try.f45) (by kernel_rfl) (by kernel_rfl) ?_
  conv => whnf
  repeat ((first | refine AO.cons hT ?_ | refine AO.nil ?_ | refine AW.seq ?_ | refine AW.region ?_ | refine AW.cond ?_ | refine AW.block ?_ | refine AW.loop ?_ | refine AW.skip ?_ | refine AW.exit ?_ | refine AW.ret ?_ | refine AW.label ?_ | refine AW.scope ?_ | refine AF.one hT rfl ?_ | refine AF.nil ?_ | refine AF.imm hT rfl rfl rfl ?_ | refine AH.of hT rfl ?_ | refine AD.cons hT rfl ?_ | refine AD.nil ?_ | refine AQ.cons hT rfl ?_ | refine AQ.nil ?_); conv => whnf)
  refine ALoop.mk (fun j E H => ∃ (m : Int), j ≤ 64 ∧ 0 ≤ m ∧ m ≤ 9223372036854775807 ∧ bitI m j = bitI n k.toNat ∧ E = pad [nV m, nV j, .any, .any, bV false] 14 ∧ H = [])
    (n := k.toNat) _ _ ⟨n, by omega, h0, hn, rfl, rfl, rfl⟩ (Conv.fit ?_) ?_
  · rw [Int.toNat_of_nonneg hk0]
    repeat' (first | exact Fit.nil | refine Fit.any ?_ | refine Fit.same ?_)
  rintro j _ _ ⟨m, hj64, hm, hmn, hb, rfl, rfl⟩
  conv => whnf
  repeat ((first | refine AO.cons hT ?_ | refine AO.nil ?_ | refine AW.seq ?_ | refine AW.region ?_ | refine AW.cond ?_ | refine AW.block ?_ | refine AW.loop ?_ | refine AW.skip ?_ | refine AW.exit ?_ | refine AW.ret ?_ | refine AW.label ?_ | refine AW.scope ?_ | refine AF.one hT rfl ?_ | refine AF.nil ?_ | refine AF.imm hT rfl rfl rfl ?_ | refine AH.of hT rfl ?_ | refine AD.cons hT rfl ?_ | refine AD.nil ?_ | refine AQ.cons hT rfl ?_ | refine AQ.nil ?_); conv => whnf)
  refine ACond.dec (fun h1 => ?_) (fun h1 => ?_)
  · obtain ⟨j, rfl⟩ : ∃ i, j = i + 1 := ⟨j - 1, by omega⟩
    have ht : m.tdiv 2 = m / 2 := Int.tdiv_eq_ediv_of_nonneg hm
    have w1 : IntKind.wrap .i64 (m.tdiv 2) = m.tdiv 2 := wrap_i64 _ (by rw [ht]; omega) (by rw [ht]; omega)
    have hb2 := bit_half hm j
    have w2 : IntKind.wrap .i64 (((j + 1 : Nat) : Int) - 1) = (j : Int) := by rw [wrap_i64 _ (by omega) (by omega)]; omega
    conv => whnf
    repeat ((first | refine AO.cons hT ?_ | refine AO.nil ?_ | refine AW.seq ?_ | refine AW.region ?_ | refine AW.cond ?_ | refine AW.block ?_ | refine AW.loop ?_ | refine AW.skip ?_ | refine AW.exit ?_ | refine AW.ret ?_ | refine AW.label ?_ | refine AW.scope ?_ | refine AF.one hT rfl ?_ | refine AF.nil ?_ | refine AF.imm hT rfl rfl rfl ?_ | refine AH.of hT rfl ?_ | refine AD.cons hT rfl ?_ | refine AD.nil ?_ | refine AQ.cons hT rfl ?_ | refine AQ.nil ?_ | (refine AReq.mk (by decide) ?_)); conv => whnf)
    rw [w1, w2]
    exact AHead.mk j _ _ (by omega) ⟨m.tdiv 2, by omega, by rw [ht]; omega, by rw [ht]; omega, by rw [hb2]; exact hb, rfl, rfl⟩ (Conv.fit (by repeat' (first | exact Fit.nil | refine Fit.any ?_ | refine Fit.same ?_)))
  · obtain rfl : j = 0 := by omega
    rw [← hb]
    conv => whnf
    repeat ((first | refine AO.cons hT ?_ | refine AO.nil ?_ | refine AW.seq ?_ | refine AW.region ?_ | refine AW.cond ?_ | refine AW.block ?_ | refine AW.loop ?_ | refine AW.skip ?_ | refine AW.exit ?_ | refine AW.ret ?_ | refine AW.label ?_ | refine AW.scope ?_ | refine AF.one hT rfl ?_ | refine AF.nil ?_ | refine AF.imm hT rfl rfl rfl ?_ | refine AH.of hT rfl ?_ | refine AD.cons hT rfl ?_ | refine AD.nil ?_ | refine AQ.cons hT rfl ?_ | refine AQ.nil ?_ | (refine AReq.mk (by decide) ?_)); conv => whnf)
    refine AOut.stay ?_
    conv => whnf
    repeat ((first | refine AO.cons hT ?_ | refine AO.nil ?_ | refine AW.seq ?_ | refine AW.region ?_ | refine AW.cond ?_ | refine AW.block ?_ | refine AW.loop ?_ | refine AW.skip ?_ | refine AW.exit ?_ | refine AW.ret ?_ | refine AW.label ?_ | refine AW.scope ?_ | refine AF.one hT rfl ?_ | refine AF.nil ?_ | refine AF.imm hT rfl rfl rfl ?_ | refine AH.of hT rfl ?_ | refine AD.cons hT rfl ?_ | refine AD.nil ?_ | refine AQ.cons hT rfl ?_ | refine AQ.nil ?_ | (refine AReq.mk (by decide) ?_)); conv => whnf)
    refine AFin.val rfl ⟨?_, rfl⟩
    unfold bitI
    have h5 : m.tmod 2 = m / 2 ^ 0 % 2 := by rw [Int.tmod_eq_emod_of_nonneg hm]; simp
    rw [h5]
def matB (r : Ro) (f : Fc) : Bool := rowB r && factB f && fitB r f
theorem f28 (r : Ro) (f : Fc) : Fun P 28 [roA r, fcA f] (bV (matB r f)) := by
  refine spec_of hT (f := 28) (fn := Go.Proofs.Try.f28) (c := body Go.Proofs.Try.f28) (by kernel_rfl) (by kernel_rfl) ?_
  unfold matB
  conv => whnf
  repeat ((first | refine AO.cons hT ?_ | refine AO.nil ?_ | refine AW.seq ?_ | refine AW.region ?_ | refine AW.cond ?_ | refine AW.block ?_ | refine AW.loop ?_ | refine AW.skip ?_ | refine AW.exit ?_ | refine AW.ret ?_ | refine AW.label ?_ | refine AW.scope ?_ | refine AF.one hT rfl ?_ | refine AF.nil ?_ | refine AF.imm hT rfl rfl rfl ?_ | refine AH.of hT rfl ?_ | refine AD.cons hT rfl ?_ | refine AD.nil ?_ | refine AQ.cons hT rfl ?_ | refine AQ.nil ?_); conv => whnf)
  refine ACall.val (by kernel_rfl) (f43 r) rfl rfl ?_
  rcases Bool.eq_false_or_eq_true (rowB r) with g | g
  case inr =>
    rw [g]
    simp only [Bool.false_eq_true, if_false]
    conv => whnf
    repeat (first | (refine AW.label ?_; conv => whnf) | (refine AW.scope ?_; conv => whnf) | (refine AO.cons hT ?_; conv => whnf) | (refine AO.nil ?_; conv => whnf) | (refine AW.seq ?_; conv => whnf) | (refine AW.region ?_; conv => whnf) | (refine AW.cond ?_; conv => whnf) | (refine AW.block ?_; conv => whnf) | (refine AW.loop ?_; conv => whnf) | (refine AW.skip ?_; conv => whnf) | (refine AW.exit ?_; conv => whnf) | (refine AW.ret ?_; conv => whnf) | (refine AF.one hT rfl ?_; conv => whnf) | (refine AF.nil ?_; conv => whnf) | (refine AF.imm hT rfl rfl rfl ?_; conv => whnf) | (refine AH.of hT rfl ?_; conv => whnf) | (refine ASplit.yes rfl ?_; conv => whnf) | (refine ACond.yes rfl ?_; conv => whnf) | (refine ASplit.no rfl ?_; conv => whnf) | (refine ACond.no rfl ?_; conv => whnf) | (refine ASplit.yes (by decide) ?_; conv => whnf) | (refine ACond.yes (by decide) ?_; conv => whnf) | (refine AReq.mk (by decide) ?_; conv => whnf) | (refine AIdx.iff.2 ⟨by decide, ?_⟩; conv => whnf))
    exact AFin.val rfl ⟨rfl, rfl⟩
  rw [g]
  simp only [if_true]
  conv => whnf
  repeat (first | (refine AW.label ?_; conv => whnf) | (refine AW.scope ?_; conv => whnf) | (refine AO.cons hT ?_; conv => whnf) | (refine AO.nil ?_; conv => whnf) | (refine AW.seq ?_; conv => whnf) | (refine AW.region ?_; conv => whnf) | (refine AW.cond ?_; conv => whnf) | (refine AW.block ?_; conv => whnf) | (refine AW.loop ?_; conv => whnf) | (refine AW.skip ?_; conv => whnf) | (refine AW.exit ?_; conv => whnf) | (refine AW.ret ?_; conv => whnf) | (refine AF.one hT rfl ?_; conv => whnf) | (refine AF.nil ?_; conv => whnf) | (refine AF.imm hT rfl rfl rfl ?_; conv => whnf) | (refine AH.of hT rfl ?_; conv => whnf) | (refine ASplit.yes rfl ?_; conv => whnf) | (refine ACond.yes rfl ?_; conv => whnf) | (refine ASplit.no rfl ?_; conv => whnf) | (refine ACond.no rfl ?_; conv => whnf) | (refine ASplit.yes (by decide) ?_; conv => whnf) | (refine ACond.yes (by decide) ?_; conv => whnf) | (refine AReq.mk (by decide) ?_; conv => whnf) | (refine AIdx.iff.2 ⟨by decide, ?_⟩; conv => whnf))
  refine ACall.val (by kernel_rfl) (f44 f) rfl rfl ?_
  rcases Bool.eq_false_or_eq_true (factB f) with g2 | g2
  case inr =>
    rw [g2]
    simp only [Bool.false_eq_true, if_false]
    conv => whnf
    repeat (first | (refine AW.label ?_; conv => whnf) | (refine AW.scope ?_; conv => whnf) | (refine AO.cons hT ?_; conv => whnf) | (refine AO.nil ?_; conv => whnf) | (refine AW.seq ?_; conv => whnf) | (refine AW.region ?_; conv => whnf) | (refine AW.cond ?_; conv => whnf) | (refine AW.block ?_; conv => whnf) | (refine AW.loop ?_; conv => whnf) | (refine AW.skip ?_; conv => whnf) | (refine AW.exit ?_; conv => whnf) | (refine AW.ret ?_; conv => whnf) | (refine AF.one hT rfl ?_; conv => whnf) | (refine AF.nil ?_; conv => whnf) | (refine AF.imm hT rfl rfl rfl ?_; conv => whnf) | (refine AH.of hT rfl ?_; conv => whnf) | (refine ASplit.yes rfl ?_; conv => whnf) | (refine ACond.yes rfl ?_; conv => whnf) | (refine ASplit.no rfl ?_; conv => whnf) | (refine ACond.no rfl ?_; conv => whnf) | (refine ASplit.yes (by decide) ?_; conv => whnf) | (refine ACond.yes (by decide) ?_; conv => whnf) | (refine AReq.mk (by decide) ?_; conv => whnf) | (refine AIdx.iff.2 ⟨by decide, ?_⟩; conv => whnf))
    exact AFin.val rfl ⟨rfl, rfl⟩
  rw [g2]
  simp only [if_true]
  obtain ⟨a1, a2, a3, a4, a5, a6, a7, a8, a9⟩ := rowB_iff.1 g
  obtain ⟨b1, b2, b3, b4⟩ := factB_iff.1 g2
  have h1 := f45 r.g f.g (by omega) (by omega) (by omega) (by omega)
  have h2 := f45 r.w (if f.w then 1 else 0) (by omega) (by omega) (by split <;> omega) (by split <;> omega)
  unfold fitB
  have e2 : Int.toNat (if f.w then 1 else 0) = if f.w then 1 else 0 := by split <;> rfl
  rw [e2] at h2
  obtain ⟨fg, fw, fa⟩ := f
  dsimp only at h1 h2 e2 ⊢
  generalize bitI r.g fg.toNat = B1 at *
  generalize bitI r.w (if fw = true then 1 else 0) = B2 at *
  cases fw <;>
  · conv => whnf
    repeat (first | (refine AW.label ?_; conv => whnf) | (refine AW.scope ?_; conv => whnf) | (refine AO.cons hT ?_; conv => whnf) | (refine AO.nil ?_; conv => whnf) | (refine AW.seq ?_; conv => whnf) | (refine AW.region ?_; conv => whnf) | (refine AW.cond ?_; conv => whnf) | (refine AW.block ?_; conv => whnf) | (refine AW.loop ?_; conv => whnf) | (refine AW.skip ?_; conv => whnf) | (refine AW.exit ?_; conv => whnf) | (refine AW.ret ?_; conv => whnf) | (refine AF.one hT rfl ?_; conv => whnf) | (refine AF.nil ?_; conv => whnf) | (refine AF.imm hT rfl rfl rfl ?_; conv => whnf) | (refine AH.of hT rfl ?_; conv => whnf) | (refine ASplit.yes rfl ?_; conv => whnf) | (refine ACond.yes rfl ?_; conv => whnf) | (refine ASplit.no rfl ?_; conv => whnf) | (refine ACond.no rfl ?_; conv => whnf) | (refine ASplit.yes (by decide) ?_; conv => whnf) | (refine ACond.yes (by decide) ?_; conv => whnf) | (refine AReq.mk (by decide) ?_; conv => whnf) | (refine AIdx.iff.2 ⟨by decide, ?_⟩; conv => whnf))
    refine ACall.val (by kernel_rfl) h1 rfl rfl ?_
    cases B1
    · conv => whnf
      repeat (first | (refine AW.label ?_; conv => whnf) | (refine AW.scope ?_; conv => whnf) | (refine AO.cons hT ?_; conv => whnf) | (refine AO.nil ?_; conv => whnf) | (refine AW.seq ?_; conv => whnf) | (refine AW.region ?_; conv => whnf) | (refine AW.cond ?_; conv => whnf) | (refine AW.block ?_; conv => whnf) | (refine AW.loop ?_; conv => whnf) | (refine AW.skip ?_; conv => whnf) | (refine AW.exit ?_; conv => whnf) | (refine AW.ret ?_; conv => whnf) | (refine AF.one hT rfl ?_; conv => whnf) | (refine AF.nil ?_; conv => whnf) | (refine AF.imm hT rfl rfl rfl ?_; conv => whnf) | (refine AH.of hT rfl ?_; conv => whnf) | (refine ASplit.yes rfl ?_; conv => whnf) | (refine ACond.yes rfl ?_; conv => whnf) | (refine ASplit.no rfl ?_; conv => whnf) | (refine ACond.no rfl ?_; conv => whnf) | (refine ASplit.yes (by decide) ?_; conv => whnf) | (refine ACond.yes (by decide) ?_; conv => whnf) | (refine AReq.mk (by decide) ?_; conv => whnf) | (refine AIdx.iff.2 ⟨by decide, ?_⟩; conv => whnf))
      exact AFin.val rfl ⟨rfl, rfl⟩
    conv => whnf
    repeat (first | (refine AW.label ?_; conv => whnf) | (refine AW.scope ?_; conv => whnf) | (refine AO.cons hT ?_; conv => whnf) | (refine AO.nil ?_; conv => whnf) | (refine AW.seq ?_; conv => whnf) | (refine AW.region ?_; conv => whnf) | (refine AW.cond ?_; conv => whnf) | (refine AW.block ?_; conv => whnf) | (refine AW.loop ?_; conv => whnf) | (refine AW.skip ?_; conv => whnf) | (refine AW.exit ?_; conv => whnf) | (refine AW.ret ?_; conv => whnf) | (refine AF.one hT rfl ?_; conv => whnf) | (refine AF.nil ?_; conv => whnf) | (refine AF.imm hT rfl rfl rfl ?_; conv => whnf) | (refine AH.of hT rfl ?_; conv => whnf) | (refine ASplit.yes rfl ?_; conv => whnf) | (refine ACond.yes rfl ?_; conv => whnf) | (refine ASplit.no rfl ?_; conv => whnf) | (refine ACond.no rfl ?_; conv => whnf) | (refine ASplit.yes (by decide) ?_; conv => whnf) | (refine ACond.yes (by decide) ?_; conv => whnf) | (refine AReq.mk (by decide) ?_; conv => whnf) | (refine AIdx.iff.2 ⟨by decide, ?_⟩; conv => whnf))
    refine ACall.val (by kernel_rfl) h2 rfl rfl ?_
    cases B2
    · conv => whnf
      repeat (first | (refine AW.label ?_; conv => whnf) | (refine AW.scope ?_; conv => whnf) | (refine AO.cons hT ?_; conv => whnf) | (refine AO.nil ?_; conv => whnf) | (refine AW.seq ?_; conv => whnf) | (refine AW.region ?_; conv => whnf) | (refine AW.cond ?_; conv => whnf) | (refine AW.block ?_; conv => whnf) | (refine AW.loop ?_; conv => whnf) | (refine AW.skip ?_; conv => whnf) | (refine AW.exit ?_; conv => whnf) | (refine AW.ret ?_; conv => whnf) | (refine AF.one hT rfl ?_; conv => whnf) | (refine AF.nil ?_; conv => whnf) | (refine AF.imm hT rfl rfl rfl ?_; conv => whnf) | (refine AH.of hT rfl ?_; conv => whnf) | (refine ASplit.yes rfl ?_; conv => whnf) | (refine ACond.yes rfl ?_; conv => whnf) | (refine ASplit.no rfl ?_; conv => whnf) | (refine ACond.no rfl ?_; conv => whnf) | (refine ASplit.yes (by decide) ?_; conv => whnf) | (refine ACond.yes (by decide) ?_; conv => whnf) | (refine AReq.mk (by decide) ?_; conv => whnf) | (refine AIdx.iff.2 ⟨by decide, ?_⟩; conv => whnf))
      exact AFin.val rfl ⟨rfl, rfl⟩
    conv => whnf
    repeat (first | (refine AW.label ?_; conv => whnf) | (refine AW.scope ?_; conv => whnf) | (refine AO.cons hT ?_; conv => whnf) | (refine AO.nil ?_; conv => whnf) | (refine AW.seq ?_; conv => whnf) | (refine AW.region ?_; conv => whnf) | (refine AW.cond ?_; conv => whnf) | (refine AW.block ?_; conv => whnf) | (refine AW.loop ?_; conv => whnf) | (refine AW.skip ?_; conv => whnf) | (refine AW.exit ?_; conv => whnf) | (refine AW.ret ?_; conv => whnf) | (refine AF.one hT rfl ?_; conv => whnf) | (refine AF.nil ?_; conv => whnf) | (refine AF.imm hT rfl rfl rfl ?_; conv => whnf) | (refine AH.of hT rfl ?_; conv => whnf) | (refine ASplit.yes rfl ?_; conv => whnf) | (refine ACond.yes rfl ?_; conv => whnf) | (refine ASplit.no rfl ?_; conv => whnf) | (refine ACond.no rfl ?_; conv => whnf) | (refine ASplit.yes (by decide) ?_; conv => whnf) | (refine ACond.yes (by decide) ?_; conv => whnf) | (refine AReq.mk (by decide) ?_; conv => whnf) | (refine AIdx.iff.2 ⟨by decide, ?_⟩; conv => whnf))
    refine ASplit.mk (fun h3 => ?_) (fun h3 => ?_)
    · conv => whnf
      repeat (first | (refine AW.label ?_; conv => whnf) | (refine AW.scope ?_; conv => whnf) | (refine AO.cons hT ?_; conv => whnf) | (refine AO.nil ?_; conv => whnf) | (refine AW.seq ?_; conv => whnf) | (refine AW.region ?_; conv => whnf) | (refine AW.cond ?_; conv => whnf) | (refine AW.block ?_; conv => whnf) | (refine AW.loop ?_; conv => whnf) | (refine AW.skip ?_; conv => whnf) | (refine AW.exit ?_; conv => whnf) | (refine AW.ret ?_; conv => whnf) | (refine AF.one hT rfl ?_; conv => whnf) | (refine AF.nil ?_; conv => whnf) | (refine AF.imm hT rfl rfl rfl ?_; conv => whnf) | (refine AH.of hT rfl ?_; conv => whnf) | (refine ASplit.yes rfl ?_; conv => whnf) | (refine ACond.yes rfl ?_; conv => whnf) | (refine ASplit.no rfl ?_; conv => whnf) | (refine ACond.no rfl ?_; conv => whnf) | (refine ASplit.yes (by decide) ?_; conv => whnf) | (refine ACond.yes (by decide) ?_; conv => whnf) | (refine AReq.mk (by decide) ?_; conv => whnf) | (refine AIdx.iff.2 ⟨by decide, ?_⟩; conv => whnf))
      rw [h3]
      exact AFin.val rfl ⟨rfl, rfl⟩
    · conv => whnf
      repeat (first | (refine AW.label ?_; conv => whnf) | (refine AW.scope ?_; conv => whnf) | (refine AO.cons hT ?_; conv => whnf) | (refine AO.nil ?_; conv => whnf) | (refine AW.seq ?_; conv => whnf) | (refine AW.region ?_; conv => whnf) | (refine AW.cond ?_; conv => whnf) | (refine AW.block ?_; conv => whnf) | (refine AW.loop ?_; conv => whnf) | (refine AW.skip ?_; conv => whnf) | (refine AW.exit ?_; conv => whnf) | (refine AW.ret ?_; conv => whnf) | (refine AF.one hT rfl ?_; conv => whnf) | (refine AF.nil ?_; conv => whnf) | (refine AF.imm hT rfl rfl rfl ?_; conv => whnf) | (refine AH.of hT rfl ?_; conv => whnf) | (refine ASplit.yes rfl ?_; conv => whnf) | (refine ACond.yes rfl ?_; conv => whnf) | (refine ASplit.no rfl ?_; conv => whnf) | (refine ACond.no rfl ?_; conv => whnf) | (refine ASplit.yes (by decide) ?_; conv => whnf) | (refine ACond.yes (by decide) ?_; conv => whnf) | (refine AReq.mk (by decide) ?_; conv => whnf) | (refine AIdx.iff.2 ⟨by decide, ?_⟩; conv => whnf))
      rw [h3]
      exact AFin.val rfl ⟨rfl, rfl⟩
def anyF (l : List Ro) (f : Fc) : Bool := l.any fun r => matB r f
theorem f26 (l : List Ro) (f : Fc) (hl : l.length ≤ 9223372036854775807) : Fun P 26 [roV l, fcA f] (bV (anyF l f)) := by
  refine spec_of hT (f := 26) (fn := Go.Proofs.Try.f26) (c := body Go.Proofs.Try.f26) (by kernel_rfl) (by kernel_rfl) ?_
  conv => whnf
  repeat ((first | refine AW.plan (id := 4) hm (.one 0 (.one 1 (.one 2 (.one 3 (.one 4 (.one 5 .nil)))))) (by kernel_rfl) ?_ | refine AO.cons hT ?_ | refine AO.nil ?_ | refine AW.cond ?_ | refine AW.block ?_ | refine AW.loop ?_ | refine AW.skip ?_ | refine AW.exit ?_ | refine AW.ret ?_ | refine AW.label ?_ | refine AW.scope ?_ | refine AF.one hT rfl ?_ | refine AF.nil ?_ | refine AF.imm hT rfl rfl rfl ?_ | refine AH.of hT rfl ?_ | refine AD.cons hT rfl ?_ | refine AD.nil ?_ | refine AQ.cons hT rfl ?_ | refine AQ.nil ?_); conv => whnf)
  refine AW.seq ?_
  conv => whnf
  refine AW.region ?_
  conv => whnf
  repeat ((first | refine AW.plan (id := 4) hm (.one 0 (.one 1 (.one 2 (.one 3 (.one 4 (.one 5 .nil)))))) (by kernel_rfl) ?_ | refine AO.cons hT ?_ | refine AO.nil ?_ | refine AW.cond ?_ | refine AW.block ?_ | refine AW.loop ?_ | refine AW.skip ?_ | refine AW.exit ?_ | refine AW.ret ?_ | refine AW.label ?_ | refine AW.scope ?_ | refine AF.one hT rfl ?_ | refine AF.nil ?_ | refine AF.imm hT rfl rfl rfl ?_ | refine AH.of hT rfl ?_ | refine AD.cons hT rfl ?_ | refine AD.nil ?_ | refine AQ.cons hT rfl ?_ | refine AQ.nil ?_); conv => whnf)
  refine AW.conv _ _ (Conv.freeze 0 (t := 31) (cs := fcC f) rfl) ?_
  conv => whnf
  repeat ((first | refine AW.plan (id := 4) hm (.one 0 (.one 1 (.one 2 (.one 3 (.one 4 (.one 5 .nil)))))) (by kernel_rfl) ?_ | refine AO.cons hT ?_ | refine AO.nil ?_ | refine AW.seq ?_ | refine AW.region ?_ | refine AW.cond ?_ | refine AW.block ?_ | refine AW.loop ?_ | refine AW.skip ?_ | refine AW.exit ?_ | refine AW.ret ?_ | refine AW.label ?_ | refine AW.scope ?_ | refine AF.one hT rfl ?_ | refine AF.nil ?_ | refine AF.imm hT rfl rfl rfl ?_ | refine AH.of hT rfl ?_ | refine AD.cons hT rfl ?_ | refine AD.nil ?_ | refine AQ.cons hT rfl ?_ | refine AQ.nil ?_); conv => whnf)
  refine ALoop.mk (fun j E H => ∃ i : Nat, j + i = l.length ∧ (∀ k (h : k < l.length), k < i → matB l[k] f = false) ∧ E = pad [roV l, .any, .any, .ptr 0 0, .any, nV i] 18 ∧ H = [.ice 31 (fcC f)])
    (n := l.length) _ _ ⟨0, rfl, fun _ _ h => absurd h (Nat.not_lt_zero _), rfl, rfl⟩ (Conv.fit (by repeat' (first | exact Fit.nil | refine Fit.any ?_ | refine Fit.same ?_))) ?_
  rintro j _ _ ⟨i, hj, hok, rfl, rfl⟩
  conv => whnf
  repeat ((first | refine AW.plan (id := 4) hm (.one 0 (.one 1 (.one 2 (.one 3 (.one 4 (.one 5 .nil)))))) (by kernel_rfl) ?_ | refine AO.cons hT ?_ | refine AO.nil ?_ | refine AW.seq ?_ | refine AW.region ?_ | refine AW.cond ?_ | refine AW.block ?_ | refine AW.loop ?_ | refine AW.skip ?_ | refine AW.exit ?_ | refine AW.ret ?_ | refine AW.label ?_ | refine AW.scope ?_ | refine AF.one hT rfl ?_ | refine AF.nil ?_ | refine AF.imm hT rfl rfl rfl ?_ | refine AH.of hT rfl ?_ | refine AD.cons hT rfl ?_ | refine AD.nil ?_ | refine AQ.cons hT rfl ?_ | refine AQ.nil ?_); conv => whnf)
  refine ACond.dec (fun h3 => ?_) (fun h3 => ?_)
  · have hil : i < l.length := by omega
    have w1 : IntKind.wrap .i64 ((i : Int) + 1) = ((i + 1 : Nat) : Int) := by rw [wrap_i64 _ (by omega) (by omega)]; omega
    conv => whnf
    repeat ((first | refine AW.plan (id := 4) hm (.one 0 (.one 1 (.one 2 (.one 3 (.one 4 (.one 5 .nil)))))) (by kernel_rfl) ?_ | refine AO.cons hT ?_ | refine AO.nil ?_ | refine AW.seq ?_ | refine AW.region ?_ | refine AW.cond ?_ | refine AW.block ?_ | refine AW.loop ?_ | refine AW.skip ?_ | refine AW.exit ?_ | refine AW.ret ?_ | refine AW.label ?_ | refine AW.scope ?_ | refine AF.one hT rfl ?_ | refine AF.nil ?_ | refine AF.imm hT rfl rfl rfl ?_ | refine AH.of hT rfl ?_ | refine AD.cons hT rfl ?_ | refine AD.nil ?_ | refine AQ.cons hT rfl ?_ | refine AQ.nil ?_ | (refine AReq.mk (by omega) ?_) | (refine AIdx.flat (enc := roC) roC_len (xs := l) (i := i) hil ?_) | (refine ACall.val (by kernel_rfl) (f28 l[i] f) rfl rfl ?_)); conv => whnf)
    refine ACond.mk (fun h4 => ?_) (fun h4 => ?_)
    · have : anyF l f = true := List.any_eq_true.2 ⟨_, List.getElem_mem hil, h4⟩
      rw [this]
      conv => whnf
      repeat ((first | refine AW.plan (id := 4) hm (.one 0 (.one 1 (.one 2 (.one 3 (.one 4 (.one 5 .nil)))))) (by kernel_rfl) ?_ | refine AO.cons hT ?_ | refine AO.nil ?_ | refine AW.seq ?_ | refine AW.region ?_ | refine AW.cond ?_ | refine AW.block ?_ | refine AW.loop ?_ | refine AW.skip ?_ | refine AW.exit ?_ | refine AW.ret ?_ | refine AW.label ?_ | refine AW.scope ?_ | refine AF.one hT rfl ?_ | refine AF.nil ?_ | refine AF.imm hT rfl rfl rfl ?_ | refine AH.of hT rfl ?_ | refine AD.cons hT rfl ?_ | refine AD.nil ?_ | refine AQ.cons hT rfl ?_ | refine AQ.nil ?_ | (refine AReq.mk (by omega) ?_) | (refine AIdx.flat (enc := roC) roC_len (xs := l) (i := i) hil ?_) | (refine ACall.val (by kernel_rfl) (f28 l[i] f) rfl rfl ?_)); conv => whnf)
      refine AOut.stay ?_
      conv => whnf
      repeat ((first | refine AW.plan (id := 4) hm (.one 0 (.one 1 (.one 2 (.one 3 (.one 4 (.one 5 .nil)))))) (by kernel_rfl) ?_ | refine AO.cons hT ?_ | refine AO.nil ?_ | refine AW.seq ?_ | refine AW.region ?_ | refine AW.cond ?_ | refine AW.block ?_ | refine AW.loop ?_ | refine AW.skip ?_ | refine AW.exit ?_ | refine AW.ret ?_ | refine AW.label ?_ | refine AW.scope ?_ | refine AF.one hT rfl ?_ | refine AF.nil ?_ | refine AF.imm hT rfl rfl rfl ?_ | refine AH.of hT rfl ?_ | refine AD.cons hT rfl ?_ | refine AD.nil ?_ | refine AQ.cons hT rfl ?_ | refine AQ.nil ?_ | (refine AReq.mk (by omega) ?_) | (refine AIdx.flat (enc := roC) roC_len (xs := l) (i := i) hil ?_) | (refine ACall.val (by kernel_rfl) (f28 l[i] f) rfl rfl ?_)); conv => whnf)
      exact AFin.val rfl ⟨rfl, rfl⟩
    · conv => whnf
      repeat ((first | refine AW.plan (id := 4) hm (.one 0 (.one 1 (.one 2 (.one 3 (.one 4 (.one 5 .nil)))))) (by kernel_rfl) ?_ | refine AO.cons hT ?_ | refine AO.nil ?_ | refine AW.seq ?_ | refine AW.region ?_ | refine AW.cond ?_ | refine AW.block ?_ | refine AW.loop ?_ | refine AW.skip ?_ | refine AW.exit ?_ | refine AW.ret ?_ | refine AW.label ?_ | refine AW.scope ?_ | refine AF.one hT rfl ?_ | refine AF.nil ?_ | refine AF.imm hT rfl rfl rfl ?_ | refine AH.of hT rfl ?_ | refine AD.cons hT rfl ?_ | refine AD.nil ?_ | refine AQ.cons hT rfl ?_ | refine AQ.nil ?_ | (refine AReq.mk (by omega) ?_) | (refine AIdx.flat (enc := roC) roC_len (xs := l) (i := i) hil ?_) | (refine ACall.val (by kernel_rfl) (f28 l[i] f) rfl rfl ?_)); conv => whnf)
      rw [w1]
      refine AHead.mk (j - 1) _ _ (by omega) ⟨i + 1, by omega, ?_, rfl, rfl⟩ (Conv.fit (by repeat' (first | exact Fit.nil | refine Fit.any ?_ | refine Fit.same ?_)))
      intro k hk hki
      rcases Nat.lt_or_ge k i with g | g
      · exact hok k hk g
      · obtain rfl : k = i := by omega
        exact h4
  · have hall : anyF l f = false := by
      unfold anyF
      rw [List.any_eq_false]
      intro r hr
      obtain ⟨k, hk, rfl⟩ := List.mem_iff_getElem.1 hr
      rw [hok k hk (by omega)]; simp
    rw [hall]
    conv => whnf
    repeat ((first | refine AW.plan (id := 4) hm (.one 0 (.one 1 (.one 2 (.one 3 (.one 4 (.one 5 .nil)))))) (by kernel_rfl) ?_ | refine AO.cons hT ?_ | refine AO.nil ?_ | refine AW.seq ?_ | refine AW.region ?_ | refine AW.cond ?_ | refine AW.block ?_ | refine AW.loop ?_ | refine AW.skip ?_ | refine AW.exit ?_ | refine AW.ret ?_ | refine AW.label ?_ | refine AW.scope ?_ | refine AF.one hT rfl ?_ | refine AF.nil ?_ | refine AF.imm hT rfl rfl rfl ?_ | refine AH.of hT rfl ?_ | refine AD.cons hT rfl ?_ | refine AD.nil ?_ | refine AQ.cons hT rfl ?_ | refine AQ.nil ?_ | (refine AReq.mk (by omega) ?_) | (refine AIdx.flat (enc := roC) roC_len (xs := l) (i := i) hil ?_) | (refine ACall.val (by kernel_rfl) (f28 l[i] f) rfl rfl ?_)); conv => whnf)
    refine AOut.stay ?_
    conv => whnf
    repeat ((first | refine AW.plan (id := 4) hm (.one 0 (.one 1 (.one 2 (.one 3 (.one 4 (.one 5 .nil)))))) (by kernel_rfl) ?_ | refine AO.cons hT ?_ | refine AO.nil ?_ | refine AW.seq ?_ | refine AW.region ?_ | refine AW.cond ?_ | refine AW.block ?_ | refine AW.loop ?_ | refine AW.skip ?_ | refine AW.exit ?_ | refine AW.ret ?_ | refine AW.label ?_ | refine AW.scope ?_ | refine AF.one hT rfl ?_ | refine AF.nil ?_ | refine AF.imm hT rfl rfl rfl ?_ | refine AH.of hT rfl ?_ | refine AD.cons hT rfl ?_ | refine AD.nil ?_ | refine AQ.cons hT rfl ?_ | refine AQ.nil ?_ | (refine AReq.mk (by omega) ?_) | (refine AIdx.flat (enc := roC) roC_len (xs := l) (i := i) hil ?_) | (refine ACall.val (by kernel_rfl) (f28 l[i] f) rfl rfl ?_)); conv => whnf)
    exact AFin.val rfl ⟨rfl, rfl⟩
def fcOf (c : Nat) (a : Int) : Fc := ⟨((c / 2 : Nat) : Int), decide (c % 2 = 1), a⟩
theorem f27 (c : Nat) (a : Int) (hc : c < 8) : Fun P 27 [nV c, nV a] (fcA (fcOf c a)) := by
  refine spec_of hT (f := 27) (fn := Go.Proofs.Try.f27) (c := body Go.Proofs.Try.f27) (by kernel_rfl) (by kernel_rfl) ?_
  unfold fcOf
  have h : c = 0 ∨ c = 1 ∨ c = 2 ∨ c = 3 ∨ c = 4 ∨ c = 5 ∨ c = 6 ∨ c = 7 := by omega
  rcases h with rfl | rfl | rfl | rfl | rfl | rfl | rfl | rfl <;>
  · conv => whnf
    repeat ((first | refine AO.cons hT ?_ | refine AO.nil ?_ | refine AW.seq ?_ | refine AW.region ?_ | refine AW.cond ?_ | refine AW.block ?_ | refine AW.loop ?_ | refine AW.skip ?_ | refine AW.exit ?_ | refine AW.ret ?_ | refine AW.label ?_ | refine AW.scope ?_ | refine AF.one hT rfl ?_ | refine AF.nil ?_ | refine AF.imm hT rfl rfl rfl ?_ | refine AH.of hT rfl ?_ | refine AD.cons hT rfl ?_ | refine AD.nil ?_ | refine AQ.cons hT rfl ?_ | refine AQ.nil ?_ | (refine AReq.mk (by decide) ?_)); conv => whnf)
    exact AFin.val rfl ⟨rfl, rfl⟩
/-- the amounts at which something changes -/
def amtR (r : Ro) : List Int := r.lo :: if r.hi < 1000000000000 then [IntKind.wrap .i64 (r.hi + 1)] else []
def amtF (l : List Ro) : List Int := 0 :: l.flatMap amtR
def iVs (l : List Int) : AV := .vs 1 l.length (l.map nV)
theorem nVs_ren (ρ : Nat → Nat) (l : List Int) : renL ρ (l.map nV) = l.map nV := by rw [renL_map, List.map_map]; rfl
theorem iVs_ren (ρ : Nat → Nat) (l : List Int) : (iVs l).ren ρ = iVs l := by simp only [iVs, AV.ren, nVs_ren]
theorem amt_le : ∀ (l : List Ro) (i : Nat), (amtF (l.take i)).length ≤ 2 * i + 1
  | [], i => by simp [amtF]
  | r :: l, 0 => by simp [amtF]
  | r :: l, i + 1 => by
    have := amt_le l i
    have h2 : (amtR r).length ≤ 2 := by unfold amtR; split <;> simp
    simp only [amtF, List.take_succ_cons, List.flatMap_cons, List.length_cons, List.length_append] at this ⊢
    omega
theorem f21 (l : List Ro) (hl : l.length ≤ 1000) : Fun P 21 [roV l] (iVs (amtF l)) := by
  refine spec_of hT (f := 21) (fn := Go.Proofs.Try.f21) (c := body Go.Proofs.Try.f21) (by kernel_rfl) (by kernel_rfl) ?_
  conv => whnf
  repeat ((first | refine AO.cons hT ?_ | refine AO.nil ?_ | refine AW.seq ?_ | refine AW.region ?_ | refine AW.cond ?_ | refine AW.block ?_ | refine AW.loop ?_ | refine AW.skip ?_ | refine AW.exit ?_ | refine AW.ret ?_ | refine AW.label ?_ | refine AW.scope ?_ | refine AF.one hT rfl ?_ | refine AF.nil ?_ | refine AF.imm hT rfl rfl rfl ?_ | refine AH.of hT rfl ?_ | refine AD.cons hT rfl ?_ | refine AD.nil ?_ | refine AQ.cons hT rfl ?_ | refine AQ.nil ?_); conv => whnf)
  refine ALoop.mk (fun j E H => ∃ (i : Nat) (v : AV), j + i = l.length ∧ E = pad [roV l, .any, .any, v, nV i] 36 ∧ ((v = .vx 1 1 [nV 0] ∧ i = 0 ∧ H = []) ∨ (v = .ms 1 0 0 (amtF (l.take i)).length ∧ H = [.cells 3 ((amtF (l.take i)).map nV)])))
    (n := l.length) _ _ ⟨0, _, rfl, rfl, .inl ⟨rfl, rfl, rfl⟩⟩ (Conv.fit (by repeat' (first | exact Fit.nil | refine Fit.any ?_ | refine Fit.same ?_))) ?_
  rintro j _ _ ⟨i, v, hj, rfl, hv⟩
  have hle := amt_le l i
  have hmn : ((amtF (l.take i)).map nV).length = (amtF (l.take i)).length * 1 := by rw [List.length_map, Nat.mul_one]
  have hst : ∀ h : i < l.length, amtF (l.take (i + 1)) = amtF (l.take i) ++ amtR l[i] := fun hil => by
    unfold amtF
    rw [List.take_add_one, List.getElem?_eq_getElem hil, List.flatMap_append]
    simp
  rcases hv with ⟨rfl, rfl, rfl⟩ | ⟨rfl, rfl⟩
  · conv => whnf
    repeat ((first | refine AO.cons hT ?_ | refine AO.nil ?_ | refine AW.seq ?_ | refine AW.region ?_ | refine AW.cond ?_ | refine AW.block ?_ | refine AW.loop ?_ | refine AW.skip ?_ | refine AW.exit ?_ | refine AW.ret ?_ | refine AW.label ?_ | refine AW.scope ?_ | refine AF.one hT rfl ?_ | refine AF.nil ?_ | refine AF.imm hT rfl rfl rfl ?_ | refine AH.of hT rfl ?_ | refine AD.cons hT rfl ?_ | refine AD.nil ?_ | refine AQ.cons hT rfl ?_ | refine AQ.nil ?_); conv => whnf)
    refine ACond.dec (fun h3 => ?_) (fun h3 => ?_)
    · have hil : 0 < l.length := by omega
      have hst := hst hil
      have w1 : IntKind.wrap .i64 (((0 : Nat) : Int) + 1) = ((0 + 1 : Nat) : Int) := rfl
      conv => whnf
      repeat ((first | refine AO.cons hT ?_ | refine AO.nil ?_ | refine AW.seq ?_ | refine AW.region ?_ | refine AW.cond ?_ | refine AW.block ?_ | refine AW.loop ?_ | refine AW.skip ?_ | refine AW.exit ?_ | refine AW.ret ?_ | refine AW.label ?_ | refine AW.scope ?_ | refine AF.one hT rfl ?_ | refine AF.nil ?_ | refine AF.imm hT rfl rfl rfl ?_ | refine AH.of hT rfl ?_ | refine AD.cons hT rfl ?_ | refine AD.nil ?_ | refine AQ.cons hT rfl ?_ | refine AQ.nil ?_ | (refine AReq.mk (by omega) ?_) | (refine AIdx.flat (enc := roC) roC_len (xs := l) (i := 0) hil ?_) | (refine AReq.mk (by decide) ?_) | (refine ASplit.no rfl ?_) | (refine AReq.mk ⟨rfl, by show (1 + 1 + 1) * 8 ≤ _; omega⟩ ?_)); conv => whnf)
      unfold amtR at hst
      refine ACond.dec (fun h4 => ?_) (fun h4 => ?_)
      · rw [if_pos h4] at hst
        conv => whnf
        repeat ((first | refine AO.cons hT ?_ | refine AO.nil ?_ | refine AW.seq ?_ | refine AW.region ?_ | refine AW.cond ?_ | refine AW.block ?_ | refine AW.loop ?_ | refine AW.skip ?_ | refine AW.exit ?_ | refine AW.ret ?_ | refine AW.label ?_ | refine AW.scope ?_ | refine AF.one hT rfl ?_ | refine AF.nil ?_ | refine AF.imm hT rfl rfl rfl ?_ | refine AH.of hT rfl ?_ | refine AD.cons hT rfl ?_ | refine AD.nil ?_ | refine AQ.cons hT rfl ?_ | refine AQ.nil ?_ | (refine AReq.mk (by omega) ?_) | (refine AIdx.flat (enc := roC) roC_len (xs := l) (i := 0) hil ?_) | (refine AReq.mk (by decide) ?_) | (refine ASplit.no rfl ?_) | (refine AReq.mk ⟨rfl, by show (1 + 1 + 1) * 8 ≤ _; omega⟩ ?_)); conv => whnf)
        rw [w1]
        refine AHead.mk (j - 1) (pad [roV l, .any, .any, .ms 1 0 0 (amtF (l.take (0 + 1))).length, nV ((0 + 1 : Nat) : Int)] 36) [.cells 3 ((amtF (l.take (0 + 1))).map nV)] (by omega) ⟨0 + 1, _, by omega, rfl, .inr ⟨rfl, rfl⟩⟩ ?_
        rw [hst]
        exact Conv.ren [1] _ (fun _ h => absurd h (Nat.not_lt_zero _)) (by decide) (by repeat' (first | exact Fit.nil | refine Fit.any ?_ | refine Fit.same ?_ | refine Fit.eq (roV_ren _ _) ?_)) (.same rfl .nil)
      · rw [if_neg h4] at hst
        conv => whnf
        repeat ((first | refine AO.cons hT ?_ | refine AO.nil ?_ | refine AW.seq ?_ | refine AW.region ?_ | refine AW.cond ?_ | refine AW.block ?_ | refine AW.loop ?_ | refine AW.skip ?_ | refine AW.exit ?_ | refine AW.ret ?_ | refine AW.label ?_ | refine AW.scope ?_ | refine AF.one hT rfl ?_ | refine AF.nil ?_ | refine AF.imm hT rfl rfl rfl ?_ | refine AH.of hT rfl ?_ | refine AD.cons hT rfl ?_ | refine AD.nil ?_ | refine AQ.cons hT rfl ?_ | refine AQ.nil ?_ | (refine AReq.mk (by omega) ?_) | (refine AIdx.flat (enc := roC) roC_len (xs := l) (i := 0) hil ?_) | (refine AReq.mk (by decide) ?_) | (refine ASplit.no rfl ?_) | (refine AReq.mk ⟨rfl, by show (1 + 1 + 1) * 8 ≤ _; omega⟩ ?_)); conv => whnf)
        rw [w1]
        refine AHead.mk (j - 1) (pad [roV l, .any, .any, .ms 1 0 0 (amtF (l.take (0 + 1))).length, nV ((0 + 1 : Nat) : Int)] 36) [.cells 3 ((amtF (l.take (0 + 1))).map nV)] (by omega) ⟨0 + 1, _, by omega, rfl, .inr ⟨rfl, rfl⟩⟩ ?_
        rw [hst]
        exact Conv.ren [0] _ (fun _ h => absurd h (Nat.not_lt_zero _)) (by decide) (by repeat' (first | exact Fit.nil | refine Fit.any ?_ | refine Fit.same ?_ | refine Fit.eq (roV_ren _ _) ?_)) (.same rfl .nil)
    · obtain rfl : l = [] := List.eq_nil_of_length_eq_zero (by omega)
      conv => whnf
      repeat ((first | refine AO.cons hT ?_ | refine AO.nil ?_ | refine AW.seq ?_ | refine AW.region ?_ | refine AW.cond ?_ | refine AW.block ?_ | refine AW.loop ?_ | refine AW.skip ?_ | refine AW.exit ?_ | refine AW.ret ?_ | refine AW.label ?_ | refine AW.scope ?_ | refine AF.one hT rfl ?_ | refine AF.nil ?_ | refine AF.imm hT rfl rfl rfl ?_ | refine AH.of hT rfl ?_ | refine AD.cons hT rfl ?_ | refine AD.nil ?_ | refine AQ.cons hT rfl ?_ | refine AQ.nil ?_); conv => whnf)
      refine AOut.stay ?_
      conv => whnf
      repeat ((first | refine AO.cons hT ?_ | refine AO.nil ?_ | refine AW.seq ?_ | refine AW.region ?_ | refine AW.cond ?_ | refine AW.block ?_ | refine AW.loop ?_ | refine AW.skip ?_ | refine AW.exit ?_ | refine AW.ret ?_ | refine AW.label ?_ | refine AW.scope ?_ | refine AF.one hT rfl ?_ | refine AF.nil ?_ | refine AF.imm hT rfl rfl rfl ?_ | refine AH.of hT rfl ?_ | refine AD.cons hT rfl ?_ | refine AD.nil ?_ | refine AQ.cons hT rfl ?_ | refine AQ.nil ?_); conv => whnf)
      exact AFin.to (iVs [0]) [] (Conv.out (.vx rfl) (fun ρ => iVs_ren ρ _)) ⟨rfl, rfl⟩
  · conv => whnf
    repeat ((first | refine AO.cons hT ?_ | refine AO.nil ?_ | refine AW.seq ?_ | refine AW.region ?_ | refine AW.cond ?_ | refine AW.block ?_ | refine AW.loop ?_ | refine AW.skip ?_ | refine AW.exit ?_ | refine AW.ret ?_ | refine AW.label ?_ | refine AW.scope ?_ | refine AF.one hT rfl ?_ | refine AF.nil ?_ | refine AF.imm hT rfl rfl rfl ?_ | refine AH.of hT rfl ?_ | refine AD.cons hT rfl ?_ | refine AD.nil ?_ | refine AQ.cons hT rfl ?_ | refine AQ.nil ?_); conv => whnf)
    refine ACond.dec (fun h3 => ?_) (fun h3 => ?_)
    · have hil : i < l.length := by omega
      have hst := hst hil
      have w1 : IntKind.wrap .i64 ((i : Int) + 1) = ((i + 1 : Nat) : Int) := by rw [wrap_i64 _ (by omega) (by omega)]; omega
      conv => whnf
      repeat ((first | refine AO.cons hT ?_ | refine AO.nil ?_ | refine AW.seq ?_ | refine AW.region ?_ | refine AW.cond ?_ | refine AW.block ?_ | refine AW.loop ?_ | refine AW.skip ?_ | refine AW.exit ?_ | refine AW.ret ?_ | refine AW.label ?_ | refine AW.scope ?_ | refine AF.one hT rfl ?_ | refine AF.nil ?_ | refine AF.imm hT rfl rfl rfl ?_ | refine AH.of hT rfl ?_ | refine AD.cons hT rfl ?_ | refine AD.nil ?_ | refine AQ.cons hT rfl ?_ | refine AQ.nil ?_ | (refine AReq.mk (by omega) ?_) | (refine AIdx.flat (enc := roC) roC_len (xs := l) (i := i) hil ?_) | (refine AReq.mk ⟨hmn, by show (_ + 1) * 8 ≤ _; omega⟩ ?_) | (refine AReq.mk ⟨by rw [List.length_append, hmn]; rfl, by show (_ + 1 + 1) * 8 ≤ _; omega⟩ ?_)); conv => whnf)
      unfold amtR at hst
      refine ACond.dec (fun h4 => ?_) (fun h4 => ?_)
      · rw [if_pos h4] at hst
        conv => whnf
        repeat ((first | refine AO.cons hT ?_ | refine AO.nil ?_ | refine AW.seq ?_ | refine AW.region ?_ | refine AW.cond ?_ | refine AW.block ?_ | refine AW.loop ?_ | refine AW.skip ?_ | refine AW.exit ?_ | refine AW.ret ?_ | refine AW.label ?_ | refine AW.scope ?_ | refine AF.one hT rfl ?_ | refine AF.nil ?_ | refine AF.imm hT rfl rfl rfl ?_ | refine AH.of hT rfl ?_ | refine AD.cons hT rfl ?_ | refine AD.nil ?_ | refine AQ.cons hT rfl ?_ | refine AQ.nil ?_ | (refine AReq.mk (by omega) ?_) | (refine AIdx.flat (enc := roC) roC_len (xs := l) (i := i) hil ?_) | (refine AReq.mk ⟨hmn, by show (_ + 1) * 8 ≤ _; omega⟩ ?_) | (refine AReq.mk ⟨by rw [List.length_append, hmn]; rfl, by show (_ + 1 + 1) * 8 ≤ _; omega⟩ ?_)); conv => whnf)
        rw [w1]
        refine AHead.mk (j - 1) (pad [roV l, .any, .any, .ms 1 0 0 (amtF (l.take (i + 1))).length, nV ((i + 1 : Nat) : Int)] 36) [.cells 3 ((amtF (l.take (i + 1))).map nV)] (by omega) ⟨i + 1, _, by omega, rfl, .inr ⟨rfl, rfl⟩⟩ ?_
        rw [hst, List.length_append, List.map_append]
        exact Conv.ren [2] _ (fun _ h => absurd h (Nat.not_lt_zero _)) (by decide) (by repeat' (first | exact Fit.nil | refine Fit.any ?_ | refine Fit.same ?_ | refine Fit.eq (roV_ren _ _) ?_)) (.same (by show some (ABlk.cells 3 _) = some (ABlk.cells 3 (renL _ _)); rw [renL_append, nVs_ren]; simp only [List.append_assoc]; rfl) .nil)
      · rw [if_neg h4] at hst
        conv => whnf
        repeat ((first | refine AO.cons hT ?_ | refine AO.nil ?_ | refine AW.seq ?_ | refine AW.region ?_ | refine AW.cond ?_ | refine AW.block ?_ | refine AW.loop ?_ | refine AW.skip ?_ | refine AW.exit ?_ | refine AW.ret ?_ | refine AW.label ?_ | refine AW.scope ?_ | refine AF.one hT rfl ?_ | refine AF.nil ?_ | refine AF.imm hT rfl rfl rfl ?_ | refine AH.of hT rfl ?_ | refine AD.cons hT rfl ?_ | refine AD.nil ?_ | refine AQ.cons hT rfl ?_ | refine AQ.nil ?_ | (refine AReq.mk (by omega) ?_) | (refine AIdx.flat (enc := roC) roC_len (xs := l) (i := i) hil ?_) | (refine AReq.mk ⟨hmn, by show (_ + 1) * 8 ≤ _; omega⟩ ?_) | (refine AReq.mk ⟨by rw [List.length_append, hmn]; rfl, by show (_ + 1 + 1) * 8 ≤ _; omega⟩ ?_)); conv => whnf)
        rw [w1]
        refine AHead.mk (j - 1) (pad [roV l, .any, .any, .ms 1 0 0 (amtF (l.take (i + 1))).length, nV ((i + 1 : Nat) : Int)] 36) [.cells 3 ((amtF (l.take (i + 1))).map nV)] (by omega) ⟨i + 1, _, by omega, rfl, .inr ⟨rfl, rfl⟩⟩ ?_
        rw [hst, List.length_append, List.map_append]
        exact Conv.ren [1] _ (fun _ h => absurd h (Nat.not_lt_zero _)) (by decide) (by repeat' (first | exact Fit.nil | refine Fit.any ?_ | refine Fit.same ?_ | refine Fit.eq (roV_ren _ _) ?_)) (.same (by show some (ABlk.cells 3 _) = some (ABlk.cells 3 (renL _ _)); rw [renL_append, nVs_ren]; rfl) .nil)
    · obtain rfl : i = l.length := by omega
      conv => whnf
      repeat ((first | refine AO.cons hT ?_ | refine AO.nil ?_ | refine AW.seq ?_ | refine AW.region ?_ | refine AW.cond ?_ | refine AW.block ?_ | refine AW.loop ?_ | refine AW.skip ?_ | refine AW.exit ?_ | refine AW.ret ?_ | refine AW.label ?_ | refine AW.scope ?_ | refine AF.one hT rfl ?_ | refine AF.nil ?_ | refine AF.imm hT rfl rfl rfl ?_ | refine AH.of hT rfl ?_ | refine AD.cons hT rfl ?_ | refine AD.nil ?_ | refine AQ.cons hT rfl ?_ | refine AQ.nil ?_); conv => whnf)
      refine AOut.stay ?_
      conv => whnf
      repeat ((first | refine AO.cons hT ?_ | refine AO.nil ?_ | refine AW.seq ?_ | refine AW.region ?_ | refine AW.cond ?_ | refine AW.block ?_ | refine AW.loop ?_ | refine AW.skip ?_ | refine AW.exit ?_ | refine AW.ret ?_ | refine AW.label ?_ | refine AW.scope ?_ | refine AF.one hT rfl ?_ | refine AF.nil ?_ | refine AF.imm hT rfl rfl rfl ?_ | refine AH.of hT rfl ?_ | refine AD.cons hT rfl ?_ | refine AD.nil ?_ | refine AQ.cons hT rfl ?_ | refine AQ.nil ?_); conv => whnf)
      rw [List.take_length]
      exact AFin.to (iVs (amtF l)) [] (Conv.out (.sm rfl (by rw [List.length_map, Nat.mul_one])) (fun ρ => iVs_ren ρ _)) ⟨rfl, rfl⟩
end Go.Aw.T1

