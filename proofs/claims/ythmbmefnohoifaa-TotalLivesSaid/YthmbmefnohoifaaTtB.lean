/-
  The statement TotalLives: a row that is not dead decides on some facts, without any condition.
-/
import Derived.Test.YthmbmefnohoifaaTtA
import Derived.Shelf.SlSortCmp.WholeK
import Derived.Shelf.SlSortCmp.NoneTotal
import Derived.Shelf.SlicesG.Cmp
import Derived.Test.YthmbmefnohoifaaShelfP
set_option linter.unusedSimpArgs false
set_option linter.unusedVariables false
set_option linter.unusedSimpArgs false
set_option linter.unusedVariables false
set_option maxHeartbeats 1000000
namespace Go.Aw.T1
open Go Go.Proofs

def inB (r : Ro) (c : Nat) : Bool := bitI r.g (c / 2) && bitI r.w (c % 2)
theorem f30 (r : Ro) (c : Nat) (hr : rowB r = true) (hc : c < 8) : Fun P 30 [roA r, nV c] (bV (inB r c)) := by
  obtain ⟨a1, a2, a3, a4, a5, a6, a7, a8, a9⟩ := rowB_iff.1 hr
  have hg := bit_g (g := r.g) (k := ((c / 2 : Nat) : Int)) (by omega) a2 (by omega) (by omega)
  have hw := bit_g (g := r.w) (k := ((c % 2 : Nat) : Int)) (by omega) (by omega) (by omega) (by omega)
  rw [Int.toNat_natCast] at hg hw
  refine spec_of hT (f := 30) (fn := Go.Proofs.Try.f30) (c := body Go.Proofs.Try.f30) (by kernel_rfl) (by kernel_rfl) ?_
  unfold inB
  rw [← hg, ← hw]
  clear hg hw
  have h : c = 0 ∨ c = 1 ∨ c = 2 ∨ c = 3 ∨ c = 4 ∨ c = 5 ∨ c = 6 ∨ c = 7 := by omega
  rcases h with rfl | rfl | rfl | rfl | rfl | rfl | rfl | rfl <;>
  · conv => whnf
    repeat ((first | refine AO.cons hT ?_ | refine AO.nil ?_ | refine AW.seq ?_ | refine AW.region ?_ | refine AW.cond ?_ | refine AW.block ?_ | refine AW.loop ?_ | refine AW.skip ?_ | refine AW.exit ?_ | refine AW.ret ?_ | refine AW.label ?_ | refine AW.scope ?_ | refine AF.one hT rfl ?_ | refine AF.nil ?_ | refine AF.imm hT rfl rfl rfl ?_ | refine AH.of hT rfl ?_ | refine AD.cons hT rfl ?_ | refine AD.nil ?_ | refine AQ.cons hT rfl ?_ | refine AQ.nil ?_ | (refine AReq.mk (by decide) ?_)); conv => whnf)
    refine ASplit.mk (fun h3 => ?_) (fun h3 => ?_)
    · conv => whnf
      repeat ((first | refine AO.cons hT ?_ | refine AO.nil ?_ | refine AW.seq ?_ | refine AW.region ?_ | refine AW.cond ?_ | refine AW.block ?_ | refine AW.loop ?_ | refine AW.skip ?_ | refine AW.exit ?_ | refine AW.ret ?_ | refine AW.label ?_ | refine AW.scope ?_ | refine AF.one hT rfl ?_ | refine AF.nil ?_ | refine AF.imm hT rfl rfl rfl ?_ | refine AH.of hT rfl ?_ | refine AD.cons hT rfl ?_ | refine AD.nil ?_ | refine AQ.cons hT rfl ?_ | refine AQ.nil ?_ | (refine AReq.mk (by decide) ?_)); conv => whnf)
      refine AFin.val rfl ⟨congrArg bV ?_, rfl⟩
      refine (Eq.trans ?_ (congrArg (fun x => x && _) h3.symm))
      rfl
    · conv => whnf
      repeat (first | (refine AW.label ?_; conv => whnf) | (refine AW.scope ?_; conv => whnf) | (refine AO.cons hT ?_; conv => whnf) | (refine AO.nil ?_; conv => whnf) | (refine AW.seq ?_; conv => whnf) | (refine AW.region ?_; conv => whnf) | (refine AW.cond ?_; conv => whnf) | (refine AW.block ?_; conv => whnf) | (refine AW.loop ?_; conv => whnf) | (refine AW.skip ?_; conv => whnf) | (refine AW.exit ?_; conv => whnf) | (refine AW.ret ?_; conv => whnf) | (refine AF.one hT rfl ?_; conv => whnf) | (refine AF.nil ?_; conv => whnf) | (refine AF.imm hT rfl rfl rfl ?_; conv => whnf) | (refine AH.of hT rfl ?_; conv => whnf) | (refine ASplit.yes rfl ?_; conv => whnf) | (refine ACond.yes rfl ?_; conv => whnf) | (refine ASplit.no rfl ?_; conv => whnf) | (refine ACond.no rfl ?_; conv => whnf) | (refine ASplit.yes (by decide) ?_; conv => whnf) | (refine ACond.yes (by decide) ?_; conv => whnf) | (refine AReq.mk (by decide) ?_; conv => whnf) | (refine AIdx.iff.2 ⟨by decide, ?_⟩; conv => whnf) | (refine AReq.mk (by decide) ?_; conv => whnf))
      refine AFin.val rfl ⟨congrArg bV ?_, rfl⟩
      exact (congrArg (fun x => x && _) h3.symm)
/-- amounts -/
def spC (s : Int × Int) : List AV := [nV s.1, nV s.2]
theorem spC_len (s : Int × Int) : (spC s).length = 2 := rfl
theorem sps_ren (ρ : Nat → Nat) (l : List (Int × Int)) : renL ρ (l.flatMap spC) = l.flatMap spC := by
  induction l with
  | nil => rfl
  | cons a l ih => rw [List.flatMap_cons, renL_append, ih]; rfl
def spV (l : List (Int × Int)) : AV := .vs 2 l.length (l.flatMap spC)
theorem spV_ren (ρ : Nat → Nat) (l : List (Int × Int)) : (spV l).ren ρ = spV l := by simp only [spV, AV.ren, sps_ren]
def holF : List (Int × Int) → Int → Int
  | [], n => n
  | s :: ss, n => if s.1 > n then n else holF ss (if s.2 + 1 > n then s.2 + 1 else n)
theorem f24 (l : List (Int × Int)) (lo hi : Int) (hl : l.length ≤ 9223372036854775807) (hs : ∀ s ∈ l, -1 ≤ s.2 ∧ s.2 ≤ 1000000000000) : Fun P 24 [spV l, .agg [nV lo, nV hi]] (.tup [nV (holF l lo), bV (decide (holF l lo ≤ hi))]) := by
  refine spec_of hT (f := 24) (fn := Go.Proofs.Try.f24) (c := body Go.Proofs.Try.f24) (by kernel_rfl) (by kernel_rfl) ?_
  conv => whnf
  repeat ((first | refine AW.plan (id := 8) hm (.one 0 (.one 1 (.one 2 (.one 5 (.one 3 (.one 4 (.one 6 .nil))))))) (by kernel_rfl) ?_ | refine AO.cons hT ?_ | refine AO.nil ?_ | refine AW.seq ?_ | refine AW.region ?_ | refine AW.cond ?_ | refine AW.block ?_ | refine AW.loop ?_ | refine AW.skip ?_ | refine AW.exit ?_ | refine AW.ret ?_ | refine AW.label ?_ | refine AW.scope ?_ | refine AF.one hT rfl ?_ | refine AF.nil ?_ | refine AF.imm hT rfl rfl rfl ?_ | refine AH.of hT rfl ?_ | refine AD.cons hT rfl ?_ | refine AD.nil ?_ | refine AQ.cons hT rfl ?_ | refine AQ.nil ?_); conv => whnf)
  refine ALoop.mk (fun j E H => ∃ (i : Nat) (n : Int), j + i = l.length ∧ holF (l.drop i) n = holF l lo ∧ E = pad [.any, .any, .any, .ptr 0 0, .any, .any, nV n, .any, .any, .any, .any, spV l, nV l.length, nV i] 32 ∧ H = [.cells 61 [nV lo, nV hi]])
    (n := l.length) _ _ ⟨0, lo, rfl, rfl, rfl, rfl⟩ (Conv.fit (by repeat' (first | exact Fit.nil | refine Fit.any ?_ | refine Fit.same ?_))) ?_
  rintro j _ _ ⟨i, n, hj, hh, rfl, rfl⟩
  conv => whnf
  repeat ((first | refine AW.plan (id := 8) hm (.one 0 (.one 1 (.one 2 (.one 5 (.one 3 (.one 4 (.one 6 .nil))))))) (by kernel_rfl) ?_ | refine AO.cons hT ?_ | refine AO.nil ?_ | refine AW.seq ?_ | refine AW.region ?_ | refine AW.cond ?_ | refine AW.block ?_ | refine AW.loop ?_ | refine AW.skip ?_ | refine AW.exit ?_ | refine AW.ret ?_ | refine AW.label ?_ | refine AW.scope ?_ | refine AF.one hT rfl ?_ | refine AF.nil ?_ | refine AF.imm hT rfl rfl rfl ?_ | refine AH.of hT rfl ?_ | refine AD.cons hT rfl ?_ | refine AD.nil ?_ | refine AQ.cons hT rfl ?_ | refine AQ.nil ?_); conv => whnf)
  refine ACond.dec (fun h3 => ?_) (fun h3 => ?_)
  · have hil : i < l.length := by omega
    have w1 : IntKind.wrap .i64 ((i : Int) + 1) = ((i + 1 : Nat) : Int) := by rw [wrap_i64 _ (by omega) (by omega)]; omega
    have hsi := hs _ (List.getElem_mem hil)
    have w2 : IntKind.wrap .i64 (l[i].2 + 1) = l[i].2 + 1 := wrap_i64 _ (by omega) (by omega)
    rw [List.drop_eq_getElem_cons hil, holF] at hh
    conv => whnf
    repeat ((first | refine AW.plan (id := 8) hm (.one 0 (.one 1 (.one 2 (.one 5 (.one 3 (.one 4 (.one 6 .nil))))))) (by kernel_rfl) ?_ | refine AO.cons hT ?_ | refine AO.nil ?_ | refine AW.seq ?_ | refine AW.region ?_ | refine AW.cond ?_ | refine AW.block ?_ | refine AW.loop ?_ | refine AW.skip ?_ | refine AW.exit ?_ | refine AW.ret ?_ | refine AW.label ?_ | refine AW.scope ?_ | refine AF.one hT rfl ?_ | refine AF.nil ?_ | refine AF.imm hT rfl rfl rfl ?_ | refine AH.of hT rfl ?_ | refine AD.cons hT rfl ?_ | refine AD.nil ?_ | refine AQ.cons hT rfl ?_ | refine AQ.nil ?_ | (refine AReq.mk (by omega) ?_) | (refine AIdx.flat (enc := spC) spC_len (xs := l) (i := i) hil ?_)); conv => whnf)
    refine ACond.dec (fun h4 => ?_) (fun h4 => ?_)
    · rw [if_pos h4] at hh
      rw [← hh]
      conv => whnf
      repeat ((first | refine AW.plan (id := 8) hm (.one 0 (.one 1 (.one 2 (.one 5 (.one 3 (.one 4 (.one 6 .nil))))))) (by kernel_rfl) ?_ | refine AO.cons hT ?_ | refine AO.nil ?_ | refine AW.seq ?_ | refine AW.region ?_ | refine AW.cond ?_ | refine AW.block ?_ | refine AW.loop ?_ | refine AW.skip ?_ | refine AW.exit ?_ | refine AW.ret ?_ | refine AW.label ?_ | refine AW.scope ?_ | refine AF.one hT rfl ?_ | refine AF.nil ?_ | refine AF.imm hT rfl rfl rfl ?_ | refine AH.of hT rfl ?_ | refine AD.cons hT rfl ?_ | refine AD.nil ?_ | refine AQ.cons hT rfl ?_ | refine AQ.nil ?_ | (refine AReq.mk (by omega) ?_) | (refine AIdx.flat (enc := spC) spC_len (xs := l) (i := i) hil ?_)); conv => whnf)
      refine AOut.stay ?_
      conv => whnf
      repeat ((first | refine AW.plan (id := 8) hm (.one 0 (.one 1 (.one 2 (.one 5 (.one 3 (.one 4 (.one 6 .nil))))))) (by kernel_rfl) ?_ | refine AO.cons hT ?_ | refine AO.nil ?_ | refine AW.seq ?_ | refine AW.region ?_ | refine AW.cond ?_ | refine AW.block ?_ | refine AW.loop ?_ | refine AW.skip ?_ | refine AW.exit ?_ | refine AW.ret ?_ | refine AW.label ?_ | refine AW.scope ?_ | refine AF.one hT rfl ?_ | refine AF.nil ?_ | refine AF.imm hT rfl rfl rfl ?_ | refine AH.of hT rfl ?_ | refine AD.cons hT rfl ?_ | refine AD.nil ?_ | refine AQ.cons hT rfl ?_ | refine AQ.nil ?_ | (refine AReq.mk (by omega) ?_) | (refine AIdx.flat (enc := spC) spC_len (xs := l) (i := i) hil ?_)); conv => whnf)
      exact AFin.val rfl ⟨rfl, rfl⟩
    · rw [if_neg h4] at hh
      conv => whnf
      repeat ((first | refine AW.plan (id := 8) hm (.one 0 (.one 1 (.one 2 (.one 5 (.one 3 (.one 4 (.one 6 .nil))))))) (by kernel_rfl) ?_ | refine AO.cons hT ?_ | refine AO.nil ?_ | refine AW.seq ?_ | refine AW.region ?_ | refine AW.cond ?_ | refine AW.block ?_ | refine AW.loop ?_ | refine AW.skip ?_ | refine AW.exit ?_ | refine AW.ret ?_ | refine AW.label ?_ | refine AW.scope ?_ | refine AF.one hT rfl ?_ | refine AF.nil ?_ | refine AF.imm hT rfl rfl rfl ?_ | refine AH.of hT rfl ?_ | refine AD.cons hT rfl ?_ | refine AD.nil ?_ | refine AQ.cons hT rfl ?_ | refine AQ.nil ?_ | (refine AReq.mk (by omega) ?_) | (refine AIdx.flat (enc := spC) spC_len (xs := l) (i := i) hil ?_)); conv => whnf)
      rw [w1, w2]
      refine AHead.mk (j - 1) _ _ (by omega) ⟨i + 1, _, by omega, hh, rfl, rfl⟩ (Conv.ren [0] _ (fun _ h => absurd h (Nat.not_lt_zero _)) (by decide) ?_ (.same rfl .nil))
      repeat' (first | exact Fit.nil | refine Fit.any ?_ | refine Fit.same ?_ | refine Fit.eq (spV_ren _ _) ?_)
  · rw [List.drop_eq_nil_of_le (by omega), holF] at hh
    subst hh
    conv => whnf
    repeat ((first | refine AW.plan (id := 8) hm (.one 0 (.one 1 (.one 2 (.one 5 (.one 3 (.one 4 (.one 6 .nil))))))) (by kernel_rfl) ?_ | refine AO.cons hT ?_ | refine AO.nil ?_ | refine AW.seq ?_ | refine AW.region ?_ | refine AW.cond ?_ | refine AW.block ?_ | refine AW.loop ?_ | refine AW.skip ?_ | refine AW.exit ?_ | refine AW.ret ?_ | refine AW.label ?_ | refine AW.scope ?_ | refine AF.one hT rfl ?_ | refine AF.nil ?_ | refine AF.imm hT rfl rfl rfl ?_ | refine AH.of hT rfl ?_ | refine AD.cons hT rfl ?_ | refine AD.nil ?_ | refine AQ.cons hT rfl ?_ | refine AQ.nil ?_); conv => whnf)
    refine AOut.stay ?_
    conv => whnf
    repeat ((first | refine AW.plan (id := 8) hm (.one 0 (.one 1 (.one 2 (.one 5 (.one 3 (.one 4 (.one 6 .nil))))))) (by kernel_rfl) ?_ | refine AO.cons hT ?_ | refine AO.nil ?_ | refine AW.seq ?_ | refine AW.region ?_ | refine AW.cond ?_ | refine AW.block ?_ | refine AW.loop ?_ | refine AW.skip ?_ | refine AW.exit ?_ | refine AW.ret ?_ | refine AW.label ?_ | refine AW.scope ?_ | refine AF.one hT rfl ?_ | refine AF.nil ?_ | refine AF.imm hT rfl rfl rfl ?_ | refine AH.of hT rfl ?_ | refine AD.cons hT rfl ?_ | refine AD.nil ?_ | refine AQ.cons hT rfl ?_ | refine AQ.nil ?_); conv => whnf)
    exact AFin.val rfl ⟨rfl, rfl⟩
end Go.Aw.T1

set_option linter.unusedSimpArgs false
set_option linter.unusedVariables false
namespace Go.Proofs
open Go.Shelf Go.RowKit Go.Lib Go.Sort

def spVv (x : Int × Int) : List Value := [.int .i64 x.1, .int .i64 x.2]
def spLt (x y : Int × Int) : Bool := decide (x.1 < y.1)
def spOrd (x y : Int × Int) : Int := Lib.compareInt x.1 y.1

set_option maxHeartbeats 1000000 in
theorem Try.order41 (x y : Int × Int) (W : World) : Calls Try.prog 41 #[.agg #[.int .i64 x.1, .int .i64 x.2], .agg #[.int .i64 y.1, .int .i64 y.2]] W fun e w' => e = .returned (.int .i64 (spOrd x y)) ∧ ∃ q os', w' = grow (W.drewN q) os' := by
  have hcon := fun W' => AnyG.cmp_Compare_int Try.cmpInt x.1 y.1 W'
  change ∀ W', Calls Try.prog 42 _ _ _ at hcon
  obtain ⟨ix, qx⟩ := x
  obtain ⟨iy, qy⟩ := y
  simp only [spOrd] at *
  generalize Lib.compareInt ix iy = r at hcon ⊢
  go_enter Try.func41, Try.ntmps41
  go_wp2_with (go_at_call 42; refine (hcon _).mono ?_; rintro e w' ⟨rfl, rfl⟩)
  go_ret
  exact ⟨rfl, 0, _, by rw [alloc_eq_grow, alloc_eq_grow, grow_grow]; rfl⟩

theorem sp_lt (x y : Int × Int) : ltOf spOrd x y = spLt x y := by
  unfold ltOf spOrd spLt Lib.compareInt
  by_cases h1 : x.1 < y.1
  · simp [h1]
  · by_cases h2 : y.1 < x.1 <;> simp [h1, h2]
theorem sp_swo : SWO (ltOf spOrd) where
  irrefl x := by rw [sp_lt]; simp [spLt]
  trans x y z h1 h2 := by
    rw [sp_lt] at *
    simp only [spLt, decide_eq_true_eq] at *; omega
  ntrans x y z h1 h2 := by
    rw [sp_lt] at *
    simp only [spLt, decide_eq_false_iff_not] at *; omega

theorem sort40 (blk cap : Nat) (d : Array (Int × Int)) (w : World) (hH : HoldsK spVv 2 w blk 0 d) (hblk : blk < w.heap.size) (hsz : d.size < 4611686018427387904) :
    Calls Try.prog 40 #[.slice (some ⟨blk, 0, none⟩) d.size cap, .func (.func 41) #[] #[]] w fun e w' => e = .returned (.tuple #[]) ∧ ∃ d' n os, PermIn 0 d.size d d' ∧ SortedIn spLt 0 d.size d' ∧ w' = sortWorldK spVv 2 w blk 0 n d' os := by
  have eg : ∀ args w, (callFunc 41 args).run Try.prog w = .ok (.enter 41 args) w := enters_of Try.func41 (by kernel_rfl) rfl
  have hcon := AnyQ.slices_SortFunc Try.sortSp 2 Try.isAgg61 Try.sizeOf61 spVv (fun _ => rfl) (fun x v hv => by simp [spVv] at hv; rcases hv with rfl | rfl <;> rfl) spOrd sp_swo 41 #[] blk 0 cap d w eg (fun _ _ _ _ x y => Try.order41 x y _) hH hblk hsz
  change Calls Try.prog 40 _ _ _ at hcon
  refine hcon.mono fun e w' ⟨he, d', n, os, hp, hs, hw⟩ => ⟨he, d', n, os, hp, ?_, hw⟩
  intro i j h1 h2 h3
  rw [← sp_lt]
  exact hs i j h1 h2 h3
end Go.Proofs

namespace Go.Aw.T1
open Go Go.Proofs
theorem f40 (l : List (Int × Int)) (hl : l ≠ []) (hsz : l.length < 4611686018427387904) : Spec P 40 [.ms 2 0 0 l.length, .fn 41 [] []] [.cells 61 (l.flatMap spC)] (fun r H => r = .tup [] ∧ ∃ l' : List (Int × Int), l'.Perm l ∧ l'.Pairwise (fun x y => spLt y x = false) ∧ H = [.cells 61 (l'.flatMap spC)]) :=
  Spec.sort (encV := spVv) (encA := spC) (fun _ => rfl) (by decide) (fun x v hv => by simp [spVv] at hv; rcases hv with rfl | rfl <;> rfl)
    (fun w m I x => by simp only [spC, spVv, RepL, Rep]; exact ⟨_, _, rfl, rfl, _, _, rfl, rfl, rfl⟩)
    (fun w m I x ys h => by
      simp only [spC, RepL, Rep] at h
      obtain ⟨y, zs, rfl, rfl, y2, z2, rfl, rfl, rfl⟩ := h
      rfl) spLt sort40 l hl hsz
theorem f40n : Fun P 40 [.v (.slice none 0 0), .fn 41 [] []] (.tup []) := by
  refine Fun.tupBelow (vs := [.slice none 0 0, .func (.func 41) #[] #[]]) (fun w m I ys h => ?_) (fun w => ?_)
  · simp only [RepL, Rep] at h
    obtain ⟨y, zs, rfl, rfl, y2, z2, rfl, ⟨us, ys, rfl, rfl, rfl⟩, rfl⟩ := h
    rfl
  · have := AnyF.slices_SortFunc_none Try.sortSp none 0 (.func (.func 41) #[] #[]) w
    change Calls Try.prog 40 _ _ _ at this
    exact this.mono fun e w' ⟨he, hw⟩ => ⟨he, by rw [hw]; exact .refl _, by rw [hw]; exact ⟨rfl, rfl⟩⟩
end Go.Aw.T1

set_option linter.unusedSimpArgs false
set_option linter.unusedVariables false
set_option maxHeartbeats 2000000
namespace Go.Aw.T1
open Go Go.Proofs

abbrev nilV : AV := .v (.slice none 0 0)
/-- the amounts of the rows that have a cell -/
def spc (l : List Ro) (c : Nat) : List (Int × Int) := (l.filter fun r => inB r c).map fun r => (r.lo, r.hi)
theorem spc_step (l : List Ro) (c i : Nat) (h : i < l.length) : spc (l.take (i + 1)) c = if inB l[i] c then spc (l.take i) c ++ [(l[i].lo, l[i].hi)] else spc (l.take i) c := by
  unfold spc
  rw [List.take_add_one, List.getElem?_eq_getElem h, List.filter_append, List.map_append]
  by_cases g : inB l[i] c = true
  · rw [if_pos g]; simp [g]
  · rw [if_neg g]; simp [g]
theorem spc_le (l : List Ro) (c : Nat) : (spc l c).length ≤ l.length := by
  unfold spc; rw [List.length_map]; exact List.length_filter_le _ _
def spOk (l : List Ro) (S : List (List (Int × Int))) (n : Nat) : Prop := S.length = n ∧ ∀ c (h : c < S.length), S[c].Perm (spc l c) ∧ S[c].Pairwise (fun x y => spLt y x = false)
theorem spsR (ρ : Nat → Nat) (S : List (List (Int × Int))) : renL ρ (S.map spV) = S.map spV := by
  rw [renL_map, List.map_map]
  exact List.map_congr_left fun s _ => spV_ren ρ s
theorem nilsR (ρ : Nat → Nat) (m : Nat) : renL ρ (List.replicate m nilV) = List.replicate m nilV := by
  rw [renL_map, List.map_replicate]; rfl
theorem renMid (ρ : Nat → Nat) (S : List (List (Int × Int))) (l n m : Nat) : renL ρ (S.map spV ++ .ms 2 l 0 n :: List.replicate m nilV) = S.map spV ++ .ms 2 (ρ l) 0 n :: List.replicate m nilV := by
  rw [renL_append, spsR, renL, nilsR]; rfl
theorem renMidN (ρ : Nat → Nat) (S : List (List (Int × Int))) (m : Nat) : renL ρ (S.map spV ++ nilV :: List.replicate m nilV) = S.map spV ++ nilV :: List.replicate m nilV := by
  rw [renL_append, spsR, renL, nilsR]; rfl
theorem spOk_step {l : List Ro} {S : List (List (Int × Int))} {c : Nat} (h : spOk l S c) {L : List (Int × Int)} (hp : L.Perm (spc l c)) (hs : L.Pairwise (fun x y => spLt y x = false)) : spOk l (S ++ [L]) (c + 1) := by
  obtain ⟨h1, h2⟩ := h
  refine ⟨by simp [h1], fun k hk => ?_⟩
  rw [List.length_append] at hk
  by_cases e : k < S.length
  · rw [List.getElem_append_left e]; exact h2 k e
  · have : k = S.length := by simp at hk; omega
    subst this
    rw [List.getElem_append_right (by omega)]
    simp only [Nat.sub_self, List.getElem_cons_zero]
    rw [h1]
    exact ⟨hp, hs⟩
theorem f23 (l : List Ro) (hl : l.length ≤ 20) (hr : ∀ r ∈ l, rowB r = true) : Spec P 23 [roV l] [] fun r H' => (∃ S, spOk l S 8 ∧ r = .agg (S.map spV)) ∧ H' = [] := by
  refine spec_of hT (f := 23) (fn := Go.Proofs.Try.f23) (c := body Go.Proofs.Try.f23) (by kernel_rfl) (by kernel_rfl) ?_
  conv => whnf
  repeat ((first | refine AW.plan (id := 9) hm (.one 0 (.one 1 (.one 2 (.one 4 (.one 6 (.one 5 (.one 7 (.one 8 (.one 3 (.one 9 (.one 10 (.one 11 (.one 12 .nil))))))))))))) (by kernel_rfl) ?_ | refine AO.cons hT ?_ | refine AO.nil ?_ | refine AW.seq ?_ | refine AW.region ?_ | refine AW.cond ?_ | refine AW.block ?_ | refine AW.loop ?_ | refine AW.skip ?_ | refine AW.exit ?_ | refine AW.ret ?_ | refine AW.label ?_ | refine AW.scope ?_ | refine AF.one hT rfl ?_ | refine AF.nil ?_ | refine AF.imm hT rfl rfl rfl ?_ | refine AH.of hT rfl ?_ | refine AD.cons hT rfl ?_ | refine AD.nil ?_ | refine AQ.cons hT rfl ?_ | refine AQ.nil ?_); conv => whnf)
  refine ALoop.mk (fun j E H => ∃ (c : Nat) (S : List (List (Int × Int))), j + c = 8 ∧ spOk l S c ∧ E = pad [roV l, .any, .ptr 0 0, .ptr 1 0, .any, .any, .any, nV c] 38 ∧ H = [.cells 56 (List.replicate 8 nilV), .cells 56 (S.map spV ++ List.replicate (8 - c) nilV)])
    (n := 8) _ _ ⟨0, [], rfl, ⟨rfl, fun c h => absurd h (Nat.not_lt_zero _)⟩, rfl, rfl⟩ (Conv.fit (by repeat' (first | exact Fit.nil | refine Fit.any ?_ | refine Fit.same ?_))) ?_
  rintro j _ _ ⟨c, S, hj, hS, rfl, rfl⟩
  conv => whnf
  repeat ((first | refine AW.plan (id := 9) hm (.one 0 (.one 1 (.one 2 (.one 4 (.one 6 (.one 5 (.one 7 (.one 8 (.one 3 (.one 9 (.one 10 (.one 11 (.one 12 .nil))))))))))))) (by kernel_rfl) ?_ | refine AO.cons hT ?_ | refine AO.nil ?_ | refine AW.seq ?_ | refine AW.region ?_ | refine AW.cond ?_ | refine AW.block ?_ | refine AW.loop ?_ | refine AW.skip ?_ | refine AW.exit ?_ | refine AW.ret ?_ | refine AW.label ?_ | refine AW.scope ?_ | refine AF.one hT rfl ?_ | refine AF.nil ?_ | refine AF.imm hT rfl rfl rfl ?_ | refine AH.of hT rfl ?_ | refine AD.cons hT rfl ?_ | refine AD.nil ?_ | refine AQ.cons hT rfl ?_ | refine AQ.nil ?_); conv => whnf)
  refine ACond.dec (fun h1 => ?_) (fun h1 => ?_)
  · have hc8 : c < 8 := by omega
    have hSl : S.length = c := hS.1
    obtain ⟨m, hm8⟩ : ∃ m, 8 - c = m + 1 := ⟨7 - c, by omega⟩
    rw [hm8, List.replicate_succ]
    have w0 : IntKind.wrap .i64 ((c : Int) + 1) = ((c + 1 : Nat) : Int) := by rw [wrap_i64 _ (by omega) (by omega)]; omega
    conv => whnf
    repeat ((first | refine AW.plan (id := 9) hm (.one 0 (.one 1 (.one 2 (.one 4 (.one 6 (.one 5 (.one 7 (.one 8 (.one 3 (.one 9 (.one 10 (.one 11 (.one 12 .nil))))))))))))) (by kernel_rfl) ?_ | refine AO.cons hT ?_ | refine AO.nil ?_ | refine AW.seq ?_ | refine AW.region ?_ | refine AW.cond ?_ | refine AW.block ?_ | refine AW.loop ?_ | refine AW.skip ?_ | refine AW.exit ?_ | refine AW.ret ?_ | refine AW.label ?_ | refine AW.scope ?_ | refine AF.one hT rfl ?_ | refine AF.nil ?_ | refine AF.imm hT rfl rfl rfl ?_ | refine AH.of hT rfl ?_ | refine AD.cons hT rfl ?_ | refine AD.nil ?_ | refine AQ.cons hT rfl ?_ | refine AQ.nil ?_); conv => whnf)
    refine ALoop.mk (fun k E H => ∃ i : Nat, k + i = l.length ∧ E = pad [roV l, .any, .ptr 0 0, .ptr 1 0, nV c, .any, .any, nV c, .any, .any, roV l, nV l.length, nV i] 38 ∧
        ((spc (l.take i) c = [] ∧ H = [.cells 56 (List.replicate 8 nilV), .cells 56 (S.map spV ++ nilV :: List.replicate m nilV)]) ∨
         (spc (l.take i) c ≠ [] ∧ H = [.cells 56 (List.replicate 8 nilV), .cells 56 (S.map spV ++ .ms 2 2 0 (spc (l.take i) c).length :: List.replicate m nilV), .cells 61 ((spc (l.take i) c).flatMap spC)])))
      (n := l.length) _ _ ⟨0, rfl, rfl, .inl ⟨rfl, rfl⟩⟩ (Conv.fit (by repeat' (first | exact Fit.nil | refine Fit.any ?_ | refine Fit.same ?_))) ?_
    rintro k _ _ ⟨i, hk, rfl, hH⟩
    rcases hH with ⟨hnil, rfl⟩ | ⟨hne, rfl⟩
    · conv => whnf
      repeat ((first | refine AW.plan (id := 9) hm (.one 0 (.one 1 (.one 2 (.one 4 (.one 6 (.one 5 (.one 7 (.one 8 (.one 3 (.one 9 (.one 10 (.one 11 (.one 12 .nil))))))))))))) (by kernel_rfl) ?_ | refine AO.cons hT ?_ | refine AO.nil ?_ | refine AW.seq ?_ | refine AW.region ?_ | refine AW.cond ?_ | refine AW.block ?_ | refine AW.loop ?_ | refine AW.skip ?_ | refine AW.exit ?_ | refine AW.ret ?_ | refine AW.label ?_ | refine AW.scope ?_ | refine AF.one hT rfl ?_ | refine AF.nil ?_ | refine AF.imm hT rfl rfl rfl ?_ | refine AH.of hT rfl ?_ | refine AD.cons hT rfl ?_ | refine AD.nil ?_ | refine AQ.cons hT rfl ?_ | refine AQ.nil ?_); conv => whnf)
      refine ACond.dec (fun h2 => ?_) (fun h2 => ?_)
      · have hil : i < l.length := by omega
        have w1 : IntKind.wrap .i64 ((i : Int) + 1) = ((i + 1 : Nat) : Int) := by rw [wrap_i64 _ (by omega) (by omega)]; omega
        have hst := spc_step l c i hil
        conv => whnf
        repeat ((first | refine AW.plan (id := 9) hm (.one 0 (.one 1 (.one 2 (.one 4 (.one 6 (.one 5 (.one 7 (.one 8 (.one 3 (.one 9 (.one 10 (.one 11 (.one 12 .nil))))))))))))) (by kernel_rfl) ?_ | refine AO.cons hT ?_ | refine AO.nil ?_ | refine AW.seq ?_ | refine AW.region ?_ | refine AW.cond ?_ | refine AW.block ?_ | refine AW.loop ?_ | refine AW.skip ?_ | refine AW.exit ?_ | refine AW.ret ?_ | refine AW.label ?_ | refine AW.scope ?_ | refine AF.one hT rfl ?_ | refine AF.nil ?_ | refine AF.imm hT rfl rfl rfl ?_ | refine AH.of hT rfl ?_ | refine AD.cons hT rfl ?_ | refine AD.nil ?_ | refine AQ.cons hT rfl ?_ | refine AQ.nil ?_ | (refine AReq.mk (by omega) ?_) | (refine AIdx.flat (enc := roC) roC_len (xs := l) (i := i) hil ?_) | (refine ACall.val (by kernel_rfl) (f30 l[i] c (hr _ (List.getElem_mem hil)) hc8) rfl rfl ?_)); conv => whnf)
        refine ACond.mk (fun h3 => ?_) (fun h3 => ?_)
        · rw [if_pos h3, hnil, List.nil_append] at hst
          refine AW.conv _ _ (Conv.ownIn (sz := 2) 61 (l := 1) rfl (FitN.mid (S.map spV) _)) ?_
          conv => whnf
          repeat ((first | refine AW.plan (id := 9) hm (.one 0 (.one 1 (.one 2 (.one 4 (.one 6 (.one 5 (.one 7 (.one 8 (.one 3 (.one 9 (.one 10 (.one 11 (.one 12 .nil))))))))))))) (by kernel_rfl) ?_ | refine AO.cons hT ?_ | refine AO.nil ?_ | refine AW.seq ?_ | refine AW.region ?_ | refine AW.cond ?_ | refine AW.block ?_ | refine AW.loop ?_ | refine AW.skip ?_ | refine AW.exit ?_ | refine AW.ret ?_ | refine AW.label ?_ | refine AW.scope ?_ | refine AF.one hT rfl ?_ | refine AF.nil ?_ | refine AF.imm hT rfl rfl rfl ?_ | refine AH.of hT rfl ?_ | refine AD.cons hT rfl ?_ | refine AD.nil ?_ | refine AQ.cons hT rfl ?_ | refine AQ.nil ?_ | (refine AReq.mk (by omega) ?_) | (refine AIdx.flat (enc := roC) roC_len (xs := l) (i := i) hil ?_) | (refine ACall.val (by kernel_rfl) (f30 l[i] c (hr _ (List.getElem_mem hil)) hc8) rfl rfl ?_) | (refine AIdx.mid (by simp [hSl]) ?_) | (refine AReq.mk ⟨rfl, by show (0 + 1) * 16 ≤ _; omega⟩ ?_) | (refine AReq.mk rfl ?_) | (refine AUpd.mid (by rw [List.length_map, hSl]; show 0 + Int.toNat (c : Int) * 1 + 0 = c; omega) ?_)); conv => whnf)
          rw [w1]
          refine AHead.mk (k - 1) (pad [roV l, .any, .ptr 0 0, .ptr 1 0, nV c, .any, .any, nV c, .any, .any, roV l, nV l.length, nV ((i + 1 : Nat) : Int)] 38) [.cells 56 (List.replicate 8 nilV), .cells 56 (S.map spV ++ .ms 2 2 0 (spc (l.take (i + 1)) c).length :: List.replicate m nilV), .cells 61 ((spc (l.take (i + 1)) c).flatMap spC)] (by omega) ⟨i + 1, by omega, rfl, .inr ⟨by rw [hst]; simp, rfl⟩⟩ ?_
          rw [hst]
          refine Conv.ren [0, 1, 4] _ (fun _ h => absurd h (Nat.not_lt_zero _)) (by decide) ?_ (.same rfl (.same ?_ (.same rfl .nil)))
          · repeat' (first | exact Fit.nil | refine Fit.any ?_ | refine Fit.same ?_ | refine Fit.eq (roV_ren _ _) ?_)
          · rw [ABlk.ren, renMid]; rfl
        · rw [if_neg (by rw [h3]; simp)] at hst
          conv => whnf
          repeat ((first | refine AW.plan (id := 9) hm (.one 0 (.one 1 (.one 2 (.one 4 (.one 6 (.one 5 (.one 7 (.one 8 (.one 3 (.one 9 (.one 10 (.one 11 (.one 12 .nil))))))))))))) (by kernel_rfl) ?_ | refine AO.cons hT ?_ | refine AO.nil ?_ | refine AW.seq ?_ | refine AW.region ?_ | refine AW.cond ?_ | refine AW.block ?_ | refine AW.loop ?_ | refine AW.skip ?_ | refine AW.exit ?_ | refine AW.ret ?_ | refine AW.label ?_ | refine AW.scope ?_ | refine AF.one hT rfl ?_ | refine AF.nil ?_ | refine AF.imm hT rfl rfl rfl ?_ | refine AH.of hT rfl ?_ | refine AD.cons hT rfl ?_ | refine AD.nil ?_ | refine AQ.cons hT rfl ?_ | refine AQ.nil ?_ | (refine AReq.mk (by omega) ?_)); conv => whnf)
          rw [w1]
          refine AHead.mk (k - 1) _ _ (by omega) ⟨i + 1, by omega, rfl, .inl ⟨hst.trans hnil, rfl⟩⟩ (Conv.ren [0, 1] _ (fun _ h => absurd h (Nat.not_lt_zero _)) (by decide) ?_ (.same rfl (.same ?_ .nil)))
          · repeat' (first | exact Fit.nil | refine Fit.any ?_ | refine Fit.same ?_ | refine Fit.eq (roV_ren _ _) ?_)
          · rw [ABlk.ren, renMidN]; rfl
      · have hil : i = l.length := by omega
        rw [hil, List.take_length] at hnil
        conv => whnf
        repeat ((first | refine AW.plan (id := 9) hm (.one 0 (.one 1 (.one 2 (.one 4 (.one 6 (.one 5 (.one 7 (.one 8 (.one 3 (.one 9 (.one 10 (.one 11 (.one 12 .nil))))))))))))) (by kernel_rfl) ?_ | refine AO.cons hT ?_ | refine AO.nil ?_ | refine AW.seq ?_ | refine AW.region ?_ | refine AW.cond ?_ | refine AW.block ?_ | refine AW.loop ?_ | refine AW.skip ?_ | refine AW.exit ?_ | refine AW.ret ?_ | refine AW.label ?_ | refine AW.scope ?_ | refine AF.one hT rfl ?_ | refine AF.nil ?_ | refine AF.imm hT rfl rfl rfl ?_ | refine AH.of hT rfl ?_ | refine AD.cons hT rfl ?_ | refine AD.nil ?_ | refine AQ.cons hT rfl ?_ | refine AQ.nil ?_); conv => whnf)
        refine AOut.stay ?_
        conv => whnf
        repeat ((first | refine AW.plan (id := 9) hm (.one 0 (.one 1 (.one 2 (.one 4 (.one 6 (.one 5 (.one 7 (.one 8 (.one 3 (.one 9 (.one 10 (.one 11 (.one 12 .nil))))))))))))) (by kernel_rfl) ?_ | refine AO.cons hT ?_ | refine AO.nil ?_ | refine AW.seq ?_ | refine AW.region ?_ | refine AW.cond ?_ | refine AW.block ?_ | refine AW.loop ?_ | refine AW.skip ?_ | refine AW.exit ?_ | refine AW.ret ?_ | refine AW.label ?_ | refine AW.scope ?_ | refine AF.one hT rfl ?_ | refine AF.nil ?_ | refine AF.imm hT rfl rfl rfl ?_ | refine AH.of hT rfl ?_ | refine AD.cons hT rfl ?_ | refine AD.nil ?_ | refine AQ.cons hT rfl ?_ | refine AQ.nil ?_ | (refine AReq.mk (by omega) ?_) | (refine AIdx.mid (by simp [hSl]) ?_)); conv => whnf)
        refine ACall.val (by kernel_rfl) f40n rfl rfl ?_
        conv => whnf
        repeat ((first | refine AW.plan (id := 9) hm (.one 0 (.one 1 (.one 2 (.one 4 (.one 6 (.one 5 (.one 7 (.one 8 (.one 3 (.one 9 (.one 10 (.one 11 (.one 12 .nil))))))))))))) (by kernel_rfl) ?_ | refine AO.cons hT ?_ | refine AO.nil ?_ | refine AW.seq ?_ | refine AW.region ?_ | refine AW.cond ?_ | refine AW.block ?_ | refine AW.loop ?_ | refine AW.skip ?_ | refine AW.exit ?_ | refine AW.ret ?_ | refine AW.label ?_ | refine AW.scope ?_ | refine AF.one hT rfl ?_ | refine AF.nil ?_ | refine AF.imm hT rfl rfl rfl ?_ | refine AH.of hT rfl ?_ | refine AD.cons hT rfl ?_ | refine AD.nil ?_ | refine AQ.cons hT rfl ?_ | refine AQ.nil ?_ | (refine AReq.mk (by omega) ?_) | (refine AIdx.mid (by simp [hSl]) ?_)); conv => whnf)
        rw [w0]
        refine AHead.mk (j - 1) (pad [roV l, .any, .ptr 0 0, .ptr 1 0, .any, .any, .any, nV ((c + 1 : Nat) : Int)] 38) [.cells 56 (List.replicate 8 nilV), .cells 56 ((S ++ [[]]).map spV ++ List.replicate (8 - (c + 1)) nilV)] (by omega) ⟨c + 1, S ++ [[]], by omega, spOk_step hS (by rw [hnil]) .nil, rfl, rfl⟩ ?_
        rw [show 8 - (c + 1) = m by omega, List.map_append, List.append_assoc]
        exact Conv.trans (Conv.fit (by repeat' (first | exact Fit.nil | refine Fit.any ?_ | refine Fit.same ?_))) (Conv.seeIn (l := 1) rfl (LendL.mid .nil (S.map spV) (List.replicate m nilV)))
    · have hmn : ((spc (l.take i) c).flatMap spC).length = (spc (l.take i) c).length * 2 := flat_length spC_len _
      have hle := spc_le (l.take i) c
      rw [List.length_take] at hle
      conv => whnf
      repeat ((first | refine AW.plan (id := 9) hm (.one 0 (.one 1 (.one 2 (.one 4 (.one 6 (.one 5 (.one 7 (.one 8 (.one 3 (.one 9 (.one 10 (.one 11 (.one 12 .nil))))))))))))) (by kernel_rfl) ?_ | refine AO.cons hT ?_ | refine AO.nil ?_ | refine AW.seq ?_ | refine AW.region ?_ | refine AW.cond ?_ | refine AW.block ?_ | refine AW.loop ?_ | refine AW.skip ?_ | refine AW.exit ?_ | refine AW.ret ?_ | refine AW.label ?_ | refine AW.scope ?_ | refine AF.one hT rfl ?_ | refine AF.nil ?_ | refine AF.imm hT rfl rfl rfl ?_ | refine AH.of hT rfl ?_ | refine AD.cons hT rfl ?_ | refine AD.nil ?_ | refine AQ.cons hT rfl ?_ | refine AQ.nil ?_); conv => whnf)
      refine ACond.dec (fun h2 => ?_) (fun h2 => ?_)
      · have hil : i < l.length := by omega
        have w1 : IntKind.wrap .i64 ((i : Int) + 1) = ((i + 1 : Nat) : Int) := by rw [wrap_i64 _ (by omega) (by omega)]; omega
        have hst := spc_step l c i hil
        conv => whnf
        repeat ((first | refine AW.plan (id := 9) hm (.one 0 (.one 1 (.one 2 (.one 4 (.one 6 (.one 5 (.one 7 (.one 8 (.one 3 (.one 9 (.one 10 (.one 11 (.one 12 .nil))))))))))))) (by kernel_rfl) ?_ | refine AO.cons hT ?_ | refine AO.nil ?_ | refine AW.seq ?_ | refine AW.region ?_ | refine AW.cond ?_ | refine AW.block ?_ | refine AW.loop ?_ | refine AW.skip ?_ | refine AW.exit ?_ | refine AW.ret ?_ | refine AW.label ?_ | refine AW.scope ?_ | refine AF.one hT rfl ?_ | refine AF.nil ?_ | refine AF.imm hT rfl rfl rfl ?_ | refine AH.of hT rfl ?_ | refine AD.cons hT rfl ?_ | refine AD.nil ?_ | refine AQ.cons hT rfl ?_ | refine AQ.nil ?_ | (refine AReq.mk (by omega) ?_) | (refine AIdx.flat (enc := roC) roC_len (xs := l) (i := i) hil ?_) | (refine ACall.val (by kernel_rfl) (f30 l[i] c (hr _ (List.getElem_mem hil)) hc8) rfl rfl ?_)); conv => whnf)
        refine ACond.mk (fun h3 => ?_) (fun h3 => ?_)
        · rw [if_pos h3] at hst
          conv => whnf
          repeat ((first | refine AW.plan (id := 9) hm (.one 0 (.one 1 (.one 2 (.one 4 (.one 6 (.one 5 (.one 7 (.one 8 (.one 3 (.one 9 (.one 10 (.one 11 (.one 12 .nil))))))))))))) (by kernel_rfl) ?_ | refine AO.cons hT ?_ | refine AO.nil ?_ | refine AW.seq ?_ | refine AW.region ?_ | refine AW.cond ?_ | refine AW.block ?_ | refine AW.loop ?_ | refine AW.skip ?_ | refine AW.exit ?_ | refine AW.ret ?_ | refine AW.label ?_ | refine AW.scope ?_ | refine AF.one hT rfl ?_ | refine AF.nil ?_ | refine AF.imm hT rfl rfl rfl ?_ | refine AH.of hT rfl ?_ | refine AD.cons hT rfl ?_ | refine AD.nil ?_ | refine AQ.cons hT rfl ?_ | refine AQ.nil ?_ | (refine AReq.mk (by omega) ?_) | (refine AIdx.flat (enc := roC) roC_len (xs := l) (i := i) hil ?_) | (refine ACall.val (by kernel_rfl) (f30 l[i] c (hr _ (List.getElem_mem hil)) hc8) rfl rfl ?_) | (refine AIdx.mid (by simp [hSl]) ?_) | (refine AReq.mk ⟨hmn, by show (_ + 1) * 16 ≤ _; omega⟩ ?_) | (refine AReq.mk rfl ?_) | (refine AUpd.mid (by rw [List.length_map, hSl]; show 0 + Int.toNat (c : Int) * 1 + 0 = c; omega) ?_)); conv => whnf)
          rw [w1]
          refine AHead.mk (k - 1) (pad [roV l, .any, .ptr 0 0, .ptr 1 0, nV c, .any, .any, nV c, .any, .any, roV l, nV l.length, nV ((i + 1 : Nat) : Int)] 38) [.cells 56 (List.replicate 8 nilV), .cells 56 (S.map spV ++ .ms 2 2 0 (spc (l.take (i + 1)) c).length :: List.replicate m nilV), .cells 61 ((spc (l.take (i + 1)) c).flatMap spC)] (by omega) ⟨i + 1, by omega, rfl, .inr ⟨by rw [hst]; simp, rfl⟩⟩ ?_
          rw [hst, List.flatMap_append, List.length_append]
          refine Conv.ren [0, 1, 4] _ (fun _ h => absurd h (Nat.not_lt_zero _)) (by decide) ?_ (.same rfl (.same ?_ (.same ?_ .nil)))
          · repeat' (first | exact Fit.nil | refine Fit.any ?_ | refine Fit.same ?_ | refine Fit.eq (roV_ren _ _) ?_)
          · rw [ABlk.ren, renMid]; rfl
          · rw [ABlk.ren, renL_append, sps_ren]; rfl
        · rw [if_neg (by rw [h3]; simp)] at hst
          conv => whnf
          repeat ((first | refine AW.plan (id := 9) hm (.one 0 (.one 1 (.one 2 (.one 4 (.one 6 (.one 5 (.one 7 (.one 8 (.one 3 (.one 9 (.one 10 (.one 11 (.one 12 .nil))))))))))))) (by kernel_rfl) ?_ | refine AO.cons hT ?_ | refine AO.nil ?_ | refine AW.seq ?_ | refine AW.region ?_ | refine AW.cond ?_ | refine AW.block ?_ | refine AW.loop ?_ | refine AW.skip ?_ | refine AW.exit ?_ | refine AW.ret ?_ | refine AW.label ?_ | refine AW.scope ?_ | refine AF.one hT rfl ?_ | refine AF.nil ?_ | refine AF.imm hT rfl rfl rfl ?_ | refine AH.of hT rfl ?_ | refine AD.cons hT rfl ?_ | refine AD.nil ?_ | refine AQ.cons hT rfl ?_ | refine AQ.nil ?_ | (refine AReq.mk (by omega) ?_)); conv => whnf)
          rw [w1]
          refine AHead.mk (k - 1) (pad [roV l, .any, .ptr 0 0, .ptr 1 0, nV c, .any, .any, nV c, .any, .any, roV l, nV l.length, nV ((i + 1 : Nat) : Int)] 38) [.cells 56 (List.replicate 8 nilV), .cells 56 (S.map spV ++ .ms 2 2 0 (spc (l.take (i + 1)) c).length :: List.replicate m nilV), .cells 61 ((spc (l.take (i + 1)) c).flatMap spC)] (by omega) ⟨i + 1, by omega, rfl, .inr ⟨by rw [hst]; exact hne, rfl⟩⟩ ?_
          rw [hst]
          refine Conv.ren [0, 1, 2] _ (fun _ h => absurd h (Nat.not_lt_zero _)) (by decide) ?_ (.same rfl (.same ?_ (.same ?_ .nil)))
          · repeat' (first | exact Fit.nil | refine Fit.any ?_ | refine Fit.same ?_ | refine Fit.eq (roV_ren _ _) ?_)
          · rw [ABlk.ren, renMid]; rfl
          · rw [ABlk.ren, sps_ren]; rfl
      · have hil : i = l.length := by omega
        rw [hil, List.take_length] at hne hle hmn ⊢
        conv => whnf
        repeat ((first | refine AW.plan (id := 9) hm (.one 0 (.one 1 (.one 2 (.one 4 (.one 6 (.one 5 (.one 7 (.one 8 (.one 3 (.one 9 (.one 10 (.one 11 (.one 12 .nil))))))))))))) (by kernel_rfl) ?_ | refine AO.cons hT ?_ | refine AO.nil ?_ | refine AW.seq ?_ | refine AW.region ?_ | refine AW.cond ?_ | refine AW.block ?_ | refine AW.loop ?_ | refine AW.skip ?_ | refine AW.exit ?_ | refine AW.ret ?_ | refine AW.label ?_ | refine AW.scope ?_ | refine AF.one hT rfl ?_ | refine AF.nil ?_ | refine AF.imm hT rfl rfl rfl ?_ | refine AH.of hT rfl ?_ | refine AD.cons hT rfl ?_ | refine AD.nil ?_ | refine AQ.cons hT rfl ?_ | refine AQ.nil ?_); conv => whnf)
        refine AOut.stay ?_
        conv => whnf
        repeat ((first | refine AW.plan (id := 9) hm (.one 0 (.one 1 (.one 2 (.one 4 (.one 6 (.one 5 (.one 7 (.one 8 (.one 3 (.one 9 (.one 10 (.one 11 (.one 12 .nil))))))))))))) (by kernel_rfl) ?_ | refine AO.cons hT ?_ | refine AO.nil ?_ | refine AW.seq ?_ | refine AW.region ?_ | refine AW.cond ?_ | refine AW.block ?_ | refine AW.loop ?_ | refine AW.skip ?_ | refine AW.exit ?_ | refine AW.ret ?_ | refine AW.label ?_ | refine AW.scope ?_ | refine AF.one hT rfl ?_ | refine AF.nil ?_ | refine AF.imm hT rfl rfl rfl ?_ | refine AH.of hT rfl ?_ | refine AD.cons hT rfl ?_ | refine AD.nil ?_ | refine AQ.cons hT rfl ?_ | refine AQ.nil ?_ | (refine AReq.mk (by omega) ?_) | (refine AIdx.mid (by simp [hSl]) ?_)); conv => whnf)
        refine ACall.of (by kernel_rfl) (f40 (spc l c) hne (by omega)) [2] [] (by decide) (.same (by rw [ABlk.ren, sps_ren]; rfl) .nil) (by simp) (by simp) (.cons (.same rfl) (.cons (.same rfl) .nil)) (.inl rfl) ?_
        rintro _ _ ⟨rfl, L, hp, hs, rfl⟩
        simp only [mergeH, ABlk.ren, sps_ren, List.map_nil, List.append_nil, List.set_cons_zero, List.set_cons_succ]
        conv => whnf
        repeat ((first | refine AW.plan (id := 9) hm (.one 0 (.one 1 (.one 2 (.one 4 (.one 6 (.one 5 (.one 7 (.one 8 (.one 3 (.one 9 (.one 10 (.one 11 (.one 12 .nil))))))))))))) (by kernel_rfl) ?_ | refine AO.cons hT ?_ | refine AO.nil ?_ | refine AW.seq ?_ | refine AW.region ?_ | refine AW.cond ?_ | refine AW.block ?_ | refine AW.loop ?_ | refine AW.skip ?_ | refine AW.exit ?_ | refine AW.ret ?_ | refine AW.label ?_ | refine AW.scope ?_ | refine AF.one hT rfl ?_ | refine AF.nil ?_ | refine AF.imm hT rfl rfl rfl ?_ | refine AH.of hT rfl ?_ | refine AD.cons hT rfl ?_ | refine AD.nil ?_ | refine AQ.cons hT rfl ?_ | refine AQ.nil ?_); conv => whnf)
        rw [w0]
        refine AHead.mk (j - 1) (pad [roV l, .any, .ptr 0 0, .ptr 1 0, .any, .any, .any, nV ((c + 1 : Nat) : Int)] 38) [.cells 56 (List.replicate 8 nilV), .cells 56 ((S ++ [L]).map spV ++ List.replicate (8 - (c + 1)) nilV)] (by omega) ⟨c + 1, S ++ [L], by omega, spOk_step hS hp hs, rfl, rfl⟩ ?_
        rw [show 8 - (c + 1) = m by omega, List.map_append, List.append_assoc]
        refine Conv.trans (Conv.fit (xs' := pad [roV l, .any, .ptr 0 0, .ptr 1 0, .any, .any, .any, nV ((c + 1 : Nat) : Int)] 38) (by repeat' (first | exact Fit.nil | refine Fit.any ?_ | refine Fit.same ?_))) (Conv.trans (Conv.freeze 2 (t := 61) (cs := L.flatMap spC) rfl) (Conv.trans (Conv.seeIn (l := 1) rfl (LendL.mid (x' := spV L) (.sm' rfl (flat_length spC_len L).symm rfl hp.length_eq.symm) (S.map spV) (List.replicate m nilV))) ?_))
        refine Conv.ren [0, 1] _ (fun _ h => absurd h (Nat.not_lt_zero _)) (by decide) ?_ (.same rfl (.same ?_ .nil))
        · repeat' (first | exact Fit.nil | refine Fit.any ?_ | refine Fit.same ?_ | refine Fit.eq (roV_ren _ _) ?_)
        · rw [ABlk.ren, renL_append, spsR, renL_append, nilsR]
          show _ = some (ABlk.cells 56 (S.map spV ++ ((spV L).ren _ :: List.replicate m nilV)))
          rw [spV_ren]; rfl
  · obtain rfl : c = 8 := by omega
    have hSl : S.length = 8 := hS.1
    conv => whnf
    repeat ((first | refine AW.plan (id := 9) hm (.one 0 (.one 1 (.one 2 (.one 4 (.one 6 (.one 5 (.one 7 (.one 8 (.one 3 (.one 9 (.one 10 (.one 11 (.one 12 .nil))))))))))))) (by kernel_rfl) ?_ | refine AO.cons hT ?_ | refine AO.nil ?_ | refine AW.seq ?_ | refine AW.region ?_ | refine AW.cond ?_ | refine AW.block ?_ | refine AW.loop ?_ | refine AW.skip ?_ | refine AW.exit ?_ | refine AW.ret ?_ | refine AW.label ?_ | refine AW.scope ?_ | refine AF.one hT rfl ?_ | refine AF.nil ?_ | refine AF.imm hT rfl rfl rfl ?_ | refine AH.of hT rfl ?_ | refine AD.cons hT rfl ?_ | refine AD.nil ?_ | refine AQ.cons hT rfl ?_ | refine AQ.nil ?_); conv => whnf)
    refine AOut.stay ?_
    rw [Nat.sub_self, List.replicate_zero, List.append_nil]
    have hcut : ∀ {K : List AV → Prop}, K (S.map spV) → ACut (drp (S.map spV) 0) 0 (T 56).size K := fun q => by
      rw [drp_zero]; exact ACut.all (by rw [List.length_map, hSl]; rfl) q
    have hcut' : ∀ {K : List AV → Prop}, K (S.map spV) → ACut (S.map spV) 0 (T 56).size K := fun q => ACut.all (by rw [List.length_map, hSl]; rfl) q
    conv => whnf
    repeat ((first | refine AW.plan (id := 9) hm (.one 0 (.one 1 (.one 2 (.one 4 (.one 6 (.one 5 (.one 7 (.one 8 (.one 3 (.one 9 (.one 10 (.one 11 (.one 12 .nil))))))))))))) (by kernel_rfl) ?_ | refine AO.cons hT ?_ | refine AO.nil ?_ | refine AW.seq ?_ | refine AW.region ?_ | refine AW.cond ?_ | refine AW.block ?_ | refine AW.loop ?_ | refine AW.skip ?_ | refine AW.exit ?_ | refine AW.ret ?_ | refine AW.label ?_ | refine AW.scope ?_ | refine AF.one hT rfl ?_ | refine AF.nil ?_ | refine AF.imm hT rfl rfl rfl ?_ | refine AH.of hT rfl ?_ | refine AD.cons hT rfl ?_ | refine AD.nil ?_ | refine AQ.cons hT rfl ?_ | refine AQ.nil ?_ | (refine hcut ?_) | (refine hcut' ?_) | (refine AReq.mk (by rw [List.length_map, hSl]; rfl) ?_) | (refine AUpd.to (S.map spV) (by rw [List.length_map, hSl]; decide) (by unfold spl; rw [List.take_zero, List.nil_append, List.drop_eq_nil_of_le (by rw [List.length_map, hSl]; decide), List.append_nil]) ?_)); conv => whnf)
    exact AFin.val (by show AV.agg (renL _ (S.map spV)) = _; rw [spsR]) ⟨⟨S, hS, rfl⟩, rfl⟩
end Go.Aw.T1

