/-
  The statement StateBounds: of a state that may be, of no line more is authorised, received or paid back than was shipped and paid, without any condition.
-/
import Derived.Test.YtnfbiphfhkfnaaaGreatUgA
import Derived.Test.YtnfbiphfhkfnaaaGreatAwG
import Derived.Shelf.SlSortCmp.WholeK
import Derived.Shelf.SlSortCmp.NoneTotal
import Derived.Shelf.SlicesG.Cmp
import Derived.Test.YtnfbiphfhkfnaaaGreatShelfP
set_option linter.unusedSimpArgs false
set_option linter.unusedVariables false
namespace Go.Aw.UT
open Go
noncomputable abbrev P : Program := Go.Aw.U1.P
noncomputable abbrev T : Nat → TI := Go.Aw.U1.T
theorem hT : TOk P T := Go.Aw.U1.hT
theorem hm : P.follows .mixedOrders = true := Go.Aw.U1.hm
noncomputable def body (f : Func) : Code := match f.body with | some c => c | none => .skip
end Go.Aw.UT

set_option linter.unusedSimpArgs false
set_option linter.unusedVariables false
set_option maxHeartbeats 1000000
namespace Go.Aw.UT
open Go Go.Proofs

abbrev nV (n : Int) : AV := .v (.int .i64 n)
abbrev bV (b : Bool) : AV := .v (.bool b)
structure Ro where
  g : Int
  w : Int
  lo : Int
  hi : Int
  way : Int
def roC (r : Ro) : List AV := [nV r.g, nV r.w, nV r.lo, nV r.hi, nV r.way]
theorem roC_len (r : Ro) : (roC r).length = 5 := rfl
theorem ros_ren (ρ : Nat → Nat) (l : List Ro) : renL ρ (l.flatMap roC) = l.flatMap roC := by
  induction l with
  | nil => rfl
  | cons a l ih => rw [List.flatMap_cons, renL_append, ih]; rfl
def roV (l : List Ro) : AV := .vs 5 l.length (l.flatMap roC)
theorem roV_ren (ρ : Nat → Nat) (l : List Ro) : (roV l).ren ρ = roV l := by simp only [roV, AV.ren, ros_ren]
theorem roV1 (ρ : Nat → Nat) (l : List Ro) : renL ρ [roV l] = [roV l] := by show [(roV l).ren ρ] = _; rw [roV_ren]
structure Fc where
  g : Int
  w : Bool
  a : Int
def fcC (f : Fc) : List AV := [nV f.g, bV f.w, nV f.a]
abbrev roA (r : Ro) : AV := .agg (roC r)
abbrev fcA (f : Fc) : AV := .agg (fcC f)

theorem Fit.eq {x x' : AV} {xs xs' : List AV} (e : x' = x) (h : Fit xs xs') : Fit (x :: xs) (x' :: xs') := by
  rw [e]; exact .same h

theorem nb1 {b : Bool} (h : (!b) = true) : b = false := by cases b <;> first | rfl | cases h
theorem nb0 {b : Bool} (h : (!b) = false) : b = true := by cases b <;> first | rfl | cases h
def rowB (r : Ro) : Bool := decide (1 ≤ r.g) && decide (r.g < 16) && decide (1 ≤ r.w) && decide (r.w ≤ 3) && (decide (0 ≤ r.lo) && decide (r.lo ≤ r.hi) && decide (r.hi ≤ 1000000000000)) && (decide (1 ≤ r.way) && decide (r.way ≤ 5))
theorem f220 (r : Ro) : Fun P 220 [roA r] (bV (decide (1 ≤ r.g) && decide (r.g < 16) && decide (1 ≤ r.w) && decide (r.w ≤ 3))) := by
  refine spec_of hT (f := 220) (fn := Go.Proofs.Tryz.f220) (c := body Go.Proofs.Tryz.f220) (by kernel_rfl) (by kernel_rfl) ?_
  conv => whnf
  repeat refine go ?_
  refine ASplit.dec (fun h1 => ?_) (fun h1 => ?_)
  · rw [decide_eq_true h1]
    conv => whnf
    repeat refine go ?_
    refine ASplit.dec (fun h2 => ?_) (fun h2 => ?_)
    · rw [decide_eq_true h2]
      conv => whnf
      repeat refine go ?_
      refine ASplit.dec (fun h3 => ?_) (fun h3 => ?_)
      · rw [decide_eq_true h3]
        conv => whnf
        repeat refine go ?_
        exact AFin.val rfl ⟨rfl, rfl⟩
      · rw [decide_eq_false h3]
        conv => whnf
        repeat refine ru ?_
        exact AFin.val rfl ⟨rfl, rfl⟩
    · rw [decide_eq_false h2]
      conv => whnf
      repeat refine ru ?_
      exact AFin.val rfl ⟨rfl, rfl⟩
  · rw [decide_eq_false h1]
    conv => whnf
    repeat refine ru ?_
    exact AFin.val rfl ⟨rfl, rfl⟩
theorem f221 (r : Ro) : Fun P 221 [roA r] (bV (decide (0 ≤ r.lo) && decide (r.lo ≤ r.hi) && decide (r.hi ≤ 1000000000000))) := by
  refine spec_of hT (f := 221) (fn := Go.Proofs.Tryz.f221) (c := body Go.Proofs.Tryz.f221) (by kernel_rfl) (by kernel_rfl) ?_
  conv => whnf
  repeat refine go ?_
  refine ASplit.dec (fun h1 => ?_) (fun h1 => ?_)
  · rw [decide_eq_true h1]
    conv => whnf
    repeat refine go ?_
    refine ASplit.dec (fun h2 => ?_) (fun h2 => ?_)
    · rw [decide_eq_true h2]
      conv => whnf
      repeat refine go ?_
      exact AFin.val rfl ⟨rfl, rfl⟩
    · rw [decide_eq_false h2]
      conv => whnf
      repeat refine ru ?_
      exact AFin.val rfl ⟨rfl, rfl⟩
  · rw [decide_eq_false h1]
    conv => whnf
    repeat refine ru ?_
    exact AFin.val rfl ⟨rfl, rfl⟩
theorem f222 (r : Ro) : Fun P 222 [roA r] (bV (decide (1 ≤ r.way) && decide (r.way ≤ 5))) := by
  refine spec_of hT (f := 222) (fn := Go.Proofs.Tryz.f222) (c := body Go.Proofs.Tryz.f222) (by kernel_rfl) (by kernel_rfl) ?_
  conv => whnf
  repeat refine go ?_
  refine ASplit.dec (fun h1 => ?_) (fun h1 => ?_)
  · rw [decide_eq_true h1]
    conv => whnf
    repeat refine go ?_
    exact AFin.val rfl ⟨rfl, rfl⟩
  · rw [decide_eq_false h1]
    conv => whnf
    repeat refine ru ?_
    exact AFin.val rfl ⟨rfl, rfl⟩
theorem f210 (r : Ro) : Fun P 210 [roA r] (nV (if rowB r then 0 else 36)) := by
  refine spec_of hT (f := 210) (fn := Go.Proofs.Tryz.f210) (c := body Go.Proofs.Tryz.f210) (by kernel_rfl) (by kernel_rfl) ?_
  unfold rowB
  conv => whnf
  repeat (first | refine go ?_ | ((first | refine ALoop.un ?_ | refine ALp.step (T := T) ?_ | refine AIdx.sp rfl ?_ | refine AReq.mk (by decide) ?_ | refine ACall.val (by kernel_rfl) (f220 r) rfl rfl ?_ | refine ACall.val (by kernel_rfl) (f221 r) rfl rfl ?_ | refine ACall.val (by kernel_rfl) (f222 r) rfl rfl ?_ | refine ACond.yes (by decide) ?_ | refine ACond.no (by decide) ?_); conv => whnf))
  refine ACond.mk (fun h => ?_) (fun h => ?_)
  · have h : (decide (1 ≤ r.g) && decide (r.g < 16) && decide (1 ≤ r.w) && decide (r.w ≤ 3)) = false := nb1 h
    rw [h]
    conv => whnf
    repeat (first | refine go ?_ | ((first | refine ALoop.un ?_ | refine ALp.step (T := T) ?_ | refine AIdx.sp rfl ?_ | refine AReq.mk (by decide) ?_ | refine ACall.val (by kernel_rfl) (f220 r) rfl rfl ?_ | refine ACall.val (by kernel_rfl) (f221 r) rfl rfl ?_ | refine ACall.val (by kernel_rfl) (f222 r) rfl rfl ?_ | refine ACond.yes (by decide) ?_ | refine ACond.no (by decide) ?_); conv => whnf))
    exact AFin.val rfl ⟨rfl, rfl⟩
  have h : (decide (1 ≤ r.g) && decide (r.g < 16) && decide (1 ≤ r.w) && decide (r.w ≤ 3)) = true := nb0 h
  rw [h]
  conv => whnf
  repeat (first | refine go ?_ | ((first | refine ALoop.un ?_ | refine ALp.step (T := T) ?_ | refine AIdx.sp rfl ?_ | refine AReq.mk (by decide) ?_ | refine ACall.val (by kernel_rfl) (f220 r) rfl rfl ?_ | refine ACall.val (by kernel_rfl) (f221 r) rfl rfl ?_ | refine ACall.val (by kernel_rfl) (f222 r) rfl rfl ?_ | refine ACond.yes (by decide) ?_ | refine ACond.no (by decide) ?_); conv => whnf))
  refine ACond.mk (fun h => ?_) (fun h => ?_)
  · have h : (decide (0 ≤ r.lo) && decide (r.lo ≤ r.hi) && decide (r.hi ≤ 1000000000000)) = false := nb1 h
    rw [h]
    conv => whnf
    repeat (first | refine go ?_ | ((first | refine ALoop.un ?_ | refine ALp.step (T := T) ?_ | refine AIdx.sp rfl ?_ | refine AReq.mk (by decide) ?_ | refine ACall.val (by kernel_rfl) (f220 r) rfl rfl ?_ | refine ACall.val (by kernel_rfl) (f221 r) rfl rfl ?_ | refine ACall.val (by kernel_rfl) (f222 r) rfl rfl ?_ | refine ACond.yes (by decide) ?_ | refine ACond.no (by decide) ?_); conv => whnf))
    exact AFin.val rfl ⟨rfl, rfl⟩
  have h : (decide (0 ≤ r.lo) && decide (r.lo ≤ r.hi) && decide (r.hi ≤ 1000000000000)) = true := nb0 h
  rw [h]
  conv => whnf
  repeat (first | refine go ?_ | ((first | refine ALoop.un ?_ | refine ALp.step (T := T) ?_ | refine AIdx.sp rfl ?_ | refine AReq.mk (by decide) ?_ | refine ACall.val (by kernel_rfl) (f220 r) rfl rfl ?_ | refine ACall.val (by kernel_rfl) (f221 r) rfl rfl ?_ | refine ACall.val (by kernel_rfl) (f222 r) rfl rfl ?_ | refine ACond.yes (by decide) ?_ | refine ACond.no (by decide) ?_); conv => whnf))
  refine ACond.mk (fun h => ?_) (fun h => ?_)
  · have h : (decide (1 ≤ r.way) && decide (r.way ≤ 5)) = false := nb1 h
    rw [h]
    conv => whnf
    repeat (first | refine go ?_ | ((first | refine ALoop.un ?_ | refine ALp.step (T := T) ?_ | refine AIdx.sp rfl ?_ | refine AReq.mk (by decide) ?_ | refine ACall.val (by kernel_rfl) (f220 r) rfl rfl ?_ | refine ACall.val (by kernel_rfl) (f221 r) rfl rfl ?_ | refine ACall.val (by kernel_rfl) (f222 r) rfl rfl ?_ | refine ACond.yes (by decide) ?_ | refine ACond.no (by decide) ?_); conv => whnf))
    exact AFin.val rfl ⟨rfl, rfl⟩
  have h : (decide (1 ≤ r.way) && decide (r.way ≤ 5)) = true := nb0 h
  rw [h]
  conv => whnf
  repeat (first | refine go ?_ | ((first | refine ALoop.un ?_ | refine ALp.step (T := T) ?_ | refine AIdx.sp rfl ?_ | refine AReq.mk (by decide) ?_ | refine ACall.val (by kernel_rfl) (f220 r) rfl rfl ?_ | refine ACall.val (by kernel_rfl) (f221 r) rfl rfl ?_ | refine ACall.val (by kernel_rfl) (f222 r) rfl rfl ?_ | refine ACond.yes (by decide) ?_ | refine ACond.no (by decide) ?_); conv => whnf))
  exact AFin.val rfl ⟨rfl, rfl⟩

def tabB (l : List Ro) : Bool := decide (1 ≤ l.length) && decide (l.length ≤ 20) && l.all rowB
theorem all_get {l : List Ro} {i : Nat} (h : i < l.length) (hb : rowB l[i] = false) : l.all rowB = false := by
  rw [List.all_eq_false]; exact ⟨_, List.getElem_mem h, by simp [hb]⟩
theorem f193 (l : List Ro) : Fun P 193 [roV l] (nV (if tabB l then 0 else 36)) := by
  refine spec_of hT (f := 193) (fn := Go.Proofs.Tryz.f193) (c := body Go.Proofs.Tryz.f193) (by kernel_rfl) (by kernel_rfl) ?_
  unfold tabB
  conv => whnf
  repeat refine go ?_
  refine ASplit.dec (fun h1 => ?_) (fun h1 => ?_)
  · rw [decide_eq_false (show ¬ 1 ≤ l.length by omega)]
    conv => whnf
    repeat refine ru ?_
    exact AFin.val rfl ⟨rfl, rfl⟩
  conv => whnf
  repeat refine go ?_
  refine ACond.dec (fun h2 => ?_) (fun h2 => ?_)
  · rw [decide_eq_false (show ¬ l.length ≤ 20 by omega), Bool.and_false]
    conv => whnf
    repeat refine ru ?_
    exact AFin.val rfl ⟨rfl, rfl⟩
  rw [decide_eq_true (show 1 ≤ l.length by omega), decide_eq_true (show l.length ≤ 20 by omega), Bool.true_and, Bool.true_and]
  conv => whnf
  repeat refine go ?_
  refine ALoop.mk (fun j E H => ∃ i : Nat, j + i = l.length ∧ (∀ k (h : k < l.length), k < i → rowB l[k] = true) ∧ E = pad ([.any, .any, .v (.int .i64 0)] ++ List.replicate 11 .any ++ [roV l, nV l.length, nV i]) 26 ∧ H = [])
    (n := l.length) _ _ ⟨0, rfl, fun _ _ h => absurd h (Nat.not_lt_zero _), rfl, rfl⟩ (Conv.fit (by repeat' (first | exact Fit.nil | refine Fit.any ?_ | refine Fit.same ?_))) ?_
  rintro j _ _ ⟨i, hj, hok, rfl, rfl⟩
  conv => whnf
  repeat refine go ?_
  refine ACond.dec (fun h3 => ?_) (fun h3 => ?_)
  · have hil : i < l.length := by omega
    have w1 : IntKind.wrap .i64 ((i : Int) + 1) = ((i + 1 : Nat) : Int) := by rw [wrap_i64 _ (by omega) (by omega)]; omega
    conv => whnf
    repeat (first | refine go ?_ | ((first | refine AReq.mk (by omega) ?_ | refine AIdx.flat (enc := roC) roC_len (xs := l) (i := i) hil ?_ | refine ACall.val (by kernel_rfl) (f210 l[i]) rfl rfl ?_); conv => whnf))
    refine ACond.mk (fun h4 => ?_) (fun h4 => ?_)
    · have hb : rowB l[i] = false := by
        rcases Bool.eq_false_or_eq_true (rowB l[i]) with g | g
        · rw [g] at h4; simp at h4
        · exact g
      rw [all_get hil hb, hb]
      conv => whnf
      repeat (first | refine go ?_ | ((first | refine AReq.mk (by omega) ?_ | refine AIdx.flat (enc := roC) roC_len (xs := l) (i := i) hil ?_ | refine ACall.val (by kernel_rfl) (f210 l[i]) rfl rfl ?_); conv => whnf))
      refine AOut.stay ?_
      conv => whnf
      repeat (first | refine go ?_ | ((first | refine AReq.mk (by omega) ?_ | refine AIdx.flat (enc := roC) roC_len (xs := l) (i := i) hil ?_ | refine ACall.val (by kernel_rfl) (f210 l[i]) rfl rfl ?_); conv => whnf))
      exact AFin.val rfl ⟨rfl, rfl⟩
    · have hb : rowB l[i] = true := by
        rcases Bool.eq_false_or_eq_true (rowB l[i]) with g | g
        · exact g
        · rw [g] at h4; simp at h4
      conv => whnf
      repeat (first | refine go ?_ | ((first | refine AReq.mk (by omega) ?_ | refine AIdx.flat (enc := roC) roC_len (xs := l) (i := i) hil ?_ | refine ACall.val (by kernel_rfl) (f210 l[i]) rfl rfl ?_); conv => whnf))
      rw [w1]
      refine AHead.mk (j - 1) _ _ (by omega) ⟨i + 1, by omega, ?_, rfl, rfl⟩ (Conv.ren [] _ (fun _ h => absurd h (Nat.not_lt_zero _)) (by decide) ?_ .nil)
      · intro k hk hki
        rcases Nat.lt_or_ge k i with g | g
        · exact hok k hk g
        · obtain rfl : k = i := by omega
          exact hb
      · repeat' (first | exact Fit.nil | refine Fit.any ?_ | refine Fit.same ?_ | refine Fit.eq (roV_ren _ _) ?_)
  · have hall : l.all rowB = true := by
      rw [List.all_eq_true]
      intro r hr
      obtain ⟨k, hk, rfl⟩ := List.mem_iff_getElem.1 hr
      exact hok k hk (by omega)
    rw [hall]
    conv => whnf
    repeat (first | refine go ?_ | ((first | refine AReq.mk (by omega) ?_ | refine AIdx.flat (enc := roC) roC_len (xs := l) (i := i) hil ?_ | refine ACall.val (by kernel_rfl) (f210 l[i]) rfl rfl ?_); conv => whnf))
    refine AOut.stay ?_
    conv => whnf
    repeat (first | refine go ?_ | ((first | refine AReq.mk (by omega) ?_ | refine AIdx.flat (enc := roC) roC_len (xs := l) (i := i) hil ?_ | refine ACall.val (by kernel_rfl) (f210 l[i]) rfl rfl ?_); conv => whnf))
    exact AFin.val rfl ⟨rfl, rfl⟩
end Go.Aw.UT

set_option linter.unusedSimpArgs false
set_option linter.unusedVariables false
set_option maxHeartbeats 1000000
namespace Go.Aw.UT
open Go Go.Proofs

def bitI (n : Int) (k : Nat) : Bool := decide (n / 2 ^ k % 2 = 1)
theorem rowB_iff {r : Ro} : rowB r = true ↔ 1 ≤ r.g ∧ r.g < 16 ∧ 1 ≤ r.w ∧ r.w ≤ 3 ∧ 0 ≤ r.lo ∧ r.lo ≤ r.hi ∧ r.hi ≤ 1000000000000 ∧ 1 ≤ r.way ∧ r.way ≤ 5 := by
  unfold rowB
  simp only [Bool.and_eq_true, decide_eq_true_eq]
  constructor
  · rintro ⟨⟨⟨⟨⟨a, b⟩, c⟩, d⟩, ⟨e, f⟩, g⟩, h, i⟩; exact ⟨a, b, c, d, e, f, g, h, i⟩
  · rintro ⟨a, b, c, d, e, f, g, h, i⟩; exact ⟨⟨⟨⟨⟨a, b⟩, c⟩, d⟩, ⟨e, f⟩, g⟩, h, i⟩
theorem bit_tab : ∀ g : Fin 16, ∀ k : Fin 4, decide (bitop .and .i64 (((g : Nat) : Int).fdiv (2 ^ min (k : Nat) 64)) 1 = 1) = bitI ((g : Nat) : Int) (k : Nat) := by decide +kernel
theorem bit_g {g : Int} {k : Int} (h1 : 0 ≤ g) (h2 : g < 16) (h3 : 0 ≤ k) (h4 : k < 4) : decide (bitop .and .i64 (g.fdiv (2 ^ min k.toNat IntKind.i64.bits)) 1 = 1) = bitI g k.toNat := by
  have := bit_tab ⟨g.toNat, by omega⟩ ⟨k.toNat, by omega⟩
  simp only at this
  rw [Int.toNat_of_nonneg h1] at this
  exact this
theorem tabB_row {l : List Ro} (h : tabB l = true) : l.length ≤ 20 ∧ 1 ≤ l.length ∧ ∀ r ∈ l, rowB r = true := by
  unfold tabB at h
  simp only [Bool.and_eq_true, decide_eq_true_eq, List.all_eq_true] at h
  exact ⟨h.1.2, h.1.1, h.2⟩
end Go.Aw.UT

set_option linter.unusedSimpArgs false
set_option linter.unusedVariables false
set_option maxHeartbeats 1000000
namespace Go.Aw.UT
open Go Go.Proofs

def fcOf (c : Nat) (a : Int) : Fc := ⟨((c / 2 : Nat) : Int), decide (c % 2 = 1), a⟩
def iVs (l : List Int) : AV := .vs 1 l.length (l.map nV)
theorem nVs_ren (ρ : Nat → Nat) (l : List Int) : renL ρ (l.map nV) = l.map nV := by rw [renL_map, List.map_map]; rfl
theorem iVs_ren (ρ : Nat → Nat) (l : List Int) : (iVs l).ren ρ = iVs l := by simp only [iVs, AV.ren, nVs_ren]
end Go.Aw.UT

set_option linter.unusedSimpArgs false
set_option linter.unusedVariables false
set_option maxHeartbeats 1000000
namespace Go.Aw.UT
open Go Go.Proofs

def inB (r : Ro) (c : Nat) : Bool := bitI r.g (c / 2) && bitI r.w (c % 2)
theorem f211 (r : Ro) (c : Nat) (hr : rowB r = true) (hc : c < 8) : Fun P 211 [roA r, nV c] (bV (inB r c)) := by
  obtain ⟨a1, a2, a3, a4, a5, a6, a7, a8, a9⟩ := rowB_iff.1 hr
  have hg := bit_g (g := r.g) (k := ((c / 2 : Nat) : Int)) (by omega) a2 (by omega) (by omega)
  have hw := bit_g (g := r.w) (k := ((c % 2 : Nat) : Int)) (by omega) (by omega) (by omega) (by omega)
  rw [Int.toNat_natCast] at hg hw
  refine spec_of hT (f := 211) (fn := Go.Proofs.Tryz.f211) (c := body Go.Proofs.Tryz.f211) (by kernel_rfl) (by kernel_rfl) ?_
  unfold inB
  rw [← hg, ← hw]
  clear hg hw
  have h : c = 0 ∨ c = 1 ∨ c = 2 ∨ c = 3 ∨ c = 4 ∨ c = 5 ∨ c = 6 ∨ c = 7 := by omega
  rcases h with rfl | rfl | rfl | rfl | rfl | rfl | rfl | rfl <;>
  · conv => whnf
    repeat (first | refine go ?_ | (refine AReq.mk (by decide) ?_; conv => whnf))
    refine ASplit.mk (fun h3 => ?_) (fun h3 => ?_)
    · conv => whnf
      repeat (first | refine go ?_ | (refine AReq.mk (by decide) ?_; conv => whnf))
      refine AFin.val rfl ⟨congrArg bV ?_, rfl⟩
      refine (Eq.trans ?_ (congrArg (fun x => x && _) h3.symm))
      rfl
    · conv => whnf
      repeat (first | refine ru ?_ | (refine AReq.mk (by decide) ?_; conv => whnf))
      refine AFin.val rfl ⟨congrArg bV ?_, rfl⟩
      exact (congrArg (fun x => x && _) h3.symm)
/-- amounts -/
def spC (s : Int × Int) : List AV := [nV s.1, nV s.2]
theorem spC_len (s : Int × Int) : (spC s).length = 2 := rfl
theorem sps_ren (ρ : Nat → Nat) (l : List (Int × Int)) : renL ρ (l.flatMap spC) = l.flatMap spC := by
  induction l with
  | nil => rfl
  | cons a l ih => rw [List.flatMap_cons, renL_append, ih]; rfl
def spV (l : List (Int × Int)) : AV := .vs 2 l.length (l.flatMap spC)
theorem spV_ren (ρ : Nat → Nat) (l : List (Int × Int)) : (spV l).ren ρ = spV l := by simp only [spV, AV.ren, sps_ren]
def holF : List (Int × Int) → Int → Int
  | [], n => n
  | s :: ss, n => if s.1 > n then n else holF ss (if s.2 + 1 > n then s.2 + 1 else n)
theorem f195 (l : List (Int × Int)) (lo hi : Int) (hl : l.length ≤ 9223372036854775807) (hs : ∀ s ∈ l, -1 ≤ s.2 ∧ s.2 ≤ 1000000000000) : Fun P 195 [spV l, .agg [nV lo, nV hi]] (.tup [nV (holF l lo), bV (decide (holF l lo ≤ hi))]) := by
  refine spec_of hT (f := 195) (fn := Go.Proofs.Tryz.f195) (c := body Go.Proofs.Tryz.f195) (by kernel_rfl) (by kernel_rfl) ?_
  conv => whnf
  repeat (first | refine go ?_ | (refine AW.plan (id := 8) hm (.one 0 (.one 1 (.one 2 (.one 5 (.one 3 (.one 4 (.one 6 .nil))))))) (by kernel_rfl) ?_; conv => whnf))
  refine ALoop.mk (fun j E H => ∃ (i : Nat) (n : Int), j + i = l.length ∧ holF (l.drop i) n = holF l lo ∧ E = pad [.any, .any, .any, .ptr 0 0, .any, .any, nV n, .any, .any, .any, .any, spV l, nV l.length, nV i] 32 ∧ H = [.cells 265 [nV lo, nV hi]])
    (n := l.length) _ _ ⟨0, lo, rfl, rfl, rfl, rfl⟩ (Conv.fit (by repeat' (first | exact Fit.nil | refine Fit.any ?_ | refine Fit.same ?_))) ?_
  rintro j _ _ ⟨i, n, hj, hh, rfl, rfl⟩
  conv => whnf
  repeat (first | refine go ?_ | (refine AW.plan (id := 8) hm (.one 0 (.one 1 (.one 2 (.one 5 (.one 3 (.one 4 (.one 6 .nil))))))) (by kernel_rfl) ?_; conv => whnf))
  refine ACond.dec (fun h3 => ?_) (fun h3 => ?_)
  · have hil : i < l.length := by omega
    have w1 : IntKind.wrap .i64 ((i : Int) + 1) = ((i + 1 : Nat) : Int) := by rw [wrap_i64 _ (by omega) (by omega)]; omega
    have hsi := hs _ (List.getElem_mem hil)
    have w2 : IntKind.wrap .i64 (l[i].2 + 1) = l[i].2 + 1 := wrap_i64 _ (by omega) (by omega)
    rw [List.drop_eq_getElem_cons hil, holF] at hh
    conv => whnf
    repeat (first | refine go ?_ | ((first | refine AW.plan (id := 8) hm (.one 0 (.one 1 (.one 2 (.one 5 (.one 3 (.one 4 (.one 6 .nil))))))) (by kernel_rfl) ?_ | refine AReq.mk (by omega) ?_ | refine AIdx.flat (enc := spC) spC_len (xs := l) (i := i) hil ?_); conv => whnf))
    refine ACond.dec (fun h4 => ?_) (fun h4 => ?_)
    · rw [if_pos h4] at hh
      rw [← hh]
      conv => whnf
      repeat (first | refine go ?_ | ((first | refine AW.plan (id := 8) hm (.one 0 (.one 1 (.one 2 (.one 5 (.one 3 (.one 4 (.one 6 .nil))))))) (by kernel_rfl) ?_ | refine AReq.mk (by omega) ?_ | refine AIdx.flat (enc := spC) spC_len (xs := l) (i := i) hil ?_); conv => whnf))
      refine AOut.stay ?_
      conv => whnf
      repeat (first | refine go ?_ | ((first | refine AW.plan (id := 8) hm (.one 0 (.one 1 (.one 2 (.one 5 (.one 3 (.one 4 (.one 6 .nil))))))) (by kernel_rfl) ?_ | refine AReq.mk (by omega) ?_ | refine AIdx.flat (enc := spC) spC_len (xs := l) (i := i) hil ?_); conv => whnf))
      exact AFin.val rfl ⟨rfl, rfl⟩
    · rw [if_neg h4] at hh
      conv => whnf
      repeat (first | refine go ?_ | ((first | refine AW.plan (id := 8) hm (.one 0 (.one 1 (.one 2 (.one 5 (.one 3 (.one 4 (.one 6 .nil))))))) (by kernel_rfl) ?_ | refine AReq.mk (by omega) ?_ | refine AIdx.flat (enc := spC) spC_len (xs := l) (i := i) hil ?_); conv => whnf))
      rw [w1, w2]
      refine AHead.mk (j - 1) _ _ (by omega) ⟨i + 1, _, by omega, hh, rfl, rfl⟩ (Conv.ren [0] _ (fun _ h => absurd h (Nat.not_lt_zero _)) (by decide) ?_ (.same rfl .nil))
      repeat' (first | exact Fit.nil | refine Fit.any ?_ | refine Fit.same ?_ | refine Fit.eq (spV_ren _ _) ?_)
  · rw [List.drop_eq_nil_of_le (by omega), holF] at hh
    subst hh
    conv => whnf
    repeat (first | refine go ?_ | (refine AW.plan (id := 8) hm (.one 0 (.one 1 (.one 2 (.one 5 (.one 3 (.one 4 (.one 6 .nil))))))) (by kernel_rfl) ?_; conv => whnf))
    refine AOut.stay ?_
    conv => whnf
    repeat (first | refine go ?_ | (refine AW.plan (id := 8) hm (.one 0 (.one 1 (.one 2 (.one 5 (.one 3 (.one 4 (.one 6 .nil))))))) (by kernel_rfl) ?_; conv => whnf))
    exact AFin.val rfl ⟨rfl, rfl⟩
end Go.Aw.UT

set_option linter.unusedSimpArgs false
set_option linter.unusedVariables false
namespace Go.Proofs
open Go.Shelf Go.RowKit Go.Lib Go.Sort

def spVv (x : Int × Int) : List Value := [.int .i64 x.1, .int .i64 x.2]
def spLt (x y : Int × Int) : Bool := decide (x.1 < y.1)
def spOrd (x y : Int × Int) : Int := Lib.compareInt x.1 y.1

set_option maxHeartbeats 1000000 in
theorem Tryz.order213 (x y : Int × Int) (W : World) : Calls Tryz.prog 213 #[.agg #[.int .i64 x.1, .int .i64 x.2], .agg #[.int .i64 y.1, .int .i64 y.2]] W fun e w' => e = .returned (.int .i64 (spOrd x y)) ∧ ∃ q os', w' = grow (W.drewN q) os' := by
  have hcon := fun W' => AnyG.cmp_Compare_int Tryz.cmpInt x.1 y.1 W'
  change ∀ W', Calls Tryz.prog 117 _ _ _ at hcon
  obtain ⟨ix, qx⟩ := x
  obtain ⟨iy, qy⟩ := y
  simp only [spOrd] at *
  generalize Lib.compareInt ix iy = r at hcon ⊢
  go_enter Tryz.func213, Tryz.ntmps213
  go_wp2_with (go_at_call 117; refine (hcon _).mono ?_; rintro e w' ⟨rfl, rfl⟩)
  go_ret
  exact ⟨rfl, 0, _, by rw [alloc_eq_grow, alloc_eq_grow, grow_grow]; rfl⟩

theorem sp_lt (x y : Int × Int) : ltOf spOrd x y = spLt x y := by
  unfold ltOf spOrd spLt Lib.compareInt
  by_cases h1 : x.1 < y.1
  · simp [h1]
  · by_cases h2 : y.1 < x.1 <;> simp [h1, h2]
theorem sp_swo : SWO (ltOf spOrd) where
  irrefl x := by rw [sp_lt]; simp [spLt]
  trans x y z h1 h2 := by
    rw [sp_lt] at *
    simp only [spLt, decide_eq_true_eq] at *; omega
  ntrans x y z h1 h2 := by
    rw [sp_lt] at *
    simp only [spLt, decide_eq_false_iff_not] at *; omega

theorem sort40 (blk cap : Nat) (d : Array (Int × Int)) (w : World) (hH : HoldsK spVv 2 w blk 0 d) (hblk : blk < w.heap.size) (hsz : d.size < 4611686018427387904) :
    Calls Tryz.prog 212 #[.slice (some ⟨blk, 0, none⟩) d.size cap, .func (.func 213) #[] #[]] w fun e w' => e = .returned (.tuple #[]) ∧ ∃ d' n os, PermIn 0 d.size d d' ∧ SortedIn spLt 0 d.size d' ∧ w' = sortWorldK spVv 2 w blk 0 n d' os := by
  have eg : ∀ args w, (callFunc 213 args).run Tryz.prog w = .ok (.enter 213 args) w := enters_of Tryz.func213 (by kernel_rfl) rfl
  have hcon := AnyQ.slices_SortFunc Tryz.sortSp 2 Tryz.isAgg265 Tryz.sizeOf265 spVv (fun _ => rfl) (fun x v hv => by simp [spVv] at hv; rcases hv with rfl | rfl <;> rfl) spOrd sp_swo 213 #[] blk 0 cap d w eg (fun _ _ _ _ x y => Tryz.order213 x y _) hH hblk hsz
  change Calls Tryz.prog 212 _ _ _ at hcon
  refine hcon.mono fun e w' ⟨he, d', n, os, hp, hs, hw⟩ => ⟨he, d', n, os, hp, ?_, hw⟩
  intro i j h1 h2 h3
  rw [← sp_lt]
  exact hs i j h1 h2 h3
end Go.Proofs

namespace Go.Aw.UT
open Go Go.Proofs
theorem f212 (l : List (Int × Int)) (hl : l ≠ []) (hsz : l.length < 4611686018427387904) : Spec P 212 [.ms 2 0 0 l.length, .fn 213 [] []] [.cells 265 (l.flatMap spC)] (fun r H => r = .tup [] ∧ ∃ l' : List (Int × Int), l'.Perm l ∧ l'.Pairwise (fun x y => spLt y x = false) ∧ H = [.cells 265 (l'.flatMap spC)]) :=
  Spec.sort (encV := spVv) (encA := spC) (fun _ => rfl) (by decide) (fun x v hv => by simp [spVv] at hv; rcases hv with rfl | rfl <;> rfl)
    (fun w m I x => by simp only [spC, spVv, RepL, Rep]; exact ⟨_, _, rfl, rfl, _, _, rfl, rfl, rfl⟩)
    (fun w m I x ys h => by
      simp only [spC, RepL, Rep] at h
      obtain ⟨y, zs, rfl, rfl, y2, z2, rfl, rfl, rfl⟩ := h
      rfl) spLt sort40 l hl hsz
theorem f212n : Fun P 212 [.v (.slice none 0 0), .fn 213 [] []] (.tup []) := by
  refine Fun.tupBelow (vs := [.slice none 0 0, .func (.func 213) #[] #[]]) (fun w m I ys h => ?_) (fun w => ?_)
  · simp only [RepL, Rep] at h
    obtain ⟨y, zs, rfl, rfl, y2, z2, rfl, ⟨us, ys, rfl, rfl, rfl⟩, rfl⟩ := h
    rfl
  · have := AnyF.slices_SortFunc_none Tryz.sortSp none 0 (.func (.func 213) #[] #[]) w
    change Calls Tryz.prog 212 _ _ _ at this
    exact this.mono fun e w' ⟨he, hw⟩ => ⟨he, by rw [hw]; exact .refl _, by rw [hw]; exact ⟨rfl, rfl⟩⟩
end Go.Aw.UT

