/-
  The statement StateBounds: of a state that may be, of no line more is authorised, received or paid back than was shipped and paid, without any condition.
-/
import Derived.Test.YtnfbiphfhkfnaaaGreatUsA
import Derived.Shelf.SlSortCmp.WholeK
import Derived.Shelf.SlSortCmp.NoneTotal
import Derived.Shelf.SlicesG.Cmp
import Derived.Test.YtnfbiphfhkfnaaaGreatShelfP
import Derived.Test.YtnfbiphfhkfnaaaGreatAwE
set_option linter.unusedSimpArgs false
set_option linter.unusedVariables false
set_option linter.unusedSimpArgs false
set_option linter.unusedVariables false
namespace Go.Aw.UR
open Go
theorem hdLt_trans {x y z : Hd} (h1 : hdLt x y = true) (h2 : hdLt y z = true) : hdLt x z = true := by
  obtain ⟨p, i, n⟩ := x; obtain ⟨p', i', n'⟩ := y; obtain ⟨p'', i'', n''⟩ := z
  simp only [hdLt, decide_eq_true_eq] at *
  cases p <;> cases p' <;> cases p'' <;> simp at h1 h2 ⊢ <;> omega
theorem hdLt_irrefl (x : Hd) : hdLt x x = false := by
  obtain ⟨p, i, n⟩ := x
  simp [hdLt]

end Go.Aw.UR
namespace Go.Proofs
open Go.Shelf Go.RowKit Go.Lib Go.Sort

/-- the cells of what is there of a thing -/
def hdV (x : Bool × Int × Int) : List Value := [.bool x.1, .int .i64 x.2.1, .int .i64 x.2.2]
def ordF (x y : Bool × Int × Int) : Int := if x.1 = y.1 then Lib.compareInt x.2.1 y.2.1 else if y.1 then -1 else 1

set_option maxHeartbeats 1000000 in
theorem Tryz.order35 (x y : Bool × Int × Int) (W : World) : Calls Tryz.prog 35 #[.agg #[.bool x.1, .int .i64 x.2.1, .int .i64 x.2.2], .agg #[.bool y.1, .int .i64 y.2.1, .int .i64 y.2.2]] W fun e w' => e = .returned (.int .i64 (ordF x y)) ∧ ∃ q os', w' = grow (W.drewN q) os' := by
  have hcon := fun W' => AnyG.cmp_Compare_int Tryz.cmpInt x.2.1 y.2.1 W'
  change ∀ W', Calls Tryz.prog 117 _ _ _ at hcon
  obtain ⟨px, ix, qx⟩ := x
  obtain ⟨py, iy, qy⟩ := y
  simp only at *
  cases px <;> cases py
  · have e : ordF (false, ix, qx) (false, iy, qy) = Lib.compareInt ix iy := rfl
    rw [e]
    generalize Lib.compareInt ix iy = r at hcon ⊢
    go_enter Tryz.func35, Tryz.ntmps35
    go_wp2_with (go_at_call 117; refine (hcon _).mono ?_; rintro e w' ⟨rfl, rfl⟩)
    go_ret
    exact ⟨rfl, 0, _, by rw [alloc_eq_grow, alloc_eq_grow, grow_grow]; rfl⟩
  · have e : ordF (false, ix, qx) (true, iy, qy) = -1 := rfl
    rw [e]
    clear hcon
    go_enter Tryz.func35, Tryz.ntmps35
    go_wp2
    go_ret
    exact ⟨rfl, 0, _, by rw [alloc_eq_grow, alloc_eq_grow, grow_grow]; rfl⟩
  · have e : ordF (true, ix, qx) (false, iy, qy) = 1 := rfl
    rw [e]
    clear hcon
    go_enter Tryz.func35, Tryz.ntmps35
    go_wp2
    go_ret
    exact ⟨rfl, 0, _, by rw [alloc_eq_grow, alloc_eq_grow, grow_grow]; rfl⟩
  · have e : ordF (true, ix, qx) (true, iy, qy) = Lib.compareInt ix iy := rfl
    rw [e]
    generalize Lib.compareInt ix iy = r at hcon ⊢
    go_enter Tryz.func35, Tryz.ntmps35
    go_wp2_with (go_at_call 117; refine (hcon _).mono ?_; rintro e w' ⟨rfl, rfl⟩)
    go_ret
    exact ⟨rfl, 0, _, by rw [alloc_eq_grow, alloc_eq_grow, grow_grow]; rfl⟩

theorem ord_lt (x y : Bool × Int × Int) : ltOf ordF x y = Go.Aw.UR.hdLt x y := by
  obtain ⟨px, ix, qx⟩ := x
  obtain ⟨py, iy, qy⟩ := y
  unfold ltOf ordF Go.Aw.UR.hdLt Lib.compareInt
  cases px <;> cases py <;> simp
  all_goals
    by_cases h1 : ix < iy
    · simp [h1]
    · by_cases h2 : iy < ix <;> simp [h1, h2]

theorem ord_swo : SWO (ltOf ordF) where
  irrefl x := by rw [ord_lt, Go.Aw.UR.hdLt_irrefl]
  trans x y z h1 h2 := by
    rw [ord_lt] at *
    exact Go.Aw.UR.hdLt_trans h1 h2
  ntrans x y z h1 h2 := by
    rw [ord_lt] at *
    obtain ⟨p, i, n⟩ := x; obtain ⟨p', i', n'⟩ := y; obtain ⟨p'', i'', n''⟩ := z
    simp only [Go.Aw.UR.hdLt, decide_eq_false_iff_not] at *
    cases p <;> cases p' <;> cases p'' <;> simp at h1 h2 ⊢ <;> omega

theorem sort45 (blk cap : Nat) (d : Array (Bool × Int × Int)) (w : World) (hH : HoldsK hdV 3 w blk 0 d) (hblk : blk < w.heap.size) (hsz : d.size < 4611686018427387904) :
    Calls Tryz.prog 34 #[.slice (some ⟨blk, 0, none⟩) d.size cap, .func (.func 35) #[] #[]] w fun e w' => e = .returned (.tuple #[]) ∧ ∃ d' n os, PermIn 0 d.size d d' ∧ SortedIn Go.Aw.UR.hdLt 0 d.size d' ∧ w' = sortWorldK hdV 3 w blk 0 n d' os := by
  have eg : ∀ args w, (callFunc 35 args).run Tryz.prog w = .ok (.enter 35 args) w := enters_of Tryz.func35 (by kernel_rfl) rfl
  have hcon := AnyQ.slices_SortFunc Tryz.sortHd 3 Tryz.isAgg55 Tryz.sizeOf55 hdV (fun _ => rfl) (fun x v hv => by simp [hdV] at hv; rcases hv with rfl | rfl | rfl <;> rfl) ordF ord_swo 35 #[] blk 0 cap d w eg (fun _ _ _ _ x y => Tryz.order35 x y _) hH hblk hsz
  change Calls Tryz.prog 34 _ _ _ at hcon
  refine hcon.mono fun e w' ⟨he, d', n, os, hp, hs, hw⟩ => ⟨he, d', n, os, hp, ?_, hw⟩
  intro i j h1 h2 h3
  rw [← ord_lt]
  exact hs i j h1 h2 h3
end Go.Proofs

namespace Go.Aw.UR
open Go Go.Proofs
theorem sortOk : SortOk := by
  intro l hl hlen
  exact Spec.sort (encV := hdV) (encA := hdC) (fun _ => rfl) (by decide) (fun x v hv => by simp [hdV] at hv; rcases hv with rfl | rfl | rfl <;> rfl)
    (fun w m I x => by simp only [hdC, hdV, RepL, Rep]; exact ⟨_, _, rfl, rfl, _, _, rfl, rfl, _, _, rfl, rfl, rfl⟩)
    (fun w m I x ys h => by
      simp only [hdC, RepL, Rep] at h
      obtain ⟨y, zs, rfl, rfl, y2, z2, rfl, rfl, y3, z3, rfl, rfl, rfl⟩ := h
      rfl) hdLt sort45 l hl (by omega)

theorem sortNil : SortNil := by
  refine Fun.tupBelow (vs := [.slice none 0 0, .func (.func 35) #[] #[]]) (fun w m I ys h => ?_) (fun w => ?_)
  · simp only [RepL, Rep] at h
    obtain ⟨y, zs, rfl, rfl, y2, z2, rfl, ⟨us, ys, rfl, rfl, rfl⟩, rfl⟩ := h
    rfl
  · have := AnyF.slices_SortFunc_none Tryz.sortHd none 0 (.func (.func 35) #[] #[]) w
    change Calls Tryz.prog 34 _ _ _ at this
    exact this.mono fun e w' ⟨he, hw⟩ => ⟨he, by rw [hw]; exact .refl _, by rw [hw]; exact ⟨rfl, rfl⟩⟩
end Go.Aw.UR

set_option linter.unusedSimpArgs false
set_option linter.unusedVariables false
set_option maxHeartbeats 4000000
namespace Go.Aw.UR
open Go

def hs (d : List Hd) : Int := (d.map (·.2.2)).sum
/-! ### what is handed back, as values -/
def hds (d : List Hd) : AV := .vs 3 d.length (d.flatMap hdC)
theorem ren_hds (ρ : Nat → Nat) (d : List Hd) : (hds d).ren ρ = hds d := by simp only [hds, AV.ren, renL_hd]
theorem ren_two (ρ : Nat → Nat) (x y : AV) (hx : x.ren ρ = x) (hy : y.ren ρ = y) : (AV.tup [x, y]).ren ρ = .tup [x, y] := by simp only [AV.ren, renL, hx, hy]

theorem f8v (l : List Mv) (hl : l.length ≤ 4611686018427387904) : Spec P 8 [mvs l] [] fun r H => (∃ d, (good l ∧ AllOf l d ∨ ¬ good l ∧ d = []) ∧ r = .tup [hds d, nV (chkF l)]) ∧ H = [] := by
  refine (f8 sortOk sortNil l hl).value ?_
  rintro _ _ (⟨hg, d, hd, ⟨rfl, rfl, rfl⟩ | ⟨hne, rfl, rfl⟩⟩ | ⟨hg, rfl, rfl⟩)
  · refine ⟨.tup [hds [], nV 0], .tup (.cons .nil (.cons (.it _) .nil)), fun ρ => ren_two _ _ _ (ren_hds _ _) rfl, [], .inl ⟨hg, hd⟩, ?_⟩
    rw [chkF_yes hg]
  · refine ⟨.tup [hds d, nV 0], .tup (.cons (Lend.sm (t := 55) rfl (by rw [hd_len])) (.cons (.it _) .nil)), fun ρ => ren_two _ _ _ (ren_hds _ _) rfl, d, .inl ⟨hg, hd⟩, ?_⟩
    rw [chkF_yes hg]
  · refine ⟨.tup [hds [], nV 40], .tup (.cons .nil (.cons (.it _) .nil)), fun ρ => ren_two _ _ _ (ren_hds _ _) rfl, [], .inr ⟨hg, rfl⟩, ?_⟩
    rw [chkF_no hg]

end Go.Aw.UR

