/-
  The statement AuditMoney: what was paid back is from nothing to what was paid, units that are left and that are done are all, and no more units are there than were shipped, without any condition.
-/
import Derived.Test.YtgpnhbekepoebaaGreatQ04
import Derived.Test.YtgpnhbekepoebaaGreatAwE
import Derived.Shelf.SlSortCmp.WholeK
import Derived.Shelf.SlSortCmp.NoneTotal
import Derived.Shelf.SlicesG.Cmp
import Derived.Test.YtgpnhbekepoebaaGreatShelfP
import Derived.Test.YtgpnhbekepoebaaGreatQ03
import Derived.Shelf.Bits.Mul64
set_option linter.unusedSimpArgs false
set_option linter.unusedVariables false
set_option linter.unusedSimpArgs false
set_option linter.unusedVariables false
set_option maxHeartbeats 4000000
namespace Go.Aw.UR
open Go

abbrev Hd := Bool × Int × Int
def hdC (x : Hd) : List AV := [.v (.bool x.1), .v (.int .i64 x.2.1), .v (.int .i64 x.2.2)]
def hdLt (x y : Hd) : Bool := decide ((x.1 = y.1 ∧ x.2.1 < y.2.1) ∨ (x.1 = false ∧ y.1 = true))
theorem hdC_len (x : Hd) : (hdC x).length = 3 := rfl
theorem hd_len (l : List Hd) : (l.flatMap hdC).length = l.length * 3 := flat_length hdC_len l
theorem renL_hd (ρ : Nat → Nat) (l : List Hd) : renL ρ (l.flatMap hdC) = l.flatMap hdC := by
  induction l with
  | nil => rfl
  | cons m l ih => rw [List.flatMap_cons, renL_append, ih]; rfl

/-- what the sort does -/
def SortOk : Prop := ∀ l : List Hd, l ≠ [] → l.length ≤ 1000 → Spec P 137 [.ms 3 0 0 l.length, .fn 138 [] []] [.cells 132 (l.flatMap hdC)] (fun r H => r = .tup [] ∧ ∃ l' : List Hd, l'.Perm l ∧ l'.Pairwise (fun x y => hdLt y x = false) ∧ H = [.cells 132 (l'.flatMap hdC)])
def SortNil : Prop := Fun P 137 [.v (.slice none 0 0), .fn 138 [] []] (.tup [])

structure AllOf (l : List Mv) (d : List Hd) : Prop where
  lt : d.Pairwise (fun x y => hdLt x y = true)
  mem : ∀ x, x ∈ d ↔ (∃ m ∈ l, m.p = x.1 ∧ m.i = x.2.1) ∧ x.2.2 = sumOf l x.1 x.2.1

def toHd (x : Th × Int) : Hd := (x.1.1, x.1.2, x.2)

theorem toHd_mem {L : List (Th × Int)} {l : List Mv} (h : Held L l) (x : Hd) : x ∈ L.map toHd ↔ (∃ m ∈ l, m.p = x.1 ∧ m.i = x.2.1) ∧ x.2.2 = sumOf l x.1 x.2.1 := by
  obtain ⟨p, i, n⟩ := x
  have h1 := h.mem (p, i)
  have h2 := h.sum (p, i)
  simp only at h1 h2 ⊢
  rw [← h1, ← h2]
  constructor
  · intro hx
    obtain ⟨⟨⟨p', i'⟩, n'⟩, hy, e⟩ := List.mem_map.1 hx
    simp only [toHd, Prod.mk.injEq] at e
    obtain ⟨rfl, rfl, rfl⟩ := e
    obtain ⟨j, hj⟩ := List.getElem?_of_mem hy
    exact ⟨List.mem_map.2 ⟨_, hy, rfl⟩, (look_at h.nd hj).symm⟩
  · rintro ⟨hk, rfl⟩
    obtain ⟨⟨k, n'⟩, hy, e⟩ := List.mem_map.1 hk
    simp only at e
    subst e
    obtain ⟨j, hj⟩ := List.getElem?_of_mem hy
    rw [look_at h.nd hj]
    exact List.mem_map.2 ⟨_, hy, rfl⟩

theorem allOf_of {L : List (Th × Int)} {l : List Mv} (h : Held L l) {d : List Hd} (hp : d.Perm (L.map toHd)) (hs : d.Pairwise (fun x y => hdLt y x = false)) : AllOf l d where
  lt := by
    have hkeys : (d.map fun x => (x.1, x.2.1)).Nodup := by
      have h1 : ((L.map toHd).map fun x => (x.1, x.2.1)) = L.map (·.1) := by simp [toHd, Function.comp_def]
      have h2 := (hp.map fun x => (x.1, x.2.1)).nodup_iff
      rw [h1] at h2
      exact h2.2 h.nd
    have hn : d.Pairwise (fun x y => (x.1, x.2.1) ≠ (y.1, y.2.1)) := by
      rw [List.Nodup, List.pairwise_map] at hkeys
      exact hkeys
    refine (hs.and hn).imp ?_
    rintro ⟨p, i, n⟩ ⟨p', i', n'⟩ ⟨h1, h2⟩
    simp only [hdLt, decide_eq_false_iff_not, ne_eq, Prod.mk.injEq, not_and, decide_eq_true_eq] at h1 h2 ⊢
    cases p <;> cases p' <;> simp at h1 h2 ⊢ <;> omega
  mem := fun x => by rw [hp.mem_iff, toHd_mem h]

/-- All's answer -/
def AllR (l : List Mv) (r : AV) (H : List ABlk) : Prop :=
  (good l ∧ ∃ d, AllOf l d ∧ ((d = [] ∧ r = .tup [.v (.slice none 0 0), nV 0] ∧ H = []) ∨ (d ≠ [] ∧ r = .tup [.ms 3 0 0 d.length, nV 0] ∧ H = [.cells 132 (d.flatMap hdC)]))) ∨
  (¬ good l ∧ r = .tup [.v (.slice none 0 0), nV 40] ∧ H = [])

theorem f57 (hso : SortOk) (hsn : SortNil) (l : List Mv) (hl : l.length ≤ 4611686018427387904) : Spec P 57 [mvs l] [] (AllR l) := by
  refine spec_of hT (f := 57) (fn := Go.Proofs.Tryz.f57) (c := body Go.Proofs.Tryz.f57) (by kernel_rfl) (by kernel_rfl) ?_
  conv => whnf
  repeat refine go ?_
  refine ACall.spec (by kernel_rfl) (f136 l hl) (by simp [renL, AV.ren, renL_mvs, mvs]) ?_
  have hu : P.underlying 209 = some (.map 213 3) := by kernel_rfl
  rintro _ _ (⟨hg, L, bs, clk, hH, rfl, rfl⟩ | ⟨hg, rfl, rfl⟩)
  · simp only [List.map_cons, List.map_nil, ABlk.ren, ren_em, List.nil_append]
    conv => whnf
    repeat refine go ?_
    refine ACond.no rfl ?_
    conv => whnf
    repeat refine go ?_
    refine AOp.range hu rfl rfl ?_
    conv => whnf
    repeat refine go ?_
    by_cases hL : L = []
    · subst hL
      refine ALoop.mk (fun n E H => E = pad [mvs l, .any, .v (.slice none 0 0), .v (.int .i64 0), .mp 0, .v (.bool true), .v (.slice none 0 0), .any, .any, .any, .any, .any, .any, .any, .any, .any, .mp 0, .ptr 1 0] 35 ∧ H = [.map [] bs clk, .iter 0 clk []]) (n := 0) _ _ ⟨rfl, rfl⟩ (Conv.fit ?_) ?_
      · repeat' (first | exact Fit.nil | refine Fit.any ?_ | refine Fit.same ?_)
      rintro _ _ _ ⟨rfl, rfl⟩
      conv => whnf
      repeat refine go ?_
      refine AOp.next (l := 0) (li := 1) (es := []) rfl rfl rfl (fun _ => ?_) (fun i s k v he => by simp at he)
      conv => whnf
      repeat refine go ?_
      refine ACond.no rfl ?_
      conv => whnf
      repeat refine go ?_
      refine AOut.stay ?_
      conv => whnf
      repeat refine go ?_
      refine ACall.val (by kernel_rfl) hsn rfl rfl ?_
      conv => whnf
      repeat refine go ?_
      exact AFin.to (.tup [.v (.slice none 0 0), nV 0]) [] (Conv.ren [] _ (by simp) (by simp) (Fit.refl _) .nil) (.inl ⟨hg, [], allOf_of hH (by simp) (by simp), .inl ⟨rfl, rfl, rfl⟩⟩)
    · have hl0 : l ≠ [] := by
        rintro rfl
        obtain ⟨x, hx⟩ := List.exists_mem_of_ne_nil L hL
        obtain ⟨m, hm, _⟩ := (hH.mem x.1).1 (List.mem_map.2 ⟨x, hx, rfl⟩)
        simp at hm
      have hLl : L.length ≤ l.length := by
        have h1 := List.Nodup.length_le_of_subset hH.nd (l₂ := l.map fun m => (m.p, m.i)) (fun k hk => by
          obtain ⟨m, hm, e1, e2⟩ := (hH.mem k).1 hk
          exact List.mem_map.2 ⟨m, hm, by rw [e1, e2]⟩)
        simpa using h1
      have hL1000 : L.length ≤ 1000 := by have := hg.1; omega
      have hLpos : 0 < L.length := List.length_pos_iff.2 hL
      refine ALoop.mapLen (l := 0) rfl (fun hlen hnd => ?_)
      have hlen : bs.length = L.length := by simpa [em] using hlen
      have hst : ∀ i, i < L.length → bs[i]? = some (bs.getD i 0) := fun i hi => by
        rw [List.getD_eq_getElem?_getD, List.getElem?_eq_getElem (by omega)]; rfl
      refine ALoop.mk (fun n E H => ∃ idx : List Nat, idx.Nodup ∧ (∀ i ∈ idx, i < L.length) ∧ n = L.length - idx.length ∧ E = pad [mvs l, .any, .v (.slice none 0 0), .v (.int .i64 0), .mp 0, .v (.bool true), .ms 3 2 0 idx.length, .any, .any, .any, .any, .any, .any, .any, .any, .any, .mp 0, .ptr 1 0] 35 ∧
          H = [.map (em thA nV L) bs clk, .iter 0 clk (idx.map fun i => bs.getD i 0), .cells 132 ((idx.map fun i => toHd (L.getD i ((false, 0), 0))).flatMap hdC)]) (n := L.length) _ _ ⟨[], by simp, by simp, by simp, rfl, rfl⟩ ?_ ?_
      · refine Conv.trans (Conv.fit (xs' := pad [mvs l, .any, .v (.slice none 0 0), .v (.int .i64 0), .mp 0, .v (.bool true), .v (.slice none 0 0), .any, .any, .any, .any, .any, .any, .any, .any, .any, .mp 0, .ptr 1 0] 35) ?_) (Conv.own (sz := 3) 132 (.same (.any (.same (.same (.same (.same (.own ?_))))))))
        · repeat' (first | exact Fit.nil | refine Fit.any ?_ | refine Fit.same ?_)
        · repeat' (first | exact FitN.nil | refine FitN.any ?_ | refine FitN.same ?_)
      rintro _ _ _ ⟨idx, hnd2, hlt, rfl, rfl, rfl⟩
      have hbound : ∀ idx : List Nat, idx.Nodup → (∀ i ∈ idx, i < L.length) → idx.length ≤ L.length := fun idx h1 h2 => by
        have := List.Nodup.length_le_of_subset h1 (l₂ := List.range L.length) (fun x hx => by simpa using h2 x hx)
        simpa using this
      conv => whnf
      repeat refine go ?_
      refine AOp.next (l := 0) (li := 1) (es := em thA nV L) (bs := bs) rfl rfl rfl (fun hall => ?_) (fun i s k v he hs hns => ?_)
      · conv => whnf
        repeat refine go ?_
        refine ACond.no rfl ?_
        conv => whnf
        repeat refine go ?_
        refine AOut.stay ?_
        conv => whnf
        repeat refine go ?_
        have hmem : ∀ i, i < L.length → i ∈ idx := fun i hi => by
          have h1 : bs.getD i 0 ∈ idx.map fun i => bs.getD i 0 := hall _ (List.mem_of_getElem? (hst i hi))
          obtain ⟨j, hj, e⟩ := List.mem_map.1 h1
          have h2 := hst j (hlt j hj)
          rw [e] at h2
          rw [← nodup_at hnd h2 (hst i hi)]; exact hj
        have hperm : idx.Perm (List.range L.length) := (List.perm_ext_iff_of_nodup hnd2 List.nodup_range).2 (fun a => ⟨fun h => by simpa using hlt a h, fun h => hmem a (by simpa using h)⟩)
        have hO : (idx.map fun i => toHd (L.getD i ((false, 0), 0))).Perm (L.map toHd) := by
          have h1 := hperm.map fun i => toHd (L.getD i ((false, 0), 0))
          have h2 : (List.range L.length).map (fun i => toHd (L.getD i ((false, 0), 0))) = L.map toHd := by
            apply List.ext_getElem (by simp)
            intro k hk1 hk2
            simp only [List.getElem_map, List.getElem_range]
            rw [List.getD_eq_getElem?_getD, List.getElem?_eq_getElem (by simpa using hk2)]; rfl
          rw [h2] at h1
          exact h1
        have hOl : (idx.map fun i => toHd (L.getD i ((false, 0), 0))).length = idx.length := List.length_map ..
        have hil : idx.length = L.length := by have := hperm.length_eq; simpa using this
        generalize (idx.map fun i => toHd (L.getD i ((false, 0), 0))) = O at hO hOl
        rw [← hOl]
        have hOn : O ≠ [] := by rintro rfl; simp at hOl; omega
        refine ACall.of (by kernel_rfl) (hso O hOn (by omega)) [2] [] (by simp) (.same (by show some (ABlk.cells 132 _) = some (ABlk.cells 132 (renL _ _)); rw [renL_hd]) .nil) (by simp) (by simp) (LendL.same [.ms 3 0 0 O.length, .fn 138 [] []]) (.inl rfl) ?_
        rintro _ _ ⟨rfl, d, hd, hsrt, rfl⟩
        have hm1 : ∀ ρ (x y : ABlk) (xs : List AV), mergeH ρ [x, y, ABlk.cells 132 xs] [2] [.cells 132 (d.flatMap hdC)] = [x, y, .cells 132 (d.flatMap hdC)] := by
          intro ρ x y xs
          simp [mergeH, ABlk.ren, renL_hd]
        rw [hm1]
        conv => whnf
        repeat refine go ?_
        have hdl : d.length = O.length := hd.length_eq
        have hdn : d ≠ [] := by rintro rfl; simp at hdl; exact hOn (List.eq_nil_of_length_eq_zero hdl.symm)
        rw [← hdl]
        refine AFin.to (.tup [.ms 3 0 0 d.length, nV 0]) [.cells 132 (d.flatMap hdC)] (Conv.ren [2] _ (by simp) (by simp) (Fit.refl _) (.same (by show some (ABlk.cells 132 _) = some (ABlk.cells 132 (renL _ _)); rw [renL_hd]) .nil)) (.inl ⟨hg, d, allOf_of hH (hd.trans hO) hsrt, .inr ⟨hdn, rfl, rfl⟩⟩)
      · have hi : i < L.length := by
          have := (List.getElem?_eq_some_iff.1 he).1
          simpa [em] using this
        have hLi : L[i]? = some (L.getD i ((false, 0), 0)) := by rw [List.getD_eq_getElem?_getD, List.getElem?_eq_getElem hi]; rfl
        have hkv : (k, v) = (thA (L.getD i ((false, 0), 0)).1, nV (L.getD i ((false, 0), 0)).2) := by
          have h1 : (em thA nV L)[i]? = some (thA (L.getD i ((false, 0), 0)).1, nV (L.getD i ((false, 0), 0)).2) := by
            unfold em; rw [List.getElem?_map, hLi]; rfl
          rw [h1] at he
          exact (Option.some.inj he).symm
        obtain ⟨rfl, rfl⟩ := Prod.mk.inj hkv
        have hsi : s = bs.getD i 0 := by rw [hst i hi] at hs; exact (Option.some.inj hs).symm
        subst hsi
        have hni : i ∉ idx := fun hc => hns (List.mem_map.2 ⟨i, hc, rfl⟩)
        have hnd3 : (idx ++ [i]).Nodup := by
          rw [List.nodup_append]
          exact ⟨hnd2, by simp, fun a ha b hb => by simp at hb; subst hb; rintro rfl; exact hni ha⟩
        have hlt3 : ∀ j ∈ idx ++ [i], j < L.length := fun j hj => (List.mem_append.1 hj).elim (hlt j) (fun h => by simp at h; omega)
        have hb3 := hbound _ hnd3 hlt3
        rw [List.length_append, List.length_singleton] at hb3
        conv => whnf
        repeat refine go ?_
        refine ACond.yes rfl ?_
        conv => whnf
        repeat refine go ?_
        refine AOp.entry (l := 0) (li := 1) (es := em thA nV L) (bs := bs) rfl rfl rfl he hs ?_
        conv => whnf
        repeat refine go ?_
        have eb : (T 132).bytes = 24 := rfl
        refine AReq.mk ⟨by rw [hd_len]; simp, by rw [eb]; omega⟩ ?_
        conv => whnf
        repeat refine go ?_
        have ecell : (idx.map fun i => toHd (L.getD i ((false, 0), 0))).flatMap hdC ++ [.v (.bool (L.getD i ((false, 0), 0)).1.1), .v (.int .i64 (L.getD i ((false, 0), 0)).1.2), .v (.int .i64 (L.getD i ((false, 0), 0)).2)] = ((idx ++ [i]).map fun i => toHd (L.getD i ((false, 0), 0))).flatMap hdC := by
          rw [List.map_append, List.flatMap_append]; simp [toHd, hdC]
        rw [ecell]
        have hx : renL (nm [0, 1, 4] 5) (pad [mvs l, .any, .v (.slice none 0 0), .v (.int .i64 0), .mp 0, .v (.bool true), .ms 3 2 0 (idx ++ [i]).length, .any, .any, .any, .any, .any, .any, .any, .any, .any, .mp 0, .ptr 1 0] 35) = pad [mvs l, .any, .v (.slice none 0 0), .v (.int .i64 0), .mp 0, .v (.bool true), .ms 3 4 0 (idx.length + 1), .any, .any, .any, .any, .any, .any, .any, .any, .any, .mp 0, .ptr 1 0] 35 := by
          simp [pad, renL, AV.ren, ren_mvs, nm]
        refine AHead.mk (L.length - (idx ++ [i]).length) _ _ (by rw [List.length_append, List.length_singleton]; omega) ⟨idx ++ [i], hnd3, hlt3, rfl, rfl, rfl⟩ (Conv.trans (Conv.fit (xs' := pad [mvs l, .any, .v (.slice none 0 0), .v (.int .i64 0), .mp 0, .v (.bool true), .ms 3 4 0 (idx.length + 1), .any, .any, .any, .any, .any, .any, .any, .any, .any, .mp 0, .ptr 1 0] 35) ?_) (Conv.ren [0, 1, 4] _ (by simp) (by simp) (by rw [← hx]; exact Fit.refl _) (.same ?_ (.same ?_ (.same ?_ .nil)))))
        · repeat' (first | exact Fit.nil | refine Fit.any ?_ | refine Fit.same ?_)
        · simp [ABlk.ren, ren_em]
        · simp [ABlk.ren, nm]
        · show some (ABlk.cells 132 _) = some (ABlk.cells 132 (renL _ _)); rw [renL_hd]
  · conv => whnf
    repeat refine go ?_
    refine ACond.yes rfl ?_
    conv => whnf
    repeat refine go ?_
    exact AFin.to (.tup [.v (.slice none 0 0), nV 40]) [] (Conv.ren [] _ (by simp) (by simp) (Fit.refl _) .nil) (.inr ⟨hg, rfl, rfl⟩)
end Go.Aw.UR

set_option linter.unusedSimpArgs false
set_option linter.unusedVariables false
namespace Go.Aw.UR
open Go
theorem hdLt_trans {x y z : Hd} (h1 : hdLt x y = true) (h2 : hdLt y z = true) : hdLt x z = true := by
  obtain ⟨p, i, n⟩ := x; obtain ⟨p', i', n'⟩ := y; obtain ⟨p'', i'', n''⟩ := z
  simp only [hdLt, decide_eq_true_eq] at *
  cases p <;> cases p' <;> cases p'' <;> simp at h1 h2 ⊢ <;> omega
theorem hdLt_irrefl (x : Hd) : hdLt x x = false := by
  obtain ⟨p, i, n⟩ := x
  simp [hdLt]

end Go.Aw.UR
namespace Go.Proofs
open Go.Shelf Go.RowKit Go.Lib Go.Sort

/-- the cells of what is there of a thing -/
def hdV (x : Bool × Int × Int) : List Value := [.bool x.1, .int .i64 x.2.1, .int .i64 x.2.2]
def ordF (x y : Bool × Int × Int) : Int := if x.1 = y.1 then Lib.compareInt x.2.1 y.2.1 else if y.1 then -1 else 1

set_option maxHeartbeats 1000000 in
theorem Tryz.order138 (x y : Bool × Int × Int) (W : World) : Calls Tryz.prog 138 #[.agg #[.bool x.1, .int .i64 x.2.1, .int .i64 x.2.2], .agg #[.bool y.1, .int .i64 y.2.1, .int .i64 y.2.2]] W fun e w' => e = .returned (.int .i64 (ordF x y)) ∧ ∃ q os', w' = grow (W.drewN q) os' := by
  have hcon := fun W' => AnyG.cmp_Compare_int Tryz.cmpInt x.2.1 y.2.1 W'
  change ∀ W', Calls Tryz.prog 232 _ _ _ at hcon
  obtain ⟨px, ix, qx⟩ := x
  obtain ⟨py, iy, qy⟩ := y
  simp only at *
  cases px <;> cases py
  · have e : ordF (false, ix, qx) (false, iy, qy) = Lib.compareInt ix iy := rfl
    rw [e]
    generalize Lib.compareInt ix iy = r at hcon ⊢
    go_enter Tryz.func138, Tryz.ntmps138
    go_wp2_with (go_at_call 232; refine (hcon _).mono ?_; rintro e w' ⟨rfl, rfl⟩)
    go_ret
    exact ⟨rfl, 0, _, by rw [alloc_eq_grow, alloc_eq_grow, grow_grow]; rfl⟩
  · have e : ordF (false, ix, qx) (true, iy, qy) = -1 := rfl
    rw [e]
    clear hcon
    go_enter Tryz.func138, Tryz.ntmps138
    go_wp2
    go_ret
    exact ⟨rfl, 0, _, by rw [alloc_eq_grow, alloc_eq_grow, grow_grow]; rfl⟩
  · have e : ordF (true, ix, qx) (false, iy, qy) = 1 := rfl
    rw [e]
    clear hcon
    go_enter Tryz.func138, Tryz.ntmps138
    go_wp2
    go_ret
    exact ⟨rfl, 0, _, by rw [alloc_eq_grow, alloc_eq_grow, grow_grow]; rfl⟩
  · have e : ordF (true, ix, qx) (true, iy, qy) = Lib.compareInt ix iy := rfl
    rw [e]
    generalize Lib.compareInt ix iy = r at hcon ⊢
    go_enter Tryz.func138, Tryz.ntmps138
    go_wp2_with (go_at_call 232; refine (hcon _).mono ?_; rintro e w' ⟨rfl, rfl⟩)
    go_ret
    exact ⟨rfl, 0, _, by rw [alloc_eq_grow, alloc_eq_grow, grow_grow]; rfl⟩

theorem ord_lt (x y : Bool × Int × Int) : ltOf ordF x y = Go.Aw.UR.hdLt x y := by
  obtain ⟨px, ix, qx⟩ := x
  obtain ⟨py, iy, qy⟩ := y
  unfold ltOf ordF Go.Aw.UR.hdLt Lib.compareInt
  cases px <;> cases py <;> simp
  all_goals
    by_cases h1 : ix < iy
    · simp [h1]
    · by_cases h2 : iy < ix <;> simp [h1, h2]

theorem ord_swo : SWO (ltOf ordF) where
  irrefl x := by rw [ord_lt, Go.Aw.UR.hdLt_irrefl]
  trans x y z h1 h2 := by
    rw [ord_lt] at *
    exact Go.Aw.UR.hdLt_trans h1 h2
  ntrans x y z h1 h2 := by
    rw [ord_lt] at *
    obtain ⟨p, i, n⟩ := x; obtain ⟨p', i', n'⟩ := y; obtain ⟨p'', i'', n''⟩ := z
    simp only [Go.Aw.UR.hdLt, decide_eq_false_iff_not] at *
    cases p <;> cases p' <;> cases p'' <;> simp at h1 h2 ⊢ <;> omega

theorem sort45 (blk cap : Nat) (d : Array (Bool × Int × Int)) (w : World) (hH : HoldsK hdV 3 w blk 0 d) (hblk : blk < w.heap.size) (hsz : d.size < 4611686018427387904) :
    Calls Tryz.prog 137 #[.slice (some ⟨blk, 0, none⟩) d.size cap, .func (.func 138) #[] #[]] w fun e w' => e = .returned (.tuple #[]) ∧ ∃ d' n os, PermIn 0 d.size d d' ∧ SortedIn Go.Aw.UR.hdLt 0 d.size d' ∧ w' = sortWorldK hdV 3 w blk 0 n d' os := by
  have eg : ∀ args w, (callFunc 138 args).run Tryz.prog w = .ok (.enter 138 args) w := enters_of Tryz.func138 (by kernel_rfl) rfl
  have hcon := AnyQ.slices_SortFunc Tryz.sortHd 3 Tryz.isAgg132 Tryz.sizeOf132 hdV (fun _ => rfl) (fun x v hv => by simp [hdV] at hv; rcases hv with rfl | rfl | rfl <;> rfl) ordF ord_swo 138 #[] blk 0 cap d w eg (fun _ _ _ _ x y => Tryz.order138 x y _) hH hblk hsz
  change Calls Tryz.prog 137 _ _ _ at hcon
  refine hcon.mono fun e w' ⟨he, d', n, os, hp, hs, hw⟩ => ⟨he, d', n, os, hp, ?_, hw⟩
  intro i j h1 h2 h3
  rw [← ord_lt]
  exact hs i j h1 h2 h3
end Go.Proofs

namespace Go.Aw.UR
open Go Go.Proofs
theorem sortOk : SortOk := by
  intro l hl hlen
  exact Spec.sort (encV := hdV) (encA := hdC) (fun _ => rfl) (by decide) (fun x v hv => by simp [hdV] at hv; rcases hv with rfl | rfl | rfl <;> rfl)
    (fun w m I x => by simp only [hdC, hdV, RepL, Rep]; exact ⟨_, _, rfl, rfl, _, _, rfl, rfl, _, _, rfl, rfl, rfl⟩)
    (fun w m I x ys h => by
      simp only [hdC, RepL, Rep] at h
      obtain ⟨y, zs, rfl, rfl, y2, z2, rfl, rfl, y3, z3, rfl, rfl, rfl⟩ := h
      rfl) hdLt sort45 l hl (by omega)

theorem sortNil : SortNil := by
  refine Fun.tupBelow (vs := [.slice none 0 0, .func (.func 138) #[] #[]]) (fun w m I ys h => ?_) (fun w => ?_)
  · simp only [RepL, Rep] at h
    obtain ⟨y, zs, rfl, rfl, y2, z2, rfl, ⟨us, ys, rfl, rfl, rfl⟩, rfl⟩ := h
    rfl
  · have := AnyF.slices_SortFunc_none Tryz.sortHd none 0 (.func (.func 138) #[] #[]) w
    change Calls Tryz.prog 137 _ _ _ at this
    exact this.mono fun e w' ⟨he, hw⟩ => ⟨he, by rw [hw]; exact .refl _, by rw [hw]; exact ⟨rfl, rfl⟩⟩
end Go.Aw.UR

set_option linter.unusedSimpArgs false
set_option linter.unusedVariables false
set_option maxHeartbeats 4000000
namespace Go.Aw.UR
open Go

def hs (d : List Hd) : Int := (d.map (·.2.2)).sum
/-! ### what is handed back, as values -/
def hds (d : List Hd) : AV := .vs 3 d.length (d.flatMap hdC)
theorem ren_hds (ρ : Nat → Nat) (d : List Hd) : (hds d).ren ρ = hds d := by simp only [hds, AV.ren, renL_hd]
theorem ren_two (ρ : Nat → Nat) (x y : AV) (hx : x.ren ρ = x) (hy : y.ren ρ = y) : (AV.tup [x, y]).ren ρ = .tup [x, y] := by simp only [AV.ren, renL, hx, hy]

theorem f57v (l : List Mv) (hl : l.length ≤ 4611686018427387904) : Spec P 57 [mvs l] [] fun r H => (∃ d, (good l ∧ AllOf l d ∨ ¬ good l ∧ d = []) ∧ r = .tup [hds d, nV (chkF l)]) ∧ H = [] := by
  refine (f57 sortOk sortNil l hl).value ?_
  rintro _ _ (⟨hg, d, hd, ⟨rfl, rfl, rfl⟩ | ⟨hne, rfl, rfl⟩⟩ | ⟨hg, rfl, rfl⟩)
  · refine ⟨.tup [hds [], nV 0], .tup (.cons .nil (.cons (.it _) .nil)), fun ρ => ren_two _ _ _ (ren_hds _ _) rfl, [], .inl ⟨hg, hd⟩, ?_⟩
    rw [chkF_yes hg]
  · refine ⟨.tup [hds d, nV 0], .tup (.cons (Lend.sm (t := 132) rfl (by rw [hd_len])) (.cons (.it _) .nil)), fun ρ => ren_two _ _ _ (ren_hds _ _) rfl, d, .inl ⟨hg, hd⟩, ?_⟩
    rw [chkF_yes hg]
  · refine ⟨.tup [hds [], nV 40], .tup (.cons .nil (.cons (.it _) .nil)), fun ρ => ren_two _ _ _ (ren_hds _ _) rfl, [], .inr ⟨hg, rfl⟩, ?_⟩
    rw [chkF_no hg]

end Go.Aw.UR

set_option linter.unusedSimpArgs false
set_option linter.unusedVariables false
set_option maxHeartbeats 4000000
namespace Go.Aw.U1
open Go Go.Proofs

def cvRo (r : Ro) : UT.Ro := ⟨r.g, r.w, r.lo, r.hi, r.way⟩
def cvRu (r : Ru) : UT.Ru := ⟨r.asks, r.cuts, r.fees, r.rows.map cvRo⟩
theorem isV_iVs (l : List Int) : UT.iVs l = isV l := by
  unfold UT.iVs isV
  congr 1
  induction l with
  | nil => rfl
  | cons a l ih => rw [List.map_cons, List.flatMap_cons, ← ih]; rfl
theorem roV_cv (l : List Ro) : UT.roV (l.map cvRo) = roV l := by
  unfold UT.roV roV
  rw [List.length_map, List.flatMap_map]; rfl
theorem ruC_cv (r : Ru) : UT.ruC (cvRu r) = ruC r := by
  simp only [UT.ruC, cvRu, ruC, isV_iVs, roV_cv]
theorem f159 (r : Ru) : Fun P 159 [.agg (ruC r)] (nV (if UT.checkB (cvRu r) then 0 else 36)) := by
  have := UT.f159 (cvRu r)
  rwa [ruC_cv] at this
def rulesB (s : Sta) : Bool :=
  if 0 < (s.rules.asks.length : Int) then UT.checkB (cvRu s.rules) else decide ((s.rules.cuts.length : Int) = 0) && decide ((s.rules.fees.length : Int) = 0) && decide ((s.rules.rows.length : Int) = 0)
theorem f61 (s : Sta) : Fun P 61 [stA s] (bV (rulesB s)) := by
  refine spec_of hT (f := 61) (fn := Go.Proofs.Tryz.f61) (c := body Go.Proofs.Tryz.f61) (by kernel_rfl) (by kernel_rfl) ?_
  unfold rulesB
  conv => whnf
  repeat refine go ?_
  refine ACall.val (args := [stA s]) (by kernel_rfl) (f158 s) (by (first | rfl | (simp only [renL, AV.ren, List.nil_append, List.cons_append, rens]; try rfl))) rfl ?_
  conv => whnf
  repeat refine go ?_
  refine ACond.dec (fun h1 => ?_) (fun h1 => ?_)
  · rw [if_pos h1]
    conv => whnf
    repeat refine go ?_
    refine ACall.val (args := [.agg (ruC s.rules)]) (by kernel_rfl) (f159 s.rules) (by (first | rfl | (simp only [renL, AV.ren, List.nil_append, List.cons_append, rens]; try rfl))) rfl ?_
    cases UT.checkB (cvRu s.rules) with
    | false =>
      conv => whnf
      repeat refine ru ?_
      exact AFin.val rfl ⟨rfl, rfl⟩
    | true =>
    conv => whnf
    repeat refine ru ?_
    exact AFin.val rfl ⟨rfl, rfl⟩
  · rw [if_neg h1]
    conv => whnf
    repeat' (first | refine go ?_ | ((first | refine ASplit.yes rfl ?_ | refine ASplit.no rfl ?_ | refine ACond.yes rfl ?_ | refine ACond.no rfl ?_ | refine ASplit.dec (fun _ => ?_) (fun _ => ?_) | refine ASplit.ndec (fun _ => ?_) (fun _ => ?_) | refine ACond.dec (fun _ => ?_) (fun _ => ?_) | refine ACond.ndec (fun _ => ?_) (fun _ => ?_) | (refine ASplit.mk (fun _ => ?_) (fun _ => ?_))) <;> conv => whnf))
    all_goals refine AFin.val rfl ⟨congrArg bV ?_, rfl⟩
    all_goals simp_all
def cameB (s : Sta) (u : Un) : Bool :=
  unB u && (shT u.s s.orders).ok && (s.rmas.find? (fun x => decide (x.id = u.rma))).isSome && decide ((shT u.s s.orders).o = u.order) && decide ((shT u.s s.orders).l = u.line) && decide ((shT u.s s.orders).p = u.place) &&
    decide (((s.rmas.find? (fun x => decide (x.id = u.rma))).getD rmZ).order = u.order) && decide (((s.orders.find? (fun x => decide (x.id = (shT u.s s.orders).o))).getD odZ).at_ ≤ u.at_) && decide (u.at_ ≤ s.now) && (decide (u.state = 1) || decide (0 < (s.rules.asks.length : Int)))
theorem f162 (s : Sta) (u : Un) (h : StaOk s) (hu : sOk u.s) : Fun P 162 [stA s, unA u] (bV (cameB s u)) := by
  refine spec_of hT (f := 162) (fn := Go.Proofs.Tryz.f162) (c := body Go.Proofs.Tryz.f162) (by kernel_rfl) (by kernel_rfl) ?_
  unfold cameB
  conv => whnf
  repeat refine go ?_
  refine ACall.val (by kernel_rfl) (f244 s u.s h.orders) (by (first | rfl | (simp only [renL, AV.ren, List.nil_append, List.cons_append, rens]; try rfl))) rfl ?_
  generalize shT u.s s.orders = x
  conv => whnf
  repeat refine go ?_
  refine ACall.val (by kernel_rfl) (f245 s u.rma h.rmas.1) (by (first | rfl | (simp only [renL, AV.ren, List.nil_append, List.cons_append, rens]; try rfl))) (by (first | rfl | (simp only [renL, AV.ren, List.nil_append, List.cons_append, rens]; try rfl))) ?_
  generalize s.rmas.find? (fun x => decide (x.id = u.rma)) = r
  conv => whnf
  repeat refine go ?_
  refine ACall.val (by kernel_rfl) (f108 s x.o h.orders.1) (by (first | rfl | (simp only [renL, AV.ren, List.nil_append, List.cons_append, rens]; try rfl))) (by (first | rfl | (simp only [renL, AV.ren, List.nil_append, List.cons_append, rens]; try rfl))) ?_
  generalize s.orders.find? (fun y => decide (y.id = x.o)) = o
  conv => whnf
  repeat refine go ?_
  refine ACall.val (by kernel_rfl) (f46 u hu) (by (first | rfl | (simp only [renL, AV.ren, List.nil_append, List.cons_append, rens]; try rfl))) rfl ?_
  cases hub : unB u with
  | false =>
    conv => whnf
    repeat refine ru ?_
    exact AFin.val rfl ⟨rfl, rfl⟩
  | true =>
  conv => whnf
  repeat' (first | refine go ?_ | ((first | refine ASplit.yes rfl ?_ | refine ASplit.no rfl ?_ | refine ACond.yes rfl ?_ | refine ACond.no rfl ?_ | refine ASplit.dec (fun _ => ?_) (fun _ => ?_) | refine ASplit.ndec (fun _ => ?_) (fun _ => ?_) | refine ACond.dec (fun _ => ?_) (fun _ => ?_) | refine ACond.ndec (fun _ => ?_) (fun _ => ?_) | refine ACall.val (args := [stA s]) (by kernel_rfl) (f158 s) (by (first | rfl | (simp only [renL, AV.ren, List.nil_append, List.cons_append, rens]; try rfl))) rfl ?_ | (refine ASplit.mk (fun _ => ?_) (fun _ => ?_)) | (refine ACond.mk (fun _ => ?_) (fun _ => ?_))) <;> conv => whnf))
  all_goals refine AFin.val rfl ⟨congrArg bV ?_, rfl⟩
  all_goals simp_all
  all_goals (intros; omega)
end Go.Aw.U1

set_option linter.unusedSimpArgs false
set_option linter.unusedVariables false
set_option maxHeartbeats 4000000
namespace Go.Aw.U1
open Go Go.Proofs

/-! ### keys that are two numbers -/
def aV (k : Int × Int) : Value := .agg #[.int .i64 k.1, .int .i64 k.2]
def aA (k : Int × Int) : AV := .agg [nV k.1, nV k.2]
def aOk (k : Int × Int) : Prop := nOk k.1 ∧ nOk k.2
theorem lit_arr {Q : Program} {t e : Nat} (hkt : Q.keyType t = true) (hc : Q.cellsOf t = 2) (hce : Q.cellsOf e = 1) (hue : Q.underlying e = some (.int .i64)) (hn : ∃ n, Q.types.size = n + 1)
    (hu : Q.underlying t = some (.array 2 e)) (a b : Int) (h1 : nOk a) (h2 : nOk b) : keyOf Q t (.agg #[.int .i64 a, .int .i64 b]) = some (.string (keyBytes [.int .i64 a, .int .i64 b])) := by
  obtain ⟨n, hn⟩ := hn
  unfold nOk at h1 h2
  unfold keyOf
  simp only [hu]
  rw [if_pos (by simp [hkt, Value.formed, hu, hc]), hn]
  unfold Program.keyLits
  simp only [hu, Value.cells]
  rw [if_pos (by rw [hc]; rfl), show List.range 2 = [0, 1] from rfl, List.mapM_cons, List.mapM_cons, List.mapM_nil]
  simp [Program.keyLits, hce, hue, h1, h2]
theorem aK : KEnc P 113 aV aA aOk where
  keyed := Go.Maps.Keyed.of_law (deep_law_laid UR.laid1 (m := 2) (by omega) (UR.size_pos (by kernel_rfl)) (by kernel_rfl) (by kernel_rfl))
  lit := by
    rintro ⟨p, i⟩ h
    exact ⟨_, lit_arr (by kernel_rfl) (by kernel_rfl) (by kernel_rfl) und3 (UR.size_succ (by kernel_rfl)) (by kernel_rfl) p i h.1 h.2⟩
  inj := by
    rintro ⟨p, i⟩ ⟨p', i'⟩ h
    simpa [aV] using h
  rep := by
    rintro w m I ⟨p, i⟩ y h
    simp only [aA, Rep, RepL] at h
    obtain ⟨ys, rfl, ⟨y1, z1, rfl, rfl, y2, z2, rfl, rfl, rfl⟩, _⟩ := h
    rfl
theorem ren_emA (ρ : Nat → Nat) (L : List ((Int × Int) × Int)) : (em aA nV L).map (fun x => (x.1.ren ρ, x.2.ren ρ)) = em aA nV L := by
  simp [em, aA, AV.ren, renL, Function.comp_def]
theorem und130 : P.underlying 238 = some (.map 113 3) := by kernel_rfl
theorem find_mem {α β : Type} {L : List (α × β)} {a : α} (h : ¬ ∀ p ∈ L, p.1 ≠ a) : ∃ (j : Nat) (b : β), L[j]? = some (a, b) := by
  apply Classical.byContradiction
  intro hc
  refine h fun p hp e => hc ?_
  obtain ⟨j, hj⟩ := List.getElem?_of_mem hp
  exact ⟨j, p.2, by rw [hj, ← e]⟩
theorem unB_bd {u : Un} (h : unB u = true) : 1 ≤ u.order ∧ u.order ≤ 999999 ∧ 1 ≤ u.rma ∧ u.rma ≤ 999999 ∧ 0 ≤ u.line ∧ u.line < 8 ∧ 0 ≤ u.place ∧ u.place < 20 := by
  simp only [unB, standB, idB, Bool.and_eq_true, decide_eq_true_eq] at h
  omega
theorem came_un {s : Sta} {u : Un} (h : cameB s u = true) : unB u = true := by
  simp only [cameB, Bool.and_eq_true] at h
  simp_all
end Go.Aw.U1

set_option linter.unusedSimpArgs false
set_option linter.unusedVariables false
set_option maxHeartbeats 4000000
namespace Go.Aw.U1
open Go Go.Proofs

def rmaFits (s : Sta) (r : Rm) : Bool := (s.orders.find? (fun x => decide (x.id = r.order))).isSome && fitsB r ((s.orders.find? (fun x => decide (x.id = r.order))).getD odZ)
def freeOk (s : Sta) (o : Od) : Bool := (List.range o.ls.length).all fun i => decide (0 ≤ freeF s o.id i)
def authB (s : Sta) : Bool := s.rmas.all (rmaFits s) && s.orders.all (freeOk s)
theorem all_of {α : Type} {p : α → Bool} {l : List α} (h : ∀ k (hk : k < l.length), p l[k] = true) : l.all p = true := by
  rw [List.all_eq_true]
  intro r hr
  obtain ⟨k, hk, rfl⟩ := List.mem_iff_getElem.1 hr
  exact h k hk
theorem odZ_ok : odOk odZ := ⟨by simp [odZ], by simp [odZ]⟩
theorem find_ok {s : Sta} (h : odsOk s.orders) (p : Od → Bool) : odOk ((s.orders.find? p).getD odZ) := by
  cases e : s.orders.find? p with
  | none => exact odZ_ok
  | some o => exact h.2 _ (List.mem_of_find?_eq_some e)
theorem f62 (s : Sta) (h : StaOk s) : Fun P 62 [stA s] (bV (authB s)) := by
  refine spec_of hT (f := 62) (fn := Go.Proofs.Tryz.f62) (c := body Go.Proofs.Tryz.f62) (by kernel_rfl) (by kernel_rfl) ?_
  unfold authB
  have hr1 := h.rmas.1
  have ho1 := h.orders.1
  conv => whnf
  repeat refine go ?_
  refine ALoop.mk (fun n E H => ∃ (i : Nat), n = s.rmas.length - i ∧ i ≤ s.rmas.length ∧ (∀ k (hk : k < s.rmas.length), k < i → rmaFits s s.rmas[k] = true) ∧
      E = pad [stA s, .ptr 0 0, bV false, .any, .any, .any, .any, .any, .any, .any, .any, .any, rmsV s.rmas, nV s.rmas.length, nV i] 58 ∧ H = [.cells 134 (stC s)]) (n := s.rmas.length) _ _
    ⟨0, rfl, Nat.zero_le _, fun k _ hk => absurd hk (Nat.not_lt_zero _), rfl, rfl⟩ (Conv.fit (by repeat' (first | exact Fit.nil | refine Fit.any ?_ | refine Fit.same ?_))) ?_
  rintro _ _ _ ⟨i, rfl, hi, hI, rfl, rfl⟩
  conv => whnf
  repeat refine go ?_
  refine ACond.dec (fun h1 => ?_) (fun h1 => ?_)
  · have hil : i < s.rmas.length := by omega
    have w1 : IntKind.wrap .i64 ((i : Int) + 1) = ((i + 1 : Nat) : Int) := by rw [wrap_i64 _ (by omega) (by omega)]; omega
    have hro := h.rmas.2 _ (List.getElem_mem hil)
    have hno : rmaFits s s.rmas[i] = false → s.rmas.all (rmaFits s) = false := fun e => all_get hil e
    have hyes : rmaFits s s.rmas[i] = true → ∀ k (hk : k < s.rmas.length), k < i + 1 → rmaFits s s.rmas[k] = true := fun hc k hk hki => by
      rcases Nat.lt_or_ge k i with g | g
      · exact hI k hk g
      · obtain rfl : k = i := by omega
        exact hc
    conv => whnf
    repeat (first | refine go ?_ | ((first | refine AReq.mk (by omega) ?_ | refine AIdx.flat (enc := rmC) rmC_len (xs := s.rmas) (i := i) hil ?_); conv => whnf))
    generalize s.rmas[i] = r at hro hno hyes
    refine ACall.val (args := [stA s, nV r.order]) (by kernel_rfl) (f108 s r.order h.orders.1) (by (first | rfl | (simp only [renL, AV.ren, List.nil_append, List.cons_append, rens]; try rfl))) (by (first | rfl | (simp only [renL, AV.ren, List.nil_append, List.cons_append, rens]; try rfl))) ?_
    have hfo := find_ok h.orders (fun x => decide (x.id = r.order))
    have hfit : rmaFits s r = ((s.orders.find? (fun x => decide (x.id = r.order))).isSome && fitsB r ((s.orders.find? (fun x => decide (x.id = r.order))).getD odZ)) := rfl
    rw [hfit] at hno hyes
    clear hfit
    generalize s.orders.find? (fun x => decide (x.id = r.order)) = o at hno hyes hfo
    conv => whnf
    repeat refine go ?_
    cases ho : o.isSome with
    | false =>
      rw [ho] at hno
      conv => whnf
      repeat refine ru ?_
      refine AOut.stay ?_
      conv => whnf
      repeat refine ru ?_
      exact AFin.val rfl ⟨by rw [hno rfl]; rfl, rfl⟩
    | true =>
    rw [ho] at hno hyes
    conv => whnf
    repeat refine ru ?_
    generalize o.getD odZ = o at hno hyes hfo
    refine ACall.val (args := [rmA r, odA o]) (by kernel_rfl) (f160 r o hro hfo) (by (first | rfl | (simp only [renL, AV.ren, List.nil_append, List.cons_append, rens]; try rfl))) rfl ?_
    cases hf : fitsB r o with
    | false =>
      rw [hf] at hno
      conv => whnf
      repeat refine ru ?_
      refine AOut.stay ?_
      conv => whnf
      repeat refine ru ?_
      exact AFin.val rfl ⟨by rw [hno rfl]; rfl, rfl⟩
    | true =>
    rw [hf] at hyes
    conv => whnf
    repeat refine ru ?_
    rw [w1]
    exact AHead.mk (s.rmas.length - (i + 1)) _ _ (by omega) ⟨i + 1, rfl, by omega, hyes rfl, rfl, rfl⟩ (Conv.ren [0] _ (by simp) (by simp) (by simp only [pad, renL, AV.ren, rens]; repeat' (first | exact Fit.nil | refine Fit.any ?_ | refine Fit.same ?_)) (.same (by simp only [ABlk.ren, stC_ren]; rfl) .nil))
  · rw [all_of (fun k hk => hI k hk (by omega))]
    conv => whnf
    repeat refine go ?_
    refine AOut.stay ?_
    conv => whnf
    repeat refine go ?_
    refine ALoop.mk (fun n E H => ∃ (i : Nat), n = s.orders.length - i ∧ i ≤ s.orders.length ∧ (∀ k (hk : k < s.orders.length), k < i → freeOk s s.orders[k] = true) ∧
        E = pad [stA s, .ptr 0 0, bV false, .any, .any, .any, .any, .any, .any, .any, .any, .any, .any, .any, .any, .any, .any, .any, .any, .any, .any, .any, .any, .any, .any, .any, .any, .any, .any, .any, .any, .any, .any, .any, .any, .any, .any, odsV s.orders, nV s.orders.length, nV i] 58 ∧ H = [.cells 134 (stC s)]) (n := s.orders.length) _ _
      ⟨0, rfl, Nat.zero_le _, fun k _ hk => absurd hk (Nat.not_lt_zero _), rfl, rfl⟩ (Conv.fit (by repeat' (first | exact Fit.nil | refine Fit.any ?_ | refine Fit.same ?_))) ?_
    rintro _ _ _ ⟨i, rfl, hi, hI2, rfl, rfl⟩
    conv => whnf
    repeat refine go ?_
    refine ACond.dec (fun h2 => ?_) (fun h2 => ?_)
    · have hil : i < s.orders.length := by omega
      have w1 : IntKind.wrap .i64 ((i : Int) + 1) = ((i + 1 : Nat) : Int) := by rw [wrap_i64 _ (by omega) (by omega)]; omega
      have hoo := h.orders.2 _ (List.getElem_mem hil)
      have hno : freeOk s s.orders[i] = false → s.orders.all (freeOk s) = false := fun e => all_get hil e
      have hyes : freeOk s s.orders[i] = true → ∀ k (hk : k < s.orders.length), k < i + 1 → freeOk s s.orders[k] = true := fun hc k hk hki => by
        rcases Nat.lt_or_ge k i with g | g
        · exact hI2 k hk g
        · obtain rfl : k = i := by omega
          exact hc
      conv => whnf
      repeat (first | refine go ?_ | ((first | refine AReq.mk (by omega) ?_ | refine AIdx.flat (enc := odC) odC_len (xs := s.orders) (i := i) hil ?_); conv => whnf))
      generalize s.orders[i] = o at hoo hno hyes
      have hol := hoo.1
      refine ALoop.mk (fun n E H => ∃ (k : Nat), n = o.ls.length - k ∧ k ≤ o.ls.length ∧ (∀ j, j < k → 0 ≤ freeF s o.id j) ∧
          E = pad [stA s, .ptr 0 0, bV false, .any, .any, .any, .any, .any, .ptr 1 0, .any, .any, .any, .any, .any, .any, .any, .any, .any, .any, .any, .any, .any, .any, .any, .any, .any, .any, .any, .any, .any, .any, .any, .any, .any, .any, .any, .any, odsV s.orders, nV s.orders.length, nV i, .any, .any, .any, .any, .any, nV o.ls.length, nV k] 58 ∧ H = [.cells 134 (stC s), .cells 119 (odC o)]) (n := o.ls.length) _ _
        ⟨0, rfl, Nat.zero_le _, fun j hj => absurd hj (Nat.not_lt_zero _), rfl, rfl⟩ (Conv.fit (by repeat' (first | exact Fit.nil | refine Fit.any ?_ | refine Fit.same ?_))) ?_
      rintro _ _ _ ⟨k, rfl, hk, hall, rfl, rfl⟩
      conv => whnf
      repeat refine go ?_
      refine ACond.dec (fun h3 => ?_) (fun h3 => ?_)
      · have hkl : k < o.ls.length := by omega
        have w2 : IntKind.wrap .i64 ((k : Int) + 1) = ((k + 1 : Nat) : Int) := by rw [wrap_i64 _ (by omega) (by omega)]; omega
        conv => whnf
        repeat (first | refine go ?_ | (refine ACall.val (args := [stA s, nV o.id, nV k]) (by kernel_rfl) (f161 s o.id k h.rmas h.orders) (by (first | rfl | (simp only [renL, AV.ren, List.nil_append, List.cons_append, rens]; try rfl))) rfl ?_; conv => whnf))
        refine ACond.dec (fun h4 => ?_) (fun h4 => ?_)
        · conv => whnf
          repeat (first | refine go ?_ | (refine ACall.val (args := [stA s, nV o.id, nV k]) (by kernel_rfl) (f161 s o.id k h.rmas h.orders) (by (first | rfl | (simp only [renL, AV.ren, List.nil_append, List.cons_append, rens]; try rfl))) rfl ?_; conv => whnf))
          refine AOut.stay ?_
          conv => whnf
          repeat (first | refine go ?_ | (refine ACall.val (args := [stA s, nV o.id, nV k]) (by kernel_rfl) (f161 s o.id k h.rmas h.orders) (by (first | rfl | (simp only [renL, AV.ren, List.nil_append, List.cons_append, rens]; try rfl))) rfl ?_; conv => whnf))
          refine AOut.stay ?_
          conv => whnf
          repeat (first | refine go ?_ | (refine ACall.val (args := [stA s, nV o.id, nV k]) (by kernel_rfl) (f161 s o.id k h.rmas h.orders) (by (first | rfl | (simp only [renL, AV.ren, List.nil_append, List.cons_append, rens]; try rfl))) rfl ?_; conv => whnf))
          refine AFin.val rfl ⟨?_, rfl⟩
          rw [hno (by
            unfold freeOk
            rw [List.all_eq_false]
            exact ⟨k, List.mem_range.2 hkl, by simp; omega⟩)]
          rfl
        · conv => whnf
          repeat (first | refine go ?_ | (refine ACall.val (args := [stA s, nV o.id, nV k]) (by kernel_rfl) (f161 s o.id k h.rmas h.orders) (by (first | rfl | (simp only [renL, AV.ren, List.nil_append, List.cons_append, rens]; try rfl))) rfl ?_; conv => whnf))
          rw [w2]
          refine AHead.mk (o.ls.length - (k + 1)) _ _ (by omega) ⟨k + 1, rfl, by omega, ?_, rfl, rfl⟩ (Conv.fit (by repeat' (first | exact Fit.nil | refine Fit.any ?_ | refine Fit.same ?_)))
          intro j hj
          rcases Nat.lt_or_ge j k with g | g
          · exact hall j g
          · obtain rfl : j = k := by omega
            omega
      · conv => whnf
        repeat refine go ?_
        refine AOut.stay ?_
        conv => whnf
        repeat refine go ?_
        rw [w1]
        refine AHead.mk (s.orders.length - (i + 1)) _ _ (by omega) ⟨i + 1, rfl, by omega, hyes ?_, rfl, rfl⟩ (Conv.ren [0] _ (by simp) (by simp) (by simp only [pad, renL, AV.ren, rens]; repeat' (first | exact Fit.nil | refine Fit.any ?_ | refine Fit.same ?_)) (.same (by simp only [ABlk.ren, stC_ren]; rfl) .nil))
        unfold freeOk
        rw [List.all_eq_true]
        intro j hj
        exact decide_eq_true (hall j (by have := List.mem_range.1 hj; omega))
    · rw [all_of (fun k hk => hI2 k hk (by omega))]
      conv => whnf
      repeat refine go ?_
      refine AOut.stay ?_
      conv => whnf
      repeat refine go ?_
      exact AFin.val rfl ⟨rfl, rfl⟩
def allT (st : Int) : List Un → Int → Int
  | [], n => n
  | u :: l, n => if u.state = st then allT st l (n + 1) else allT st l n
theorem f163 (s : Sta) (st : Int) (h : StaOk s) : Fun P 163 [stA s, nV st] (nV (allT st s.units 0)) := by
  refine spec_of hT (f := 163) (fn := Go.Proofs.Tryz.f163) (c := body Go.Proofs.Tryz.f163) (by kernel_rfl) (by kernel_rfl) ?_
  have hu1 := h.units.1
  generalize hR : allT st s.units 0 = R
  conv => whnf
  repeat refine go ?_
  refine ALoop.mk (fun n E H => ∃ (i : Nat) (k : Int), n = s.units.length - i ∧ i ≤ s.units.length ∧ 0 ≤ k ∧ k ≤ i ∧ allT st (s.units.drop i) k = R ∧
      E = pad [stA s, nV st, .ptr 0 0, .any, nV 0, nV k, .any, .any, .any, .any, unsV s.units, nV s.units.length, nV i] 24 ∧ H = [.cells 134 (stC s)]) (n := s.units.length) _ _
    ⟨0, 0, rfl, Nat.zero_le _, by omega, by omega, hR, rfl, rfl⟩ (Conv.fit (by repeat' (first | exact Fit.nil | refine Fit.any ?_ | refine Fit.same ?_))) ?_
  rintro _ _ _ ⟨i, k, rfl, hi, hk0, hk1, hI, rfl, rfl⟩
  conv => whnf
  repeat refine go ?_
  refine ACond.dec (fun h1 => ?_) (fun h1 => ?_)
  · have hil : i < s.units.length := by omega
    have w1 : IntKind.wrap .i64 ((i : Int) + 1) = ((i + 1 : Nat) : Int) := by rw [wrap_i64 _ (by omega) (by omega)]; omega
    have w2 : IntKind.wrap .i64 (k + 1) = k + 1 := by rw [wrap_i64 _ (by omega) (by omega)]
    rw [List.drop_eq_getElem_cons hil, allT] at hI
    conv => whnf
    repeat (first | refine go ?_ | ((first | refine AReq.mk (by omega) ?_ | refine AIdx.flat (enc := unC) unC_len (xs := s.units) (i := i) hil ?_); conv => whnf))
    refine ACond.dec (fun h5 => ?_) (fun h5 => ?_)
    · rw [if_pos h5] at hI
      conv => whnf
      repeat (first | refine go ?_ | ((first | refine AReq.mk (by omega) ?_ | refine AIdx.flat (enc := unC) unC_len (xs := s.units) (i := i) hil ?_); conv => whnf))
      rw [w1, w2]
      exact AHead.mk (s.units.length - (i + 1)) _ _ (by omega) ⟨i + 1, _, rfl, by omega, by omega, by omega, hI, rfl, rfl⟩ (Conv.ren [0] _ (by simp) (by simp) (by simp only [pad, renL, AV.ren, rens]; repeat' (first | exact Fit.nil | refine Fit.any ?_ | refine Fit.same ?_)) (.same (by simp only [ABlk.ren, stC_ren]; rfl) .nil))
    · rw [if_neg h5] at hI
      conv => whnf
      repeat (first | refine go ?_ | ((first | refine AReq.mk (by omega) ?_ | refine AIdx.flat (enc := unC) unC_len (xs := s.units) (i := i) hil ?_); conv => whnf))
      rw [w1]
      exact AHead.mk (s.units.length - (i + 1)) _ _ (by omega) ⟨i + 1, _, rfl, by omega, by omega, by omega, hI, rfl, rfl⟩ (Conv.ren [0] _ (by simp) (by simp) (by simp only [pad, renL, AV.ren, rens]; repeat' (first | exact Fit.nil | refine Fit.any ?_ | refine Fit.same ?_)) (.same (by simp only [ABlk.ren, stC_ren]; rfl) .nil))
  · rw [List.drop_of_length_le (by omega)] at hI
    conv => whnf
    repeat refine go ?_
    refine AOut.stay ?_
    conv => whnf
    repeat refine go ?_
    exact AFin.val rfl ⟨congrArg nV hI, rfl⟩
end Go.Aw.U1

set_option linter.unusedSimpArgs false
set_option linter.unusedVariables false
set_option maxHeartbeats 4000000
namespace Go.Aw.U1
open Go Go.Proofs

def findU (s : Sta) (x : ByteArray) : Option Un := s.units.find? (fun u => u.s.toList == x.toList)
theorem f20' (s : Sta) (x : ByteArray) (h : StaOk s) : Fun P 20 [stA s, sV x] (.tup [unA ((findU s x).getD unZ), bV (findU s x).isSome]) := f20 s x h.units.1
def wkIn (u : Un) (w : Wk) : Bool := decide (u.state = 4) && decide (u.in_ = w.id)
def wkU (u : Un) (w : Wk) : Bool := decide (u.way = 2) && decide (1 ≤ w.part) && decide (w.part ≤ 999999) && decide (1 ≤ w.qty) && decide (w.qty ≤ 1000000) && decide (1 ≤ w.state) && decide (w.state ≤ 3) && (wkIn u w == decide (w.state = 1))
theorem wkU_iff {u : Un} {w : Wk} : wkU u w = true ↔ u.way = 2 ∧ 1 ≤ w.part ∧ w.part ≤ 999999 ∧ 1 ≤ w.qty ∧ w.qty ≤ 1000000 ∧ 1 ≤ w.state ∧ w.state ≤ 3 ∧ ((u.state = 4 ∧ u.in_ = w.id) ↔ w.state = 1) := by
  have e : (wkIn u w == decide (w.state = 1)) = true ↔ ((u.state = 4 ∧ u.in_ = w.id) ↔ w.state = 1) := by
    rw [beq_iff_eq, Bool.eq_iff_iff]; simp [wkIn]
  simp only [wkU, Bool.and_eq_true, e, decide_eq_true_eq, and_assoc]
def workT (s : Sta) : List Wk → Int → Option Int
  | [], n => some n
  | w :: l, n => if (findU s w.s).isSome = true ∧ wkU ((findU s w.s).getD unZ) w = true then workT s l (if ((findU s w.s).getD unZ).state = 4 ∧ ((findU s w.s).getD unZ).in_ = w.id then n + 1 else n) else none
def eqO (o : Option Int) (m : Int) : Bool :=
  match o with
  | none => false
  | some n => decide (n = m)
def workB (s : Sta) : Bool := eqO (workT s s.works 0) (allT 4 s.units 0)
theorem f64 (s : Sta) (h : StaOk s) : Fun P 64 [stA s] (bV (workB s)) := by
  refine spec_of hT (f := 64) (fn := Go.Proofs.Tryz.f64) (c := body Go.Proofs.Tryz.f64) (by kernel_rfl) (by kernel_rfl) ?_
  unfold workB
  have hw1 := h.works.1
  have hall := f163 s 4 h
  generalize allT 4 s.units 0 = A at hall
  generalize hR : workT s s.works 0 = R
  conv => whnf
  repeat refine go ?_
  refine ALoop.mk (fun n E H => ∃ (i : Nat) (k : Int), n = s.works.length - i ∧ i ≤ s.works.length ∧ 0 ≤ k ∧ k ≤ i ∧ workT s (s.works.drop i) k = R ∧
      E = pad [stA s, .ptr 0 0, bV false, nV k, .any, .any, .any, .any, .any, .any, .any, wksV s.works, nV s.works.length, nV i] 85 ∧ H = [.cells 134 (stC s)]) (n := s.works.length) _ _
    ⟨0, 0, rfl, Nat.zero_le _, by omega, by omega, hR, rfl, rfl⟩ (Conv.fit (by repeat' (first | exact Fit.nil | refine Fit.any ?_ | refine Fit.same ?_))) ?_
  rintro _ _ _ ⟨i, k, rfl, hi, hk0, hk1, hI, rfl, rfl⟩
  conv => whnf
  repeat refine go ?_
  refine ACond.dec (fun h1 => ?_) (fun h1 => ?_)
  · have hil : i < s.works.length := by omega
    have w1 : IntKind.wrap .i64 ((i : Int) + 1) = ((i + 1 : Nat) : Int) := by rw [wrap_i64 _ (by omega) (by omega)]; omega
    have w2 : IntKind.wrap .i64 (k + 1) = k + 1 := by rw [wrap_i64 _ (by omega) (by omega)]
    rw [List.drop_eq_getElem_cons hil, workT] at hI
    have hf := f20' s s.works[i].s h
    conv => whnf
    repeat (first | refine go ?_ | ((first | refine AReq.mk (by omega) ?_ | refine AIdx.flat (enc := wkC) wkC_len (xs := s.works) (i := i) hil ?_); conv => whnf))
    generalize s.works[i] = w at hI hf
    generalize findU s w.s = o at hI hf
    refine ACall.val (args := [stA s, sV w.s]) (by kernel_rfl) hf (by (first | rfl | (simp only [renL, AV.ren, List.nil_append, List.cons_append, rens]; try rfl))) (by (first | rfl | (simp only [renL, AV.ren, List.nil_append, List.cons_append, rens]; try rfl))) ?_
    conv => whnf
    repeat refine go ?_
    cases ho : o.isSome with
    | false =>
      rw [ho, if_neg (by simp)] at hI
      conv => whnf
      repeat refine ru ?_
      refine AOut.stay ?_
      conv => whnf
      repeat refine ru ?_
      exact AFin.val rfl ⟨by rw [← hI]; rfl, rfl⟩
    | true =>
    rw [ho] at hI
    generalize o.getD unZ = u at hI
    have hno : ¬ wkU u w = true → none = R := fun e => by rw [if_neg (fun h => e h.2)] at hI; exact hI
    have hyes : wkU u w = true → workT s (s.works.drop (i + 1)) (if u.state = 4 ∧ u.in_ = w.id then k + 1 else k) = R := fun e => by rw [if_pos ⟨rfl, e⟩] at hI; exact hI
    rw [wkU_iff] at hno hyes
    clear hI
    conv => whnf
    repeat' (first | refine go ?_ | ((first | refine ASplit.yes rfl ?_ | refine ASplit.no rfl ?_ | refine ACond.yes rfl ?_ | refine ACond.no rfl ?_ | refine ASplit.dec (fun _ => ?_) (fun _ => ?_) | refine ASplit.ndec (fun _ => ?_) (fun _ => ?_) | refine ACond.dec (fun _ => ?_) (fun _ => ?_) | refine ACond.ndec (fun _ => ?_) (fun _ => ?_) | (refine ASplit.mk (fun _ => ?_) (fun _ => ?_)) | (refine ACond.mk (fun _ => ?_) (fun _ => ?_))) <;> conv => whnf))
    all_goals simp only [Bool.not_eq_true', Bool.not_eq_false', beq_eq_false_iff_ne, ne_eq, beq_iff_eq, decide_eq_true_eq, decide_eq_false_iff_not, Bool.and_eq_true, Bool.and_false, Bool.false_and, Bool.true_and, Bool.and_true, eq_self, not_true_eq_false, decide_eq_decide, true_iff, false_iff, iff_true, iff_false, Classical.not_not, Bool.true_eq, Bool.false_eq] at *
    all_goals first
      | (refine AOut.stay ?_
         conv => whnf
         repeat ((first | refine AO.cons hT ?_ | refine AO.nil ?_ | refine AW.seq ?_ | refine AW.region ?_ | refine AW.ret ?_); conv => whnf)
         refine AFin.val rfl ⟨?_, rfl⟩
         rw [← hno (by omega)]; rfl)
      | (rw [w1, w2]
         exact AHead.mk (s.works.length - (i + 1)) _ _ (by omega) ⟨i + 1, k + 1, rfl, by omega, by omega, by omega, by rw [← hyes (by omega), if_pos (by omega)], rfl, rfl⟩ (Conv.ren [0] _ (by simp) (by simp) (by simp only [pad, renL, AV.ren, rens]; repeat' (first | exact Fit.nil | refine Fit.any ?_ | refine Fit.same ?_)) (.same (by simp only [ABlk.ren, stC_ren]; rfl) .nil)))
      | (rw [w1]
         exact AHead.mk (s.works.length - (i + 1)) _ _ (by omega) ⟨i + 1, k, rfl, by omega, by omega, by omega, by rw [← hyes (by omega), if_neg (by omega)], rfl, rfl⟩ (Conv.ren [0] _ (by simp) (by simp) (by simp only [pad, renL, AV.ren, rens]; repeat' (first | exact Fit.nil | refine Fit.any ?_ | refine Fit.same ?_)) (.same (by simp only [ABlk.ren, stC_ren]; rfl) .nil)))
      | skip
  · rw [List.drop_of_length_le (by omega)] at hI
    conv => whnf
    repeat refine go ?_
    refine AOut.stay ?_
    conv => whnf
    repeat refine go ?_
    refine ACall.val (args := [stA s, nV 4]) (by kernel_rfl) hall (by (first | rfl | (simp only [renL, AV.ren, List.nil_append, List.cons_append, rens]; try rfl))) rfl ?_
    conv => whnf
    repeat refine go ?_
    exact AFin.val rfl ⟨by rw [← hI]; rfl, rfl⟩
end Go.Aw.U1

set_option linter.unusedSimpArgs false
set_option linter.unusedVariables false
set_option maxHeartbeats 4000000
namespace Go.Aw.U1
open Go Go.Proofs

def vendO (s : Sta) (o : Od) (line : Int) : Int :=
  match o.ls[line.toNat]? with
  | none => 0
  | some l => if 0 ≤ line then ((s.items.find? (fun x => decide (x.id = l.item))).getD itZ).vendor else 0
def vendF (s : Sta) (u : Un) : Int := vendO s ((s.orders.find? (fun x => decide (x.id = u.order))).getD odZ) u.line
theorem f246 (s : Sta) (u : Un) (h : StaOk s) : Fun P 246 [stA s, unA u] (nV (vendF s u)) := by
  refine spec_of hT (f := 246) (fn := Go.Proofs.Tryz.f246) (c := body Go.Proofs.Tryz.f246) (by kernel_rfl) (by kernel_rfl) ?_
  unfold vendF
  have hf := f108 s u.order h.orders.1
  have hoo := find_ok h.orders (fun x => decide (x.id = u.order))
  conv => whnf
  repeat refine go ?_
  refine ACall.val (args := [stA s, nV u.order]) (by kernel_rfl) hf (by (first | rfl | (simp only [renL, AV.ren, List.nil_append, List.cons_append, rens]; try rfl))) (by (first | rfl | (simp only [renL, AV.ren, List.nil_append, List.cons_append, rens]; try rfl))) ?_
  generalize (s.orders.find? (fun x => decide (x.id = u.order))).isSome = b
  generalize (s.orders.find? (fun x => decide (x.id = u.order))).getD odZ = o at hoo
  have hol := hoo.1
  generalize hR : vendO s o u.line = R
  conv => whnf
  repeat refine go ?_
  refine ASplit.dec (fun h1 => ?_) (fun h1 => ?_)
  · conv => whnf
    repeat refine ru ?_
    refine AFin.val rfl ⟨congrArg nV ?_, rfl⟩
    rw [← hR, vendO]
    cases o.ls[u.line.toNat]? with
    | none => rfl
    | some l => exact (if_neg (by omega)).symm
  conv => whnf
  repeat refine ru ?_
  refine ACond.dec (fun h2 => ?_) (fun h2 => ?_)
  · conv => whnf
    repeat refine ru ?_
    refine AFin.val rfl ⟨congrArg nV ?_, rfl⟩
    rw [← hR, vendO, List.getElem?_eq_none (show o.ls.length ≤ u.line.toNat by omega)]
  have hlt : u.line.toNat < o.ls.length := by omega
  have hv : vendO s o u.line = ((s.items.find? (fun x => decide (x.id = o.ls[u.line.toNat].item))).getD itZ).vendor := by
    rw [vendO, List.getElem?_eq_getElem hlt]
    exact if_pos (by omega)
  rw [hR] at hv
  subst hv
  conv => whnf
  repeat refine go ?_
  refine AW.plan hm (.one 0 (.one 2 (.one 4 (.one 3 (.one 5 (.one 6 (.one 7 (.one 1 (.one 8 (.fork 9 (.one 10 (.one 11 (.one 12 (.one 13 .nil)))) 13 (.one 9 (.one 10 (.one 11 (.one 12 .nil)))) (.one 14 (.one 15 .nil)))))))))))) (by kernel_rfl) ?_
  conv => whnf
  repeat (first | refine go ?_ | ((first | refine AReq.mk (by omega) ?_ | refine AIdx.flat (enc := lnC) lnC_len (xs := o.ls) (i := u.line.toNat) hlt ?_ | refine ACall.val (args := [stA s, nV o.ls[u.line.toNat].item]) (by kernel_rfl) (f116 s o.ls[u.line.toNat].item h.items) (by (first | rfl | (simp only [renL, AV.ren, List.nil_append, List.cons_append, rens]; try rfl))) (by (first | rfl | (simp only [renL, AV.ren, List.nil_append, List.cons_append, rens]; try rfl))) ?_); conv => whnf))
  apply AF.meet
  · conv => whnf
    repeat (first | refine go ?_ | ((first | refine AReq.mk (by omega) ?_ | refine AIdx.flat (enc := lnC) lnC_len (xs := o.ls) (i := u.line.toNat) hlt ?_ | refine ACall.val (args := [stA s, nV o.ls[u.line.toNat].item]) (by kernel_rfl) (f116 s o.ls[u.line.toNat].item h.items) (by (first | rfl | (simp only [renL, AV.ren, List.nil_append, List.cons_append, rens]; try rfl))) (by (first | rfl | (simp only [renL, AV.ren, List.nil_append, List.cons_append, rens]; try rfl))) ?_); conv => whnf))
    exact ⟨rfl, rfl, rfl⟩
  · conv => whnf
    repeat (first | refine go ?_ | ((first | refine AReq.mk (by omega) ?_ | refine AIdx.flat (enc := lnC) lnC_len (xs := o.ls) (i := u.line.toNat) hlt ?_ | refine ACall.val (args := [stA s, nV o.ls[u.line.toNat].item]) (by kernel_rfl) (f116 s o.ls[u.line.toNat].item h.items) (by (first | rfl | (simp only [renL, AV.ren, List.nil_append, List.cons_append, rens]; try rfl))) (by (first | rfl | (simp only [renL, AV.ren, List.nil_append, List.cons_append, rens]; try rfl))) ?_); conv => whnf))
    exact ⟨rfl, rfl, rfl⟩
  · conv => whnf
    repeat (first | refine go ?_ | ((first | refine AReq.mk (by omega) ?_ | refine AIdx.flat (enc := lnC) lnC_len (xs := o.ls) (i := u.line.toNat) hlt ?_ | refine ACall.val (args := [stA s, nV o.ls[u.line.toNat].item]) (by kernel_rfl) (f116 s o.ls[u.line.toNat].item h.items) (by (first | rfl | (simp only [renL, AV.ren, List.nil_append, List.cons_append, rens]; try rfl))) (by (first | rfl | (simp only [renL, AV.ren, List.nil_append, List.cons_append, rens]; try rfl))) ?_); conv => whnf))
    exact AFin.val rfl ⟨rfl, rfl⟩
def nodeF (u : Un) : Int × Int := if unB u then (u.state, u.way) else (0, 0)
theorem f47 (u : Un) (hu : sOk u.s) : Fun P 47 [unA u] (ndA (nodeF u).1 (nodeF u).2) := by
  refine spec_of hT (f := 47) (fn := Go.Proofs.Tryz.f47) (c := body Go.Proofs.Tryz.f47) (by kernel_rfl) (by kernel_rfl) ?_
  unfold nodeF
  conv => whnf
  repeat (first | refine go ?_ | (refine ACall.val (args := [unA u]) (by kernel_rfl) (f46 u hu) (by (first | rfl | (simp only [renL, AV.ren, List.nil_append, List.cons_append, rens]; try rfl))) rfl ?_; conv => whnf))
  cases unB u with
  | false =>
    conv => whnf
    repeat (first | refine ru ?_ | (refine ACall.val (args := [unA u]) (by kernel_rfl) (f46 u hu) (by (first | rfl | (simp only [renL, AV.ren, List.nil_append, List.cons_append, rens]; try rfl))) rfl ?_; conv => whnf))
    exact AFin.val rfl ⟨rfl, rfl⟩
  | true =>
  conv => whnf
  repeat (first | refine ru ?_ | ((first | refine ACall.val (args := [unA u]) (by kernel_rfl) (f46 u hu) (by (first | rfl | (simp only [renL, AV.ren, List.nil_append, List.cons_append, rens]; try rfl))) rfl ?_ | refine ACall.val (args := [unA u]) (by kernel_rfl) (f124 u) (by (first | rfl | (simp only [renL, AV.ren, List.nil_append, List.cons_append, rens]; try rfl))) rfl ?_); conv => whnf))
  exact AFin.val rfl ⟨rfl, rfl⟩
def unW (u : Un) : List Value := [.string u.s, .int .i64 u.order, .int .i64 u.line, .int .i64 u.place, .int .i64 u.rma, .int .i64 u.at_, .int .i64 u.state, .int .i64 u.grade, .int .i64 u.way, .int .i64 u.in_]
def zB (u : Un) : Bool := eqL (unW u) [.string ⟨#[]⟩, .int .i64 0, .int .i64 0, .int .i64 0, .int .i64 0, .int .i64 0, .int .i64 0, .int .i64 0, .int .i64 0, .int .i64 0]
def doneB (u : Un) : Bool := !zB u && termB (nodeF u).1 (nodeF u).2
theorem f69 (u : Un) (hu : sOk u.s) : Fun P 69 [unA u] (bV (doneB u)) := by
  refine spec_of hT (f := 69) (fn := Go.Proofs.Tryz.f69) (c := body Go.Proofs.Tryz.f69) (by kernel_rfl) (by kernel_rfl) ?_
  unfold doneB
  conv => whnf
  repeat refine go ?_
  refine AEqs.neq (ks := [.str, .int .i64, .int .i64, .int .i64, .int .i64, .int .i64, .int .i64, .int .i64, .int .i64, .int .i64]) (vx := unW u) (vy := [.string ⟨#[]⟩, .int .i64 0, .int .i64 0, .int .i64 0, .int .i64 0, .int .i64 0, .int .i64 0, .int .i64 0, .int .i64 0, .int .i64 0]) (by kernel_rfl) (by kernel_rfl) rfl rfl rfl rfl ?_
  rw [← zB]
  cases zB u with
  | true =>
    conv => whnf
    repeat refine ru ?_
    exact AFin.val rfl ⟨rfl, rfl⟩
  | false =>
  conv => whnf
  repeat (first | refine ru ?_ | ((first | refine ACall.val (args := [unA u]) (by kernel_rfl) (f47 u hu) (by (first | rfl | (simp only [renL, AV.ren, List.nil_append, List.cons_append, rens]; try rfl))) rfl ?_ | refine ACall.val (args := [ndA (nodeF u).1 (nodeF u).2]) (by kernel_rfl) (f130 (nodeF u).1 (nodeF u).2) (by (first | rfl | (simp only [renL, AV.ren, List.nil_append, List.cons_append, rens]; try rfl))) rfl ?_); conv => whnf))
  exact AFin.val rfl ⟨rfl, rfl⟩
end Go.Aw.U1

set_option linter.unusedSimpArgs false
set_option linter.unusedVariables false
set_option maxHeartbeats 4000000
namespace Go.Aw.U1
open Go Go.Proofs

def clS (s : Sta) (c : Cl) (o : Option Un) : Prop :=
  o.isSome = true ∧ (o.getD unZ).way = 3 ∧ vendF s (o.getD unZ) = c.vendor ∧ (((o.getD unZ).state = 5 ∧ (o.getD unZ).in_ = c.id) ↔ c.state = 1) ∧ (c.state = 2 → doneB (o.getD unZ) = true)
instance (s : Sta) (c : Cl) (o : Option Un) : Decidable (clS s c o) := by unfold clS; infer_instance
def clHead (c : Cl) : Bool := decide (1 ≤ c.vendor) && decide (c.vendor ≤ 999999) && decide (1 ≤ (c.ss.length : Int)) && decide ((c.ss.length : Int) ≤ 20) && decide (rowF c.ss = 0)
noncomputable def clB (s : Sta) (c : Cl) : Bool := clHead c && c.ss.all (fun x => decide (clS s c (findU s x))) && (decide (c.state = 1) || decide (c.state = 2))
theorem unZ_ok : sOk unZ.s := by simp [sOk, unZ]
theorem findU_ok {s : Sta} (h : StaOk s) (x : ByteArray) : sOk ((findU s x).getD unZ).s := by
  cases e : findU s x with
  | none => exact unZ_ok
  | some u => exact h.units.2 _ (List.mem_of_find?_eq_some e)
theorem f164 (s : Sta) (c : Cl) (h : StaOk s) (hc : ssOk c.ss) : Fun P 164 [stA s, clA c] (bV (clB s c)) := by
  refine spec_of hT (f := 164) (fn := Go.Proofs.Tryz.f164) (c := body Go.Proofs.Tryz.f164) (by kernel_rfl) (by kernel_rfl) ?_
  unfold clB
  have hc1 := hc.1
  have hhead : clHead c = true ↔ 1 ≤ c.vendor ∧ c.vendor ≤ 999999 ∧ 1 ≤ (c.ss.length : Int) ∧ (c.ss.length : Int) ≤ 20 ∧ rowF c.ss = 0 := by simp [clHead, and_assoc]
  generalize clHead c = B at hhead
  have hno : ∀ {q : Prop}, q → (q → B = true → False) → B = false := fun q h => by
    cases B with
    | false => rfl
    | true => exact (h q rfl).elim
  conv => whnf
  repeat refine go ?_
  refine ASplit.dec (fun h1 => ?_) (fun h1 => ?_)
  · conv => whnf
    repeat refine ru ?_
    exact AFin.val rfl ⟨by rw [hno h1 (fun h1 e => by have := hhead.1 e; omega)]; rfl, rfl⟩
  conv => whnf
  repeat refine ru ?_
  refine ASplit.dec (fun h2 => ?_) (fun h2 => ?_)
  · conv => whnf
    repeat refine ru ?_
    exact AFin.val rfl ⟨by rw [hno h2 (fun h1 e => by have := hhead.1 e; omega)]; rfl, rfl⟩
  conv => whnf
  repeat refine ru ?_
  refine ASplit.dec (fun h3 => ?_) (fun h3 => ?_)
  · conv => whnf
    repeat refine ru ?_
    exact AFin.val rfl ⟨by rw [hno h3 (fun h1 e => by have := hhead.1 e; omega)]; rfl, rfl⟩
  conv => whnf
  repeat refine ru ?_
  refine ASplit.dec (fun h4 => ?_) (fun h4 => ?_)
  · conv => whnf
    repeat refine ru ?_
    exact AFin.val rfl ⟨by rw [hno h4 (fun h1 e => by have := hhead.1 e; omega)]; rfl, rfl⟩
  conv => whnf
  repeat refine ru ?_
  refine ACall.val (args := [ssV c.ss]) (by kernel_rfl) (f153 c.ss hc) (by (first | rfl | (simp only [renL, AV.ren, List.nil_append, List.cons_append, rens]; try rfl))) rfl ?_
  conv => whnf
  repeat refine ru ?_
  refine ACond.ndec (fun h5 => ?_) (fun h5 => ?_)
  · conv => whnf
    repeat refine ru ?_
    exact AFin.val rfl ⟨by rw [hno h5 (fun h1 e => by have := hhead.1 e; omega)]; rfl, rfl⟩
  have hB : B = true := hhead.2 ⟨by omega, by omega, by omega, by omega, h5⟩
  rw [hB]
  conv => whnf
  repeat refine ru ?_
  refine ALoop.mk (fun n E H => ∃ (i : Nat), n = c.ss.length - i ∧ i ≤ c.ss.length ∧ (∀ k (hk : k < c.ss.length), k < i → decide (clS s c (findU s c.ss[k])) = true) ∧
      E = pad [stA s, clA c, .ptr 0 0, .ptr 1 0, bV false, .any, .any, .any, .any, .any, .any, .any, .any, .any, .any, .any, .any, .any, .any, .any, .any, .any, .any, .any, .any, .any, .any, .any, .any, .any, .any, .any, .any, .any, .any, .any, ssV c.ss, nV c.ss.length, nV i] 97 ∧ H = [.cells 134 (stC s), .cells 125 (clC c)]) (n := c.ss.length) _ _
    ⟨0, rfl, Nat.zero_le _, fun k _ hk => absurd hk (Nat.not_lt_zero _), rfl, rfl⟩ (Conv.fit (by repeat' (first | exact Fit.nil | refine Fit.any ?_ | refine Fit.same ?_))) ?_
  rintro _ _ _ ⟨i, rfl, hi, hI, rfl, rfl⟩
  conv => whnf
  repeat refine go ?_
  refine ACond.dec (fun h1 => ?_) (fun h1 => ?_)
  · have hil : i < c.ss.length := by omega
    have w1 : IntKind.wrap .i64 ((i : Int) + 1) = ((i + 1 : Nat) : Int) := by rw [wrap_i64 _ (by omega) (by omega)]; omega
    have hfo := findU_ok h c.ss[i]
    have hff := f20' s c.ss[i] h
    have hno : ¬ clS s c (findU s c.ss[i]) → c.ss.all (fun x => decide (clS s c (findU s x))) = false := fun e => all_get hil (decide_eq_false e)
    have hyes : clS s c (findU s c.ss[i]) → ∀ k (hk : k < c.ss.length), k < i + 1 → decide (clS s c (findU s c.ss[k])) = true := fun hc k hk hki => by
      rcases Nat.lt_or_ge k i with g | g
      · exact hI k hk g
      · obtain rfl : k = i := by omega
        exact decide_eq_true hc
    conv => whnf
    repeat (first | refine go ?_ | ((first | refine AReq.mk (by omega) ?_ | refine AIdx.flat (enc := sC) sC_len (xs := c.ss) (i := i) hil ?_); conv => whnf))
    generalize c.ss.all (fun x => decide (clS s c (findU s x))) = A at hno
    generalize c.ss[i] = x at hfo hff hno hyes
    refine ACall.val (args := [stA s, sV x]) (by kernel_rfl) hff (by (first | rfl | (simp only [renL, AV.ren, List.nil_append, List.cons_append, rens]; try rfl))) (by (first | rfl | (simp only [renL, AV.ren, List.nil_append, List.cons_append, rens]; try rfl))) ?_
    generalize findU s x = o at hfo hno hyes
    unfold clS at hno
    have hyes' : (o.isSome = true ∧ (o.getD unZ).way = 3 ∧ vendF s (o.getD unZ) = c.vendor ∧ (((o.getD unZ).state = 5 ∧ (o.getD unZ).in_ = c.id) ↔ c.state = 1) ∧ (c.state = 2 → doneB (o.getD unZ) = true)) → ∀ k (hk : k < c.ss.length), k < i + 1 → decide (clS s c (findU s c.ss[k])) = true := hyes
    clear hyes
    conv => whnf
    repeat refine go ?_
    cases ho : o.isSome with
    | false =>
      rw [ho] at hno
      refine AW.plan hm (.one 0 (.one 1 (.one 2 (.one 3 (.one 4 (.one 5 (.one 6 (.one 7 (.one 11 (.one 8 (.one 9 (.fork 10 (.one 12 .nil) 12 (.one 10 .nil) (.one 13 (.one 14 .nil)))))))))))))) (by kernel_rfl) ?_
      conv => whnf
      repeat refine ru ?_
      apply AF.meet
      · conv => whnf
        repeat refine ru ?_
        exact ⟨rfl, rfl, rfl⟩
      · conv => whnf
        repeat refine ru ?_
        exact ⟨rfl, rfl, rfl⟩
      conv => whnf
      repeat refine ru ?_
      refine AOut.stay ?_
      conv => whnf
      repeat refine ru ?_
      exact AFin.val rfl ⟨by rw [hno (by simp)]; rfl, rfl⟩
    | true =>
    rw [ho] at hno hyes'
    generalize o.getD unZ = u at hfo hno hyes'
    refine AW.plan hm (.one 0 (.one 1 (.one 2 (.one 3 (.one 4 (.one 5 (.one 6 (.one 7 (.one 11 (.one 8 (.one 9 (.fork 10 (.one 12 .nil) 12 (.one 10 .nil) (.one 13 (.one 14 .nil)))))))))))))) (by kernel_rfl) ?_
    conv => whnf
    repeat refine ru ?_
    refine ASplit.ndec (fun h6 => ?_) (fun h6 => ?_)
    · conv => whnf
      repeat refine ru ?_
      apply AF.meet
      · conv => whnf
        repeat refine ru ?_
        exact ⟨rfl, rfl, rfl⟩
      · conv => whnf
        repeat refine ru ?_
        exact ⟨rfl, rfl, rfl⟩
      conv => whnf
      repeat refine ru ?_
      refine AOut.stay ?_
      conv => whnf
      repeat refine ru ?_
      exact AFin.val rfl ⟨by rw [hno (fun hn => h6 hn.2.1)]; rfl, rfl⟩
    conv => whnf
    repeat refine ru ?_
    apply AF.meet
    · conv => whnf
      repeat refine ru ?_
      refine ACall.val (args := [stA s, unA u]) (by kernel_rfl) (f246 s u h) (by (first | rfl | (simp only [renL, AV.ren, List.nil_append, List.cons_append, rens]; try rfl))) rfl ?_
      conv => whnf
      repeat refine ru ?_
      exact ⟨rfl, rfl, rfl⟩
    · conv => whnf
      repeat refine ru ?_
      refine ACall.val (args := [stA s, unA u]) (by kernel_rfl) (f246 s u h) (by (first | rfl | (simp only [renL, AV.ren, List.nil_append, List.cons_append, rens]; try rfl))) rfl ?_
      conv => whnf
      repeat refine ru ?_
      exact ⟨rfl, rfl, rfl⟩
    conv => whnf
    repeat refine ru ?_
    refine ACond.ndec (fun h7 => ?_) (fun h7 => ?_)
    · conv => whnf
      repeat refine ru ?_
      refine AOut.stay ?_
      conv => whnf
      repeat refine ru ?_
      exact AFin.val rfl ⟨by rw [hno (fun hn => h7 hn.2.2.1)]; rfl, rfl⟩
    conv => whnf
    repeat' (first | refine go ?_ | ((first | refine ASplit.yes rfl ?_ | refine ASplit.no rfl ?_ | refine ACond.yes rfl ?_ | refine ACond.no rfl ?_ | refine ASplit.dec (fun _ => ?_) (fun _ => ?_) | refine ASplit.ndec (fun _ => ?_) (fun _ => ?_) | refine ACond.dec (fun _ => ?_) (fun _ => ?_) | refine ACond.ndec (fun _ => ?_) (fun _ => ?_) | refine ACall.val (args := [unA u]) (by kernel_rfl) (f69 u hfo) (by (first | rfl | (simp only [renL, AV.ren, List.nil_append, List.cons_append, rens]; try rfl))) rfl ?_ | (refine ASplit.mk (fun _ => ?_) (fun _ => ?_)) | (refine ACond.mk (fun _ => ?_) (fun _ => ?_))) <;> conv => whnf))
    all_goals simp only [Bool.not_eq_true', Bool.not_eq_false', beq_eq_false_iff_ne, ne_eq, beq_iff_eq, decide_eq_true_eq, decide_eq_false_iff_not, Bool.and_eq_true, Bool.and_false, Bool.false_and, Bool.true_and, Bool.and_true, eq_self, not_true_eq_false, decide_eq_decide, true_iff, false_iff, iff_true, iff_false, Classical.not_not, Bool.true_eq, Bool.false_eq] at *
    all_goals first
      | (refine AOut.stay ?_
         conv => whnf
         repeat ((first | refine AO.cons hT ?_ | refine AO.nil ?_ | refine AW.seq ?_ | refine AW.region ?_ | refine AW.ret ?_); conv => whnf)
         refine AFin.val rfl ⟨?_, rfl⟩
         rw [hno (by rintro ⟨-, -, -, e1, e2⟩; first | omega | simp_all)]; rfl)
      | (rw [w1]
         exact AHead.mk (c.ss.length - (i + 1)) _ _ (by omega) ⟨i + 1, rfl, by omega, hyes' ⟨trivial, by omega, by omega, by omega, by first | (intro; omega) | (intro; assumption)⟩, rfl, rfl⟩ (Conv.ren [0, 1] _ (by simp) (by simp) (by simp only [pad, renL, AV.ren, rens]; repeat' (first | exact Fit.nil | refine Fit.any ?_ | refine Fit.same ?_)) (.same (by simp only [ABlk.ren, stC_ren]; rfl) (.same (by simp only [ABlk.ren, clC_ren]; rfl) .nil))))
      | skip
  · rw [all_of (fun k hk => hI k hk (by omega))]
    conv => whnf
    repeat refine go ?_
    refine AOut.stay ?_
    conv => whnf
    repeat' (first | refine go ?_ | ((first | refine ASplit.yes rfl ?_ | refine ASplit.no rfl ?_ | refine ACond.yes rfl ?_ | refine ACond.no rfl ?_ | refine ASplit.dec (fun _ => ?_) (fun _ => ?_) | refine ASplit.ndec (fun _ => ?_) (fun _ => ?_) | refine ACond.dec (fun _ => ?_) (fun _ => ?_) | refine ACond.ndec (fun _ => ?_) (fun _ => ?_) | (refine ASplit.mk (fun _ => ?_) (fun _ => ?_))) <;> conv => whnf))
    all_goals refine AFin.val rfl ⟨congrArg bV ?_, rfl⟩
    all_goals simp_all
end Go.Aw.U1

set_option linter.unusedSimpArgs false
set_option linter.unusedVariables false
set_option maxHeartbeats 4000000
namespace Go.Aw.U1
open Go Go.Proofs

def clM (o : Option (ByteArray → Bool)) (k : (ByteArray → Bool) → Option Int) : Option Int :=
  match o with
  | none => none
  | some g => k g
noncomputable def clT (s : Sta) : List Cl → (ByteArray → Bool) → Int → Option Int
  | [], _, n => some n
  | c :: l, g, n => if clB s c = true then clM (twS c.ss g) (fun g => clT s l g (if c.state = 1 then n + c.ss.length else n)) else none
noncomputable def claimedB (s : Sta) : Bool := eqO (clT s s.claims (fun _ => false) 0) (allT 5 s.units 0)
theorem f65 (s : Sta) (h : StaOk s) : Fun P 65 [stA s] (bV (claimedB s)) := by
  refine spec_of hT (f := 65) (fn := Go.Proofs.Tryz.f65) (c := body Go.Proofs.Tryz.f65) (by kernel_rfl) (by kernel_rfl) ?_
  unfold claimedB
  have hc1 := h.claims.1
  have hall := f163 s 5 h
  generalize allT 5 s.units 0 = A at hall
  generalize hR : clT s s.claims (fun _ => false) 0 = R
  conv => whnf
  repeat refine go ?_
  refine AOp.makeMap ?_
  conv => whnf
  repeat refine go ?_
  refine ALoop.mk (fun n E H => ∃ (i : Nat) (m : Int) (g : ByteArray → Bool) (L : List (ByteArray × Bool)) (bs : List Nat) (clk : Nat), n = s.claims.length - i ∧ i ≤ s.claims.length ∧ 0 ≤ m ∧ m ≤ 20 * i ∧ MapIs sOk L false g ∧ clT s (s.claims.drop i) g m = R ∧
      E = pad [stA s, .ptr 0 0, bV false, .mp 1, nV m, .any, .any, .any, .any, .any, .any, .any, clsV s.claims, nV s.claims.length, nV i] 48 ∧ H = [.cells 134 (stC s), .map (em sV bV L) bs clk]) (n := s.claims.length) _ _
    ⟨0, 0, _, [], [], 0, rfl, Nat.zero_le _, by omega, by omega, MapIs.nil, hR, rfl, rfl⟩ (Conv.fit (by repeat' (first | exact Fit.nil | refine Fit.any ?_ | refine Fit.same ?_))) ?_
  rintro _ _ _ ⟨i, m, g, L, bs, clk, rfl, hi, hm0, hm1, hM, hI, rfl, rfl⟩
  conv => whnf
  repeat refine go ?_
  refine ACond.dec (fun h1 => ?_) (fun h1 => ?_)
  · have hil : i < s.claims.length := by omega
    have w1 : IntKind.wrap .i64 ((i : Int) + 1) = ((i + 1 : Nat) : Int) := by rw [wrap_i64 _ (by omega) (by omega)]; omega
    have hss := h.claims.2 _ (List.getElem_mem hil)
    rw [List.drop_eq_getElem_cons hil, clT] at hI
    conv => whnf
    repeat (first | refine go ?_ | ((first | refine AReq.mk (by omega) ?_ | refine AIdx.flat (enc := clC) clC_len (xs := s.claims) (i := i) hil ?_); conv => whnf))
    generalize s.claims[i] = c at hI hss
    refine ACall.val (args := [stA s, clA c]) (by kernel_rfl) (f164 s c h hss) (by (first | rfl | (simp only [renL, AV.ren, List.nil_append, List.cons_append, rens]; try rfl))) rfl ?_
    cases hcb : clB s c with
    | false =>
      rw [hcb, if_neg (by decide)] at hI
      conv => whnf
      repeat refine ru ?_
      refine AOut.stay ?_
      conv => whnf
      repeat refine ru ?_
      exact AFin.val rfl ⟨by rw [← hI]; rfl, rfl⟩
    | true =>
    rw [hcb, if_pos rfl] at hI
    have hlen : (c.ss.length : Int) ≤ 20 := by
      simp only [clB, clHead, Bool.and_eq_true, decide_eq_true_eq] at hcb
      omega
    conv => whnf
    repeat refine ru ?_
    refine ALoop.mk (fun n E H => ∃ (k : Nat) (g : ByteArray → Bool) (L : List (ByteArray × Bool)) (bs : List Nat) (clk : Nat), n = c.ss.length - k ∧ k ≤ c.ss.length ∧ MapIs sOk L false g ∧ clM (twS (c.ss.drop k) g) (fun g => clT s (s.claims.drop (i + 1)) g (if c.state = 1 then m + c.ss.length else m)) = R ∧
        E = pad [stA s, .ptr 0 0, bV false, .mp 1, nV m, .any, .ptr 2 0, .any, .any, .any, .any, .any, clsV s.claims, nV s.claims.length, nV i, .any, .any, .any, .any, .any, .any, .any, .any, ssV c.ss, nV c.ss.length, nV k] 48 ∧ H = [.cells 134 (stC s), .map (em sV bV L) bs clk, .cells 125 (clC c)]) (n := c.ss.length) _ _
      ⟨0, g, L, bs, clk, rfl, Nat.zero_le _, hM, hI, rfl, rfl⟩ (Conv.fit (by repeat' (first | exact Fit.nil | refine Fit.any ?_ | refine Fit.same ?_))) ?_
    rintro _ _ _ ⟨k, g, L, bs, clk, rfl, hk, hM, hI, rfl, rfl⟩
    conv => whnf
    repeat refine go ?_
    refine ACond.dec (fun h2 => ?_) (fun h2 => ?_)
    · have hkl : k < c.ss.length := by omega
      have w2 : IntKind.wrap .i64 ((k : Int) + 1) = ((k + 1 : Nat) : Int) := by rw [wrap_i64 _ (by omega) (by omega)]; omega
      rw [List.drop_eq_getElem_cons hkl, twS] at hI
      conv => whnf
      repeat refine go ?_
      refine AReq.mk (by omega) ?_
      conv => whnf
      repeat refine go ?_
      refine AIdx.flat (enc := sC) sC_len (xs := c.ss) (i := k) hkl ?_
      conv => whnf
      repeat refine go ?_
      refine AOp.getM 1 c.ss[k] hT sK und126 hne4 (eb := bV) rfl hM (hss.2 _ (List.getElem_mem hkl)) rfl rfl rfl ?_
      conv => whnf
      repeat refine go ?_
      refine ACond.mk (fun h4 => ?_) (fun h4 => ?_)
      · rw [if_pos h4] at hI
        conv => whnf
        repeat refine go ?_
        refine AOut.stay ?_
        conv => whnf
        repeat refine go ?_
        refine AOut.stay ?_
        conv => whnf
        repeat refine go ?_
        exact AFin.val rfl ⟨by rw [← hI]; rfl, rfl⟩
      · rw [if_neg (by rw [h4]; decide)] at hI
        conv => whnf
        repeat refine go ?_
        refine AOp.putM 1 c.ss[k] true sK und126 hM (hss.2 _ (List.getElem_mem hkl)) rfl rfl rfl rfl ?_
        intro L' bs' clk' hM'
        conv => whnf
        repeat refine go ?_
        rw [w2]
        exact AHead.mk (c.ss.length - (k + 1)) _ _ (by omega) ⟨k + 1, _, L', bs', clk', rfl, by omega, hM', hI, rfl, rfl⟩ (Conv.fit (by repeat' (first | exact Fit.nil | refine Fit.any ?_ | refine Fit.same ?_)))
    · rw [List.drop_of_length_le (by omega)] at hI
      have w3 : IntKind.wrap .i64 (m + (c.ss.length : Int)) = m + (c.ss.length : Int) := by rw [wrap_i64 _ (by omega) (by omega)]
      conv => whnf
      repeat refine go ?_
      refine AOut.stay ?_
      conv => whnf
      repeat refine go ?_
      refine ACond.dec (fun h5 => ?_) (fun h5 => ?_)
      · have hI2 : clT s (s.claims.drop (i + 1)) g (m + c.ss.length) = R := by rw [← hI]; simp [twS, clM, h5]
        conv => whnf
        repeat refine go ?_
        rw [w1, w3]
        exact AHead.mk (s.claims.length - (i + 1)) _ _ (by omega) ⟨i + 1, _, g, L, bs, clk, rfl, by omega, by omega, by omega, hM, hI2, rfl, rfl⟩ (Conv.ren [0, 1] _ (by simp) (by simp) (by simp only [pad, renL, AV.ren, rens]; repeat' (first | exact Fit.nil | refine Fit.any ?_ | refine Fit.same ?_)) (.same (by simp only [ABlk.ren, stC_ren]; rfl) (.same (by simp only [ABlk.ren, ren_emS]; rfl) .nil)))
      · have hI2 : clT s (s.claims.drop (i + 1)) g m = R := by rw [← hI]; simp [twS, clM, h5]
        conv => whnf
        repeat refine go ?_
        rw [w1]
        exact AHead.mk (s.claims.length - (i + 1)) _ _ (by omega) ⟨i + 1, _, g, L, bs, clk, rfl, by omega, by omega, by omega, hM, hI2, rfl, rfl⟩ (Conv.ren [0, 1] _ (by simp) (by simp) (by simp only [pad, renL, AV.ren, rens]; repeat' (first | exact Fit.nil | refine Fit.any ?_ | refine Fit.same ?_)) (.same (by simp only [ABlk.ren, stC_ren]; rfl) (.same (by simp only [ABlk.ren, ren_emS]; rfl) .nil)))
  · rw [List.drop_of_length_le (by omega)] at hI
    conv => whnf
    repeat refine go ?_
    refine AOut.stay ?_
    conv => whnf
    repeat refine go ?_
    refine ACall.val (args := [stA s, nV 5]) (by kernel_rfl) hall (by (first | rfl | (simp only [renL, AV.ren, List.nil_append, List.cons_append, rens]; try rfl))) rfl ?_
    conv => whnf
    repeat refine go ?_
    exact AFin.val rfl ⟨by rw [← hI]; rfl, rfl⟩
end Go.Aw.U1

set_option linter.unusedSimpArgs false
set_option linter.unusedVariables false
set_option maxHeartbeats 4000000
set_option maxRecDepth 30000
namespace Go.Aw.U1
open Go Go.Proofs

theorem wrap_u64 (n : Int) (h1 : 0 ≤ n) (h2 : n ≤ 18446744073709551615) : IntKind.wrap .u64 n = n := by
  simp only [IntKind.wrap, IntKind.bits, IntKind.signed, Bool.false_and]
  simp only [show ((2 : Int) ^ 64) = 18446744073709551616 from rfl]
  simp
  omega
abbrev uV (n : Nat) : AV := .v (.int .u64 (n : Int))
theorem f518 (x y : Nat) (hx : x < 18446744073709551616) (hy : y < 18446744073709551616) : Fun P 518 [uV x, uV y] (.tup [uV (x * y / 18446744073709551616), uV (x * y % 18446744073709551616)]) := by
  intro C m I w ys hs hr
  simp only [RepL, Rep] at hr
  obtain ⟨y1, zs, rfl, rfl, y2, z2, rfl, rfl, rfl⟩ := hr
  have := Any.bits_Mul64 Tryz.mul64 x y hx hy w
  change Calls Tryz.prog 518 _ _ _ at this
  refine this.mono fun e w' ⟨he, hw⟩ => ?_
  subst hw
  exact ⟨_, _, _, m, I, he, ⟨rfl, rfl⟩, by simp only [Rep, RepL]; exact ⟨_, rfl, _, _, rfl, rfl, _, _, rfl, rfl, rfl⟩, hs, .refl _ _ _⟩
def wideA (n : Nat) : AV := .agg [uV (n / 18446744073709551616), uV (n % 18446744073709551616)]
theorem f509 (x y : Nat) (hx : x < 18446744073709551616) (hy : y < 18446744073709551616) : Fun P 509 [uV x, uV y] (wideA (x * y)) := by
  refine spec_of hT (f := 509) (fn := Go.Proofs.Tryz.f509) (c := body Go.Proofs.Tryz.f509) (by kernel_rfl) (by kernel_rfl) ?_
  conv => whnf
  repeat (first | refine go ?_ | (refine ACall.val (args := [uV x, uV y]) (by kernel_rfl) (f518 x y hx hy) (by (first | rfl | (simp only [renL, AV.ren, List.nil_append, List.cons_append, rens]; try rfl))) rfl ?_; conv => whnf))
  exact AFin.val rfl ⟨rfl, rfl⟩
theorem f510 (a b c d : Int) (h : c ≤ a) (hab : a = c → b ≤ d) (hh : a = c) : Fun P 510 [.agg [.v (.int .u64 a), .v (.int .u64 b)], .agg [.v (.int .u64 c), .v (.int .u64 d)]] (bV false) := by
  refine spec_of hT (f := 510) (fn := Go.Proofs.Tryz.f510) (c := body Go.Proofs.Tryz.f510) (by kernel_rfl) (by kernel_rfl) ?_
  conv => whnf
  repeat' (first | refine go ?_ | ((first | refine ASplit.yes rfl ?_ | refine ASplit.no rfl ?_ | refine ACond.yes rfl ?_ | refine ACond.no rfl ?_ | refine ASplit.dec (fun _ => ?_) (fun _ => ?_) | refine ASplit.ndec (fun _ => ?_) (fun _ => ?_) | refine ACond.dec (fun _ => ?_) (fun _ => ?_) | refine ACond.ndec (fun _ => ?_) (fun _ => ?_)) <;> conv => whnf))
  all_goals first | omega | (refine AFin.val rfl ⟨congrArg bV ?_, rfl⟩)
  all_goals first | rfl | (exact decide_eq_false (by omega)) | omega
theorem f511 (lo y : Nat) (hlo : lo < 18446744073709551616) (hy0 : 0 < y) (hy : y < 18446744073709551616) : Fun P 511 [.v (.int .u64 0), uV lo, uV y] (.tup [uV (lo / y), uV (lo % y)]) := by
  refine spec_of hT (f := 511) (fn := Go.Proofs.Tryz.f511) (c := body Go.Proofs.Tryz.f511) (by kernel_rfl) (by kernel_rfl) ?_
  conv => whnf
  repeat (first | refine go ?_ | (refine AW.plan (id := 6) hm (.one 0 (.one 1 (.one 2 (.one 3 (.one 4 (.one 5 (.one 6 (.one 7 .nil)))))))) (by kernel_rfl) ?_; conv => whnf))
  refine ACond.no (decide_eq_false (by omega)) ?_
  conv => whnf
  repeat (first | refine go ?_ | (refine AW.plan (id := 6) hm (.one 0 (.one 1 (.one 2 (.one 3 (.one 4 (.one 5 (.one 6 (.one 7 .nil)))))))) (by kernel_rfl) ?_; conv => whnf))
  refine ACond.no (decide_eq_false (by omega)) ?_
  conv => whnf
  repeat (first | refine go ?_ | (refine AW.plan (id := 6) hm (.one 0 (.one 1 (.one 2 (.one 3 (.one 4 (.one 5 (.one 6 (.one 7 .nil)))))))) (by kernel_rfl) ?_; conv => whnf))
  refine ACond.yes rfl ?_
  conv => whnf
  repeat (first | refine go ?_ | ((first | refine AW.plan (id := 6) hm (.one 0 (.one 1 (.one 2 (.one 3 (.one 4 (.one 5 (.one 6 (.one 7 .nil)))))))) (by kernel_rfl) ?_ | refine AReq.mk (by omega) ?_); conv => whnf))
  refine AFin.val rfl ⟨?_, rfl⟩
  have h1 : IntKind.wrap .u64 ((lo : Int).tdiv y) = ((lo / y : Nat) : Int) := by
    rw [Int.tdiv_eq_ediv_of_nonneg (by omega)]
    have : (lo : Int) / y = ((lo / y : Nat) : Int) := by simp
    rw [this]
    have hle : lo / y ≤ lo := Nat.div_le_self _ _
    generalize lo / y = q at hle ⊢
    exact wrap_u64 _ (by omega) (by omega)
  have h2 : (lo : Int).tmod y = ((lo % y : Nat) : Int) := by
    rw [Int.tmod_eq_emod_of_nonneg (by omega)]; simp
  rw [h1, h2]
/-! ### amounts that are divided -/
structure DivOk (a b c : Nat) : Prop where
  ha : a ≤ 1000000000000
  hc0 : 0 < c
  hc : c ≤ 10000
  hb : b ≤ c
theorem DivOk.ab {a b c : Nat} (h : DivOk a b c) : a * b ≤ 10000000000000000 ∧ a * b ≤ c * 1000000000000 ∧ a * b / c ≤ 1000000000000 ∧ a * b % c < c := by
  have h1 : a * b ≤ 1000000000000 * c := Nat.mul_le_mul h.ha h.hb
  have h2 := h.hc
  have h3 := h.hc0
  refine ⟨by omega, by omega, ?_, Nat.mod_lt _ h.hc0⟩
  rw [Nat.div_le_iff_le_mul_add_pred h.hc0]
  have : c * 1000000000000 = 1000000000000 * c := Nat.mul_comm _ _
  omega
theorem f494 (a b c : Nat) (h : DivOk a b c) : Fun P 494 [nV a, nV b, nV c] (.tup [nV (a * b / c : Nat), nV (a * b % c : Nat), nV 0]) := by
  refine spec_of hT (f := 494) (fn := Go.Proofs.Tryz.f494) (c := body Go.Proofs.Tryz.f494) (by kernel_rfl) (by kernel_rfl) ?_
  obtain ⟨hab, hac, hq, hr⟩ := h.ab
  have h1 := h.ha
  have h2 := h.hc0
  have h3 := h.hc
  have h4 := h.hb
  have i1 : inB (a : Int) = true := inB_iff.2 ⟨by omega, by omega⟩
  have i2 : inB (b : Int) = true := inB_iff.2 ⟨by omega, by omega⟩
  have i3 : inB (c : Int) = true := inB_iff.2 ⟨by omega, by omega⟩
  have w1 : IntKind.wrap .u64 (a : Int) = a := wrap_u64 _ (by omega) (by omega)
  have w2 : IntKind.wrap .u64 (b : Int) = b := wrap_u64 _ (by omega) (by omega)
  have w3 : IntKind.wrap .u64 (c : Int) = c := wrap_u64 _ (by omega) (by omega)
  conv => whnf
  repeat refine go ?_
  refine ACond.no (decide_eq_false (by omega)) ?_
  conv => whnf
  repeat refine go ?_
  refine ASplit.no (decide_eq_false (by omega)) ?_
  conv => whnf
  repeat refine go ?_
  refine ASplit.no (decide_eq_false (by omega)) ?_
  conv => whnf
  repeat refine go ?_
  refine ACall.val (by kernel_rfl) (f183 a) rfl rfl ?_
  rw [i1]
  conv => whnf
  repeat refine ru ?_
  refine ACall.val (by kernel_rfl) (f183 b) rfl rfl ?_
  rw [i2]
  conv => whnf
  repeat refine ru ?_
  refine ACall.val (by kernel_rfl) (f183 c) rfl rfl ?_
  rw [i3]
  conv => whnf
  repeat refine ru ?_
  rw [w1, w2]
  refine ACall.val (args := [uV a, uV b]) (by kernel_rfl) (f509 a b (by omega) (by omega)) (by (first | rfl | (simp only [renL, AV.ren, List.nil_append, List.cons_append, rens]; try rfl))) rfl ?_
  conv => whnf
  repeat refine go ?_
  refine AW.conv _ _ (Conv.freeze 0 rfl) ?_
  refine AW.plan hm (.one 1 (.imm 0 (.one 2 (.one 3 (.one 4 (.one 5 (.one 6 (.one 8 (.fork 7 (.one 9 .nil) 9 (.one 7 .nil) (.one 10 (.one 11 .nil))))))))))) (by kernel_rfl) ?_
  conv => whnf
  repeat refine go ?_
  rw [w3]
  refine ACall.val (args := [uV c, uV 1000000000001]) (by kernel_rfl) (f509 c 1000000000001 (by omega) (by omega)) (by (first | rfl | (simp only [renL, AV.ren, List.nil_append, List.cons_append, rens]; try rfl))) rfl ?_
  have e1 : a * b / 18446744073709551616 = 0 := Nat.div_eq_of_lt (by omega)
  have e2 : a * b % 18446744073709551616 = a * b := Nat.mod_eq_of_lt (by omega)
  have e3 : c * 1000000000001 / 18446744073709551616 = 0 := Nat.div_eq_of_lt (by omega)
  have e4 : c * 1000000000001 % 18446744073709551616 = c * 1000000000001 := Nat.mod_eq_of_lt (by omega)
  conv => whnf
  repeat refine ru ?_
  rw [e1, e2, e3, e4]
  refine ACall.val (args := [.agg [.v (.int .u64 0), uV (a * b)], .agg [.v (.int .u64 0), uV (c * 1000000000001)]]) (by kernel_rfl) (f510 0 (a * b : Nat) 0 (c * 1000000000001 : Nat) (Int.le_refl _) (fun _ => by omega) rfl) (by (first | rfl | (simp only [renL, AV.ren, List.nil_append, List.cons_append, rens]; try rfl))) rfl ?_
  conv => whnf
  repeat refine ru ?_
  apply AF.meet
  · conv => whnf
    repeat refine ru ?_
    exact ⟨rfl, rfl, rfl⟩
  · conv => whnf
    repeat refine ru ?_
    exact ⟨rfl, rfl, rfl⟩
  conv => whnf
  repeat refine ru ?_
  rw [w3]
  refine ACond.no (decide_eq_false (by omega)) ?_
  conv => whnf
  repeat refine ru ?_
  rw [w3]
  refine ACall.val (args := [.v (.int .u64 0), uV (a * b), uV c]) (by kernel_rfl) (f511 (a * b) c (by omega) h2 (by omega)) (by (first | rfl | (simp only [renL, AV.ren, List.nil_append, List.cons_append, rens]; try rfl))) rfl ?_
  have w4 : IntKind.wrap .i64 ((a * b / c : Nat) : Int) = ((a * b / c : Nat) : Int) := by
    generalize a * b / c = q at hq ⊢
    exact wrap_i64 _ (by omega) (by omega)
  have w5 : IntKind.wrap .i64 ((a * b % c : Nat) : Int) = ((a * b % c : Nat) : Int) := by
    generalize a * b % c = q at hr ⊢
    exact wrap_i64 _ (by omega) (by omega)
  conv => whnf
  repeat refine ru ?_
  rw [w4, w5]
  exact AFin.val rfl ⟨rfl, rfl⟩
end Go.Aw.U1

set_option linter.unusedSimpArgs false
set_option linter.unusedVariables false
set_option maxHeartbeats 4000000
set_option maxRecDepth 30000
namespace Go.Aw.U1
open Go Go.Proofs

theorem f495 (n : Int) (h : inB n = true) : Fun P 495 [nV n] (numE (n, 0)) := by
  refine spec_of hT (f := 495) (fn := Go.Proofs.Tryz.f495) (c := body Go.Proofs.Tryz.f495) (by kernel_rfl) (by kernel_rfl) ?_
  have hf := f183 n
  rw [h] at hf
  conv => whnf
  repeat (first | refine ru ?_ | (refine ACall.val (args := [nV n]) (by kernel_rfl) hf (by (first | rfl | (simp only [renL, AV.ren, List.nil_append, List.cons_append, rens]; try rfl))) rfl ?_; conv => whnf))
  exact AFin.val rfl ⟨rfl, rfl⟩
theorem f476 (a b c : Nat) (h : DivOk a b c) : Fun P 476 [nV a, nV b, nV c] (numE ((a * b / c : Nat), 0)) := by
  refine spec_of hT (f := 476) (fn := Go.Proofs.Tryz.f476) (c := body Go.Proofs.Tryz.f476) (by kernel_rfl) (by kernel_rfl) ?_
  have hq := h.ab.2.2.1
  have hd := f494 a b c h
  generalize a * b / c = q at hq hd ⊢
  conv => whnf
  repeat (first | refine ru ?_ | ((first | refine ACall.val (args := [nV a, nV b, nV c]) (by kernel_rfl) hd (by (first | rfl | (simp only [renL, AV.ren, List.nil_append, List.cons_append, rens]; try rfl))) rfl ?_ | refine ACall.val (args := [nV q]) (by kernel_rfl) (f495 q (inB_iff.2 ⟨by omega, by omega⟩)) (by (first | rfl | (simp only [renL, AV.ren, List.nil_append, List.cons_append, rens]; try rfl))) rfl ?_); conv => whnf))
  exact AFin.val rfl ⟨rfl, rfl⟩
theorem f477 (a b c : Nat) (h : DivOk a b c) : Fun P 477 [nV a, nV b, nV c] (numE ((a * b % c : Nat), 0)) := by
  refine spec_of hT (f := 477) (fn := Go.Proofs.Tryz.f477) (c := body Go.Proofs.Tryz.f477) (by kernel_rfl) (by kernel_rfl) ?_
  have hq := h.ab.2.2.1
  have hd := f494 a b c h
  generalize a * b / c = q at hq hd ⊢
  conv => whnf
  repeat (first | refine ru ?_ | ((first | refine ACall.val (args := [nV a, nV b, nV c]) (by kernel_rfl) hd (by (first | rfl | (simp only [renL, AV.ren, List.nil_append, List.cons_append, rens]; try rfl))) rfl ?_ | refine ACall.val (args := [nV q]) (by kernel_rfl) (f495 q (inB_iff.2 ⟨by omega, by omega⟩)) (by (first | rfl | (simp only [renL, AV.ren, List.nil_append, List.cons_append, rens]; try rfl))) rfl ?_); conv => whnf))
  exact AFin.val rfl ⟨rfl, rfl⟩
def halfN (a b c : Nat) : Nat := if c - a * b % c ≤ a * b % c then a * b / c + 1 else a * b / c
theorem f517 (a b : Nat) (h : DivOk a b 10000) : Fun P 517 [nV a, nV b, nV 10000] (numE ((halfN a b 10000 : Nat), 0)) := by
  refine spec_of hT (f := 517) (fn := Go.Proofs.Tryz.f517) (c := body Go.Proofs.Tryz.f517) (by kernel_rfl) (by kernel_rfl) ?_
  have hq := h.ab.2.2.1
  have hr := h.ab.2.2.2
  have hd := f494 a b 10000 h
  have hq1 : (10000 - a * b % 10000 ≤ a * b % 10000) → a * b / 10000 + 1 ≤ 1000000000000 := by
    intro hge
    have hab := h.ab.2.1
    have h0 := Nat.div_add_mod (a * b) 10000
    omega
  unfold halfN
  generalize a * b / 10000 = q at hq hq1 hd ⊢
  generalize a * b % 10000 = r at hr hq1 hd ⊢
  have w1 : IntKind.wrap .i64 ((10000 : Int) - (r : Int)) = 10000 - (r : Int) := wrap_i64 _ (by omega) (by omega)
  conv => whnf
  repeat (first | refine ru ?_ | (refine ACall.val (args := [nV a, nV b, nV 10000]) (by kernel_rfl) hd (by (first | rfl | (simp only [renL, AV.ren, List.nil_append, List.cons_append, rens]; try rfl))) rfl ?_; conv => whnf))
  rw [w1]
  by_cases hc : 10000 - r ≤ r
  · rw [if_pos hc]
    have w2 : IntKind.wrap .i64 ((q : Int) + 1) = ((q + 1 : Nat) : Int) := by rw [wrap_i64 _ (by omega) (by omega)]; omega
    refine ACond.yes (decide_eq_true (by omega)) ?_
    conv => whnf
    repeat (first | refine ru ?_ | (refine ACall.val (args := [nV a, nV b, nV 10000]) (by kernel_rfl) hd (by (first | rfl | (simp only [renL, AV.ren, List.nil_append, List.cons_append, rens]; try rfl))) rfl ?_; conv => whnf))
    rw [w2]
    refine ACall.val (args := [nV (q + 1 : Nat)]) (by kernel_rfl) (f495 (q + 1 : Nat) (inB_iff.2 ⟨by omega, by have := hq1 hc; omega⟩)) (by (first | rfl | (simp only [renL, AV.ren, List.nil_append, List.cons_append, rens]; try rfl))) rfl ?_
    conv => whnf
    repeat (first | refine ru ?_ | (refine ACall.val (args := [nV a, nV b, nV 10000]) (by kernel_rfl) hd (by (first | rfl | (simp only [renL, AV.ren, List.nil_append, List.cons_append, rens]; try rfl))) rfl ?_; conv => whnf))
    exact AFin.val rfl ⟨rfl, rfl⟩
  · rw [if_neg hc]
    refine ACond.no (decide_eq_false (by omega)) ?_
    conv => whnf
    repeat (first | refine ru ?_ | (refine ACall.val (args := [nV a, nV b, nV 10000]) (by kernel_rfl) hd (by (first | rfl | (simp only [renL, AV.ren, List.nil_append, List.cons_append, rens]; try rfl))) rfl ?_; conv => whnf))
    refine ACall.val (args := [nV q]) (by kernel_rfl) (f495 q (inB_iff.2 ⟨by omega, by omega⟩)) (by (first | rfl | (simp only [renL, AV.ren, List.nil_append, List.cons_append, rens]; try rfl))) rfl ?_
    conv => whnf
    repeat (first | refine ru ?_ | (refine ACall.val (args := [nV a, nV b, nV 10000]) (by kernel_rfl) hd (by (first | rfl | (simp only [renL, AV.ren, List.nil_append, List.cons_append, rens]; try rfl))) rfl ?_; conv => whnf))
    exact AFin.val rfl ⟨rfl, rfl⟩
theorem halfN_le {a b : Nat} (h : DivOk a b 10000) : halfN a b 10000 ≤ a := by
  have h0 := Nat.div_add_mod (a * b) 10000
  have h1 : a * b ≤ a * 10000 := Nat.mul_le_mul (Nat.le_refl _) h.hb
  unfold halfN
  split <;> omega
theorem f506 (a b : Int) (h1 : inB a = true) (h2 : inB b = true) (h3 : inB (a - b) = true) : Fun P 506 [nV a, nV b] (numE (a - b, 0)) := by
  refine spec_of hT (f := 506) (fn := Go.Proofs.Tryz.f506) (c := body Go.Proofs.Tryz.f506) (by kernel_rfl) (by kernel_rfl) ?_
  have ha := f183 a
  have hb := f183 b
  rw [h1] at ha
  rw [h2] at hb
  have i1 := inB_iff.1 h1
  have i2 := inB_iff.1 h2
  have w1 : IntKind.wrap .i64 (a - b) = a - b := wrap_i64 _ (by omega) (by omega)
  conv => whnf
  repeat (first | refine ru ?_ | ((first | refine ACall.val (args := [nV a]) (by kernel_rfl) ha (by (first | rfl | (simp only [renL, AV.ren, List.nil_append, List.cons_append, rens]; try rfl))) rfl ?_ | refine ACall.val (args := [nV b]) (by kernel_rfl) hb (by (first | rfl | (simp only [renL, AV.ren, List.nil_append, List.cons_append, rens]; try rfl))) rfl ?_); conv => whnf))
  rw [w1]
  refine ACall.val (args := [nV (a - b)]) (by kernel_rfl) (f495 (a - b) h3) (by (first | rfl | (simp only [renL, AV.ren, List.nil_append, List.cons_append, rens]; try rfl))) rfl ?_
  conv => whnf
  repeat (first | refine ru ?_ | ((first | refine ACall.val (args := [nV a]) (by kernel_rfl) ha (by (first | rfl | (simp only [renL, AV.ren, List.nil_append, List.cons_append, rens]; try rfl))) rfl ?_ | refine ACall.val (args := [nV b]) (by kernel_rfl) hb (by (first | rfl | (simp only [renL, AV.ren, List.nil_append, List.cons_append, rens]; try rfl))) rfl ?_); conv => whnf))
  exact AFin.val rfl ⟨rfl, rfl⟩
theorem basisB_iff {n : Int} : basisB n = true ↔ 0 ≤ n ∧ n ≤ 10000 := by simp [basisB]
theorem f505 (a b : Nat) (ha : a ≤ 1000000000000) (hb : b ≤ 10000) : Fun P 505 [nV a, nV b] (numE ((halfN a b 10000 : Nat), 0)) := by
  refine spec_of hT (f := 505) (fn := Go.Proofs.Tryz.f505) (c := body Go.Proofs.Tryz.f505) (by kernel_rfl) (by kernel_rfl) ?_
  have hA := f183 a
  have hB := f322 b
  rw [(inB_iff (n := (a : Int))).2 ⟨by omega, by omega⟩] at hA
  rw [(basisB_iff (n := (b : Int))).2 ⟨by omega, by omega⟩] at hB
  conv => whnf
  repeat (first | refine ru ?_ | (refine ACall.val (args := [nV b]) (by kernel_rfl) hB (by (first | rfl | (simp only [renL, AV.ren, List.nil_append, List.cons_append, rens]; try rfl))) rfl ?_; conv => whnf))
  refine ACall.val (args := [nV a]) (by kernel_rfl) hA (by (first | rfl | (simp only [renL, AV.ren, List.nil_append, List.cons_append, rens]; try rfl))) rfl ?_
  conv => whnf
  repeat (first | refine ru ?_ | ((first | refine ACall.val (args := [nV b]) (by kernel_rfl) hB (by (first | rfl | (simp only [renL, AV.ren, List.nil_append, List.cons_append, rens]; try rfl))) rfl ?_ | refine ACall.val (args := [nV a, nV b, nV 10000]) (by kernel_rfl) (f517 a b ⟨ha, by decide, by decide, hb⟩) (by (first | rfl | (simp only [renL, AV.ren, List.nil_append, List.cons_append, rens]; try rfl))) rfl ?_); conv => whnf))
  exact AFin.val rfl ⟨rfl, rfl⟩
theorem f484 (a b : Nat) (ha : a ≤ 1000000000000) (hb : b ≤ 10000) : Fun P 484 [nV a, nV b] (numE ((a : Int) - (halfN a b 10000 : Nat), 0)) := by
  refine spec_of hT (f := 484) (fn := Go.Proofs.Tryz.f484) (c := body Go.Proofs.Tryz.f484) (by kernel_rfl) (by kernel_rfl) ?_
  have hle := halfN_le (a := a) (b := b) ⟨ha, by decide, by decide, hb⟩
  have hf := f505 a b ha hb
  generalize halfN a b 10000 = h at hle hf ⊢
  conv => whnf
  repeat (first | refine ru ?_ | ((first | refine ACall.val (args := [nV a, nV b]) (by kernel_rfl) hf (by (first | rfl | (simp only [renL, AV.ren, List.nil_append, List.cons_append, rens]; try rfl))) rfl ?_ | refine ACall.val (args := [nV a, nV h]) (by kernel_rfl) (f506 a h (inB_iff.2 ⟨by omega, by omega⟩) (inB_iff.2 ⟨by omega, by omega⟩) (inB_iff.2 ⟨by omega, by omega⟩)) (by (first | rfl | (simp only [renL, AV.ren, List.nil_append, List.cons_append, rens]; try rfl))) rfl ?_); conv => whnf))
  exact AFin.val rfl ⟨rfl, rfl⟩
theorem f447 (a b : Nat) (ha : a ≤ 1000000000000) (hb : b ≤ 10000) : Fun P 447 [nV a, nV b] (numE ((a : Int) - (halfN a b 10000 : Nat), 0)) := by
  refine spec_of hT (f := 447) (fn := Go.Proofs.Tryz.f447) (c := body Go.Proofs.Tryz.f447) (by kernel_rfl) (by kernel_rfl) ?_
  conv => whnf
  repeat (first | refine ru ?_ | (refine ACall.val (args := [nV a, nV b]) (by kernel_rfl) (f484 a b ha hb) (by (first | rfl | (simp only [renL, AV.ren, List.nil_append, List.cons_append, rens]; try rfl))) rfl ?_; conv => whnf))
  exact AFin.val rfl ⟨rfl, rfl⟩
theorem feeB_get {fees : List Int} (h : UT.feeB fees = true) {i : Nat} (hi : i < fees.length) : 0 ≤ fees[i] ∧ fees[i] ≤ 10000 := by
  simp only [UT.feeB, decide_eq_true_eq] at h
  obtain ⟨h0, h1, h2, h3, h4, h5⟩ := h
  rcases fees with _ | ⟨a, _ | ⟨b, _ | ⟨c, _ | ⟨d, _ | ⟨e, r⟩⟩⟩⟩⟩ <;> simp at h0
  simp only [List.getD_cons_zero, List.getD_cons_succ] at h1 h2 h3 h4 h5
  match i, hi with
  | 0, _ => exact ⟨by simpa using h1, by simp; omega⟩
  | 1, _ => exact ⟨by simp; omega, by simp; omega⟩
  | 2, _ => exact ⟨by simp; omega, by simp; omega⟩
  | 3, _ => exact ⟨by simp; omega, by simp; omega⟩
/-- what is left of an amount, of a grade -/
def gradeF (a : Int) (fees : List Int) (g : Int) : Int × Int :=
  if UT.feeB fees = true then if 0 ≤ g ∧ g < 4 then (a - (halfN a.toNat (fees.getD g.toNat 0).toNat 10000 : Nat), 0) else (0, 2) else (0, 36)
theorem f396 (a : Int) (fees : List Int) (g : Int) (ha : 0 ≤ a) (ha2 : a ≤ 1000000000000) : Fun P 396 [nV a, isV fees, nV g] (numE (gradeF a fees g)) := by
  refine spec_of hT (f := 396) (fn := Go.Proofs.Tryz.f396) (c := body Go.Proofs.Tryz.f396) (by kernel_rfl) (by kernel_rfl) ?_
  have hf := UT.f238 fees
  rw [isV_iVs] at hf
  generalize hR : gradeF a fees g = R
  unfold gradeF at hR
  conv => whnf
  repeat (first | refine go ?_ | (refine ACall.val (args := [isV fees]) (by kernel_rfl) hf (by (first | rfl | (simp only [renL, AV.ren, List.nil_append, List.cons_append, rens]; try rfl))) rfl ?_; conv => whnf))
  cases hb : UT.feeB fees with
  | false =>
    rw [hb, if_neg (by decide)] at hR
    conv => whnf
    repeat refine ru ?_
    exact AFin.val rfl ⟨congrArg numE hR, rfl⟩
  | true =>
  rw [hb, if_pos rfl] at hR
  conv => whnf
  repeat refine ru ?_
  by_cases h1 : g < 0
  · rw [if_neg (by omega)] at hR
    refine ASplit.yes (decide_eq_true h1) ?_
    conv => whnf
    repeat refine ru ?_
    exact AFin.val rfl ⟨congrArg numE hR, rfl⟩
  refine ASplit.no (decide_eq_false h1) ?_
  conv => whnf
  repeat refine ru ?_
  by_cases h2 : 4 ≤ g
  · rw [if_neg (by omega)] at hR
    refine ACond.yes (decide_eq_true h2) ?_
    conv => whnf
    repeat refine ru ?_
    exact AFin.val rfl ⟨congrArg numE hR, rfl⟩
  refine ACond.no (decide_eq_false h2) ?_
  rw [if_pos ⟨by omega, by omega⟩] at hR
  have hlen : fees.length = 4 := by simp only [UT.feeB, decide_eq_true_eq] at hb; exact hb.1
  have hlt : g.toNat < fees.length := by omega
  have hfb := feeB_get hb hlt
  have hgd : fees.getD g.toNat 0 = fees[g.toNat] := by simp [hlt]
  rw [hgd] at hR
  conv => whnf
  repeat refine ru ?_
  refine AReq.mk (by omega) ?_
  conv => whnf
  repeat refine ru ?_
  refine AIdx.flat (enc := iC) iC_len (xs := fees) (i := g.toNat) hlt ?_
  have hless := f447 a.toNat (fees[g.toNat]).toNat (by omega) (by omega)
  rw [Int.toNat_of_nonneg ha, Int.toNat_of_nonneg hfb.1] at hless
  conv => whnf
  repeat (first | refine ru ?_ | (refine ACall.val (args := [nV a, nV fees[g.toNat]]) (by kernel_rfl) hless (by (first | rfl | (simp only [renL, AV.ren, List.nil_append, List.cons_append, rens]; try rfl))) rfl ?_; conv => whnf))
  exact AFin.val rfl ⟨congrArg numE hR, rfl⟩
end Go.Aw.U1

set_option linter.unusedSimpArgs false
set_option linter.unusedVariables false
set_option maxHeartbeats 4000000
set_option maxRecDepth 30000
namespace Go.Aw.U1
open Go Go.Proofs

def ones (n : Nat) : List Int := List.replicate n 1
theorem ones_len (n : Nat) : (ones n).length = n := by simp [ones]
theorem ones_get {n i : Nat} (h : i < (ones n).length) : (ones n)[i] = 1 := by simp [ones]
theorem f379 (n : Nat) (hn : n ≤ 1000) : Fun P 379 [nV n] (isV (ones n)) := by
  refine spec_of hT (f := 379) (fn := Go.Proofs.Tryz.f379) (c := body Go.Proofs.Tryz.f379) (by kernel_rfl) (by kernel_rfl) ?_
  have hb3 : (T 3).bytes = 8 := by kernel_rfl
  have hml : (ones n).length = (List.replicate n (0 : Int)).length := by simp [ones]
  conv => whnf
  repeat (first | refine go ?_ | (refine AReq.mk (by rw [hb3]; omega) ?_; conv => whnf))
  refine ALoop.mk (fun m E H => ∃ i : Nat, m = n - i ∧ i ≤ n ∧
      E = pad [nV n, .any, .any, .ms 1 0 0 n, .any, .any, .any, .any, nV n, nV i] 17 ∧ H = [.cells 3 ((mix (ones n) (List.replicate n (0 : Int)) i).flatMap iC)]) (n := n) _ _
    ⟨0, rfl, Nat.zero_le _, rfl, ?_⟩ (Conv.fit (by repeat' (first | exact Fit.nil | refine Fit.any ?_ | refine Fit.same ?_))) ?_
  · rw [mix_zero, ← rep_flat]; rfl
  rintro _ _ _ ⟨i, rfl, hi, rfl, rfl⟩
  conv => whnf
  repeat refine go ?_
  refine ACond.dec (fun h => ?_) (fun h => ?_)
  · have hil : i < n := by omega
    have w1 : IntKind.wrap .i64 ((i : Int) + 1) = ((i + 1 : Nat) : Int) := by rw [wrap_i64 _ (by omega) (by omega)]; omega
    have hmx : (mix (ones n) (List.replicate n (0 : Int)) i).length = n := by rw [mix_len hml]; simp
    have hst := mix_set hml (i := i) (by simpa using hil)
    rw [ones_get] at hst
    conv => whnf
    repeat (first | refine go ?_ | (refine AReq.mk (by omega) ?_; conv => whnf))
    refine AReq.mk rfl ?_
    refine AUpd.flat iC_len i 1 ?_ (by rw [hmx]; exact hil) rfl ?_
    · simp
    rw [hst]
    conv => whnf
    repeat (first | refine go ?_ | (refine AReq.mk (by omega) ?_; conv => whnf))
    rw [w1]
    exact AHead.mk (n - (i + 1)) _ _ (by omega) ⟨i + 1, rfl, by omega, rfl, rfl⟩ (Conv.fit (by repeat' (first | exact Fit.nil | refine Fit.any ?_ | refine Fit.same ?_)))
  · obtain rfl : i = n := by omega
    rw [mix_all (by simp [ones]) (by simp)]
    conv => whnf
    repeat refine go ?_
    refine AOut.stay ?_
    conv => whnf
    repeat refine go ?_
    exact AFin.to (isV (ones i)) [] (Conv.out (.sm' rfl (by rw [flat_len iC_len]) rfl (by simp [ones])) (fun ρ => by (first | rfl | (simp only [renL, AV.ren, List.nil_append, List.cons_append, rens]; try rfl)))) ⟨rfl, rfl⟩
theorem add_ones : ∀ (n : Nat) (s : Int), 0 ≤ s → s + n ≤ 1000000 → addT (ones n) s = (s + n, 0)
  | 0, s, _, _ => by simp [ones, addT]
  | n + 1, s, h0, h => by
    have ih := add_ones n (s + 1) (by omega) (by omega)
    rw [show ones (n + 1) = 1 :: ones n from rfl, addT, if_pos (inB_iff.2 ⟨by omega, by omega⟩), if_pos (inB_iff.2 ⟨by omega, by omega⟩), ih]
    congr 1; omega
theorem f435 (n : Nat) (h1 : 1 ≤ n) (hn : n ≤ 200) : Fun P 435 [isV (ones n)] (numE (n, 0)) := by
  refine spec_of hT (f := 435) (fn := Go.Proofs.Tryz.f435) (c := body Go.Proofs.Tryz.f435) (by kernel_rfl) (by kernel_rfl) ?_
  have hl := ones_len n
  have hadd := add_ones n 0 (by omega) (by omega)
  have hf := f105 (ones n) (by omega)
  rw [hadd, Int.zero_add] at hf
  conv => whnf
  repeat refine go ?_
  refine ASplit.no (decide_eq_false (by omega)) ?_
  conv => whnf
  repeat refine go ?_
  refine ACond.no (decide_eq_false (by omega)) ?_
  conv => whnf
  repeat refine go ?_
  refine ALoop.mk (fun m E H => ∃ i : Nat, m = n - i ∧ i ≤ n ∧
      E = pad [isV (ones n), .any, nV 0, nV 0, .any, .any, .any, .any, .any, .any, .any, .any, .any, .any, .any, .any, isV (ones n), nV (ones n).length, nV i] 38 ∧ H = []) (n := n) _ _
    ⟨0, rfl, Nat.zero_le _, rfl, rfl⟩ (Conv.fit (by repeat' (first | exact Fit.nil | refine Fit.any ?_ | refine Fit.same ?_))) ?_
  rintro _ _ _ ⟨i, rfl, hi, rfl, rfl⟩
  conv => whnf
  repeat refine go ?_
  refine ACond.dec (fun h => ?_) (fun h => ?_)
  · have hil : i < (ones n).length := by omega
    have w1 : IntKind.wrap .i64 ((i : Int) + 1) = ((i + 1 : Nat) : Int) := by rw [wrap_i64 _ (by omega) (by omega)]; omega
    conv => whnf
    repeat (first | refine go ?_ | ((first | refine AReq.mk (by omega) ?_ | refine AIdx.flat (enc := iC) iC_len (xs := ones n) (i := i) hil ?_); conv => whnf))
    rw [ones_get]
    refine ACond.no rfl ?_
    conv => whnf
    repeat (first | refine go ?_ | ((first | refine AReq.mk (by omega) ?_ | refine AIdx.flat (enc := iC) iC_len (xs := ones n) (i := i) hil ?_); conv => whnf))
    rw [w1]
    exact AHead.mk (n - (i + 1)) _ _ (by omega) ⟨i + 1, rfl, by omega, rfl, rfl⟩ (Conv.fit (by repeat' (first | exact Fit.nil | refine Fit.any ?_ | refine Fit.same ?_)))
  · conv => whnf
    repeat refine go ?_
    refine AOut.stay ?_
    conv => whnf
    repeat (first | refine ru ?_ | (refine ACall.val (args := [isV (ones n)]) (by kernel_rfl) hf (by (first | rfl | (simp only [renL, AV.ren, List.nil_append, List.cons_append, rens]; try rfl))) rfl ?_; conv => whnf))
    refine ACond.no (decide_eq_false (by omega)) ?_
    conv => whnf
    repeat (first | refine ru ?_ | (refine ACall.val (args := [isV (ones n)]) (by kernel_rfl) hf (by (first | rfl | (simp only [renL, AV.ren, List.nil_append, List.cons_append, rens]; try rfl))) rfl ?_; conv => whnf))
    exact AFin.val rfl ⟨rfl, rfl⟩
theorem f436 (n : Nat) (h1 : 1 ≤ n) (hn : n ≤ 200) : Fun P 436 [isV (ones n)] (nV 1) := by
  refine spec_of hT (f := 436) (fn := Go.Proofs.Tryz.f436) (c := body Go.Proofs.Tryz.f436) (by kernel_rfl) (by kernel_rfl) ?_
  have hl := ones_len n
  conv => whnf
  repeat refine go ?_
  refine ACond.no (decide_eq_false (by omega)) ?_
  conv => whnf
  repeat (first | refine go ?_ | (refine AReq.mk (by omega) ?_; conv => whnf))
  refine AIdx.flat (enc := iC) iC_len (xs := ones n) (i := 0) (by omega) ?_
  conv => whnf
  repeat (first | refine go ?_ | (refine AReq.mk (by omega) ?_; conv => whnf))
  rw [ones_get]
  refine ALoop.mk (fun m E H => ∃ i : Nat, m = n - i ∧ i ≤ n ∧ 1 ≤ i ∧
      E = pad [isV (ones n), .any, nV 0, nV 1, nV i] 25 ∧ H = []) (n := n - 1) _ _
    ⟨1, rfl, h1, Nat.le_refl _, rfl, rfl⟩ (Conv.fit (by repeat' (first | exact Fit.nil | refine Fit.any ?_ | refine Fit.same ?_))) ?_
  rintro _ _ _ ⟨i, rfl, hi, hi1, rfl, rfl⟩
  conv => whnf
  repeat refine go ?_
  refine ACond.dec (fun h => ?_) (fun h => ?_)
  · have hil : i < (ones n).length := by omega
    have w1 : IntKind.wrap .i64 ((i : Int) + 1) = ((i + 1 : Nat) : Int) := by rw [wrap_i64 _ (by omega) (by omega)]; omega
    conv => whnf
    repeat (first | refine go ?_ | ((first | refine AReq.mk (by omega) ?_ | refine AIdx.flat (enc := iC) iC_len (xs := ones n) (i := i) hil ?_); conv => whnf))
    rw [ones_get]
    conv => whnf
    repeat (first | refine ru ?_ | ((first | refine AReq.mk (by omega) ?_ | refine AIdx.flat (enc := iC) iC_len (xs := ones n) (i := i) hil ?_); conv => whnf))
    rw [w1]
    exact AHead.mk (n - (i + 1)) _ _ (by omega) ⟨i + 1, rfl, by omega, by omega, rfl, rfl⟩ (Conv.fit (by repeat' (first | exact Fit.nil | refine Fit.any ?_ | refine Fit.same ?_)))
  · conv => whnf
    repeat refine go ?_
    refine AOut.stay ?_
    conv => whnf
    repeat refine ru ?_
    exact AFin.val rfl ⟨rfl, rfl⟩
/-! ### a sort of what is all alike -/
theorem f232 (a : Int) : Fun P 232 [nV a, nV a] (nV 0) := by
  refine spec_of hT (f := 232) (fn := Go.Proofs.Tryz.f232) (c := body Go.Proofs.Tryz.f232) (by kernel_rfl) (by kernel_rfl) ?_
  have hf := UT.f320 a
  conv => whnf
  repeat (first | refine ru ?_ | (refine ACall.val (args := [nV a]) (by kernel_rfl) hf (by (first | rfl | (simp only [renL, AV.ren, List.nil_append, List.cons_append, rens]; try rfl))) rfl ?_; conv => whnf))
  refine ACond.no (decide_eq_false (by omega)) ?_
  conv => whnf
  repeat (first | refine ru ?_ | (refine ACall.val (args := [nV a]) (by kernel_rfl) hf (by (first | rfl | (simp only [renL, AV.ren, List.nil_append, List.cons_append, rens]; try rfl))) rfl ?_; conv => whnf))
  refine ACond.no (decide_eq_false (by omega)) ?_
  conv => whnf
  repeat (first | refine ru ?_ | (refine ACall.val (args := [nV a]) (by kernel_rfl) hf (by (first | rfl | (simp only [renL, AV.ren, List.nil_append, List.cons_append, rens]; try rfl))) rfl ?_; conv => whnf))
  exact AFin.val rfl ⟨rfl, rfl⟩
def key1 (l : List Int) : AV := .fn 439 [] [.ip [isV l]]
def cmp1 (l : List Int) : AV := .fn 479 [] [.ip [key1 l]]
theorem key1_ren (ρ : Nat → Nat) (l : List Int) : (key1 l).ren ρ = key1 l := by simp only [key1, AV.ren, renL, isV_ren]
theorem cmp1_ren (ρ : Nat → Nat) (l : List Int) : (cmp1 l).ren ρ = cmp1 l := by simp only [cmp1, AV.ren, renL, key1_ren]
theorem f439 (l : List Int) (i : Nat) (h : i < l.length) : Fun P 439 [nV i, .ip [isV l]] (nV l[i]) := by
  refine spec_of hT (f := 439) (fn := Go.Proofs.Tryz.f439) (c := body Go.Proofs.Tryz.f439) (by kernel_rfl) (by kernel_rfl) ?_
  conv => whnf
  repeat (first | refine go ?_ | ((first | refine AReq.mk (by omega) ?_ | refine AIdx.flat (enc := iC) iC_len (xs := l) (i := i) h ?_); conv => whnf))
  exact AFin.val rfl ⟨rfl, rfl⟩
theorem f479 (l : List Int) (i j : Nat) (hi : i < l.length) (hj : j < l.length) (he : l[i] = l[j]) : Fun P 479 [nV i, nV j, .ip [key1 l]] (nV 0) := by
  refine spec_of hT (f := 479) (fn := Go.Proofs.Tryz.f479) (c := body Go.Proofs.Tryz.f479) (by kernel_rfl) (by kernel_rfl) ?_
  conv => whnf
  repeat (first | refine go ?_ | ((first | refine AW.plan (id := 1) hm (.one 1 (.one 4 (.one 0 (.imm 3 (.one 2 (.one 5 (.one 6 (.one 7 .nil)))))))) (by kernel_rfl) ?_ | refine ACall.val (args := [nV j, .ip [isV l]]) (by kernel_rfl) (f439 l j hj) (by (first | rfl | (simp only [renL, AV.ren, List.nil_append, List.cons_append, rens]; try rfl))) rfl ?_ | refine ACall.val (args := [nV i, .ip [isV l]]) (by kernel_rfl) (f439 l i hi) (by (first | rfl | (simp only [renL, AV.ren, List.nil_append, List.cons_append, rens]; try rfl))) rfl ?_); conv => whnf))
  rw [he]
  refine ACall.val (args := [nV l[j], nV l[j]]) (by kernel_rfl) (f232 l[j]) (by (first | rfl | (simp only [renL, AV.ren, List.nil_append, List.cons_append, rens]; try rfl))) rfl ?_
  conv => whnf
  repeat (first | refine go ?_ | ((first | refine AW.plan (id := 1) hm (.one 1 (.one 4 (.one 0 (.imm 3 (.one 2 (.one 5 (.one 6 (.one 7 .nil)))))))) (by kernel_rfl) ?_ | refine ACall.val (args := [nV j, .ip [isV l]]) (by kernel_rfl) (f439 l j hj) (by (first | rfl | (simp only [renL, AV.ren, List.nil_append, List.cons_append, rens]; try rfl))) rfl ?_ | refine ACall.val (args := [nV i, .ip [isV l]]) (by kernel_rfl) (f439 l i hi) (by (first | rfl | (simp only [renL, AV.ren, List.nil_append, List.cons_append, rens]; try rfl))) rfl ?_); conv => whnf))
  exact AFin.val rfl ⟨rfl, rfl⟩
end Go.Aw.U1

