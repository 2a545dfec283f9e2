/-
  The statement TotalLives: a row that is not dead decides on some facts, without any condition.
-/
import Derived.Test.YthmbmefnohoifaaTtB
set_option linter.unusedSimpArgs false
set_option linter.unusedVariables false
set_option linter.unusedSimpArgs false
set_option linter.unusedVariables false
set_option maxHeartbeats 1000000
namespace Go.Aw.T1
open Go Go.Proofs

/-! ### the first amount that no span has -/
def covS (l : List (Int × Int)) (m : Int) : Prop := ∃ s ∈ l, s.1 ≤ m ∧ m ≤ s.2
theorem hol_spec : ∀ (S : List (Int × Int)) (n : Int), S.Pairwise (fun x y => spLt y x = false) → (∀ s ∈ S, s.1 ≤ s.2) → n ≤ holF S n ∧ ¬ covS S (holF S n) ∧ ∀ m, n ≤ m → m < holF S n → covS S m
  | [], n, _, _ => by
    rw [holF]
    exact ⟨Int.le_refl _, by rintro ⟨s, hs, _⟩; simp at hs, fun m h1 h2 => by omega⟩
  | s :: ss, n, hp, hs => by
    rw [List.pairwise_cons] at hp
    have hs1 := hs s (by simp)
    rw [holF]
    split
    · rename_i h
      refine ⟨Int.le_refl _, ?_, fun m h1 h2 => by omega⟩
      rintro ⟨t, ht, h1, h2⟩
      rcases List.mem_cons.1 ht with rfl | ht
      · omega
      · have := hp.1 t ht
        simp only [spLt, decide_eq_false_iff_not] at this
        omega
    · rename_i h
      obtain ⟨g1, g2, g3⟩ := hol_spec ss (if s.2 + 1 > n then s.2 + 1 else n) hp.2 (fun t ht => hs t (by simp [ht]))
      have hn : n ≤ (if s.2 + 1 > n then s.2 + 1 else n) ∧ s.2 + 1 ≤ (if s.2 + 1 > n then s.2 + 1 else n) := by split <;> omega
      refine ⟨by omega, ?_, fun m h1 h2 => ?_⟩
      · rintro ⟨t, ht, h1, h2⟩
        rcases List.mem_cons.1 ht with rfl | ht
        · omega
        · exact g2 ⟨t, ht, h1, h2⟩
      · by_cases hm : m ≤ s.2
        · exact ⟨s, by simp, by omega, hm⟩
        · have : (if s.2 + 1 > n then s.2 + 1 else n) ≤ m := by split <;> omega
          obtain ⟨t, ht, h3⟩ := g3 m this h2
          exact ⟨t, by simp [ht], h3⟩
theorem hol_uniq {S S' : List (Int × Int)} {n : Int} (hp : S.Pairwise (fun x y => spLt y x = false)) (hp' : S'.Pairwise (fun x y => spLt y x = false)) (hs : ∀ s ∈ S, s.1 ≤ s.2) (h : S.Perm S') : holF S n = holF S' n := by
  obtain ⟨a1, a2, a3⟩ := hol_spec S n hp hs
  obtain ⟨b1, b2, b3⟩ := hol_spec S' n hp' (fun s h' => hs s (h.mem_iff.2 h'))
  have hc : ∀ m, covS S m ↔ covS S' m := fun m => ⟨fun ⟨s, hs, h1⟩ => ⟨s, h.mem_iff.1 hs, h1⟩, fun ⟨s, hs, h1⟩ => ⟨s, h.mem_iff.2 hs, h1⟩⟩
  rcases Int.lt_trichotomy (holF S n) (holF S' n) with h1 | h1 | h1
  · exact absurd ((hc _).2 (b3 _ a1 h1)) a2
  · exact h1
  · exact absurd ((hc _).1 (a3 _ b1 h1)) b2
def srt (l : List (Int × Int)) : List (Int × Int) := l.mergeSort fun x y => decide (x.1 ≤ y.1)
theorem srt_ok (l : List (Int × Int)) : (srt l).Perm l ∧ (srt l).Pairwise (fun x y => spLt y x = false) := by
  refine ⟨List.mergeSort_perm _ _, ?_⟩
  have := List.pairwise_mergeSort (le := fun (x y : Int × Int) => decide (x.1 ≤ y.1)) (fun a b c h1 h2 => by simp at *; omega) (fun a b => by simp; omega) l
  exact this.imp (by intro a b h; simp [spLt] at *; omega)
/-- the first amount from n on that no row with a cell has -/
def holC (l : List Ro) (c : Nat) (n : Int) : Int := holF (srt (spc l c)) n
theorem spc_mem {l : List Ro} {c : Nat} {s : Int × Int} (h : s ∈ spc l c) : ∃ r ∈ l, inB r c = true ∧ s = (r.lo, r.hi) := by
  unfold spc at h
  obtain ⟨r, hr, rfl⟩ := List.mem_map.1 h
  rw [List.mem_filter] at hr
  exact ⟨r, hr.1, hr.2, rfl⟩
theorem spc_ok {l : List Ro} (hr : ∀ r ∈ l, rowB r = true) {c : Nat} {s : Int × Int} (h : s ∈ spc l c) : s.1 ≤ s.2 ∧ 0 ≤ s.1 ∧ s.2 ≤ 1000000000000 := by
  obtain ⟨r, h1, _, rfl⟩ := spc_mem h
  have := rowB_iff.1 (hr r h1)
  exact ⟨this.2.2.2.2.2.1, this.2.2.2.2.1, this.2.2.2.2.2.2.1⟩
theorem hol_eq {l : List Ro} {S : List (List (Int × Int))} (hS : spOk l S 8) (hr : ∀ r ∈ l, rowB r = true) {c : Nat} (hc : c < 8) (n : Int) : holF (S[c]'(by rw [hS.1]; exact hc)) n = holC l c n := by
  have hc' : c < S.length := by rw [hS.1]; exact hc
  obtain ⟨h1, h2⟩ := hS.2 c hc'
  obtain ⟨h3, h4⟩ := srt_ok (spc l c)
  exact hol_uniq h2 h4 (fun s hs => (spc_ok hr (h1.mem_iff.1 hs)).1) (h1.trans h3.symm)
def gapG (l : List Ro) : List Nat → Fc × Bool
  | [] => (⟨0, false, 0⟩, false)
  | c :: cs => if holC l c 0 ≤ 1000000000000 then (fcOf c (holC l c 0), true) else gapG l cs
def gapF (l : List Ro) : Fc × Bool := if tabB l then gapG l (List.range 8) else (⟨0, false, 0⟩, true)
theorem aggS_ren (ρ : Nat → Nat) (S : List (List (Int × Int))) : (AV.agg (S.map spV)).ren ρ = .agg (S.map spV) := by
  show AV.agg (renL ρ (S.map spV)) = _
  rw [spsR]
theorem spans_call {H : List ABlk} {K : AV → List ABlk → Prop} (l : List Ro) (hl : l.length ≤ 20) (hr : ∀ r ∈ l, rowB r = true) (k : ∀ S, spOk l S 8 → K (.agg (S.map spV)) H) : ACall P 23 [roV l] H K := by
  refine ACall.out (by kernel_rfl) (f23 l hl hr) (roV1 _ _) ?_
  rintro r ⟨S, hS, rfl⟩
  rw [aggS_ren]
  exact k S hS
theorem half_c {c : Nat} (h : c < 8) : IntKind.wrap .i64 ((c : Int).tdiv 2) = ((c / 2 : Nat) : Int) ∧ decide ((c : Int).tmod 2 = 1) = decide (c % 2 = 1) := by
  rw [Int.tdiv_eq_ediv_of_nonneg (by omega), Int.tmod_eq_emod_of_nonneg (by omega), wrap_i64 _ (by omega) (by omega)]
  refine ⟨by omega, ?_⟩
  congr 1
  exact propext ⟨fun h => by omega, fun h => by omega⟩
theorem f8 (l : List Ro) : Fun P 8 [roV l] (.tup [fcA (gapF l).1, bV (gapF l).2]) := by
  refine spec_of hT (f := 8) (fn := Go.Proofs.Try.f8) (c := body Go.Proofs.Try.f8) (by kernel_rfl) (by kernel_rfl) ?_
  unfold gapF
  conv => whnf
  repeat ((first | refine AO.cons hT ?_ | refine AO.nil ?_ | refine AW.seq ?_ | refine AW.region ?_ | refine AW.cond ?_ | refine AW.block ?_ | refine AW.loop ?_ | refine AW.skip ?_ | refine AW.exit ?_ | refine AW.ret ?_ | refine AW.label ?_ | refine AW.scope ?_ | refine AF.one hT rfl ?_ | refine AF.nil ?_ | refine AF.imm hT rfl rfl rfl ?_ | refine AH.of hT rfl ?_ | refine AD.cons hT rfl ?_ | refine AD.nil ?_ | refine AQ.cons hT rfl ?_ | refine AQ.nil ?_); conv => whnf)
  refine ACall.val (by kernel_rfl) (f18 l) (roV1 _ _) rfl ?_
  rcases Bool.eq_false_or_eq_true (tabB l) with g | g
  case inr =>
    simp only [g, Bool.false_eq_true, if_false]
    conv => whnf
    repeat ((first | refine AO.cons hT ?_ | refine AO.nil ?_ | refine AW.seq ?_ | refine AW.region ?_ | refine AW.cond ?_ | refine AW.block ?_ | refine AW.loop ?_ | refine AW.skip ?_ | refine AW.exit ?_ | refine AW.ret ?_ | refine AW.label ?_ | refine AW.scope ?_ | refine AF.one hT rfl ?_ | refine AF.nil ?_ | refine AF.imm hT rfl rfl rfl ?_ | refine AH.of hT rfl ?_ | refine AD.cons hT rfl ?_ | refine AD.nil ?_ | refine AQ.cons hT rfl ?_ | refine AQ.nil ?_); conv => whnf)
    refine ACond.yes rfl ?_
    conv => whnf
    repeat ((first | refine AO.cons hT ?_ | refine AO.nil ?_ | refine AW.seq ?_ | refine AW.region ?_ | refine AW.cond ?_ | refine AW.block ?_ | refine AW.loop ?_ | refine AW.skip ?_ | refine AW.exit ?_ | refine AW.ret ?_ | refine AW.label ?_ | refine AW.scope ?_ | refine AF.one hT rfl ?_ | refine AF.nil ?_ | refine AF.imm hT rfl rfl rfl ?_ | refine AH.of hT rfl ?_ | refine AD.cons hT rfl ?_ | refine AD.nil ?_ | refine AQ.cons hT rfl ?_ | refine AQ.nil ?_); conv => whnf)
    exact AFin.val rfl ⟨rfl, rfl⟩
  obtain ⟨t1, t2, t3⟩ := tabB_row g
  simp only [g, if_true]
  conv => whnf
  repeat ((first | refine AO.cons hT ?_ | refine AO.nil ?_ | refine AW.seq ?_ | refine AW.region ?_ | refine AW.cond ?_ | refine AW.block ?_ | refine AW.loop ?_ | refine AW.skip ?_ | refine AW.exit ?_ | refine AW.ret ?_ | refine AW.label ?_ | refine AW.scope ?_ | refine AF.one hT rfl ?_ | refine AF.nil ?_ | refine AF.imm hT rfl rfl rfl ?_ | refine AH.of hT rfl ?_ | refine AD.cons hT rfl ?_ | refine AD.nil ?_ | refine AQ.cons hT rfl ?_ | refine AQ.nil ?_); conv => whnf)
  refine ACond.no rfl ?_
  conv => whnf
  repeat ((first | refine AO.cons hT ?_ | refine AO.nil ?_ | refine AW.seq ?_ | refine AW.region ?_ | refine AW.cond ?_ | refine AW.block ?_ | refine AW.loop ?_ | refine AW.skip ?_ | refine AW.exit ?_ | refine AW.ret ?_ | refine AW.label ?_ | refine AW.scope ?_ | refine AF.one hT rfl ?_ | refine AF.nil ?_ | refine AF.imm hT rfl rfl rfl ?_ | refine AH.of hT rfl ?_ | refine AD.cons hT rfl ?_ | refine AD.nil ?_ | refine AQ.cons hT rfl ?_ | refine AQ.nil ?_); conv => whnf)
  refine spans_call l t1 t3 (fun S hS => ?_)
  have hSl := hS.1
  conv => whnf
  repeat ((first | refine AO.cons hT ?_ | refine AO.nil ?_ | refine AW.seq ?_ | refine AW.region ?_ | refine AW.cond ?_ | refine AW.block ?_ | refine AW.loop ?_ | refine AW.skip ?_ | refine AW.exit ?_ | refine AW.ret ?_ | refine AW.label ?_ | refine AW.scope ?_ | refine AF.one hT rfl ?_ | refine AF.nil ?_ | refine AF.imm hT rfl rfl rfl ?_ | refine AH.of hT rfl ?_ | refine AD.cons hT rfl ?_ | refine AD.nil ?_ | refine AQ.cons hT rfl ?_ | refine AQ.nil ?_); conv => whnf)
  refine ALoop.mk (fun j E H => ∃ (c : Nat), j + c = 8 ∧ gapG l ((List.range 8).drop c) = gapG l (List.range 8) ∧ E = pad ([.any, .any, .ptr 0 0, .v (.bool false)] ++ List.replicate 9 .any ++ [.agg (S.map spV), nV c]) 34 ∧ H = [.cells 28 (fcC ⟨0, false, 0⟩)])
    (n := 8) _ _ ⟨0, rfl, rfl, rfl, rfl⟩ (Conv.fit (by repeat' (first | exact Fit.nil | refine Fit.any ?_ | refine Fit.same ?_))) ?_
  rintro j _ _ ⟨c, hj, hg, rfl, rfl⟩
  conv => whnf
  repeat ((first | refine AO.cons hT ?_ | refine AO.nil ?_ | refine AW.seq ?_ | refine AW.region ?_ | refine AW.cond ?_ | refine AW.block ?_ | refine AW.loop ?_ | refine AW.skip ?_ | refine AW.exit ?_ | refine AW.ret ?_ | refine AW.label ?_ | refine AW.scope ?_ | refine AF.one hT rfl ?_ | refine AF.nil ?_ | refine AF.imm hT rfl rfl rfl ?_ | refine AH.of hT rfl ?_ | refine AD.cons hT rfl ?_ | refine AD.nil ?_ | refine AQ.cons hT rfl ?_ | refine AQ.nil ?_); conv => whnf)
  refine ACond.dec (fun h1 => ?_) (fun h1 => ?_)
  · have hc8 : c < 8 := by omega
    have hcS : c < S.length := by omega
    have w0 : IntKind.wrap .i64 ((c : Int) + 1) = ((c + 1 : Nat) : Int) := by rw [wrap_i64 _ (by omega) (by omega)]; omega
    have hdr : (List.range 8).drop c = c :: (List.range 8).drop (c + 1) := by
      rw [List.drop_eq_getElem_cons (by simpa using hc8), List.getElem_range]
    have hpm := (hS.2 c hcS).1
    have hall : ∀ s ∈ S[c], s.1 ≤ s.2 ∧ 0 ≤ s.1 ∧ s.2 ≤ 1000000000000 := fun s hs => spc_ok t3 (hpm.mem_iff.1 hs)
    have hlen : S[c].length ≤ 20 := by rw [hpm.length_eq]; exact Nat.le_trans (spc_le l c) t1
    have h24 := f24 S[c] 0 1000000000000 (by omega) (fun s hs => by have := hall s hs; omega)
    rw [hol_eq hS t3 hc8] at h24
    rw [hdr, gapG] at hg
    conv => whnf
    repeat ((first | refine AO.cons hT ?_ | refine AO.nil ?_ | refine AW.seq ?_ | refine AW.region ?_ | refine AW.cond ?_ | refine AW.block ?_ | refine AW.loop ?_ | refine AW.skip ?_ | refine AW.exit ?_ | refine AW.ret ?_ | refine AW.label ?_ | refine AW.scope ?_ | refine AF.one hT rfl ?_ | refine AF.nil ?_ | refine AF.imm hT rfl rfl rfl ?_ | refine AH.of hT rfl ?_ | refine AD.cons hT rfl ?_ | refine AD.nil ?_ | refine AQ.cons hT rfl ?_ | refine AQ.nil ?_ | (refine AReq.mk (by omega) ?_) | (refine AIdx.map1 (f := spV) (xs := S) (i := c) hcS ?_) | (refine ACall.val (by kernel_rfl) h24 (show renL _ [spV S[c], .agg [nV 0, nV 1000000000000]] = [spV S[c], .agg [nV 0, nV 1000000000000]] by show [(spV S[c]).ren _, _] = _; rw [spV_ren]; rfl) rfl ?_)); conv => whnf)
    refine ACond.dec (fun h2 => ?_) (fun h2 => ?_)
    · rw [if_pos h2] at hg
      rw [← hg]
      unfold fcOf
      conv => whnf
      repeat ((first | refine AO.cons hT ?_ | refine AO.nil ?_ | refine AW.seq ?_ | refine AW.region ?_ | refine AW.cond ?_ | refine AW.block ?_ | refine AW.loop ?_ | refine AW.skip ?_ | refine AW.exit ?_ | refine AW.ret ?_ | refine AW.label ?_ | refine AW.scope ?_ | refine AF.one hT rfl ?_ | refine AF.nil ?_ | refine AF.imm hT rfl rfl rfl ?_ | refine AH.of hT rfl ?_ | refine AD.cons hT rfl ?_ | refine AD.nil ?_ | refine AQ.cons hT rfl ?_ | refine AQ.nil ?_ | (refine AReq.mk (by omega) ?_) | (refine AIdx.map1 (f := spV) (xs := S) (i := c) hcS ?_) | (refine ACall.val (by kernel_rfl) h24 (show renL _ [spV S[c], .agg [nV 0, nV 1000000000000]] = [spV S[c], .agg [nV 0, nV 1000000000000]] by show [(spV S[c]).ren _, _] = _; rw [spV_ren]; rfl) rfl ?_) | (refine AReq.mk (by decide) ?_)); conv => whnf)
      rw [(half_c hc8).1, (half_c hc8).2]
      refine AOut.stay ?_
      conv => whnf
      repeat ((first | refine AO.cons hT ?_ | refine AO.nil ?_ | refine AW.seq ?_ | refine AW.region ?_ | refine AW.cond ?_ | refine AW.block ?_ | refine AW.loop ?_ | refine AW.skip ?_ | refine AW.exit ?_ | refine AW.ret ?_ | refine AW.label ?_ | refine AW.scope ?_ | refine AF.one hT rfl ?_ | refine AF.nil ?_ | refine AF.imm hT rfl rfl rfl ?_ | refine AH.of hT rfl ?_ | refine AD.cons hT rfl ?_ | refine AD.nil ?_ | refine AQ.cons hT rfl ?_ | refine AQ.nil ?_ | (refine AReq.mk (by omega) ?_) | (refine AIdx.map1 (f := spV) (xs := S) (i := c) hcS ?_) | (refine ACall.val (by kernel_rfl) h24 (show renL _ [spV S[c], .agg [nV 0, nV 1000000000000]] = [spV S[c], .agg [nV 0, nV 1000000000000]] by show [(spV S[c]).ren _, _] = _; rw [spV_ren]; rfl) rfl ?_) | (refine AReq.mk (by decide) ?_)); conv => whnf)
      exact AFin.val rfl ⟨rfl, rfl⟩
    · rw [if_neg h2] at hg
      conv => whnf
      repeat ((first | refine AO.cons hT ?_ | refine AO.nil ?_ | refine AW.seq ?_ | refine AW.region ?_ | refine AW.cond ?_ | refine AW.block ?_ | refine AW.loop ?_ | refine AW.skip ?_ | refine AW.exit ?_ | refine AW.ret ?_ | refine AW.label ?_ | refine AW.scope ?_ | refine AF.one hT rfl ?_ | refine AF.nil ?_ | refine AF.imm hT rfl rfl rfl ?_ | refine AH.of hT rfl ?_ | refine AD.cons hT rfl ?_ | refine AD.nil ?_ | refine AQ.cons hT rfl ?_ | refine AQ.nil ?_ | (refine AReq.mk (by omega) ?_) | (refine AIdx.map1 (f := spV) (xs := S) (i := c) hcS ?_) | (refine ACall.val (by kernel_rfl) h24 (show renL _ [spV S[c], .agg [nV 0, nV 1000000000000]] = [spV S[c], .agg [nV 0, nV 1000000000000]] by show [(spV S[c]).ren _, _] = _; rw [spV_ren]; rfl) rfl ?_) | (refine AReq.mk (by decide) ?_)); conv => whnf)
      rw [w0]
      refine AHead.mk (j - 1) _ _ (by omega) ⟨c + 1, by omega, hg, rfl, rfl⟩ (Conv.fit (by repeat' (first | exact Fit.nil | refine Fit.any ?_ | refine Fit.same ?_)))
  · obtain rfl : c = 8 := by omega
    have hg' : gapG l [] = gapG l (List.range 8) := hg
    rw [← hg', gapG]
    conv => whnf
    repeat ((first | refine AO.cons hT ?_ | refine AO.nil ?_ | refine AW.seq ?_ | refine AW.region ?_ | refine AW.cond ?_ | refine AW.block ?_ | refine AW.loop ?_ | refine AW.skip ?_ | refine AW.exit ?_ | refine AW.ret ?_ | refine AW.label ?_ | refine AW.scope ?_ | refine AF.one hT rfl ?_ | refine AF.nil ?_ | refine AF.imm hT rfl rfl rfl ?_ | refine AH.of hT rfl ?_ | refine AD.cons hT rfl ?_ | refine AD.nil ?_ | refine AQ.cons hT rfl ?_ | refine AQ.nil ?_); conv => whnf)
    refine AOut.stay ?_
    conv => whnf
    repeat ((first | refine AO.cons hT ?_ | refine AO.nil ?_ | refine AW.seq ?_ | refine AW.region ?_ | refine AW.cond ?_ | refine AW.block ?_ | refine AW.loop ?_ | refine AW.skip ?_ | refine AW.exit ?_ | refine AW.ret ?_ | refine AW.label ?_ | refine AW.scope ?_ | refine AF.one hT rfl ?_ | refine AF.nil ?_ | refine AF.imm hT rfl rfl rfl ?_ | refine AH.of hT rfl ?_ | refine AD.cons hT rfl ?_ | refine AD.nil ?_ | refine AQ.cons hT rfl ?_ | refine AQ.nil ?_); conv => whnf)
    exact AFin.val rfl ⟨rfl, rfl⟩
theorem f12 (l : List Ro) : Fun P 12 [roV l] (bV (!(gapF l).2)) := by
  refine spec_of hT (f := 12) (fn := Go.Proofs.Try.f12) (c := body Go.Proofs.Try.f12) (by kernel_rfl) (by kernel_rfl) ?_
  conv => whnf
  repeat ((first | refine AO.cons hT ?_ | refine AO.nil ?_ | refine AW.seq ?_ | refine AW.region ?_ | refine AW.cond ?_ | refine AW.block ?_ | refine AW.loop ?_ | refine AW.skip ?_ | refine AW.exit ?_ | refine AW.ret ?_ | refine AW.label ?_ | refine AW.scope ?_ | refine AF.one hT rfl ?_ | refine AF.nil ?_ | refine AF.imm hT rfl rfl rfl ?_ | refine AH.of hT rfl ?_ | refine AD.cons hT rfl ?_ | refine AD.nil ?_ | refine AQ.cons hT rfl ?_ | refine AQ.nil ?_); conv => whnf)
  refine ACall.val (by kernel_rfl) (f8 l) (roV1 _ _) rfl ?_
  conv => whnf
  repeat ((first | refine AO.cons hT ?_ | refine AO.nil ?_ | refine AW.seq ?_ | refine AW.region ?_ | refine AW.cond ?_ | refine AW.block ?_ | refine AW.loop ?_ | refine AW.skip ?_ | refine AW.exit ?_ | refine AW.ret ?_ | refine AW.label ?_ | refine AW.scope ?_ | refine AF.one hT rfl ?_ | refine AF.nil ?_ | refine AF.imm hT rfl rfl rfl ?_ | refine AH.of hT rfl ?_ | refine AD.cons hT rfl ?_ | refine AD.nil ?_ | refine AQ.cons hT rfl ?_ | refine AQ.nil ?_); conv => whnf)
  exact AFin.val rfl ⟨rfl, rfl⟩
def liveG (l : List Ro) (r : Ro) : List Nat → Bool
  | [] => false
  | c :: cs => if holC l c r.lo ≤ r.hi ∧ inB r c = true then true else liveG l r cs
def liveB (l : List Ro) (i : Nat) : Bool := match l[i]? with | some r => liveG (l.take i) r (List.range 8) | none => false
theorem f29 (l : List Ro) (i : Nat) (hi : i < l.length) (hl : l.length ≤ 20) (hr : ∀ r ∈ l, rowB r = true) : Spec P 29 [nV i, .ptr 0 0] [.ice 23 [roV l]] fun r H' => r = bV (liveB l i) ∧ H' = [.ice 23 [roV l]] := by
  refine spec_of hT (f := 29) (fn := Go.Proofs.Try.f29) (c := body Go.Proofs.Try.f29) (by kernel_rfl) (by kernel_rfl) ?_
  have hri := hr _ (List.getElem_mem hi)
  have e : liveB l i = liveG (l.take i) l[i] (List.range 8) := by unfold liveB; rw [List.getElem?_eq_getElem hi]
  rw [e]
  have hrt : ∀ r ∈ l.take i, rowB r = true := fun r h => hr r (List.mem_of_mem_take h)
  have htl : (l.take i).length ≤ 20 := by rw [List.length_take]; omega
  have hroV : roV (l.take i) = .vs 5 (i - 0) (((l.flatMap roC).drop (0 * 5)).take ((i - 0) * 5)) := by
    unfold roV
    rw [List.length_take, Nat.min_eq_left (by omega), Nat.zero_mul, List.drop_zero, Nat.sub_zero, flat_takeG roC_len]
  conv => whnf
  repeat ((first | refine AW.plan (id := 4) hm (.one 0 (.one 2 (.one 7 (.imm 1 (.one 3 (.one 4 (.one 6 (.one 8 (.one 9 (.one 5 (.one 10 (.one 11 (.one 12 (.one 13 (.one 14 (.one 15 (.one 16 (.one 17 .nil)))))))))))))))))) (by kernel_rfl) ?_ | refine AO.cons hT ?_ | refine AO.nil ?_ | refine AW.seq ?_ | refine AW.region ?_ | refine AW.cond ?_ | refine AW.block ?_ | refine AW.loop ?_ | refine AW.skip ?_ | refine AW.exit ?_ | refine AW.ret ?_ | refine AW.label ?_ | refine AW.scope ?_ | refine AF.one hT rfl ?_ | refine AF.nil ?_ | refine AF.imm hT rfl rfl rfl ?_ | refine AH.of hT rfl ?_ | refine AD.cons hT rfl ?_ | refine AD.nil ?_ | refine AQ.cons hT rfl ?_ | refine AQ.nil ?_ | (refine AReq.mk ⟨by omega, by omega⟩ ?_) | (refine ACut.iff.2 ⟨by rw [flat_length roC_len]; show 0 * 5 + (Int.toNat (i : Int) - 0) * 5 ≤ _; omega, ?_⟩)); conv => whnf)
  rw [Int.toNat_natCast, ← hroV]
  refine spans_call (l.take i) htl hrt (fun S hS => ?_)
  have hSl := hS.1
  conv => whnf
  repeat ((first | refine AW.plan (id := 4) hm (.one 0 (.one 2 (.one 7 (.imm 1 (.one 3 (.one 4 (.one 6 (.one 8 (.one 9 (.one 5 (.one 10 (.one 11 (.one 12 (.one 13 (.one 14 (.one 15 (.one 16 (.one 17 .nil)))))))))))))))))) (by kernel_rfl) ?_ | refine AO.cons hT ?_ | refine AO.nil ?_ | refine AW.seq ?_ | refine AW.region ?_ | refine AW.cond ?_ | refine AW.block ?_ | refine AW.loop ?_ | refine AW.skip ?_ | refine AW.exit ?_ | refine AW.ret ?_ | refine AW.label ?_ | refine AW.scope ?_ | refine AF.one hT rfl ?_ | refine AF.nil ?_ | refine AF.imm hT rfl rfl rfl ?_ | refine AH.of hT rfl ?_ | refine AD.cons hT rfl ?_ | refine AD.nil ?_ | refine AQ.cons hT rfl ?_ | refine AQ.nil ?_); conv => whnf)
  refine ALoop.mk (fun j E H => ∃ (c : Nat), j + c = 8 ∧ liveG (l.take i) l[i] ((List.range 8).drop c) = liveG (l.take i) l[i] (List.range 8) ∧ E = pad ([nV i, .ptr 0 0, .any, bV false] ++ List.replicate 7 .any ++ [.agg (S.map spV), nV c]) 42 ∧ H = [.ice 23 [roV l]])
    (n := 8) _ _ ⟨0, rfl, rfl, rfl, rfl⟩ (Conv.fit (by repeat' (first | exact Fit.nil | refine Fit.any ?_ | refine Fit.same ?_))) ?_
  rintro j _ _ ⟨c, hj, hg, rfl, rfl⟩
  conv => whnf
  repeat ((first | refine AW.plan (id := 4) hm (.one 0 (.one 2 (.one 7 (.imm 1 (.one 3 (.one 4 (.one 6 (.one 8 (.one 9 (.one 5 (.one 10 (.one 11 (.one 12 (.one 13 (.one 14 (.one 15 (.one 16 (.one 17 .nil)))))))))))))))))) (by kernel_rfl) ?_ | refine AO.cons hT ?_ | refine AO.nil ?_ | refine AW.seq ?_ | refine AW.region ?_ | refine AW.cond ?_ | refine AW.block ?_ | refine AW.loop ?_ | refine AW.skip ?_ | refine AW.exit ?_ | refine AW.ret ?_ | refine AW.label ?_ | refine AW.scope ?_ | refine AF.one hT rfl ?_ | refine AF.nil ?_ | refine AF.imm hT rfl rfl rfl ?_ | refine AH.of hT rfl ?_ | refine AD.cons hT rfl ?_ | refine AD.nil ?_ | refine AQ.cons hT rfl ?_ | refine AQ.nil ?_); conv => whnf)
  refine ACond.dec (fun h1 => ?_) (fun h1 => ?_)
  · have hc8 : c < 8 := by omega
    have hcS : c < S.length := by omega
    have w0 : IntKind.wrap .i64 ((c : Int) + 1) = ((c + 1 : Nat) : Int) := by rw [wrap_i64 _ (by omega) (by omega)]; omega
    have hdr : (List.range 8).drop c = c :: (List.range 8).drop (c + 1) := by
      rw [List.drop_eq_getElem_cons (by simpa using hc8), List.getElem_range]
    have hpm := (hS.2 c hcS).1
    have hall : ∀ s ∈ S[c], s.1 ≤ s.2 ∧ 0 ≤ s.1 ∧ s.2 ≤ 1000000000000 := fun s hs => spc_ok hrt (hpm.mem_iff.1 hs)
    have hlen : S[c].length ≤ 20 := by rw [hpm.length_eq]; exact Nat.le_trans (spc_le (l.take i) c) htl
    have h24 := f24 S[c] l[i].lo l[i].hi (by omega) (fun s hs => by have := hall s hs; omega)
    rw [hol_eq hS hrt hc8] at h24
    rw [hdr, liveG] at hg
    conv => whnf
    repeat ((first | refine AW.plan (id := 4) hm (.one 0 (.one 2 (.one 7 (.imm 1 (.one 3 (.one 4 (.one 6 (.one 8 (.one 9 (.one 5 (.one 10 (.one 11 (.one 12 (.one 13 (.one 14 (.one 15 (.one 16 (.one 17 .nil)))))))))))))))))) (by kernel_rfl) ?_ | refine AO.cons hT ?_ | refine AO.nil ?_ | refine AW.seq ?_ | refine AW.region ?_ | refine AW.cond ?_ | refine AW.block ?_ | refine AW.loop ?_ | refine AW.skip ?_ | refine AW.exit ?_ | refine AW.ret ?_ | refine AW.label ?_ | refine AW.scope ?_ | refine AF.one hT rfl ?_ | refine AF.nil ?_ | refine AF.imm hT rfl rfl rfl ?_ | refine AH.of hT rfl ?_ | refine AD.cons hT rfl ?_ | refine AD.nil ?_ | refine AQ.cons hT rfl ?_ | refine AQ.nil ?_ | (refine AReq.mk (by omega) ?_) | (refine AIdx.map1 (f := spV) (xs := S) (i := c) hcS ?_) | (refine AIdx.flat (enc := roC) roC_len (xs := l) (i := i) hi ?_) | (refine ACall.val (by kernel_rfl) h24 (show renL _ [spV S[c], .agg [nV l[i].lo, nV l[i].hi]] = [spV S[c], .agg [nV l[i].lo, nV l[i].hi]] by show [(spV S[c]).ren _, _] = _; rw [spV_ren]; rfl) rfl ?_) | (refine ACall.val (by kernel_rfl) (f30 l[i] c hri hc8) rfl rfl ?_)); conv => whnf)
    refine ASplit.dec (fun h2 => ?_) (fun h2 => ?_)
    · conv => whnf
      repeat ((first | refine AW.plan (id := 4) hm (.one 0 (.one 2 (.one 7 (.imm 1 (.one 3 (.one 4 (.one 6 (.one 8 (.one 9 (.one 5 (.one 10 (.one 11 (.one 12 (.one 13 (.one 14 (.one 15 (.one 16 (.one 17 .nil)))))))))))))))))) (by kernel_rfl) ?_ | refine AO.cons hT ?_ | refine AO.nil ?_ | refine AW.seq ?_ | refine AW.region ?_ | refine AW.cond ?_ | refine AW.block ?_ | refine AW.loop ?_ | refine AW.skip ?_ | refine AW.exit ?_ | refine AW.ret ?_ | refine AW.label ?_ | refine AW.scope ?_ | refine AF.one hT rfl ?_ | refine AF.nil ?_ | refine AF.imm hT rfl rfl rfl ?_ | refine AH.of hT rfl ?_ | refine AD.cons hT rfl ?_ | refine AD.nil ?_ | refine AQ.cons hT rfl ?_ | refine AQ.nil ?_ | (refine AReq.mk (by omega) ?_) | (refine AIdx.map1 (f := spV) (xs := S) (i := c) hcS ?_) | (refine AIdx.flat (enc := roC) roC_len (xs := l) (i := i) hi ?_) | (refine ACall.val (by kernel_rfl) h24 (show renL _ [spV S[c], .agg [nV l[i].lo, nV l[i].hi]] = [spV S[c], .agg [nV l[i].lo, nV l[i].hi]] by show [(spV S[c]).ren _, _] = _; rw [spV_ren]; rfl) rfl ?_) | (refine ACall.val (by kernel_rfl) (f30 l[i] c hri hc8) rfl rfl ?_)); conv => whnf)
      refine ACond.mk (fun h3 => ?_) (fun h3 => ?_)
      · rw [if_pos ⟨h2, h3⟩] at hg
        rw [← hg]
        conv => whnf
        repeat ((first | refine AW.plan (id := 4) hm (.one 0 (.one 2 (.one 7 (.imm 1 (.one 3 (.one 4 (.one 6 (.one 8 (.one 9 (.one 5 (.one 10 (.one 11 (.one 12 (.one 13 (.one 14 (.one 15 (.one 16 (.one 17 .nil)))))))))))))))))) (by kernel_rfl) ?_ | refine AO.cons hT ?_ | refine AO.nil ?_ | refine AW.seq ?_ | refine AW.region ?_ | refine AW.cond ?_ | refine AW.block ?_ | refine AW.loop ?_ | refine AW.skip ?_ | refine AW.exit ?_ | refine AW.ret ?_ | refine AW.label ?_ | refine AW.scope ?_ | refine AF.one hT rfl ?_ | refine AF.nil ?_ | refine AF.imm hT rfl rfl rfl ?_ | refine AH.of hT rfl ?_ | refine AD.cons hT rfl ?_ | refine AD.nil ?_ | refine AQ.cons hT rfl ?_ | refine AQ.nil ?_ | (refine AReq.mk (by omega) ?_) | (refine AIdx.map1 (f := spV) (xs := S) (i := c) hcS ?_) | (refine AIdx.flat (enc := roC) roC_len (xs := l) (i := i) hi ?_) | (refine ACall.val (by kernel_rfl) h24 (show renL _ [spV S[c], .agg [nV l[i].lo, nV l[i].hi]] = [spV S[c], .agg [nV l[i].lo, nV l[i].hi]] by show [(spV S[c]).ren _, _] = _; rw [spV_ren]; rfl) rfl ?_) | (refine ACall.val (by kernel_rfl) (f30 l[i] c hri hc8) rfl rfl ?_)); conv => whnf)
        refine AOut.stay ?_
        conv => whnf
        repeat ((first | refine AW.plan (id := 4) hm (.one 0 (.one 2 (.one 7 (.imm 1 (.one 3 (.one 4 (.one 6 (.one 8 (.one 9 (.one 5 (.one 10 (.one 11 (.one 12 (.one 13 (.one 14 (.one 15 (.one 16 (.one 17 .nil)))))))))))))))))) (by kernel_rfl) ?_ | refine AO.cons hT ?_ | refine AO.nil ?_ | refine AW.seq ?_ | refine AW.region ?_ | refine AW.cond ?_ | refine AW.block ?_ | refine AW.loop ?_ | refine AW.skip ?_ | refine AW.exit ?_ | refine AW.ret ?_ | refine AW.label ?_ | refine AW.scope ?_ | refine AF.one hT rfl ?_ | refine AF.nil ?_ | refine AF.imm hT rfl rfl rfl ?_ | refine AH.of hT rfl ?_ | refine AD.cons hT rfl ?_ | refine AD.nil ?_ | refine AQ.cons hT rfl ?_ | refine AQ.nil ?_ | (refine AReq.mk (by omega) ?_) | (refine AIdx.map1 (f := spV) (xs := S) (i := c) hcS ?_) | (refine AIdx.flat (enc := roC) roC_len (xs := l) (i := i) hi ?_) | (refine ACall.val (by kernel_rfl) h24 (show renL _ [spV S[c], .agg [nV l[i].lo, nV l[i].hi]] = [spV S[c], .agg [nV l[i].lo, nV l[i].hi]] by show [(spV S[c]).ren _, _] = _; rw [spV_ren]; rfl) rfl ?_) | (refine ACall.val (by kernel_rfl) (f30 l[i] c hri hc8) rfl rfl ?_)); conv => whnf)
        exact AFin.to (bV true) [.ice 23 [roV l]] (Conv.fit (by repeat' (first | exact Fit.nil | refine Fit.any ?_ | refine Fit.same ?_))) ⟨rfl, rfl⟩
      · rw [if_neg (fun h => by rw [h3] at h; simp at h)] at hg
        conv => whnf
        repeat ((first | refine AW.plan (id := 4) hm (.one 0 (.one 2 (.one 7 (.imm 1 (.one 3 (.one 4 (.one 6 (.one 8 (.one 9 (.one 5 (.one 10 (.one 11 (.one 12 (.one 13 (.one 14 (.one 15 (.one 16 (.one 17 .nil)))))))))))))))))) (by kernel_rfl) ?_ | refine AO.cons hT ?_ | refine AO.nil ?_ | refine AW.seq ?_ | refine AW.region ?_ | refine AW.cond ?_ | refine AW.block ?_ | refine AW.loop ?_ | refine AW.skip ?_ | refine AW.exit ?_ | refine AW.ret ?_ | refine AW.label ?_ | refine AW.scope ?_ | refine AF.one hT rfl ?_ | refine AF.nil ?_ | refine AF.imm hT rfl rfl rfl ?_ | refine AH.of hT rfl ?_ | refine AD.cons hT rfl ?_ | refine AD.nil ?_ | refine AQ.cons hT rfl ?_ | refine AQ.nil ?_ | (refine AReq.mk (by omega) ?_) | (refine AIdx.map1 (f := spV) (xs := S) (i := c) hcS ?_) | (refine AIdx.flat (enc := roC) roC_len (xs := l) (i := i) hi ?_) | (refine ACall.val (by kernel_rfl) h24 (show renL _ [spV S[c], .agg [nV l[i].lo, nV l[i].hi]] = [spV S[c], .agg [nV l[i].lo, nV l[i].hi]] by show [(spV S[c]).ren _, _] = _; rw [spV_ren]; rfl) rfl ?_) | (refine ACall.val (by kernel_rfl) (f30 l[i] c hri hc8) rfl rfl ?_)); conv => whnf)
        rw [w0]
        exact AHead.mk (j - 1) _ _ (by omega) ⟨c + 1, by omega, hg, rfl, rfl⟩ (Conv.fit (by repeat' (first | exact Fit.nil | refine Fit.any ?_ | refine Fit.same ?_)))
    · rw [if_neg (fun h => h2 h.1)] at hg
      conv => whnf
      repeat ((first | refine AW.plan (id := 4) hm (.one 0 (.one 2 (.one 7 (.imm 1 (.one 3 (.one 4 (.one 6 (.one 8 (.one 9 (.one 5 (.one 10 (.one 11 (.one 12 (.one 13 (.one 14 (.one 15 (.one 16 (.one 17 .nil)))))))))))))))))) (by kernel_rfl) ?_ | refine AO.cons hT ?_ | refine AO.nil ?_ | refine AW.seq ?_ | refine AW.region ?_ | refine AW.cond ?_ | refine AW.block ?_ | refine AW.loop ?_ | refine AW.skip ?_ | refine AW.exit ?_ | refine AW.ret ?_ | refine AW.label ?_ | refine AW.scope ?_ | refine AF.one hT rfl ?_ | refine AF.nil ?_ | refine AF.imm hT rfl rfl rfl ?_ | refine AH.of hT rfl ?_ | refine AD.cons hT rfl ?_ | refine AD.nil ?_ | refine AQ.cons hT rfl ?_ | refine AQ.nil ?_ | (refine AReq.mk (by omega) ?_) | (refine AIdx.map1 (f := spV) (xs := S) (i := c) hcS ?_) | (refine AIdx.flat (enc := roC) roC_len (xs := l) (i := i) hi ?_) | (refine ACall.val (by kernel_rfl) h24 (show renL _ [spV S[c], .agg [nV l[i].lo, nV l[i].hi]] = [spV S[c], .agg [nV l[i].lo, nV l[i].hi]] by show [(spV S[c]).ren _, _] = _; rw [spV_ren]; rfl) rfl ?_) | (refine ACall.val (by kernel_rfl) (f30 l[i] c hri hc8) rfl rfl ?_)); conv => whnf)
      refine ACond.no rfl ?_
      conv => whnf
      repeat ((first | refine AW.plan (id := 4) hm (.one 0 (.one 2 (.one 7 (.imm 1 (.one 3 (.one 4 (.one 6 (.one 8 (.one 9 (.one 5 (.one 10 (.one 11 (.one 12 (.one 13 (.one 14 (.one 15 (.one 16 (.one 17 .nil)))))))))))))))))) (by kernel_rfl) ?_ | refine AO.cons hT ?_ | refine AO.nil ?_ | refine AW.seq ?_ | refine AW.region ?_ | refine AW.cond ?_ | refine AW.block ?_ | refine AW.loop ?_ | refine AW.skip ?_ | refine AW.exit ?_ | refine AW.ret ?_ | refine AW.label ?_ | refine AW.scope ?_ | refine AF.one hT rfl ?_ | refine AF.nil ?_ | refine AF.imm hT rfl rfl rfl ?_ | refine AH.of hT rfl ?_ | refine AD.cons hT rfl ?_ | refine AD.nil ?_ | refine AQ.cons hT rfl ?_ | refine AQ.nil ?_ | (refine AReq.mk (by omega) ?_) | (refine AIdx.map1 (f := spV) (xs := S) (i := c) hcS ?_) | (refine AIdx.flat (enc := roC) roC_len (xs := l) (i := i) hi ?_) | (refine ACall.val (by kernel_rfl) h24 (show renL _ [spV S[c], .agg [nV l[i].lo, nV l[i].hi]] = [spV S[c], .agg [nV l[i].lo, nV l[i].hi]] by show [(spV S[c]).ren _, _] = _; rw [spV_ren]; rfl) rfl ?_) | (refine ACall.val (by kernel_rfl) (f30 l[i] c hri hc8) rfl rfl ?_)); conv => whnf)
      rw [w0]
      exact AHead.mk (j - 1) _ _ (by omega) ⟨c + 1, by omega, hg, rfl, rfl⟩ (Conv.fit (by repeat' (first | exact Fit.nil | refine Fit.any ?_ | refine Fit.same ?_)))
  · obtain rfl : c = 8 := by omega
    have hg' : liveG (l.take i) l[i] [] = liveG (l.take i) l[i] (List.range 8) := hg
    rw [← hg', liveG]
    conv => whnf
    repeat ((first | refine AW.plan (id := 4) hm (.one 0 (.one 2 (.one 7 (.imm 1 (.one 3 (.one 4 (.one 6 (.one 8 (.one 9 (.one 5 (.one 10 (.one 11 (.one 12 (.one 13 (.one 14 (.one 15 (.one 16 (.one 17 .nil)))))))))))))))))) (by kernel_rfl) ?_ | refine AO.cons hT ?_ | refine AO.nil ?_ | refine AW.seq ?_ | refine AW.region ?_ | refine AW.cond ?_ | refine AW.block ?_ | refine AW.loop ?_ | refine AW.skip ?_ | refine AW.exit ?_ | refine AW.ret ?_ | refine AW.label ?_ | refine AW.scope ?_ | refine AF.one hT rfl ?_ | refine AF.nil ?_ | refine AF.imm hT rfl rfl rfl ?_ | refine AH.of hT rfl ?_ | refine AD.cons hT rfl ?_ | refine AD.nil ?_ | refine AQ.cons hT rfl ?_ | refine AQ.nil ?_); conv => whnf)
    refine AOut.stay ?_
    conv => whnf
    repeat ((first | refine AW.plan (id := 4) hm (.one 0 (.one 2 (.one 7 (.imm 1 (.one 3 (.one 4 (.one 6 (.one 8 (.one 9 (.one 5 (.one 10 (.one 11 (.one 12 (.one 13 (.one 14 (.one 15 (.one 16 (.one 17 .nil)))))))))))))))))) (by kernel_rfl) ?_ | refine AO.cons hT ?_ | refine AO.nil ?_ | refine AW.seq ?_ | refine AW.region ?_ | refine AW.cond ?_ | refine AW.block ?_ | refine AW.loop ?_ | refine AW.skip ?_ | refine AW.exit ?_ | refine AW.ret ?_ | refine AW.label ?_ | refine AW.scope ?_ | refine AF.one hT rfl ?_ | refine AF.nil ?_ | refine AF.imm hT rfl rfl rfl ?_ | refine AH.of hT rfl ?_ | refine AD.cons hT rfl ?_ | refine AD.nil ?_ | refine AQ.cons hT rfl ?_ | refine AQ.nil ?_); conv => whnf)
    exact AFin.to (bV false) [.ice 23 [roV l]] (Conv.fit (by repeat' (first | exact Fit.nil | refine Fit.any ?_ | refine Fit.same ?_))) ⟨rfl, rfl⟩
theorem ACall.liv {H : List ABlk} {K : AV → List ABlk → Prop} (l : List Ro) (i : Nat) (hi : i < l.length) (hl : l.length ≤ 20) (hr : ∀ r ∈ l, rowB r = true) {b : Nat} (hb : H[b]? = some (.ice 23 [roV l])) (k : K (bV (liveB l i)) H) : ACall P 29 [nV i, .ptr b 0] H K := by
  refine ACall.of (by kernel_rfl) (f29 l i hi hl hr) [b] [] (by simp) (.same (by rw [hb, ABlk.ren, roV1]) .nil) (by simp) (by simp) (.cons (.same rfl) (.cons (.same rfl) .nil)) (.inl rfl) ?_
  rintro _ _ ⟨rfl, rfl⟩
  simp only [mergeH, ABlk.ren, roV1, List.map_nil, List.append_nil]
  rw [set_same hb]
  exact k
def deadG (l : List Ro) (n : Nat) : List Int := ((List.range n).filter fun i => !liveB l i).map fun i : Nat => (i : Int)
def deadF (l : List Ro) : List Int := if tabB l then deadG l l.length else []
theorem deadG_step (l : List Ro) (i : Nat) : deadG l (i + 1) = if liveB l i = true then deadG l i else deadG l i ++ [(i : Int)] := by
  unfold deadG
  rw [List.range_succ, List.filter_append, List.filter_cons]
  cases liveB l i <;> simp
theorem deadG_le (l : List Ro) (n : Nat) : (deadG l n).length ≤ n := by
  unfold deadG
  rw [List.length_map]
  have := List.length_filter_le (fun i => !liveB l i) (List.range n)
  rw [List.length_range] at this
  exact this
theorem f14 (l : List Ro) : Fun P 14 [roV l] (iVs (deadF l)) := by
  refine spec_of hT (f := 14) (fn := Go.Proofs.Try.f14) (c := body Go.Proofs.Try.f14) (by kernel_rfl) (by kernel_rfl) ?_
  conv => whnf
  repeat ((first | refine AO.cons hT ?_ | refine AO.nil ?_ | refine AW.cond ?_ | refine AW.block ?_ | refine AW.loop ?_ | refine AW.skip ?_ | refine AW.exit ?_ | refine AW.ret ?_ | refine AW.label ?_ | refine AW.scope ?_ | refine AF.one hT rfl ?_ | refine AF.nil ?_ | refine AF.imm hT rfl rfl rfl ?_ | refine AH.of hT rfl ?_ | refine AD.cons hT rfl ?_ | refine AD.nil ?_ | refine AQ.cons hT rfl ?_ | refine AQ.nil ?_); conv => whnf)
  refine AW.seq ?_
  conv => whnf
  refine AW.region ?_
  conv => whnf
  repeat ((first | refine AO.cons hT ?_ | refine AO.nil ?_ | refine AW.cond ?_ | refine AW.block ?_ | refine AW.loop ?_ | refine AW.skip ?_ | refine AW.exit ?_ | refine AW.ret ?_ | refine AW.label ?_ | refine AW.scope ?_ | refine AF.one hT rfl ?_ | refine AF.nil ?_ | refine AF.imm hT rfl rfl rfl ?_ | refine AH.of hT rfl ?_ | refine AD.cons hT rfl ?_ | refine AD.nil ?_ | refine AQ.cons hT rfl ?_ | refine AQ.nil ?_); conv => whnf)
  refine AW.conv _ _ (Conv.freeze 0 (t := 23) (cs := [roV l]) rfl) ?_
  unfold deadF
  conv => whnf
  repeat ((first | refine AO.cons hT ?_ | refine AO.nil ?_ | refine AW.seq ?_ | refine AW.region ?_ | refine AW.cond ?_ | refine AW.block ?_ | refine AW.loop ?_ | refine AW.skip ?_ | refine AW.exit ?_ | refine AW.ret ?_ | refine AW.label ?_ | refine AW.scope ?_ | refine AF.one hT rfl ?_ | refine AF.nil ?_ | refine AF.imm hT rfl rfl rfl ?_ | refine AH.of hT rfl ?_ | refine AD.cons hT rfl ?_ | refine AD.nil ?_ | refine AQ.cons hT rfl ?_ | refine AQ.nil ?_); conv => whnf)
  refine ACall.val (by kernel_rfl) (f18 l) (roV1 _ _) rfl ?_
  rcases Bool.eq_false_or_eq_true (tabB l) with g | g
  case inr =>
    simp only [g, Bool.false_eq_true, if_false]
    conv => whnf
    repeat ((first | refine AO.cons hT ?_ | refine AO.nil ?_ | refine AW.seq ?_ | refine AW.region ?_ | refine AW.cond ?_ | refine AW.block ?_ | refine AW.loop ?_ | refine AW.skip ?_ | refine AW.exit ?_ | refine AW.ret ?_ | refine AW.label ?_ | refine AW.scope ?_ | refine AF.one hT rfl ?_ | refine AF.nil ?_ | refine AF.imm hT rfl rfl rfl ?_ | refine AH.of hT rfl ?_ | refine AD.cons hT rfl ?_ | refine AD.nil ?_ | refine AQ.cons hT rfl ?_ | refine AQ.nil ?_); conv => whnf)
    refine ACond.yes rfl ?_
    conv => whnf
    repeat ((first | refine AO.cons hT ?_ | refine AO.nil ?_ | refine AW.seq ?_ | refine AW.region ?_ | refine AW.cond ?_ | refine AW.block ?_ | refine AW.loop ?_ | refine AW.skip ?_ | refine AW.exit ?_ | refine AW.ret ?_ | refine AW.label ?_ | refine AW.scope ?_ | refine AF.one hT rfl ?_ | refine AF.nil ?_ | refine AF.imm hT rfl rfl rfl ?_ | refine AH.of hT rfl ?_ | refine AD.cons hT rfl ?_ | refine AD.nil ?_ | refine AQ.cons hT rfl ?_ | refine AQ.nil ?_); conv => whnf)
    exact AFin.to (iVs []) [] (Conv.out .nil (fun ρ => iVs_ren ρ _)) ⟨rfl, rfl⟩
  obtain ⟨t1, t2, t3⟩ := tabB_row g
  simp only [g, if_true]
  conv => whnf
  repeat ((first | refine AO.cons hT ?_ | refine AO.nil ?_ | refine AW.seq ?_ | refine AW.region ?_ | refine AW.cond ?_ | refine AW.block ?_ | refine AW.loop ?_ | refine AW.skip ?_ | refine AW.exit ?_ | refine AW.ret ?_ | refine AW.label ?_ | refine AW.scope ?_ | refine AF.one hT rfl ?_ | refine AF.nil ?_ | refine AF.imm hT rfl rfl rfl ?_ | refine AH.of hT rfl ?_ | refine AD.cons hT rfl ?_ | refine AD.nil ?_ | refine AQ.cons hT rfl ?_ | refine AQ.nil ?_); conv => whnf)
  refine ACond.no rfl ?_
  conv => whnf
  repeat ((first | refine AO.cons hT ?_ | refine AO.nil ?_ | refine AW.seq ?_ | refine AW.region ?_ | refine AW.cond ?_ | refine AW.block ?_ | refine AW.loop ?_ | refine AW.skip ?_ | refine AW.exit ?_ | refine AW.ret ?_ | refine AW.label ?_ | refine AW.scope ?_ | refine AF.one hT rfl ?_ | refine AF.nil ?_ | refine AF.imm hT rfl rfl rfl ?_ | refine AH.of hT rfl ?_ | refine AD.cons hT rfl ?_ | refine AD.nil ?_ | refine AQ.cons hT rfl ?_ | refine AQ.nil ?_); conv => whnf)
  refine ALoop.mk (fun j E H => ∃ i : Nat, j + i = l.length ∧ E = pad ([.any, .ptr 0 0, .any, .fn 29 [] [.ptr 0 0], .ms 1 1 0 (deadG l i).length] ++ List.replicate 6 .any ++ [nV l.length, nV i]) 25 ∧ H = [.ice 23 [roV l], .cells 3 ((deadG l i).map nV)])
    (n := l.length) _ _ ⟨0, rfl, rfl, rfl⟩ (Conv.trans (Conv.fit (xs' := pad ([.any, .ptr 0 0, .any, .fn 29 [] [.ptr 0 0], nilV] ++ List.replicate 6 .any ++ [nV l.length, nV 0]) 25) (by repeat' (first | exact Fit.nil | refine Fit.any ?_ | refine Fit.same ?_))) (Conv.own (sz := 1) 3 (by repeat' (first | exact FitN.nil | refine FitN.any ?_ | refine FitN.own ?_ | refine FitN.same ?_)))) ?_
  rintro j _ _ ⟨i, hj, rfl, rfl⟩
  conv => whnf
  repeat ((first | refine AO.cons hT ?_ | refine AO.nil ?_ | refine AW.seq ?_ | refine AW.region ?_ | refine AW.cond ?_ | refine AW.block ?_ | refine AW.loop ?_ | refine AW.skip ?_ | refine AW.exit ?_ | refine AW.ret ?_ | refine AW.label ?_ | refine AW.scope ?_ | refine AF.one hT rfl ?_ | refine AF.nil ?_ | refine AF.imm hT rfl rfl rfl ?_ | refine AH.of hT rfl ?_ | refine AD.cons hT rfl ?_ | refine AD.nil ?_ | refine AQ.cons hT rfl ?_ | refine AQ.nil ?_); conv => whnf)
  refine ACond.dec (fun h1 => ?_) (fun h1 => ?_)
  · have hil : i < l.length := by omega
    have w1 : IntKind.wrap .i64 ((i : Int) + 1) = ((i + 1 : Nat) : Int) := by rw [wrap_i64 _ (by omega) (by omega)]; omega
    have hst := deadG_step l i
    have hle := deadG_le l i
    conv => whnf
    repeat ((first | refine AO.cons hT ?_ | refine AO.nil ?_ | refine AW.seq ?_ | refine AW.region ?_ | refine AW.cond ?_ | refine AW.block ?_ | refine AW.loop ?_ | refine AW.skip ?_ | refine AW.exit ?_ | refine AW.ret ?_ | refine AW.label ?_ | refine AW.scope ?_ | refine AF.one hT rfl ?_ | refine AF.nil ?_ | refine AF.imm hT rfl rfl rfl ?_ | refine AH.of hT rfl ?_ | refine AD.cons hT rfl ?_ | refine AD.nil ?_ | refine AQ.cons hT rfl ?_ | refine AQ.nil ?_); conv => whnf)
    refine ACall.liv l i hil t1 t3 rfl ?_
    conv => whnf
    repeat ((first | refine AO.cons hT ?_ | refine AO.nil ?_ | refine AW.seq ?_ | refine AW.region ?_ | refine AW.cond ?_ | refine AW.block ?_ | refine AW.loop ?_ | refine AW.skip ?_ | refine AW.exit ?_ | refine AW.ret ?_ | refine AW.label ?_ | refine AW.scope ?_ | refine AF.one hT rfl ?_ | refine AF.nil ?_ | refine AF.imm hT rfl rfl rfl ?_ | refine AH.of hT rfl ?_ | refine AD.cons hT rfl ?_ | refine AD.nil ?_ | refine AQ.cons hT rfl ?_ | refine AQ.nil ?_); conv => whnf)
    refine ACond.mk (fun h2 => ?_) (fun h2 => ?_)
    · rw [if_neg (by rw [nb1 h2]; simp)] at hst
      conv => whnf
      repeat ((first | refine AO.cons hT ?_ | refine AO.nil ?_ | refine AW.seq ?_ | refine AW.region ?_ | refine AW.cond ?_ | refine AW.block ?_ | refine AW.loop ?_ | refine AW.skip ?_ | refine AW.exit ?_ | refine AW.ret ?_ | refine AW.label ?_ | refine AW.scope ?_ | refine AF.one hT rfl ?_ | refine AF.nil ?_ | refine AF.imm hT rfl rfl rfl ?_ | refine AH.of hT rfl ?_ | refine AD.cons hT rfl ?_ | refine AD.nil ?_ | refine AQ.cons hT rfl ?_ | refine AQ.nil ?_); conv => whnf)
      refine AReq.mk ⟨by rw [List.length_map, Nat.mul_one], by show (_ + 1) * 8 ≤ _; omega⟩ ?_
      conv => whnf
      repeat ((first | refine AO.cons hT ?_ | refine AO.nil ?_ | refine AW.seq ?_ | refine AW.region ?_ | refine AW.cond ?_ | refine AW.block ?_ | refine AW.loop ?_ | refine AW.skip ?_ | refine AW.exit ?_ | refine AW.ret ?_ | refine AW.label ?_ | refine AW.scope ?_ | refine AF.one hT rfl ?_ | refine AF.nil ?_ | refine AF.imm hT rfl rfl rfl ?_ | refine AH.of hT rfl ?_ | refine AD.cons hT rfl ?_ | refine AD.nil ?_ | refine AQ.cons hT rfl ?_ | refine AQ.nil ?_); conv => whnf)
      rw [w1]
      refine AHead.mk (j - 1) (pad ([.any, .ptr 0 0, .any, .fn 29 [] [.ptr 0 0], .ms 1 1 0 (deadG l (i + 1)).length] ++ List.replicate 6 .any ++ [nV l.length, nV ((i + 1 : Nat) : Int)]) 25) [.ice 23 [roV l], .cells 3 ((deadG l (i + 1)).map nV)] (by omega) ⟨i + 1, by omega, rfl, rfl⟩ ?_
      rw [hst, List.length_append, List.map_append]
      exact Conv.ren [0, 2] _ (fun _ h => absurd h (Nat.not_lt_zero _)) (by decide) (by repeat' (first | exact Fit.nil | refine Fit.any ?_ | refine Fit.same ?_)) (.same (by rw [ABlk.ren, roV1]; rfl) (.same (by rw [ABlk.ren, renL_append, nVs_ren]; rfl) .nil))
    · rw [if_pos (nb0 h2)] at hst
      conv => whnf
      repeat ((first | refine AO.cons hT ?_ | refine AO.nil ?_ | refine AW.seq ?_ | refine AW.region ?_ | refine AW.cond ?_ | refine AW.block ?_ | refine AW.loop ?_ | refine AW.skip ?_ | refine AW.exit ?_ | refine AW.ret ?_ | refine AW.label ?_ | refine AW.scope ?_ | refine AF.one hT rfl ?_ | refine AF.nil ?_ | refine AF.imm hT rfl rfl rfl ?_ | refine AH.of hT rfl ?_ | refine AD.cons hT rfl ?_ | refine AD.nil ?_ | refine AQ.cons hT rfl ?_ | refine AQ.nil ?_); conv => whnf)
      rw [w1]
      exact AHead.mk (j - 1) _ _ (by omega) ⟨i + 1, by omega, by rw [hst], by rw [hst]⟩ (Conv.fit (by repeat' (first | exact Fit.nil | refine Fit.any ?_ | refine Fit.same ?_)))
  · obtain rfl : i = l.length := by omega
    conv => whnf
    repeat ((first | refine AO.cons hT ?_ | refine AO.nil ?_ | refine AW.seq ?_ | refine AW.region ?_ | refine AW.cond ?_ | refine AW.block ?_ | refine AW.loop ?_ | refine AW.skip ?_ | refine AW.exit ?_ | refine AW.ret ?_ | refine AW.label ?_ | refine AW.scope ?_ | refine AF.one hT rfl ?_ | refine AF.nil ?_ | refine AF.imm hT rfl rfl rfl ?_ | refine AH.of hT rfl ?_ | refine AD.cons hT rfl ?_ | refine AD.nil ?_ | refine AQ.cons hT rfl ?_ | refine AQ.nil ?_); conv => whnf)
    refine AOut.stay ?_
    conv => whnf
    repeat ((first | refine AO.cons hT ?_ | refine AO.nil ?_ | refine AW.seq ?_ | refine AW.region ?_ | refine AW.cond ?_ | refine AW.block ?_ | refine AW.loop ?_ | refine AW.skip ?_ | refine AW.exit ?_ | refine AW.ret ?_ | refine AW.label ?_ | refine AW.scope ?_ | refine AF.one hT rfl ?_ | refine AF.nil ?_ | refine AF.imm hT rfl rfl rfl ?_ | refine AH.of hT rfl ?_ | refine AD.cons hT rfl ?_ | refine AD.nil ?_ | refine AQ.cons hT rfl ?_ | refine AQ.nil ?_); conv => whnf)
    exact AFin.to (iVs (deadG l l.length)) [] (Conv.out (.sm rfl (by rw [List.length_map, Nat.mul_one])) (fun ρ => iVs_ren ρ _)) ⟨rfl, rfl⟩
end Go.Aw.T1

set_option linter.unusedSimpArgs false
set_option linter.unusedVariables false
set_option maxHeartbeats 1000000
namespace Go.Aw.T1
open Go Go.Proofs

def quizB (l : List Int) : Bool := decide (1 ≤ l.length ∧ l.length ≤ 8 ∧ ∀ n ∈ l, 0 ≤ n ∧ n ≤ 1000)
def cutB (l : List Int) : Bool := decide (l.length = 3 ∧ 0 ≤ l.getD 0 0 ∧ l.getD 0 0 ≤ l.getD 1 0 ∧ l.getD 1 0 ≤ l.getD 2 0 ∧ l.getD 2 0 ≤ 8000)
def feeB (l : List Int) : Bool := decide (l.length = 4 ∧ 0 ≤ l.getD 0 0 ∧ l.getD 0 0 ≤ l.getD 1 0 ∧ l.getD 1 0 ≤ l.getD 2 0 ∧ l.getD 2 0 ≤ l.getD 3 0 ∧ l.getD 3 0 ≤ 10000)
theorem iVs1 (ρ : Nat → Nat) (l : List Int) : renL ρ [iVs l] = [iVs l] := by show [(iVs l).ren ρ] = _; rw [iVs_ren]
theorem f31 (l : List Int) : Fun P 31 [iVs l] (nV (if quizB l then 0 else 36)) := by
  refine spec_of hT (f := 31) (fn := Go.Proofs.Try.f31) (c := body Go.Proofs.Try.f31) (by kernel_rfl) (by kernel_rfl) ?_
  have hbad : ∀ {H : List ABlk}, quizB l = false → AFin 0 (nV 36) H (fun r' H' => r' = nV (if quizB l then 0 else 36) ∧ H' = []) := fun h => by
    rw [h]; exact AFin.val rfl ⟨rfl, rfl⟩
  conv => whnf
  repeat ((first | refine AO.cons hT ?_ | refine AO.nil ?_ | refine AW.seq ?_ | refine AW.region ?_ | refine AW.cond ?_ | refine AW.block ?_ | refine AW.loop ?_ | refine AW.skip ?_ | refine AW.exit ?_ | refine AW.ret ?_ | refine AW.label ?_ | refine AW.scope ?_ | refine AF.one hT rfl ?_ | refine AF.nil ?_ | refine AF.imm hT rfl rfl rfl ?_ | refine AH.of hT rfl ?_ | refine AD.cons hT rfl ?_ | refine AD.nil ?_ | refine AQ.cons hT rfl ?_ | refine AQ.nil ?_); conv => whnf)
  refine ASplit.dec (fun h1 => ?_) (fun h1 => ?_)
  · conv => whnf
    repeat (first | (refine AW.label ?_; conv => whnf) | (refine AW.scope ?_; conv => whnf) | (refine AO.cons hT ?_; conv => whnf) | (refine AO.nil ?_; conv => whnf) | (refine AW.seq ?_; conv => whnf) | (refine AW.region ?_; conv => whnf) | (refine AW.cond ?_; conv => whnf) | (refine AW.block ?_; conv => whnf) | (refine AW.loop ?_; conv => whnf) | (refine AW.skip ?_; conv => whnf) | (refine AW.exit ?_; conv => whnf) | (refine AW.ret ?_; conv => whnf) | (refine AF.one hT rfl ?_; conv => whnf) | (refine AF.nil ?_; conv => whnf) | (refine AF.imm hT rfl rfl rfl ?_; conv => whnf) | (refine AH.of hT rfl ?_; conv => whnf) | (refine ASplit.yes rfl ?_; conv => whnf) | (refine ACond.yes rfl ?_; conv => whnf) | (refine ASplit.no rfl ?_; conv => whnf) | (refine ACond.no rfl ?_; conv => whnf) | (refine ASplit.yes (by decide) ?_; conv => whnf) | (refine ACond.yes (by decide) ?_; conv => whnf) | (refine AReq.mk (by decide) ?_; conv => whnf) | (refine AIdx.iff.2 ⟨by decide, ?_⟩; conv => whnf))
    exact hbad (decide_eq_false (fun h => by omega))
  conv => whnf
  repeat ((first | refine AO.cons hT ?_ | refine AO.nil ?_ | refine AW.seq ?_ | refine AW.region ?_ | refine AW.cond ?_ | refine AW.block ?_ | refine AW.loop ?_ | refine AW.skip ?_ | refine AW.exit ?_ | refine AW.ret ?_ | refine AW.label ?_ | refine AW.scope ?_ | refine AF.one hT rfl ?_ | refine AF.nil ?_ | refine AF.imm hT rfl rfl rfl ?_ | refine AH.of hT rfl ?_ | refine AD.cons hT rfl ?_ | refine AD.nil ?_ | refine AQ.cons hT rfl ?_ | refine AQ.nil ?_); conv => whnf)
  refine ACond.dec (fun h2 => ?_) (fun h2 => ?_)
  · conv => whnf
    repeat (first | (refine AW.label ?_; conv => whnf) | (refine AW.scope ?_; conv => whnf) | (refine AO.cons hT ?_; conv => whnf) | (refine AO.nil ?_; conv => whnf) | (refine AW.seq ?_; conv => whnf) | (refine AW.region ?_; conv => whnf) | (refine AW.cond ?_; conv => whnf) | (refine AW.block ?_; conv => whnf) | (refine AW.loop ?_; conv => whnf) | (refine AW.skip ?_; conv => whnf) | (refine AW.exit ?_; conv => whnf) | (refine AW.ret ?_; conv => whnf) | (refine AF.one hT rfl ?_; conv => whnf) | (refine AF.nil ?_; conv => whnf) | (refine AF.imm hT rfl rfl rfl ?_; conv => whnf) | (refine AH.of hT rfl ?_; conv => whnf) | (refine ASplit.yes rfl ?_; conv => whnf) | (refine ACond.yes rfl ?_; conv => whnf) | (refine ASplit.no rfl ?_; conv => whnf) | (refine ACond.no rfl ?_; conv => whnf) | (refine ASplit.yes (by decide) ?_; conv => whnf) | (refine ACond.yes (by decide) ?_; conv => whnf) | (refine AReq.mk (by decide) ?_; conv => whnf) | (refine AIdx.iff.2 ⟨by decide, ?_⟩; conv => whnf))
    exact hbad (decide_eq_false (fun h => by omega))
  conv => whnf
  repeat ((first | refine AO.cons hT ?_ | refine AO.nil ?_ | refine AW.seq ?_ | refine AW.region ?_ | refine AW.cond ?_ | refine AW.block ?_ | refine AW.loop ?_ | refine AW.skip ?_ | refine AW.exit ?_ | refine AW.ret ?_ | refine AW.label ?_ | refine AW.scope ?_ | refine AF.one hT rfl ?_ | refine AF.nil ?_ | refine AF.imm hT rfl rfl rfl ?_ | refine AH.of hT rfl ?_ | refine AD.cons hT rfl ?_ | refine AD.nil ?_ | refine AQ.cons hT rfl ?_ | refine AQ.nil ?_); conv => whnf)
  refine ALoop.mk (fun j E H => ∃ i : Nat, j + i = l.length ∧ (∀ k (h : k < l.length), k < i → 0 ≤ l[k] ∧ l[k] ≤ 1000) ∧ E = pad ([.any, .any, .v (.int .i64 0)] ++ List.replicate 10 .any ++ [iVs l, nV l.length, nV i]) 26 ∧ H = [])
    (n := l.length) _ _ ⟨0, rfl, fun _ _ h => absurd h (Nat.not_lt_zero _), rfl, rfl⟩ (Conv.fit (by repeat' (first | exact Fit.nil | refine Fit.any ?_ | refine Fit.same ?_))) ?_
  rintro j _ _ ⟨i, hj, hok, rfl, rfl⟩
  conv => whnf
  repeat ((first | refine AO.cons hT ?_ | refine AO.nil ?_ | refine AW.seq ?_ | refine AW.region ?_ | refine AW.cond ?_ | refine AW.block ?_ | refine AW.loop ?_ | refine AW.skip ?_ | refine AW.exit ?_ | refine AW.ret ?_ | refine AW.label ?_ | refine AW.scope ?_ | refine AF.one hT rfl ?_ | refine AF.nil ?_ | refine AF.imm hT rfl rfl rfl ?_ | refine AH.of hT rfl ?_ | refine AD.cons hT rfl ?_ | refine AD.nil ?_ | refine AQ.cons hT rfl ?_ | refine AQ.nil ?_); conv => whnf)
  refine ACond.dec (fun h3 => ?_) (fun h3 => ?_)
  · have hil : i < l.length := by omega
    have w1 : IntKind.wrap .i64 ((i : Int) + 1) = ((i + 1 : Nat) : Int) := by rw [wrap_i64 _ (by omega) (by omega)]; omega
    have hb : ¬ (0 ≤ l[i] ∧ l[i] ≤ 1000) → quizB l = false := fun h => decide_eq_false (fun g => h (g.2.2 _ (List.getElem_mem hil)))
    conv => whnf
    repeat ((first | refine AO.cons hT ?_ | refine AO.nil ?_ | refine AW.seq ?_ | refine AW.region ?_ | refine AW.cond ?_ | refine AW.block ?_ | refine AW.loop ?_ | refine AW.skip ?_ | refine AW.exit ?_ | refine AW.ret ?_ | refine AW.label ?_ | refine AW.scope ?_ | refine AF.one hT rfl ?_ | refine AF.nil ?_ | refine AF.imm hT rfl rfl rfl ?_ | refine AH.of hT rfl ?_ | refine AD.cons hT rfl ?_ | refine AD.nil ?_ | refine AQ.cons hT rfl ?_ | refine AQ.nil ?_ | (refine AReq.mk (by omega) ?_) | (refine AIdx.map1 (f := nV) (xs := l) (i := i) hil ?_)); conv => whnf)
    refine ASplit.dec (fun h4 => ?_) (fun h4 => ?_)
    · conv => whnf
      repeat ((first | refine AO.cons hT ?_ | refine AO.nil ?_ | refine AW.seq ?_ | refine AW.region ?_ | refine AW.cond ?_ | refine AW.block ?_ | refine AW.loop ?_ | refine AW.skip ?_ | refine AW.exit ?_ | refine AW.ret ?_ | refine AW.label ?_ | refine AW.scope ?_ | refine AF.one hT rfl ?_ | refine AF.nil ?_ | refine AF.imm hT rfl rfl rfl ?_ | refine AH.of hT rfl ?_ | refine AD.cons hT rfl ?_ | refine AD.nil ?_ | refine AQ.cons hT rfl ?_ | refine AQ.nil ?_ | (refine AReq.mk (by omega) ?_) | (refine AIdx.map1 (f := nV) (xs := l) (i := i) hil ?_)); conv => whnf)
      refine ACond.yes rfl ?_
      conv => whnf
      repeat ((first | refine AO.cons hT ?_ | refine AO.nil ?_ | refine AW.seq ?_ | refine AW.region ?_ | refine AW.cond ?_ | refine AW.block ?_ | refine AW.loop ?_ | refine AW.skip ?_ | refine AW.exit ?_ | refine AW.ret ?_ | refine AW.label ?_ | refine AW.scope ?_ | refine AF.one hT rfl ?_ | refine AF.nil ?_ | refine AF.imm hT rfl rfl rfl ?_ | refine AH.of hT rfl ?_ | refine AD.cons hT rfl ?_ | refine AD.nil ?_ | refine AQ.cons hT rfl ?_ | refine AQ.nil ?_ | (refine AReq.mk (by omega) ?_) | (refine AIdx.map1 (f := nV) (xs := l) (i := i) hil ?_)); conv => whnf)
      refine AOut.stay ?_
      conv => whnf
      repeat ((first | refine AO.cons hT ?_ | refine AO.nil ?_ | refine AW.seq ?_ | refine AW.region ?_ | refine AW.cond ?_ | refine AW.block ?_ | refine AW.loop ?_ | refine AW.skip ?_ | refine AW.exit ?_ | refine AW.ret ?_ | refine AW.label ?_ | refine AW.scope ?_ | refine AF.one hT rfl ?_ | refine AF.nil ?_ | refine AF.imm hT rfl rfl rfl ?_ | refine AH.of hT rfl ?_ | refine AD.cons hT rfl ?_ | refine AD.nil ?_ | refine AQ.cons hT rfl ?_ | refine AQ.nil ?_ | (refine AReq.mk (by omega) ?_) | (refine AIdx.map1 (f := nV) (xs := l) (i := i) hil ?_)); conv => whnf)
      exact hbad (hb (by omega))
    conv => whnf
    repeat ((first | refine AO.cons hT ?_ | refine AO.nil ?_ | refine AW.seq ?_ | refine AW.region ?_ | refine AW.cond ?_ | refine AW.block ?_ | refine AW.loop ?_ | refine AW.skip ?_ | refine AW.exit ?_ | refine AW.ret ?_ | refine AW.label ?_ | refine AW.scope ?_ | refine AF.one hT rfl ?_ | refine AF.nil ?_ | refine AF.imm hT rfl rfl rfl ?_ | refine AH.of hT rfl ?_ | refine AD.cons hT rfl ?_ | refine AD.nil ?_ | refine AQ.cons hT rfl ?_ | refine AQ.nil ?_ | (refine AReq.mk (by omega) ?_) | (refine AIdx.map1 (f := nV) (xs := l) (i := i) hil ?_)); conv => whnf)
    refine ACond.dec (fun h5 => ?_) (fun h5 => ?_)
    · conv => whnf
      repeat ((first | refine AO.cons hT ?_ | refine AO.nil ?_ | refine AW.seq ?_ | refine AW.region ?_ | refine AW.cond ?_ | refine AW.block ?_ | refine AW.loop ?_ | refine AW.skip ?_ | refine AW.exit ?_ | refine AW.ret ?_ | refine AW.label ?_ | refine AW.scope ?_ | refine AF.one hT rfl ?_ | refine AF.nil ?_ | refine AF.imm hT rfl rfl rfl ?_ | refine AH.of hT rfl ?_ | refine AD.cons hT rfl ?_ | refine AD.nil ?_ | refine AQ.cons hT rfl ?_ | refine AQ.nil ?_ | (refine AReq.mk (by omega) ?_) | (refine AIdx.map1 (f := nV) (xs := l) (i := i) hil ?_)); conv => whnf)
      refine AOut.stay ?_
      conv => whnf
      repeat ((first | refine AO.cons hT ?_ | refine AO.nil ?_ | refine AW.seq ?_ | refine AW.region ?_ | refine AW.cond ?_ | refine AW.block ?_ | refine AW.loop ?_ | refine AW.skip ?_ | refine AW.exit ?_ | refine AW.ret ?_ | refine AW.label ?_ | refine AW.scope ?_ | refine AF.one hT rfl ?_ | refine AF.nil ?_ | refine AF.imm hT rfl rfl rfl ?_ | refine AH.of hT rfl ?_ | refine AD.cons hT rfl ?_ | refine AD.nil ?_ | refine AQ.cons hT rfl ?_ | refine AQ.nil ?_ | (refine AReq.mk (by omega) ?_) | (refine AIdx.map1 (f := nV) (xs := l) (i := i) hil ?_)); conv => whnf)
      exact hbad (hb (by omega))
    · conv => whnf
      repeat ((first | refine AO.cons hT ?_ | refine AO.nil ?_ | refine AW.seq ?_ | refine AW.region ?_ | refine AW.cond ?_ | refine AW.block ?_ | refine AW.loop ?_ | refine AW.skip ?_ | refine AW.exit ?_ | refine AW.ret ?_ | refine AW.label ?_ | refine AW.scope ?_ | refine AF.one hT rfl ?_ | refine AF.nil ?_ | refine AF.imm hT rfl rfl rfl ?_ | refine AH.of hT rfl ?_ | refine AD.cons hT rfl ?_ | refine AD.nil ?_ | refine AQ.cons hT rfl ?_ | refine AQ.nil ?_ | (refine AReq.mk (by omega) ?_) | (refine AIdx.map1 (f := nV) (xs := l) (i := i) hil ?_)); conv => whnf)
      rw [w1]
      refine AHead.mk (j - 1) _ _ (by omega) ⟨i + 1, by omega, ?_, rfl, rfl⟩ (Conv.fit (by repeat' (first | exact Fit.nil | refine Fit.any ?_ | refine Fit.same ?_)))
      intro k hk hki
      rcases Nat.lt_or_ge k i with g | g
      · exact hok k hk g
      · obtain rfl : k = i := by omega
        exact ⟨by omega, by omega⟩
  · have hall : quizB l = true := by
      refine decide_eq_true ⟨by omega, by omega, fun n hn => ?_⟩
      obtain ⟨k, hk, rfl⟩ := List.mem_iff_getElem.1 hn
      exact hok k hk (by omega)
    rw [hall]
    conv => whnf
    repeat ((first | refine AO.cons hT ?_ | refine AO.nil ?_ | refine AW.seq ?_ | refine AW.region ?_ | refine AW.cond ?_ | refine AW.block ?_ | refine AW.loop ?_ | refine AW.skip ?_ | refine AW.exit ?_ | refine AW.ret ?_ | refine AW.label ?_ | refine AW.scope ?_ | refine AF.one hT rfl ?_ | refine AF.nil ?_ | refine AF.imm hT rfl rfl rfl ?_ | refine AH.of hT rfl ?_ | refine AD.cons hT rfl ?_ | refine AD.nil ?_ | refine AQ.cons hT rfl ?_ | refine AQ.nil ?_ | (refine AReq.mk (by omega) ?_) | (refine AIdx.map1 (f := nV) (xs := l) (i := i) hil ?_)); conv => whnf)
    refine AOut.stay ?_
    conv => whnf
    repeat ((first | refine AO.cons hT ?_ | refine AO.nil ?_ | refine AW.seq ?_ | refine AW.region ?_ | refine AW.cond ?_ | refine AW.block ?_ | refine AW.loop ?_ | refine AW.skip ?_ | refine AW.exit ?_ | refine AW.ret ?_ | refine AW.label ?_ | refine AW.scope ?_ | refine AF.one hT rfl ?_ | refine AF.nil ?_ | refine AF.imm hT rfl rfl rfl ?_ | refine AH.of hT rfl ?_ | refine AD.cons hT rfl ?_ | refine AD.nil ?_ | refine AQ.cons hT rfl ?_ | refine AQ.nil ?_ | (refine AReq.mk (by omega) ?_) | (refine AIdx.map1 (f := nV) (xs := l) (i := i) hil ?_)); conv => whnf)
    exact AFin.val rfl ⟨rfl, rfl⟩
theorem f34 (l : List Int) (hl : l.length ≤ 9223372036854775807) : Fun P 34 [iVs l] (nV (if quizB l then 0 else 36)) := by
  refine spec_of hT (f := 34) (fn := Go.Proofs.Try.f34) (c := body Go.Proofs.Try.f34) (by kernel_rfl) (by kernel_rfl) ?_
  have hbad : ∀ {H : List ABlk}, quizB l = false → AFin 0 (nV 36) H (fun r' H' => r' = nV (if quizB l then 0 else 36) ∧ H' = []) := fun h => by
    rw [h]; exact AFin.val rfl ⟨rfl, rfl⟩
  conv => whnf
  repeat ((first | refine AO.cons hT ?_ | refine AO.nil ?_ | refine AW.seq ?_ | refine AW.region ?_ | refine AW.cond ?_ | refine AW.block ?_ | refine AW.loop ?_ | refine AW.skip ?_ | refine AW.exit ?_ | refine AW.ret ?_ | refine AW.label ?_ | refine AW.scope ?_ | refine AF.one hT rfl ?_ | refine AF.nil ?_ | refine AF.imm hT rfl rfl rfl ?_ | refine AH.of hT rfl ?_ | refine AD.cons hT rfl ?_ | refine AD.nil ?_ | refine AQ.cons hT rfl ?_ | refine AQ.nil ?_); conv => whnf)
  refine ASplit.dec (fun h1 => ?_) (fun h1 => ?_)
  · conv => whnf
    repeat (first | (refine AW.label ?_; conv => whnf) | (refine AW.scope ?_; conv => whnf) | (refine AO.cons hT ?_; conv => whnf) | (refine AO.nil ?_; conv => whnf) | (refine AW.seq ?_; conv => whnf) | (refine AW.region ?_; conv => whnf) | (refine AW.cond ?_; conv => whnf) | (refine AW.block ?_; conv => whnf) | (refine AW.loop ?_; conv => whnf) | (refine AW.skip ?_; conv => whnf) | (refine AW.exit ?_; conv => whnf) | (refine AW.ret ?_; conv => whnf) | (refine AF.one hT rfl ?_; conv => whnf) | (refine AF.nil ?_; conv => whnf) | (refine AF.imm hT rfl rfl rfl ?_; conv => whnf) | (refine AH.of hT rfl ?_; conv => whnf) | (refine ASplit.yes rfl ?_; conv => whnf) | (refine ACond.yes rfl ?_; conv => whnf) | (refine ASplit.no rfl ?_; conv => whnf) | (refine ACond.no rfl ?_; conv => whnf) | (refine ASplit.yes (by decide) ?_; conv => whnf) | (refine ACond.yes (by decide) ?_; conv => whnf) | (refine AReq.mk (by decide) ?_; conv => whnf) | (refine AIdx.iff.2 ⟨by decide, ?_⟩; conv => whnf))
    exact hbad (decide_eq_false (fun h => by omega))
  conv => whnf
  repeat ((first | refine AO.cons hT ?_ | refine AO.nil ?_ | refine AW.seq ?_ | refine AW.region ?_ | refine AW.cond ?_ | refine AW.block ?_ | refine AW.loop ?_ | refine AW.skip ?_ | refine AW.exit ?_ | refine AW.ret ?_ | refine AW.label ?_ | refine AW.scope ?_ | refine AF.one hT rfl ?_ | refine AF.nil ?_ | refine AF.imm hT rfl rfl rfl ?_ | refine AH.of hT rfl ?_ | refine AD.cons hT rfl ?_ | refine AD.nil ?_ | refine AQ.cons hT rfl ?_ | refine AQ.nil ?_); conv => whnf)
  refine ACond.dec (fun h2 => ?_) (fun h2 => ?_)
  · conv => whnf
    repeat (first | (refine AW.label ?_; conv => whnf) | (refine AW.scope ?_; conv => whnf) | (refine AO.cons hT ?_; conv => whnf) | (refine AO.nil ?_; conv => whnf) | (refine AW.seq ?_; conv => whnf) | (refine AW.region ?_; conv => whnf) | (refine AW.cond ?_; conv => whnf) | (refine AW.block ?_; conv => whnf) | (refine AW.loop ?_; conv => whnf) | (refine AW.skip ?_; conv => whnf) | (refine AW.exit ?_; conv => whnf) | (refine AW.ret ?_; conv => whnf) | (refine AF.one hT rfl ?_; conv => whnf) | (refine AF.nil ?_; conv => whnf) | (refine AF.imm hT rfl rfl rfl ?_; conv => whnf) | (refine AH.of hT rfl ?_; conv => whnf) | (refine ASplit.yes rfl ?_; conv => whnf) | (refine ACond.yes rfl ?_; conv => whnf) | (refine ASplit.no rfl ?_; conv => whnf) | (refine ACond.no rfl ?_; conv => whnf) | (refine ASplit.yes (by decide) ?_; conv => whnf) | (refine ACond.yes (by decide) ?_; conv => whnf) | (refine AReq.mk (by decide) ?_; conv => whnf) | (refine AIdx.iff.2 ⟨by decide, ?_⟩; conv => whnf))
    exact hbad (decide_eq_false (fun h => by omega))
  conv => whnf
  repeat ((first | refine AO.cons hT ?_ | refine AO.nil ?_ | refine AW.seq ?_ | refine AW.region ?_ | refine AW.cond ?_ | refine AW.block ?_ | refine AW.loop ?_ | refine AW.skip ?_ | refine AW.exit ?_ | refine AW.ret ?_ | refine AW.label ?_ | refine AW.scope ?_ | refine AF.one hT rfl ?_ | refine AF.nil ?_ | refine AF.imm hT rfl rfl rfl ?_ | refine AH.of hT rfl ?_ | refine AD.cons hT rfl ?_ | refine AD.nil ?_ | refine AQ.cons hT rfl ?_ | refine AQ.nil ?_); conv => whnf)
  refine ALoop.mk (fun j E H => ∃ i : Nat, j + i = l.length ∧ (∀ k (h : k < l.length), k < i → 0 ≤ l[k] ∧ l[k] ≤ 1000) ∧ E = pad [iVs l, .any, .any, nV i] 30 ∧ H = [])
    (n := l.length) _ _ ⟨0, rfl, fun _ _ h => absurd h (Nat.not_lt_zero _), rfl, rfl⟩ (Conv.fit (by repeat' (first | exact Fit.nil | refine Fit.any ?_ | refine Fit.same ?_))) ?_
  rintro j _ _ ⟨i, hj, hok, rfl, rfl⟩
  conv => whnf
  repeat ((first | refine AO.cons hT ?_ | refine AO.nil ?_ | refine AW.seq ?_ | refine AW.region ?_ | refine AW.cond ?_ | refine AW.block ?_ | refine AW.loop ?_ | refine AW.skip ?_ | refine AW.exit ?_ | refine AW.ret ?_ | refine AW.label ?_ | refine AW.scope ?_ | refine AF.one hT rfl ?_ | refine AF.nil ?_ | refine AF.imm hT rfl rfl rfl ?_ | refine AH.of hT rfl ?_ | refine AD.cons hT rfl ?_ | refine AD.nil ?_ | refine AQ.cons hT rfl ?_ | refine AQ.nil ?_); conv => whnf)
  refine ACond.dec (fun h3 => ?_) (fun h3 => ?_)
  · have hil : i < l.length := by omega
    have w1 : IntKind.wrap .i64 ((i : Int) + 1) = ((i + 1 : Nat) : Int) := by rw [wrap_i64 _ (by omega) (by omega)]; omega
    have hb : ¬ (0 ≤ l[i] ∧ l[i] ≤ 1000) → quizB l = false := fun h => decide_eq_false (fun g => h (g.2.2 _ (List.getElem_mem hil)))
    conv => whnf
    repeat ((first | refine AO.cons hT ?_ | refine AO.nil ?_ | refine AW.seq ?_ | refine AW.region ?_ | refine AW.cond ?_ | refine AW.block ?_ | refine AW.loop ?_ | refine AW.skip ?_ | refine AW.exit ?_ | refine AW.ret ?_ | refine AW.label ?_ | refine AW.scope ?_ | refine AF.one hT rfl ?_ | refine AF.nil ?_ | refine AF.imm hT rfl rfl rfl ?_ | refine AH.of hT rfl ?_ | refine AD.cons hT rfl ?_ | refine AD.nil ?_ | refine AQ.cons hT rfl ?_ | refine AQ.nil ?_ | (refine AReq.mk (by omega) ?_) | (refine AIdx.map1 (f := nV) (xs := l) (i := i) hil ?_)); conv => whnf)
    refine ASplit.dec (fun h4 => ?_) (fun h4 => ?_)
    · conv => whnf
      repeat ((first | refine AO.cons hT ?_ | refine AO.nil ?_ | refine AW.seq ?_ | refine AW.region ?_ | refine AW.cond ?_ | refine AW.block ?_ | refine AW.loop ?_ | refine AW.skip ?_ | refine AW.exit ?_ | refine AW.ret ?_ | refine AW.label ?_ | refine AW.scope ?_ | refine AF.one hT rfl ?_ | refine AF.nil ?_ | refine AF.imm hT rfl rfl rfl ?_ | refine AH.of hT rfl ?_ | refine AD.cons hT rfl ?_ | refine AD.nil ?_ | refine AQ.cons hT rfl ?_ | refine AQ.nil ?_ | (refine AReq.mk (by omega) ?_) | (refine AIdx.map1 (f := nV) (xs := l) (i := i) hil ?_)); conv => whnf)
      refine ACond.yes rfl ?_
      conv => whnf
      repeat ((first | refine AO.cons hT ?_ | refine AO.nil ?_ | refine AW.seq ?_ | refine AW.region ?_ | refine AW.cond ?_ | refine AW.block ?_ | refine AW.loop ?_ | refine AW.skip ?_ | refine AW.exit ?_ | refine AW.ret ?_ | refine AW.label ?_ | refine AW.scope ?_ | refine AF.one hT rfl ?_ | refine AF.nil ?_ | refine AF.imm hT rfl rfl rfl ?_ | refine AH.of hT rfl ?_ | refine AD.cons hT rfl ?_ | refine AD.nil ?_ | refine AQ.cons hT rfl ?_ | refine AQ.nil ?_ | (refine AReq.mk (by omega) ?_) | (refine AIdx.map1 (f := nV) (xs := l) (i := i) hil ?_)); conv => whnf)
      refine AOut.stay ?_
      conv => whnf
      repeat ((first | refine AO.cons hT ?_ | refine AO.nil ?_ | refine AW.seq ?_ | refine AW.region ?_ | refine AW.cond ?_ | refine AW.block ?_ | refine AW.loop ?_ | refine AW.skip ?_ | refine AW.exit ?_ | refine AW.ret ?_ | refine AW.label ?_ | refine AW.scope ?_ | refine AF.one hT rfl ?_ | refine AF.nil ?_ | refine AF.imm hT rfl rfl rfl ?_ | refine AH.of hT rfl ?_ | refine AD.cons hT rfl ?_ | refine AD.nil ?_ | refine AQ.cons hT rfl ?_ | refine AQ.nil ?_ | (refine AReq.mk (by omega) ?_) | (refine AIdx.map1 (f := nV) (xs := l) (i := i) hil ?_)); conv => whnf)
      exact hbad (hb (by omega))
    conv => whnf
    repeat ((first | refine AO.cons hT ?_ | refine AO.nil ?_ | refine AW.seq ?_ | refine AW.region ?_ | refine AW.cond ?_ | refine AW.block ?_ | refine AW.loop ?_ | refine AW.skip ?_ | refine AW.exit ?_ | refine AW.ret ?_ | refine AW.label ?_ | refine AW.scope ?_ | refine AF.one hT rfl ?_ | refine AF.nil ?_ | refine AF.imm hT rfl rfl rfl ?_ | refine AH.of hT rfl ?_ | refine AD.cons hT rfl ?_ | refine AD.nil ?_ | refine AQ.cons hT rfl ?_ | refine AQ.nil ?_ | (refine AReq.mk (by omega) ?_) | (refine AIdx.map1 (f := nV) (xs := l) (i := i) hil ?_)); conv => whnf)
    refine ACond.dec (fun h5 => ?_) (fun h5 => ?_)
    · conv => whnf
      repeat ((first | refine AO.cons hT ?_ | refine AO.nil ?_ | refine AW.seq ?_ | refine AW.region ?_ | refine AW.cond ?_ | refine AW.block ?_ | refine AW.loop ?_ | refine AW.skip ?_ | refine AW.exit ?_ | refine AW.ret ?_ | refine AW.label ?_ | refine AW.scope ?_ | refine AF.one hT rfl ?_ | refine AF.nil ?_ | refine AF.imm hT rfl rfl rfl ?_ | refine AH.of hT rfl ?_ | refine AD.cons hT rfl ?_ | refine AD.nil ?_ | refine AQ.cons hT rfl ?_ | refine AQ.nil ?_ | (refine AReq.mk (by omega) ?_) | (refine AIdx.map1 (f := nV) (xs := l) (i := i) hil ?_)); conv => whnf)
      refine AOut.stay ?_
      conv => whnf
      repeat ((first | refine AO.cons hT ?_ | refine AO.nil ?_ | refine AW.seq ?_ | refine AW.region ?_ | refine AW.cond ?_ | refine AW.block ?_ | refine AW.loop ?_ | refine AW.skip ?_ | refine AW.exit ?_ | refine AW.ret ?_ | refine AW.label ?_ | refine AW.scope ?_ | refine AF.one hT rfl ?_ | refine AF.nil ?_ | refine AF.imm hT rfl rfl rfl ?_ | refine AH.of hT rfl ?_ | refine AD.cons hT rfl ?_ | refine AD.nil ?_ | refine AQ.cons hT rfl ?_ | refine AQ.nil ?_ | (refine AReq.mk (by omega) ?_) | (refine AIdx.map1 (f := nV) (xs := l) (i := i) hil ?_)); conv => whnf)
      exact hbad (hb (by omega))
    · conv => whnf
      repeat ((first | refine AO.cons hT ?_ | refine AO.nil ?_ | refine AW.seq ?_ | refine AW.region ?_ | refine AW.cond ?_ | refine AW.block ?_ | refine AW.loop ?_ | refine AW.skip ?_ | refine AW.exit ?_ | refine AW.ret ?_ | refine AW.label ?_ | refine AW.scope ?_ | refine AF.one hT rfl ?_ | refine AF.nil ?_ | refine AF.imm hT rfl rfl rfl ?_ | refine AH.of hT rfl ?_ | refine AD.cons hT rfl ?_ | refine AD.nil ?_ | refine AQ.cons hT rfl ?_ | refine AQ.nil ?_ | (refine AReq.mk (by omega) ?_) | (refine AIdx.map1 (f := nV) (xs := l) (i := i) hil ?_)); conv => whnf)
      rw [w1]
      refine AHead.mk (j - 1) _ _ (by omega) ⟨i + 1, by omega, ?_, rfl, rfl⟩ (Conv.fit (by repeat' (first | exact Fit.nil | refine Fit.any ?_ | refine Fit.same ?_)))
      intro k hk hki
      rcases Nat.lt_or_ge k i with g | g
      · exact hok k hk g
      · obtain rfl : k = i := by omega
        exact ⟨by omega, by omega⟩
  · have hall : quizB l = true := by
      refine decide_eq_true ⟨by omega, by omega, fun n hn => ?_⟩
      obtain ⟨k, hk, rfl⟩ := List.mem_iff_getElem.1 hn
      exact hok k hk (by omega)
    rw [hall]
    conv => whnf
    repeat ((first | refine AO.cons hT ?_ | refine AO.nil ?_ | refine AW.seq ?_ | refine AW.region ?_ | refine AW.cond ?_ | refine AW.block ?_ | refine AW.loop ?_ | refine AW.skip ?_ | refine AW.exit ?_ | refine AW.ret ?_ | refine AW.label ?_ | refine AW.scope ?_ | refine AF.one hT rfl ?_ | refine AF.nil ?_ | refine AF.imm hT rfl rfl rfl ?_ | refine AH.of hT rfl ?_ | refine AD.cons hT rfl ?_ | refine AD.nil ?_ | refine AQ.cons hT rfl ?_ | refine AQ.nil ?_ | (refine AReq.mk (by omega) ?_) | (refine AIdx.map1 (f := nV) (xs := l) (i := i) hil ?_)); conv => whnf)
    refine AOut.stay ?_
    conv => whnf
    repeat ((first | refine AO.cons hT ?_ | refine AO.nil ?_ | refine AW.seq ?_ | refine AW.region ?_ | refine AW.cond ?_ | refine AW.block ?_ | refine AW.loop ?_ | refine AW.skip ?_ | refine AW.exit ?_ | refine AW.ret ?_ | refine AW.label ?_ | refine AW.scope ?_ | refine AF.one hT rfl ?_ | refine AF.nil ?_ | refine AF.imm hT rfl rfl rfl ?_ | refine AH.of hT rfl ?_ | refine AD.cons hT rfl ?_ | refine AD.nil ?_ | refine AQ.cons hT rfl ?_ | refine AQ.nil ?_ | (refine AReq.mk (by omega) ?_) | (refine AIdx.map1 (f := nV) (xs := l) (i := i) hil ?_)); conv => whnf)
    exact AFin.val rfl ⟨rfl, rfl⟩
theorem len3 {l : List Int} (h : l.length = 3) : ∃ a b c, l = [a, b, c] := by
  match l, h with
  | [a, b, c], _ => exact ⟨a, b, c, rfl⟩
theorem len4 {l : List Int} (h : l.length = 4) : ∃ a b c d, l = [a, b, c, d] := by
  match l, h with
  | [a, b, c, d], _ => exact ⟨a, b, c, d, rfl⟩
theorem f53 (n : Int) : Fun P 53 [nV n] (bV false) := by
  refine spec_of hT (f := 53) (fn := Go.Proofs.Try.f53) (c := body Go.Proofs.Try.f53) (by kernel_rfl) (by kernel_rfl) ?_
  conv => whnf
  repeat ((first | refine AO.cons hT ?_ | refine AO.nil ?_ | refine AW.seq ?_ | refine AW.region ?_ | refine AW.cond ?_ | refine AW.block ?_ | refine AW.loop ?_ | refine AW.skip ?_ | refine AW.exit ?_ | refine AW.ret ?_ | refine AW.label ?_ | refine AW.scope ?_ | refine AF.one hT rfl ?_ | refine AF.nil ?_ | refine AF.imm hT rfl rfl rfl ?_ | refine AH.of hT rfl ?_ | refine AD.cons hT rfl ?_ | refine AD.nil ?_ | refine AQ.cons hT rfl ?_ | refine AQ.nil ?_); conv => whnf)
  exact AFin.val rfl ⟨by simp, rfl⟩
theorem f54 (a b : Int) : Fun P 54 [nV a, nV b] (bV (decide (a < b))) := by
  refine spec_of hT (f := 54) (fn := Go.Proofs.Try.f54) (c := body Go.Proofs.Try.f54) (by kernel_rfl) (by kernel_rfl) ?_
  conv => whnf
  repeat ((first | refine AO.cons hT ?_ | refine AO.nil ?_ | refine AW.seq ?_ | refine AW.region ?_ | refine AW.cond ?_ | refine AW.block ?_ | refine AW.loop ?_ | refine AW.skip ?_ | refine AW.exit ?_ | refine AW.ret ?_ | refine AW.label ?_ | refine AW.scope ?_ | refine AF.one hT rfl ?_ | refine AF.nil ?_ | refine AF.imm hT rfl rfl rfl ?_ | refine AH.of hT rfl ?_ | refine AD.cons hT rfl ?_ | refine AD.nil ?_ | refine AQ.cons hT rfl ?_ | refine AQ.nil ?_ | (refine ACall.val (by kernel_rfl) (f53 a) rfl rfl ?_) | (refine ASplit.no rfl ?_)); conv => whnf)
  exact AFin.val rfl ⟨rfl, rfl⟩
theorem f46 (a b c : Int) : Fun P 46 [iVs [a, b, c]] (bV (decide (a ≤ b ∧ b ≤ c))) := by
  refine spec_of hT (f := 46) (fn := Go.Proofs.Try.f46) (c := body Go.Proofs.Try.f46) (by kernel_rfl) (by kernel_rfl) ?_
  conv => whnf
  repeat ((first | refine AW.plan (id := 4) hm (.one 0 (.one 1 (.one 2 (.one 4 (.one 5 (.one 6 (.one 7 (.one 3 (.one 8 (.one 9 .nil)))))))))) (by kernel_rfl) ?_ | refine AO.cons hT ?_ | refine AO.nil ?_ | refine AW.seq ?_ | refine AW.region ?_ | refine AW.cond ?_ | refine AW.block ?_ | refine AW.loop ?_ | refine AW.skip ?_ | refine AW.exit ?_ | refine AW.ret ?_ | refine AW.label ?_ | refine AW.scope ?_ | refine AF.one hT rfl ?_ | refine AF.nil ?_ | refine AF.imm hT rfl rfl rfl ?_ | refine AH.of hT rfl ?_ | refine AD.cons hT rfl ?_ | refine AD.nil ?_ | refine AQ.cons hT rfl ?_ | refine AQ.nil ?_ | (refine ALoop.un ?_) | (refine ALp.step (T := T) ?_) | (refine AReq.mk (of_decide_eq_true rfl) ?_) | (refine AIdx.sp rfl ?_) | (refine ACond.yes rfl ?_) | (refine ACond.no rfl ?_) | (refine ACall.val (by kernel_rfl) (f54 c b) rfl rfl ?_) | (refine ACall.val (by kernel_rfl) (f54 b a) rfl rfl ?_)); conv => whnf)
  refine ACond.dec (fun h => ?_) (fun h => ?_)
  · rw [decide_eq_false (fun g => by omega)]
    conv => whnf
    repeat ((first | refine AW.plan (id := 4) hm (.one 0 (.one 1 (.one 2 (.one 4 (.one 5 (.one 6 (.one 7 (.one 3 (.one 8 (.one 9 .nil)))))))))) (by kernel_rfl) ?_ | refine AO.cons hT ?_ | refine AO.nil ?_ | refine AW.seq ?_ | refine AW.region ?_ | refine AW.cond ?_ | refine AW.block ?_ | refine AW.loop ?_ | refine AW.skip ?_ | refine AW.exit ?_ | refine AW.ret ?_ | refine AW.label ?_ | refine AW.scope ?_ | refine AF.one hT rfl ?_ | refine AF.nil ?_ | refine AF.imm hT rfl rfl rfl ?_ | refine AH.of hT rfl ?_ | refine AD.cons hT rfl ?_ | refine AD.nil ?_ | refine AQ.cons hT rfl ?_ | refine AQ.nil ?_ | (refine ALoop.un ?_) | (refine ALp.step (T := T) ?_) | (refine AReq.mk (of_decide_eq_true rfl) ?_) | (refine AIdx.sp rfl ?_) | (refine ACond.yes rfl ?_) | (refine ACond.no rfl ?_) | (refine ACall.val (by kernel_rfl) (f54 c b) rfl rfl ?_) | (refine ACall.val (by kernel_rfl) (f54 b a) rfl rfl ?_)); conv => whnf)
    exact AFin.val rfl ⟨rfl, rfl⟩
  conv => whnf
  repeat ((first | refine AW.plan (id := 4) hm (.one 0 (.one 1 (.one 2 (.one 4 (.one 5 (.one 6 (.one 7 (.one 3 (.one 8 (.one 9 .nil)))))))))) (by kernel_rfl) ?_ | refine AO.cons hT ?_ | refine AO.nil ?_ | refine AW.seq ?_ | refine AW.region ?_ | refine AW.cond ?_ | refine AW.block ?_ | refine AW.loop ?_ | refine AW.skip ?_ | refine AW.exit ?_ | refine AW.ret ?_ | refine AW.label ?_ | refine AW.scope ?_ | refine AF.one hT rfl ?_ | refine AF.nil ?_ | refine AF.imm hT rfl rfl rfl ?_ | refine AH.of hT rfl ?_ | refine AD.cons hT rfl ?_ | refine AD.nil ?_ | refine AQ.cons hT rfl ?_ | refine AQ.nil ?_ | (refine ALoop.un ?_) | (refine ALp.step (T := T) ?_) | (refine AReq.mk (of_decide_eq_true rfl) ?_) | (refine AIdx.sp rfl ?_) | (refine ACond.yes rfl ?_) | (refine ACond.no rfl ?_) | (refine ACall.val (by kernel_rfl) (f54 c b) rfl rfl ?_) | (refine ACall.val (by kernel_rfl) (f54 b a) rfl rfl ?_)); conv => whnf)
  refine ACond.dec (fun h2 => ?_) (fun h2 => ?_)
  · rw [decide_eq_false (fun g => by omega)]
    conv => whnf
    repeat ((first | refine AW.plan (id := 4) hm (.one 0 (.one 1 (.one 2 (.one 4 (.one 5 (.one 6 (.one 7 (.one 3 (.one 8 (.one 9 .nil)))))))))) (by kernel_rfl) ?_ | refine AO.cons hT ?_ | refine AO.nil ?_ | refine AW.seq ?_ | refine AW.region ?_ | refine AW.cond ?_ | refine AW.block ?_ | refine AW.loop ?_ | refine AW.skip ?_ | refine AW.exit ?_ | refine AW.ret ?_ | refine AW.label ?_ | refine AW.scope ?_ | refine AF.one hT rfl ?_ | refine AF.nil ?_ | refine AF.imm hT rfl rfl rfl ?_ | refine AH.of hT rfl ?_ | refine AD.cons hT rfl ?_ | refine AD.nil ?_ | refine AQ.cons hT rfl ?_ | refine AQ.nil ?_ | (refine ALoop.un ?_) | (refine ALp.step (T := T) ?_) | (refine AReq.mk (of_decide_eq_true rfl) ?_) | (refine AIdx.sp rfl ?_) | (refine ACond.yes rfl ?_) | (refine ACond.no rfl ?_) | (refine ACall.val (by kernel_rfl) (f54 c b) rfl rfl ?_) | (refine ACall.val (by kernel_rfl) (f54 b a) rfl rfl ?_)); conv => whnf)
    exact AFin.val rfl ⟨rfl, rfl⟩
  rw [decide_eq_true (by omega)]
  conv => whnf
  repeat ((first | refine AW.plan (id := 4) hm (.one 0 (.one 1 (.one 2 (.one 4 (.one 5 (.one 6 (.one 7 (.one 3 (.one 8 (.one 9 .nil)))))))))) (by kernel_rfl) ?_ | refine AO.cons hT ?_ | refine AO.nil ?_ | refine AW.seq ?_ | refine AW.region ?_ | refine AW.cond ?_ | refine AW.block ?_ | refine AW.loop ?_ | refine AW.skip ?_ | refine AW.exit ?_ | refine AW.ret ?_ | refine AW.label ?_ | refine AW.scope ?_ | refine AF.one hT rfl ?_ | refine AF.nil ?_ | refine AF.imm hT rfl rfl rfl ?_ | refine AH.of hT rfl ?_ | refine AD.cons hT rfl ?_ | refine AD.nil ?_ | refine AQ.cons hT rfl ?_ | refine AQ.nil ?_ | (refine ALoop.un ?_) | (refine ALp.step (T := T) ?_) | (refine AReq.mk (of_decide_eq_true rfl) ?_) | (refine AIdx.sp rfl ?_) | (refine ACond.yes rfl ?_) | (refine ACond.no rfl ?_) | (refine ACall.val (by kernel_rfl) (f54 c b) rfl rfl ?_) | (refine ACall.val (by kernel_rfl) (f54 b a) rfl rfl ?_)); conv => whnf)
  exact AFin.val rfl ⟨rfl, rfl⟩
theorem f32 (l : List Int) : Fun P 32 [iVs l] (nV (if cutB l then 0 else 36)) := by
  refine spec_of hT (f := 32) (fn := Go.Proofs.Try.f32) (c := body Go.Proofs.Try.f32) (by kernel_rfl) (by kernel_rfl) ?_
  have hbad : ∀ {H : List ABlk}, cutB l = false → AFin 0 (nV 36) H (fun r' H' => r' = nV (if cutB l then 0 else 36) ∧ H' = []) := fun h => by
    rw [h]; exact AFin.val rfl ⟨rfl, rfl⟩
  by_cases hl : l.length = 3
  case neg =>
    conv => whnf
    repeat ((first | refine AO.cons hT ?_ | refine AO.nil ?_ | refine AW.seq ?_ | refine AW.region ?_ | refine AW.cond ?_ | refine AW.block ?_ | refine AW.loop ?_ | refine AW.skip ?_ | refine AW.exit ?_ | refine AW.ret ?_ | refine AW.label ?_ | refine AW.scope ?_ | refine AF.one hT rfl ?_ | refine AF.nil ?_ | refine AF.imm hT rfl rfl rfl ?_ | refine AH.of hT rfl ?_ | refine AD.cons hT rfl ?_ | refine AD.nil ?_ | refine AQ.cons hT rfl ?_ | refine AQ.nil ?_); conv => whnf)
    refine ASplit.ndec (fun h1 => ?_) (fun h1 => absurd h1 (by omega))
    conv => whnf
    repeat (first | (refine AW.label ?_; conv => whnf) | (refine AW.scope ?_; conv => whnf) | (refine AO.cons hT ?_; conv => whnf) | (refine AO.nil ?_; conv => whnf) | (refine AW.seq ?_; conv => whnf) | (refine AW.region ?_; conv => whnf) | (refine AW.cond ?_; conv => whnf) | (refine AW.block ?_; conv => whnf) | (refine AW.loop ?_; conv => whnf) | (refine AW.skip ?_; conv => whnf) | (refine AW.exit ?_; conv => whnf) | (refine AW.ret ?_; conv => whnf) | (refine AF.one hT rfl ?_; conv => whnf) | (refine AF.nil ?_; conv => whnf) | (refine AF.imm hT rfl rfl rfl ?_; conv => whnf) | (refine AH.of hT rfl ?_; conv => whnf) | (refine ASplit.yes rfl ?_; conv => whnf) | (refine ACond.yes rfl ?_; conv => whnf) | (refine ASplit.no rfl ?_; conv => whnf) | (refine ACond.no rfl ?_; conv => whnf) | (refine ASplit.yes (by decide) ?_; conv => whnf) | (refine ACond.yes (by decide) ?_; conv => whnf) | (refine AReq.mk (by decide) ?_; conv => whnf) | (refine AIdx.iff.2 ⟨by decide, ?_⟩; conv => whnf))
    exact hbad (decide_eq_false (fun h => by omega))
  obtain ⟨a, b, c, rfl⟩ := len3 hl
  have hcb : cutB [a, b, c] = decide (0 ≤ a ∧ a ≤ b ∧ b ≤ c ∧ c ≤ 8000) := by unfold cutB; simp
  conv => whnf
  repeat ((first | refine AO.cons hT ?_ | refine AO.nil ?_ | refine AW.seq ?_ | refine AW.region ?_ | refine AW.cond ?_ | refine AW.block ?_ | refine AW.loop ?_ | refine AW.skip ?_ | refine AW.exit ?_ | refine AW.ret ?_ | refine AW.label ?_ | refine AW.scope ?_ | refine AF.one hT rfl ?_ | refine AF.nil ?_ | refine AF.imm hT rfl rfl rfl ?_ | refine AH.of hT rfl ?_ | refine AD.cons hT rfl ?_ | refine AD.nil ?_ | refine AQ.cons hT rfl ?_ | refine AQ.nil ?_ | (refine AReq.mk (of_decide_eq_true rfl) ?_) | (refine AIdx.sp rfl ?_) | (refine ACall.val (by kernel_rfl) (f46 a b c) rfl rfl ?_)); conv => whnf)
  refine ASplit.no rfl ?_
  conv => whnf
  repeat ((first | refine AO.cons hT ?_ | refine AO.nil ?_ | refine AW.seq ?_ | refine AW.region ?_ | refine AW.cond ?_ | refine AW.block ?_ | refine AW.loop ?_ | refine AW.skip ?_ | refine AW.exit ?_ | refine AW.ret ?_ | refine AW.label ?_ | refine AW.scope ?_ | refine AF.one hT rfl ?_ | refine AF.nil ?_ | refine AF.imm hT rfl rfl rfl ?_ | refine AH.of hT rfl ?_ | refine AD.cons hT rfl ?_ | refine AD.nil ?_ | refine AQ.cons hT rfl ?_ | refine AQ.nil ?_ | (refine AReq.mk (of_decide_eq_true rfl) ?_) | (refine AIdx.sp rfl ?_) | (refine ACall.val (by kernel_rfl) (f46 a b c) rfl rfl ?_)); conv => whnf)
  refine ASplit.ndec (fun h1 => ?_) (fun h1 => ?_)
  · conv => whnf
    repeat (first | (refine AW.label ?_; conv => whnf) | (refine AW.scope ?_; conv => whnf) | (refine AO.cons hT ?_; conv => whnf) | (refine AO.nil ?_; conv => whnf) | (refine AW.seq ?_; conv => whnf) | (refine AW.region ?_; conv => whnf) | (refine AW.cond ?_; conv => whnf) | (refine AW.block ?_; conv => whnf) | (refine AW.loop ?_; conv => whnf) | (refine AW.skip ?_; conv => whnf) | (refine AW.exit ?_; conv => whnf) | (refine AW.ret ?_; conv => whnf) | (refine AF.one hT rfl ?_; conv => whnf) | (refine AF.nil ?_; conv => whnf) | (refine AF.imm hT rfl rfl rfl ?_; conv => whnf) | (refine AH.of hT rfl ?_; conv => whnf) | (refine ASplit.yes rfl ?_; conv => whnf) | (refine ACond.yes rfl ?_; conv => whnf) | (refine ASplit.no rfl ?_; conv => whnf) | (refine ACond.no rfl ?_; conv => whnf) | (refine ASplit.yes (by decide) ?_; conv => whnf) | (refine ACond.yes (by decide) ?_; conv => whnf) | (refine AReq.mk (by decide) ?_; conv => whnf) | (refine AIdx.iff.2 ⟨by decide, ?_⟩; conv => whnf) | (refine AReq.mk (of_decide_eq_true rfl) ?_; conv => whnf) | (refine AIdx.sp rfl ?_; conv => whnf) | (refine ACall.val (by kernel_rfl) (f46 a b c) rfl rfl ?_; conv => whnf))
    exact hbad (by rw [hcb]; exact decide_eq_false (fun h => h1 ⟨h.2.1, h.2.2.1⟩))
  conv => whnf
  repeat ((first | refine AO.cons hT ?_ | refine AO.nil ?_ | refine AW.seq ?_ | refine AW.region ?_ | refine AW.cond ?_ | refine AW.block ?_ | refine AW.loop ?_ | refine AW.skip ?_ | refine AW.exit ?_ | refine AW.ret ?_ | refine AW.label ?_ | refine AW.scope ?_ | refine AF.one hT rfl ?_ | refine AF.nil ?_ | refine AF.imm hT rfl rfl rfl ?_ | refine AH.of hT rfl ?_ | refine AD.cons hT rfl ?_ | refine AD.nil ?_ | refine AQ.cons hT rfl ?_ | refine AQ.nil ?_ | (refine AReq.mk (of_decide_eq_true rfl) ?_) | (refine AIdx.sp rfl ?_) | (refine ACall.val (by kernel_rfl) (f46 a b c) rfl rfl ?_)); conv => whnf)
  refine ASplit.dec (fun h2 => ?_) (fun h2 => ?_)
  · conv => whnf
    repeat (first | (refine AW.label ?_; conv => whnf) | (refine AW.scope ?_; conv => whnf) | (refine AO.cons hT ?_; conv => whnf) | (refine AO.nil ?_; conv => whnf) | (refine AW.seq ?_; conv => whnf) | (refine AW.region ?_; conv => whnf) | (refine AW.cond ?_; conv => whnf) | (refine AW.block ?_; conv => whnf) | (refine AW.loop ?_; conv => whnf) | (refine AW.skip ?_; conv => whnf) | (refine AW.exit ?_; conv => whnf) | (refine AW.ret ?_; conv => whnf) | (refine AF.one hT rfl ?_; conv => whnf) | (refine AF.nil ?_; conv => whnf) | (refine AF.imm hT rfl rfl rfl ?_; conv => whnf) | (refine AH.of hT rfl ?_; conv => whnf) | (refine ASplit.yes rfl ?_; conv => whnf) | (refine ACond.yes rfl ?_; conv => whnf) | (refine ASplit.no rfl ?_; conv => whnf) | (refine ACond.no rfl ?_; conv => whnf) | (refine ASplit.yes (by decide) ?_; conv => whnf) | (refine ACond.yes (by decide) ?_; conv => whnf) | (refine AReq.mk (by decide) ?_; conv => whnf) | (refine AIdx.iff.2 ⟨by decide, ?_⟩; conv => whnf) | (refine AReq.mk (of_decide_eq_true rfl) ?_; conv => whnf) | (refine AIdx.sp rfl ?_; conv => whnf) | (refine ACall.val (by kernel_rfl) (f46 a b c) rfl rfl ?_; conv => whnf))
    exact hbad (by rw [hcb]; exact decide_eq_false (fun h => by omega))
  conv => whnf
  repeat ((first | refine AO.cons hT ?_ | refine AO.nil ?_ | refine AW.seq ?_ | refine AW.region ?_ | refine AW.cond ?_ | refine AW.block ?_ | refine AW.loop ?_ | refine AW.skip ?_ | refine AW.exit ?_ | refine AW.ret ?_ | refine AW.label ?_ | refine AW.scope ?_ | refine AF.one hT rfl ?_ | refine AF.nil ?_ | refine AF.imm hT rfl rfl rfl ?_ | refine AH.of hT rfl ?_ | refine AD.cons hT rfl ?_ | refine AD.nil ?_ | refine AQ.cons hT rfl ?_ | refine AQ.nil ?_ | (refine AReq.mk (of_decide_eq_true rfl) ?_) | (refine AIdx.sp rfl ?_) | (refine ACall.val (by kernel_rfl) (f46 a b c) rfl rfl ?_)); conv => whnf)
  refine ACond.dec (fun h3 => ?_) (fun h3 => ?_)
  · conv => whnf
    repeat (first | (refine AW.label ?_; conv => whnf) | (refine AW.scope ?_; conv => whnf) | (refine AO.cons hT ?_; conv => whnf) | (refine AO.nil ?_; conv => whnf) | (refine AW.seq ?_; conv => whnf) | (refine AW.region ?_; conv => whnf) | (refine AW.cond ?_; conv => whnf) | (refine AW.block ?_; conv => whnf) | (refine AW.loop ?_; conv => whnf) | (refine AW.skip ?_; conv => whnf) | (refine AW.exit ?_; conv => whnf) | (refine AW.ret ?_; conv => whnf) | (refine AF.one hT rfl ?_; conv => whnf) | (refine AF.nil ?_; conv => whnf) | (refine AF.imm hT rfl rfl rfl ?_; conv => whnf) | (refine AH.of hT rfl ?_; conv => whnf) | (refine ASplit.yes rfl ?_; conv => whnf) | (refine ACond.yes rfl ?_; conv => whnf) | (refine ASplit.no rfl ?_; conv => whnf) | (refine ACond.no rfl ?_; conv => whnf) | (refine ASplit.yes (by decide) ?_; conv => whnf) | (refine ACond.yes (by decide) ?_; conv => whnf) | (refine AReq.mk (by decide) ?_; conv => whnf) | (refine AIdx.iff.2 ⟨by decide, ?_⟩; conv => whnf) | (refine AReq.mk (of_decide_eq_true rfl) ?_; conv => whnf) | (refine AIdx.sp rfl ?_; conv => whnf) | (refine ACall.val (by kernel_rfl) (f46 a b c) rfl rfl ?_; conv => whnf))
    exact hbad (by rw [hcb]; exact decide_eq_false (fun h => by omega))
  rw [hcb, decide_eq_true ⟨by omega, h1.1, h1.2, by omega⟩]
  conv => whnf
  repeat ((first | refine AO.cons hT ?_ | refine AO.nil ?_ | refine AW.seq ?_ | refine AW.region ?_ | refine AW.cond ?_ | refine AW.block ?_ | refine AW.loop ?_ | refine AW.skip ?_ | refine AW.exit ?_ | refine AW.ret ?_ | refine AW.label ?_ | refine AW.scope ?_ | refine AF.one hT rfl ?_ | refine AF.nil ?_ | refine AF.imm hT rfl rfl rfl ?_ | refine AH.of hT rfl ?_ | refine AD.cons hT rfl ?_ | refine AD.nil ?_ | refine AQ.cons hT rfl ?_ | refine AQ.nil ?_ | (refine AReq.mk (of_decide_eq_true rfl) ?_) | (refine AIdx.sp rfl ?_) | (refine ACall.val (by kernel_rfl) (f46 a b c) rfl rfl ?_)); conv => whnf)
  exact AFin.val rfl ⟨rfl, rfl⟩
theorem f35 (l : List Int) : Fun P 35 [iVs l] (nV (if cutB l then 0 else 36)) := by
  refine spec_of hT (f := 35) (fn := Go.Proofs.Try.f35) (c := body Go.Proofs.Try.f35) (by kernel_rfl) (by kernel_rfl) ?_
  have hbad : ∀ {H : List ABlk}, cutB l = false → AFin 0 (nV 36) H (fun r' H' => r' = nV (if cutB l then 0 else 36) ∧ H' = []) := fun h => by
    rw [h]; exact AFin.val rfl ⟨rfl, rfl⟩
  by_cases hl : l.length = 3
  case neg =>
    conv => whnf
    repeat ((first | refine AW.plan (id := 1) hm (.one 0 (.one 1 (.one 2 (.one 3 (.one 4 (.one 5 (.one 6 (.one 7 (.one 8 (.one 9 (.one 10 (.one 11 (.one 13 (.one 14 (.one 12 (.one 15 (.one 16 (.one 17 (.one 18 (.one 19 (.one 20 (.one 22 (.one 23 (.one 21 (.one 24 (.one 25 (.one 26 (.one 27 (.one 28 (.one 29 (.one 30 (.one 31 (.one 32 .nil))))))))))))))))))))))))))))))))) (by kernel_rfl) ?_ | refine AO.cons hT ?_ | refine AO.nil ?_ | refine AW.seq ?_ | refine AW.region ?_ | refine AW.cond ?_ | refine AW.block ?_ | refine AW.loop ?_ | refine AW.skip ?_ | refine AW.exit ?_ | refine AW.ret ?_ | refine AW.label ?_ | refine AW.scope ?_ | refine AF.one hT rfl ?_ | refine AF.nil ?_ | refine AF.imm hT rfl rfl rfl ?_ | refine AH.of hT rfl ?_ | refine AD.cons hT rfl ?_ | refine AD.nil ?_ | refine AQ.cons hT rfl ?_ | refine AQ.nil ?_); conv => whnf)
    refine ASplit.ndec (fun h1 => ?_) (fun h1 => absurd h1 (by omega))
    conv => whnf
    repeat (first | (refine AW.plan (id := 1) hm (.one 0 (.one 1 (.one 2 (.one 3 (.one 4 (.one 5 (.one 6 (.one 7 (.one 8 (.one 9 (.one 10 (.one 11 (.one 13 (.one 14 (.one 12 (.one 15 (.one 16 (.one 17 (.one 18 (.one 19 (.one 20 (.one 22 (.one 23 (.one 21 (.one 24 (.one 25 (.one 26 (.one 27 (.one 28 (.one 29 (.one 30 (.one 31 (.one 32 .nil))))))))))))))))))))))))))))))))) (by kernel_rfl) ?_; conv => whnf) | (refine AW.label ?_; conv => whnf) | (refine AW.scope ?_; conv => whnf) | (refine AO.cons hT ?_; conv => whnf) | (refine AO.nil ?_; conv => whnf) | (refine AW.seq ?_; conv => whnf) | (refine AW.region ?_; conv => whnf) | (refine AW.cond ?_; conv => whnf) | (refine AW.block ?_; conv => whnf) | (refine AW.loop ?_; conv => whnf) | (refine AW.skip ?_; conv => whnf) | (refine AW.exit ?_; conv => whnf) | (refine AW.ret ?_; conv => whnf) | (refine AF.one hT rfl ?_; conv => whnf) | (refine AF.nil ?_; conv => whnf) | (refine AF.imm hT rfl rfl rfl ?_; conv => whnf) | (refine AH.of hT rfl ?_; conv => whnf) | (refine ASplit.yes rfl ?_; conv => whnf) | (refine ACond.yes rfl ?_; conv => whnf) | (refine ASplit.no rfl ?_; conv => whnf) | (refine ACond.no rfl ?_; conv => whnf) | (refine ASplit.yes (by decide) ?_; conv => whnf) | (refine ACond.yes (by decide) ?_; conv => whnf) | (refine AReq.mk (by decide) ?_; conv => whnf) | (refine AIdx.iff.2 ⟨by decide, ?_⟩; conv => whnf))
    exact hbad (decide_eq_false (fun h => by omega))
  obtain ⟨a, b, c, rfl⟩ := len3 hl
  have hcb : cutB [a, b, c] = decide (0 ≤ a ∧ a ≤ b ∧ b ≤ c ∧ c ≤ 8000) := by unfold cutB; simp
  conv => whnf
  repeat ((first | refine AW.plan (id := 1) hm (.one 0 (.one 1 (.one 2 (.one 3 (.one 4 (.one 5 (.one 6 (.one 7 (.one 8 (.one 9 (.one 10 (.one 11 (.one 13 (.one 14 (.one 12 (.one 15 (.one 16 (.one 17 (.one 18 (.one 19 (.one 20 (.one 22 (.one 23 (.one 21 (.one 24 (.one 25 (.one 26 (.one 27 (.one 28 (.one 29 (.one 30 (.one 31 (.one 32 .nil))))))))))))))))))))))))))))))))) (by kernel_rfl) ?_ | refine AO.cons hT ?_ | refine AO.nil ?_ | refine AW.seq ?_ | refine AW.region ?_ | refine AW.cond ?_ | refine AW.block ?_ | refine AW.loop ?_ | refine AW.skip ?_ | refine AW.exit ?_ | refine AW.ret ?_ | refine AW.label ?_ | refine AW.scope ?_ | refine AF.one hT rfl ?_ | refine AF.nil ?_ | refine AF.imm hT rfl rfl rfl ?_ | refine AH.of hT rfl ?_ | refine AD.cons hT rfl ?_ | refine AD.nil ?_ | refine AQ.cons hT rfl ?_ | refine AQ.nil ?_ | (refine AReq.mk (of_decide_eq_true rfl) ?_) | (refine AIdx.sp rfl ?_)); conv => whnf)
  refine ASplit.no rfl ?_
  conv => whnf
  repeat ((first | refine AW.plan (id := 1) hm (.one 0 (.one 1 (.one 2 (.one 3 (.one 4 (.one 5 (.one 6 (.one 7 (.one 8 (.one 9 (.one 10 (.one 11 (.one 13 (.one 14 (.one 12 (.one 15 (.one 16 (.one 17 (.one 18 (.one 19 (.one 20 (.one 22 (.one 23 (.one 21 (.one 24 (.one 25 (.one 26 (.one 27 (.one 28 (.one 29 (.one 30 (.one 31 (.one 32 .nil))))))))))))))))))))))))))))))))) (by kernel_rfl) ?_ | refine AO.cons hT ?_ | refine AO.nil ?_ | refine AW.seq ?_ | refine AW.region ?_ | refine AW.cond ?_ | refine AW.block ?_ | refine AW.loop ?_ | refine AW.skip ?_ | refine AW.exit ?_ | refine AW.ret ?_ | refine AW.label ?_ | refine AW.scope ?_ | refine AF.one hT rfl ?_ | refine AF.nil ?_ | refine AF.imm hT rfl rfl rfl ?_ | refine AH.of hT rfl ?_ | refine AD.cons hT rfl ?_ | refine AD.nil ?_ | refine AQ.cons hT rfl ?_ | refine AQ.nil ?_ | (refine AReq.mk (of_decide_eq_true rfl) ?_) | (refine AIdx.sp rfl ?_)); conv => whnf)
  refine ASplit.dec (fun h1 => ?_) (fun h1 => ?_)
  · conv => whnf
    repeat (first | (refine AW.plan (id := 1) hm (.one 0 (.one 1 (.one 2 (.one 3 (.one 4 (.one 5 (.one 6 (.one 7 (.one 8 (.one 9 (.one 10 (.one 11 (.one 13 (.one 14 (.one 12 (.one 15 (.one 16 (.one 17 (.one 18 (.one 19 (.one 20 (.one 22 (.one 23 (.one 21 (.one 24 (.one 25 (.one 26 (.one 27 (.one 28 (.one 29 (.one 30 (.one 31 (.one 32 .nil))))))))))))))))))))))))))))))))) (by kernel_rfl) ?_; conv => whnf) | (refine AW.label ?_; conv => whnf) | (refine AW.scope ?_; conv => whnf) | (refine AO.cons hT ?_; conv => whnf) | (refine AO.nil ?_; conv => whnf) | (refine AW.seq ?_; conv => whnf) | (refine AW.region ?_; conv => whnf) | (refine AW.cond ?_; conv => whnf) | (refine AW.block ?_; conv => whnf) | (refine AW.loop ?_; conv => whnf) | (refine AW.skip ?_; conv => whnf) | (refine AW.exit ?_; conv => whnf) | (refine AW.ret ?_; conv => whnf) | (refine AF.one hT rfl ?_; conv => whnf) | (refine AF.nil ?_; conv => whnf) | (refine AF.imm hT rfl rfl rfl ?_; conv => whnf) | (refine AH.of hT rfl ?_; conv => whnf) | (refine ASplit.yes rfl ?_; conv => whnf) | (refine ACond.yes rfl ?_; conv => whnf) | (refine ASplit.no rfl ?_; conv => whnf) | (refine ACond.no rfl ?_; conv => whnf) | (refine ASplit.yes (by decide) ?_; conv => whnf) | (refine ACond.yes (by decide) ?_; conv => whnf) | (refine AReq.mk (by decide) ?_; conv => whnf) | (refine AIdx.iff.2 ⟨by decide, ?_⟩; conv => whnf) | (refine AReq.mk (of_decide_eq_true rfl) ?_; conv => whnf) | (refine AIdx.sp rfl ?_; conv => whnf))
    exact hbad (by rw [hcb]; exact decide_eq_false (fun h => by omega))
  conv => whnf
  repeat ((first | refine AW.plan (id := 1) hm (.one 0 (.one 1 (.one 2 (.one 3 (.one 4 (.one 5 (.one 6 (.one 7 (.one 8 (.one 9 (.one 10 (.one 11 (.one 13 (.one 14 (.one 12 (.one 15 (.one 16 (.one 17 (.one 18 (.one 19 (.one 20 (.one 22 (.one 23 (.one 21 (.one 24 (.one 25 (.one 26 (.one 27 (.one 28 (.one 29 (.one 30 (.one 31 (.one 32 .nil))))))))))))))))))))))))))))))))) (by kernel_rfl) ?_ | refine AO.cons hT ?_ | refine AO.nil ?_ | refine AW.seq ?_ | refine AW.region ?_ | refine AW.cond ?_ | refine AW.block ?_ | refine AW.loop ?_ | refine AW.skip ?_ | refine AW.exit ?_ | refine AW.ret ?_ | refine AW.label ?_ | refine AW.scope ?_ | refine AF.one hT rfl ?_ | refine AF.nil ?_ | refine AF.imm hT rfl rfl rfl ?_ | refine AH.of hT rfl ?_ | refine AD.cons hT rfl ?_ | refine AD.nil ?_ | refine AQ.cons hT rfl ?_ | refine AQ.nil ?_ | (refine AReq.mk (of_decide_eq_true rfl) ?_) | (refine AIdx.sp rfl ?_)); conv => whnf)
  refine ASplit.dec (fun h2 => ?_) (fun h2 => ?_)
  · conv => whnf
    repeat (first | (refine AW.plan (id := 1) hm (.one 0 (.one 1 (.one 2 (.one 3 (.one 4 (.one 5 (.one 6 (.one 7 (.one 8 (.one 9 (.one 10 (.one 11 (.one 13 (.one 14 (.one 12 (.one 15 (.one 16 (.one 17 (.one 18 (.one 19 (.one 20 (.one 22 (.one 23 (.one 21 (.one 24 (.one 25 (.one 26 (.one 27 (.one 28 (.one 29 (.one 30 (.one 31 (.one 32 .nil))))))))))))))))))))))))))))))))) (by kernel_rfl) ?_; conv => whnf) | (refine AW.label ?_; conv => whnf) | (refine AW.scope ?_; conv => whnf) | (refine AO.cons hT ?_; conv => whnf) | (refine AO.nil ?_; conv => whnf) | (refine AW.seq ?_; conv => whnf) | (refine AW.region ?_; conv => whnf) | (refine AW.cond ?_; conv => whnf) | (refine AW.block ?_; conv => whnf) | (refine AW.loop ?_; conv => whnf) | (refine AW.skip ?_; conv => whnf) | (refine AW.exit ?_; conv => whnf) | (refine AW.ret ?_; conv => whnf) | (refine AF.one hT rfl ?_; conv => whnf) | (refine AF.nil ?_; conv => whnf) | (refine AF.imm hT rfl rfl rfl ?_; conv => whnf) | (refine AH.of hT rfl ?_; conv => whnf) | (refine ASplit.yes rfl ?_; conv => whnf) | (refine ACond.yes rfl ?_; conv => whnf) | (refine ASplit.no rfl ?_; conv => whnf) | (refine ACond.no rfl ?_; conv => whnf) | (refine ASplit.yes (by decide) ?_; conv => whnf) | (refine ACond.yes (by decide) ?_; conv => whnf) | (refine AReq.mk (by decide) ?_; conv => whnf) | (refine AIdx.iff.2 ⟨by decide, ?_⟩; conv => whnf) | (refine AReq.mk (of_decide_eq_true rfl) ?_; conv => whnf) | (refine AIdx.sp rfl ?_; conv => whnf))
    exact hbad (by rw [hcb]; exact decide_eq_false (fun h => by omega))
  conv => whnf
  repeat ((first | refine AW.plan (id := 1) hm (.one 0 (.one 1 (.one 2 (.one 3 (.one 4 (.one 5 (.one 6 (.one 7 (.one 8 (.one 9 (.one 10 (.one 11 (.one 13 (.one 14 (.one 12 (.one 15 (.one 16 (.one 17 (.one 18 (.one 19 (.one 20 (.one 22 (.one 23 (.one 21 (.one 24 (.one 25 (.one 26 (.one 27 (.one 28 (.one 29 (.one 30 (.one 31 (.one 32 .nil))))))))))))))))))))))))))))))))) (by kernel_rfl) ?_ | refine AO.cons hT ?_ | refine AO.nil ?_ | refine AW.seq ?_ | refine AW.region ?_ | refine AW.cond ?_ | refine AW.block ?_ | refine AW.loop ?_ | refine AW.skip ?_ | refine AW.exit ?_ | refine AW.ret ?_ | refine AW.label ?_ | refine AW.scope ?_ | refine AF.one hT rfl ?_ | refine AF.nil ?_ | refine AF.imm hT rfl rfl rfl ?_ | refine AH.of hT rfl ?_ | refine AD.cons hT rfl ?_ | refine AD.nil ?_ | refine AQ.cons hT rfl ?_ | refine AQ.nil ?_ | (refine AReq.mk (of_decide_eq_true rfl) ?_) | (refine AIdx.sp rfl ?_)); conv => whnf)
  refine ASplit.dec (fun h3 => ?_) (fun h3 => ?_)
  · conv => whnf
    repeat (first | (refine AW.plan (id := 1) hm (.one 0 (.one 1 (.one 2 (.one 3 (.one 4 (.one 5 (.one 6 (.one 7 (.one 8 (.one 9 (.one 10 (.one 11 (.one 13 (.one 14 (.one 12 (.one 15 (.one 16 (.one 17 (.one 18 (.one 19 (.one 20 (.one 22 (.one 23 (.one 21 (.one 24 (.one 25 (.one 26 (.one 27 (.one 28 (.one 29 (.one 30 (.one 31 (.one 32 .nil))))))))))))))))))))))))))))))))) (by kernel_rfl) ?_; conv => whnf) | (refine AW.label ?_; conv => whnf) | (refine AW.scope ?_; conv => whnf) | (refine AO.cons hT ?_; conv => whnf) | (refine AO.nil ?_; conv => whnf) | (refine AW.seq ?_; conv => whnf) | (refine AW.region ?_; conv => whnf) | (refine AW.cond ?_; conv => whnf) | (refine AW.block ?_; conv => whnf) | (refine AW.loop ?_; conv => whnf) | (refine AW.skip ?_; conv => whnf) | (refine AW.exit ?_; conv => whnf) | (refine AW.ret ?_; conv => whnf) | (refine AF.one hT rfl ?_; conv => whnf) | (refine AF.nil ?_; conv => whnf) | (refine AF.imm hT rfl rfl rfl ?_; conv => whnf) | (refine AH.of hT rfl ?_; conv => whnf) | (refine ASplit.yes rfl ?_; conv => whnf) | (refine ACond.yes rfl ?_; conv => whnf) | (refine ASplit.no rfl ?_; conv => whnf) | (refine ACond.no rfl ?_; conv => whnf) | (refine ASplit.yes (by decide) ?_; conv => whnf) | (refine ACond.yes (by decide) ?_; conv => whnf) | (refine AReq.mk (by decide) ?_; conv => whnf) | (refine AIdx.iff.2 ⟨by decide, ?_⟩; conv => whnf) | (refine AReq.mk (of_decide_eq_true rfl) ?_; conv => whnf) | (refine AIdx.sp rfl ?_; conv => whnf))
    exact hbad (by rw [hcb]; exact decide_eq_false (fun h => by omega))
  conv => whnf
  repeat ((first | refine AW.plan (id := 1) hm (.one 0 (.one 1 (.one 2 (.one 3 (.one 4 (.one 5 (.one 6 (.one 7 (.one 8 (.one 9 (.one 10 (.one 11 (.one 13 (.one 14 (.one 12 (.one 15 (.one 16 (.one 17 (.one 18 (.one 19 (.one 20 (.one 22 (.one 23 (.one 21 (.one 24 (.one 25 (.one 26 (.one 27 (.one 28 (.one 29 (.one 30 (.one 31 (.one 32 .nil))))))))))))))))))))))))))))))))) (by kernel_rfl) ?_ | refine AO.cons hT ?_ | refine AO.nil ?_ | refine AW.seq ?_ | refine AW.region ?_ | refine AW.cond ?_ | refine AW.block ?_ | refine AW.loop ?_ | refine AW.skip ?_ | refine AW.exit ?_ | refine AW.ret ?_ | refine AW.label ?_ | refine AW.scope ?_ | refine AF.one hT rfl ?_ | refine AF.nil ?_ | refine AF.imm hT rfl rfl rfl ?_ | refine AH.of hT rfl ?_ | refine AD.cons hT rfl ?_ | refine AD.nil ?_ | refine AQ.cons hT rfl ?_ | refine AQ.nil ?_ | (refine AReq.mk (of_decide_eq_true rfl) ?_) | (refine AIdx.sp rfl ?_)); conv => whnf)
  refine ACond.dec (fun h4 => ?_) (fun h4 => ?_)
  · conv => whnf
    repeat (first | (refine AW.plan (id := 1) hm (.one 0 (.one 1 (.one 2 (.one 3 (.one 4 (.one 5 (.one 6 (.one 7 (.one 8 (.one 9 (.one 10 (.one 11 (.one 13 (.one 14 (.one 12 (.one 15 (.one 16 (.one 17 (.one 18 (.one 19 (.one 20 (.one 22 (.one 23 (.one 21 (.one 24 (.one 25 (.one 26 (.one 27 (.one 28 (.one 29 (.one 30 (.one 31 (.one 32 .nil))))))))))))))))))))))))))))))))) (by kernel_rfl) ?_; conv => whnf) | (refine AW.label ?_; conv => whnf) | (refine AW.scope ?_; conv => whnf) | (refine AO.cons hT ?_; conv => whnf) | (refine AO.nil ?_; conv => whnf) | (refine AW.seq ?_; conv => whnf) | (refine AW.region ?_; conv => whnf) | (refine AW.cond ?_; conv => whnf) | (refine AW.block ?_; conv => whnf) | (refine AW.loop ?_; conv => whnf) | (refine AW.skip ?_; conv => whnf) | (refine AW.exit ?_; conv => whnf) | (refine AW.ret ?_; conv => whnf) | (refine AF.one hT rfl ?_; conv => whnf) | (refine AF.nil ?_; conv => whnf) | (refine AF.imm hT rfl rfl rfl ?_; conv => whnf) | (refine AH.of hT rfl ?_; conv => whnf) | (refine ASplit.yes rfl ?_; conv => whnf) | (refine ACond.yes rfl ?_; conv => whnf) | (refine ASplit.no rfl ?_; conv => whnf) | (refine ACond.no rfl ?_; conv => whnf) | (refine ASplit.yes (by decide) ?_; conv => whnf) | (refine ACond.yes (by decide) ?_; conv => whnf) | (refine AReq.mk (by decide) ?_; conv => whnf) | (refine AIdx.iff.2 ⟨by decide, ?_⟩; conv => whnf) | (refine AReq.mk (of_decide_eq_true rfl) ?_; conv => whnf) | (refine AIdx.sp rfl ?_; conv => whnf))
    exact hbad (by rw [hcb]; exact decide_eq_false (fun h => by omega))
  rw [hcb, decide_eq_true (by omega)]
  conv => whnf
  repeat ((first | refine AW.plan (id := 1) hm (.one 0 (.one 1 (.one 2 (.one 3 (.one 4 (.one 5 (.one 6 (.one 7 (.one 8 (.one 9 (.one 10 (.one 11 (.one 13 (.one 14 (.one 12 (.one 15 (.one 16 (.one 17 (.one 18 (.one 19 (.one 20 (.one 22 (.one 23 (.one 21 (.one 24 (.one 25 (.one 26 (.one 27 (.one 28 (.one 29 (.one 30 (.one 31 (.one 32 .nil))))))))))))))))))))))))))))))))) (by kernel_rfl) ?_ | refine AO.cons hT ?_ | refine AO.nil ?_ | refine AW.seq ?_ | refine AW.region ?_ | refine AW.cond ?_ | refine AW.block ?_ | refine AW.loop ?_ | refine AW.skip ?_ | refine AW.exit ?_ | refine AW.ret ?_ | refine AW.label ?_ | refine AW.scope ?_ | refine AF.one hT rfl ?_ | refine AF.nil ?_ | refine AF.imm hT rfl rfl rfl ?_ | refine AH.of hT rfl ?_ | refine AD.cons hT rfl ?_ | refine AD.nil ?_ | refine AQ.cons hT rfl ?_ | refine AQ.nil ?_ | (refine AReq.mk (of_decide_eq_true rfl) ?_) | (refine AIdx.sp rfl ?_)); conv => whnf)
  exact AFin.val rfl ⟨rfl, rfl⟩
theorem f47 (n : Int) : Fun P 47 [nV n] (bV (decide (0 ≤ n ∧ n ≤ 10000))) := by
  refine spec_of hT (f := 47) (fn := Go.Proofs.Try.f47) (c := body Go.Proofs.Try.f47) (by kernel_rfl) (by kernel_rfl) ?_
  conv => whnf
  repeat' (first | (refine AW.label ?_; conv => whnf) | (refine AW.scope ?_; conv => whnf) | (refine AO.cons hT ?_; conv => whnf) | (refine AO.nil ?_; conv => whnf) | (refine AW.seq ?_; conv => whnf) | (refine AW.region ?_; conv => whnf) | (refine AW.cond ?_; conv => whnf) | (refine AW.block ?_; conv => whnf) | (refine AW.loop ?_; conv => whnf) | (refine AW.skip ?_; conv => whnf) | (refine AW.exit ?_; conv => whnf) | (refine AW.ret ?_; conv => whnf) | (refine AF.one hT rfl ?_; conv => whnf) | (refine AF.nil ?_; conv => whnf) | (refine AF.imm hT rfl rfl rfl ?_; conv => whnf) | (refine AH.of hT rfl ?_; conv => whnf) | (refine ASplit.yes rfl ?_ <;> conv => whnf) | (refine ASplit.no rfl ?_ <;> conv => whnf) | (refine ACond.yes rfl ?_ <;> conv => whnf) | (refine ACond.no rfl ?_ <;> conv => whnf) | (refine ASplit.dec (fun _ => ?_) (fun _ => ?_) <;> conv => whnf) | (refine ASplit.ndec (fun _ => ?_) (fun _ => ?_) <;> conv => whnf) | (refine ACond.dec (fun _ => ?_) (fun _ => ?_) <;> conv => whnf) | (refine ACond.ndec (fun _ => ?_) (fun _ => ?_) <;> conv => whnf))
  all_goals refine AFin.val rfl ⟨congrArg bV ?_, rfl⟩
  all_goals first
    | (exact decide_eq_decide.2 (by omega))
    | (exact (decide_eq_false (by omega)).symm)
end Go.Aw.T1

