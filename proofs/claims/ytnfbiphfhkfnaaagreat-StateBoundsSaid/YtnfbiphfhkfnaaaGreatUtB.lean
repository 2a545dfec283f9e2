/-
  The statement StateBounds: of a state that may be, of no line more is authorised, received or paid back than was shipped and paid, without any condition.
-/
import Derived.Test.YtnfbiphfhkfnaaaGreatUtA
set_option linter.unusedSimpArgs false
set_option linter.unusedVariables false
set_option linter.unusedSimpArgs false
set_option linter.unusedVariables false
set_option maxHeartbeats 2000000
namespace Go.Aw.UT
open Go Go.Proofs

abbrev nilV : AV := .v (.slice none 0 0)
/-- the amounts of the rows that have a cell -/
def spc (l : List Ro) (c : Nat) : List (Int × Int) := (l.filter fun r => inB r c).map fun r => (r.lo, r.hi)
theorem spc_step (l : List Ro) (c i : Nat) (h : i < l.length) : spc (l.take (i + 1)) c = if inB l[i] c then spc (l.take i) c ++ [(l[i].lo, l[i].hi)] else spc (l.take i) c := by
  unfold spc
  rw [List.take_add_one, List.getElem?_eq_getElem h, List.filter_append, List.map_append]
  by_cases g : inB l[i] c = true
  · rw [if_pos g]; simp [g]
  · rw [if_neg g]; simp [g]
theorem spc_le (l : List Ro) (c : Nat) : (spc l c).length ≤ l.length := by
  unfold spc; rw [List.length_map]; exact List.length_filter_le _ _
def spOk (l : List Ro) (S : List (List (Int × Int))) (n : Nat) : Prop := S.length = n ∧ ∀ c (h : c < S.length), S[c].Perm (spc l c) ∧ S[c].Pairwise (fun x y => spLt y x = false)
theorem spsR (ρ : Nat → Nat) (S : List (List (Int × Int))) : renL ρ (S.map spV) = S.map spV := by
  rw [renL_map, List.map_map]
  exact List.map_congr_left fun s _ => spV_ren ρ s
theorem nilsR (ρ : Nat → Nat) (m : Nat) : renL ρ (List.replicate m nilV) = List.replicate m nilV := by
  rw [renL_map, List.map_replicate]; rfl
theorem renMid (ρ : Nat → Nat) (S : List (List (Int × Int))) (l n m : Nat) : renL ρ (S.map spV ++ .ms 2 l 0 n :: List.replicate m nilV) = S.map spV ++ .ms 2 (ρ l) 0 n :: List.replicate m nilV := by
  rw [renL_append, spsR, renL, nilsR]; rfl
theorem renMidN (ρ : Nat → Nat) (S : List (List (Int × Int))) (m : Nat) : renL ρ (S.map spV ++ nilV :: List.replicate m nilV) = S.map spV ++ nilV :: List.replicate m nilV := by
  rw [renL_append, spsR, renL, nilsR]; rfl
theorem spOk_step {l : List Ro} {S : List (List (Int × Int))} {c : Nat} (h : spOk l S c) {L : List (Int × Int)} (hp : L.Perm (spc l c)) (hs : L.Pairwise (fun x y => spLt y x = false)) : spOk l (S ++ [L]) (c + 1) := by
  obtain ⟨h1, h2⟩ := h
  refine ⟨by simp [h1], fun k hk => ?_⟩
  rw [List.length_append] at hk
  by_cases e : k < S.length
  · rw [List.getElem_append_left e]; exact h2 k e
  · have : k = S.length := by simp at hk; omega
    subst this
    rw [List.getElem_append_right (by omega)]
    simp only [Nat.sub_self, List.getElem_cons_zero]
    rw [h1]
    exact ⟨hp, hs⟩
theorem f194 (l : List Ro) (hl : l.length ≤ 20) (hr : ∀ r ∈ l, rowB r = true) : Spec P 194 [roV l] [] fun r H' => (∃ S, spOk l S 8 ∧ r = .agg (S.map spV)) ∧ H' = [] := by
  refine spec_of hT (f := 194) (fn := Go.Proofs.Tryz.f194) (c := body Go.Proofs.Tryz.f194) (by kernel_rfl) (by kernel_rfl) ?_
  conv => whnf
  repeat (first | refine go ?_ | (refine AW.plan (id := 9) hm (.one 0 (.one 1 (.one 2 (.one 4 (.one 6 (.one 5 (.one 7 (.one 8 (.one 3 (.one 9 (.one 10 (.one 11 (.one 12 .nil))))))))))))) (by kernel_rfl) ?_; conv => whnf))
  refine ALoop.mk (fun j E H => ∃ (c : Nat) (S : List (List (Int × Int))), j + c = 8 ∧ spOk l S c ∧ E = pad [roV l, .any, .ptr 0 0, .ptr 1 0, .any, .any, .any, nV c] 38 ∧ H = [.cells 261 (List.replicate 8 nilV), .cells 261 (S.map spV ++ List.replicate (8 - c) nilV)])
    (n := 8) _ _ ⟨0, [], rfl, ⟨rfl, fun c h => absurd h (Nat.not_lt_zero _)⟩, rfl, rfl⟩ (Conv.fit (by repeat' (first | exact Fit.nil | refine Fit.any ?_ | refine Fit.same ?_))) ?_
  rintro j _ _ ⟨c, S, hj, hS, rfl, rfl⟩
  conv => whnf
  repeat (first | refine go ?_ | (refine AW.plan (id := 9) hm (.one 0 (.one 1 (.one 2 (.one 4 (.one 6 (.one 5 (.one 7 (.one 8 (.one 3 (.one 9 (.one 10 (.one 11 (.one 12 .nil))))))))))))) (by kernel_rfl) ?_; conv => whnf))
  refine ACond.dec (fun h1 => ?_) (fun h1 => ?_)
  · have hc8 : c < 8 := by omega
    have hSl : S.length = c := hS.1
    obtain ⟨m, hm8⟩ : ∃ m, 8 - c = m + 1 := ⟨7 - c, by omega⟩
    rw [hm8, List.replicate_succ]
    have w0 : IntKind.wrap .i64 ((c : Int) + 1) = ((c + 1 : Nat) : Int) := by rw [wrap_i64 _ (by omega) (by omega)]; omega
    conv => whnf
    repeat (first | refine go ?_ | (refine AW.plan (id := 9) hm (.one 0 (.one 1 (.one 2 (.one 4 (.one 6 (.one 5 (.one 7 (.one 8 (.one 3 (.one 9 (.one 10 (.one 11 (.one 12 .nil))))))))))))) (by kernel_rfl) ?_; conv => whnf))
    refine ALoop.mk (fun k E H => ∃ i : Nat, k + i = l.length ∧ E = pad [roV l, .any, .ptr 0 0, .ptr 1 0, nV c, .any, .any, nV c, .any, .any, roV l, nV l.length, nV i] 38 ∧
        ((spc (l.take i) c = [] ∧ H = [.cells 261 (List.replicate 8 nilV), .cells 261 (S.map spV ++ nilV :: List.replicate m nilV)]) ∨
         (spc (l.take i) c ≠ [] ∧ H = [.cells 261 (List.replicate 8 nilV), .cells 261 (S.map spV ++ .ms 2 2 0 (spc (l.take i) c).length :: List.replicate m nilV), .cells 265 ((spc (l.take i) c).flatMap spC)])))
      (n := l.length) _ _ ⟨0, rfl, rfl, .inl ⟨rfl, rfl⟩⟩ (Conv.fit (by repeat' (first | exact Fit.nil | refine Fit.any ?_ | refine Fit.same ?_))) ?_
    rintro k _ _ ⟨i, hk, rfl, hH⟩
    rcases hH with ⟨hnil, rfl⟩ | ⟨hne, rfl⟩
    · conv => whnf
      repeat (first | refine go ?_ | (refine AW.plan (id := 9) hm (.one 0 (.one 1 (.one 2 (.one 4 (.one 6 (.one 5 (.one 7 (.one 8 (.one 3 (.one 9 (.one 10 (.one 11 (.one 12 .nil))))))))))))) (by kernel_rfl) ?_; conv => whnf))
      refine ACond.dec (fun h2 => ?_) (fun h2 => ?_)
      · have hil : i < l.length := by omega
        have w1 : IntKind.wrap .i64 ((i : Int) + 1) = ((i + 1 : Nat) : Int) := by rw [wrap_i64 _ (by omega) (by omega)]; omega
        have hst := spc_step l c i hil
        conv => whnf
        repeat (first | refine go ?_ | ((first | refine AW.plan (id := 9) hm (.one 0 (.one 1 (.one 2 (.one 4 (.one 6 (.one 5 (.one 7 (.one 8 (.one 3 (.one 9 (.one 10 (.one 11 (.one 12 .nil))))))))))))) (by kernel_rfl) ?_ | refine AReq.mk (by omega) ?_ | refine AIdx.flat (enc := roC) roC_len (xs := l) (i := i) hil ?_ | refine ACall.val (by kernel_rfl) (f211 l[i] c (hr _ (List.getElem_mem hil)) hc8) rfl rfl ?_); conv => whnf))
        refine ACond.mk (fun h3 => ?_) (fun h3 => ?_)
        · rw [if_pos h3, hnil, List.nil_append] at hst
          refine AW.conv _ _ (Conv.ownIn (sz := 2) 265 (l := 1) rfl (FitN.mid (S.map spV) _)) ?_
          conv => whnf
          repeat (first | refine go ?_ | ((first | refine AW.plan (id := 9) hm (.one 0 (.one 1 (.one 2 (.one 4 (.one 6 (.one 5 (.one 7 (.one 8 (.one 3 (.one 9 (.one 10 (.one 11 (.one 12 .nil))))))))))))) (by kernel_rfl) ?_ | refine AReq.mk (by omega) ?_ | refine AIdx.flat (enc := roC) roC_len (xs := l) (i := i) hil ?_ | refine ACall.val (by kernel_rfl) (f211 l[i] c (hr _ (List.getElem_mem hil)) hc8) rfl rfl ?_ | refine AIdx.mid (by simp [hSl]) ?_ | refine AReq.mk ⟨rfl, by show (0 + 1) * 16 ≤ _; omega⟩ ?_ | refine AReq.mk rfl ?_ | refine AUpd.mid (by rw [List.length_map, hSl]; show 0 + Int.toNat (c : Int) * 1 + 0 = c; omega) ?_); conv => whnf))
          rw [w1]
          refine AHead.mk (k - 1) (pad [roV l, .any, .ptr 0 0, .ptr 1 0, nV c, .any, .any, nV c, .any, .any, roV l, nV l.length, nV ((i + 1 : Nat) : Int)] 38) [.cells 261 (List.replicate 8 nilV), .cells 261 (S.map spV ++ .ms 2 2 0 (spc (l.take (i + 1)) c).length :: List.replicate m nilV), .cells 265 ((spc (l.take (i + 1)) c).flatMap spC)] (by omega) ⟨i + 1, by omega, rfl, .inr ⟨by rw [hst]; simp, rfl⟩⟩ ?_
          rw [hst]
          refine Conv.ren [0, 1, 4] _ (fun _ h => absurd h (Nat.not_lt_zero _)) (by decide) ?_ (.same rfl (.same ?_ (.same rfl .nil)))
          · repeat' (first | exact Fit.nil | refine Fit.any ?_ | refine Fit.same ?_ | refine Fit.eq (roV_ren _ _) ?_)
          · rw [ABlk.ren, renMid]; rfl
        · rw [if_neg (by rw [h3]; simp)] at hst
          conv => whnf
          repeat (first | refine go ?_ | ((first | refine AW.plan (id := 9) hm (.one 0 (.one 1 (.one 2 (.one 4 (.one 6 (.one 5 (.one 7 (.one 8 (.one 3 (.one 9 (.one 10 (.one 11 (.one 12 .nil))))))))))))) (by kernel_rfl) ?_ | refine AReq.mk (by omega) ?_); conv => whnf))
          rw [w1]
          refine AHead.mk (k - 1) _ _ (by omega) ⟨i + 1, by omega, rfl, .inl ⟨hst.trans hnil, rfl⟩⟩ (Conv.ren [0, 1] _ (fun _ h => absurd h (Nat.not_lt_zero _)) (by decide) ?_ (.same rfl (.same ?_ .nil)))
          · repeat' (first | exact Fit.nil | refine Fit.any ?_ | refine Fit.same ?_ | refine Fit.eq (roV_ren _ _) ?_)
          · rw [ABlk.ren, renMidN]; rfl
      · have hil : i = l.length := by omega
        rw [hil, List.take_length] at hnil
        conv => whnf
        repeat (first | refine go ?_ | (refine AW.plan (id := 9) hm (.one 0 (.one 1 (.one 2 (.one 4 (.one 6 (.one 5 (.one 7 (.one 8 (.one 3 (.one 9 (.one 10 (.one 11 (.one 12 .nil))))))))))))) (by kernel_rfl) ?_; conv => whnf))
        refine AOut.stay ?_
        conv => whnf
        repeat (first | refine go ?_ | ((first | refine AW.plan (id := 9) hm (.one 0 (.one 1 (.one 2 (.one 4 (.one 6 (.one 5 (.one 7 (.one 8 (.one 3 (.one 9 (.one 10 (.one 11 (.one 12 .nil))))))))))))) (by kernel_rfl) ?_ | refine AReq.mk (by omega) ?_ | refine AIdx.mid (by simp [hSl]) ?_); conv => whnf))
        refine ACall.val (by kernel_rfl) f212n rfl rfl ?_
        conv => whnf
        repeat (first | refine go ?_ | ((first | refine AW.plan (id := 9) hm (.one 0 (.one 1 (.one 2 (.one 4 (.one 6 (.one 5 (.one 7 (.one 8 (.one 3 (.one 9 (.one 10 (.one 11 (.one 12 .nil))))))))))))) (by kernel_rfl) ?_ | refine AReq.mk (by omega) ?_ | refine AIdx.mid (by simp [hSl]) ?_); conv => whnf))
        rw [w0]
        refine AHead.mk (j - 1) (pad [roV l, .any, .ptr 0 0, .ptr 1 0, .any, .any, .any, nV ((c + 1 : Nat) : Int)] 38) [.cells 261 (List.replicate 8 nilV), .cells 261 ((S ++ [[]]).map spV ++ List.replicate (8 - (c + 1)) nilV)] (by omega) ⟨c + 1, S ++ [[]], by omega, spOk_step hS (by rw [hnil]) .nil, rfl, rfl⟩ ?_
        rw [show 8 - (c + 1) = m by omega, List.map_append, List.append_assoc]
        exact Conv.trans (Conv.fit (by repeat' (first | exact Fit.nil | refine Fit.any ?_ | refine Fit.same ?_))) (Conv.seeIn (l := 1) rfl (LendL.mid .nil (S.map spV) (List.replicate m nilV)))
    · have hmn : ((spc (l.take i) c).flatMap spC).length = (spc (l.take i) c).length * 2 := flat_length spC_len _
      have hle := spc_le (l.take i) c
      rw [List.length_take] at hle
      conv => whnf
      repeat (first | refine go ?_ | (refine AW.plan (id := 9) hm (.one 0 (.one 1 (.one 2 (.one 4 (.one 6 (.one 5 (.one 7 (.one 8 (.one 3 (.one 9 (.one 10 (.one 11 (.one 12 .nil))))))))))))) (by kernel_rfl) ?_; conv => whnf))
      refine ACond.dec (fun h2 => ?_) (fun h2 => ?_)
      · have hil : i < l.length := by omega
        have w1 : IntKind.wrap .i64 ((i : Int) + 1) = ((i + 1 : Nat) : Int) := by rw [wrap_i64 _ (by omega) (by omega)]; omega
        have hst := spc_step l c i hil
        conv => whnf
        repeat (first | refine go ?_ | ((first | refine AW.plan (id := 9) hm (.one 0 (.one 1 (.one 2 (.one 4 (.one 6 (.one 5 (.one 7 (.one 8 (.one 3 (.one 9 (.one 10 (.one 11 (.one 12 .nil))))))))))))) (by kernel_rfl) ?_ | refine AReq.mk (by omega) ?_ | refine AIdx.flat (enc := roC) roC_len (xs := l) (i := i) hil ?_ | refine ACall.val (by kernel_rfl) (f211 l[i] c (hr _ (List.getElem_mem hil)) hc8) rfl rfl ?_); conv => whnf))
        refine ACond.mk (fun h3 => ?_) (fun h3 => ?_)
        · rw [if_pos h3] at hst
          conv => whnf
          repeat (first | refine go ?_ | ((first | refine AW.plan (id := 9) hm (.one 0 (.one 1 (.one 2 (.one 4 (.one 6 (.one 5 (.one 7 (.one 8 (.one 3 (.one 9 (.one 10 (.one 11 (.one 12 .nil))))))))))))) (by kernel_rfl) ?_ | refine AReq.mk (by omega) ?_ | refine AIdx.flat (enc := roC) roC_len (xs := l) (i := i) hil ?_ | refine ACall.val (by kernel_rfl) (f211 l[i] c (hr _ (List.getElem_mem hil)) hc8) rfl rfl ?_ | refine AIdx.mid (by simp [hSl]) ?_ | refine AReq.mk ⟨hmn, by show (_ + 1) * 16 ≤ _; omega⟩ ?_ | refine AReq.mk rfl ?_ | refine AUpd.mid (by rw [List.length_map, hSl]; show 0 + Int.toNat (c : Int) * 1 + 0 = c; omega) ?_); conv => whnf))
          rw [w1]
          refine AHead.mk (k - 1) (pad [roV l, .any, .ptr 0 0, .ptr 1 0, nV c, .any, .any, nV c, .any, .any, roV l, nV l.length, nV ((i + 1 : Nat) : Int)] 38) [.cells 261 (List.replicate 8 nilV), .cells 261 (S.map spV ++ .ms 2 2 0 (spc (l.take (i + 1)) c).length :: List.replicate m nilV), .cells 265 ((spc (l.take (i + 1)) c).flatMap spC)] (by omega) ⟨i + 1, by omega, rfl, .inr ⟨by rw [hst]; simp, rfl⟩⟩ ?_
          rw [hst, List.flatMap_append, List.length_append]
          refine Conv.ren [0, 1, 4] _ (fun _ h => absurd h (Nat.not_lt_zero _)) (by decide) ?_ (.same rfl (.same ?_ (.same ?_ .nil)))
          · repeat' (first | exact Fit.nil | refine Fit.any ?_ | refine Fit.same ?_ | refine Fit.eq (roV_ren _ _) ?_)
          · rw [ABlk.ren, renMid]; rfl
          · rw [ABlk.ren, renL_append, sps_ren]; rfl
        · rw [if_neg (by rw [h3]; simp)] at hst
          conv => whnf
          repeat (first | refine go ?_ | ((first | refine AW.plan (id := 9) hm (.one 0 (.one 1 (.one 2 (.one 4 (.one 6 (.one 5 (.one 7 (.one 8 (.one 3 (.one 9 (.one 10 (.one 11 (.one 12 .nil))))))))))))) (by kernel_rfl) ?_ | refine AReq.mk (by omega) ?_); conv => whnf))
          rw [w1]
          refine AHead.mk (k - 1) (pad [roV l, .any, .ptr 0 0, .ptr 1 0, nV c, .any, .any, nV c, .any, .any, roV l, nV l.length, nV ((i + 1 : Nat) : Int)] 38) [.cells 261 (List.replicate 8 nilV), .cells 261 (S.map spV ++ .ms 2 2 0 (spc (l.take (i + 1)) c).length :: List.replicate m nilV), .cells 265 ((spc (l.take (i + 1)) c).flatMap spC)] (by omega) ⟨i + 1, by omega, rfl, .inr ⟨by rw [hst]; exact hne, rfl⟩⟩ ?_
          rw [hst]
          refine Conv.ren [0, 1, 2] _ (fun _ h => absurd h (Nat.not_lt_zero _)) (by decide) ?_ (.same rfl (.same ?_ (.same ?_ .nil)))
          · repeat' (first | exact Fit.nil | refine Fit.any ?_ | refine Fit.same ?_ | refine Fit.eq (roV_ren _ _) ?_)
          · rw [ABlk.ren, renMid]; rfl
          · rw [ABlk.ren, sps_ren]; rfl
      · have hil : i = l.length := by omega
        rw [hil, List.take_length] at hne hle hmn ⊢
        conv => whnf
        repeat (first | refine go ?_ | (refine AW.plan (id := 9) hm (.one 0 (.one 1 (.one 2 (.one 4 (.one 6 (.one 5 (.one 7 (.one 8 (.one 3 (.one 9 (.one 10 (.one 11 (.one 12 .nil))))))))))))) (by kernel_rfl) ?_; conv => whnf))
        refine AOut.stay ?_
        conv => whnf
        repeat (first | refine go ?_ | ((first | refine AW.plan (id := 9) hm (.one 0 (.one 1 (.one 2 (.one 4 (.one 6 (.one 5 (.one 7 (.one 8 (.one 3 (.one 9 (.one 10 (.one 11 (.one 12 .nil))))))))))))) (by kernel_rfl) ?_ | refine AReq.mk (by omega) ?_ | refine AIdx.mid (by simp [hSl]) ?_); conv => whnf))
        refine ACall.of (by kernel_rfl) (f212 (spc l c) hne (by omega)) [2] [] (by decide) (.same (by rw [ABlk.ren, sps_ren]; rfl) .nil) (by simp) (by simp) (.cons (.same rfl) (.cons (.same rfl) .nil)) (.inl rfl) ?_
        rintro _ _ ⟨rfl, L, hp, hs, rfl⟩
        simp only [mergeH, ABlk.ren, sps_ren, List.map_nil, List.append_nil, List.set_cons_zero, List.set_cons_succ]
        conv => whnf
        repeat (first | refine go ?_ | (refine AW.plan (id := 9) hm (.one 0 (.one 1 (.one 2 (.one 4 (.one 6 (.one 5 (.one 7 (.one 8 (.one 3 (.one 9 (.one 10 (.one 11 (.one 12 .nil))))))))))))) (by kernel_rfl) ?_; conv => whnf))
        rw [w0]
        refine AHead.mk (j - 1) (pad [roV l, .any, .ptr 0 0, .ptr 1 0, .any, .any, .any, nV ((c + 1 : Nat) : Int)] 38) [.cells 261 (List.replicate 8 nilV), .cells 261 ((S ++ [L]).map spV ++ List.replicate (8 - (c + 1)) nilV)] (by omega) ⟨c + 1, S ++ [L], by omega, spOk_step hS hp hs, rfl, rfl⟩ ?_
        rw [show 8 - (c + 1) = m by omega, List.map_append, List.append_assoc]
        refine Conv.trans (Conv.fit (xs' := pad [roV l, .any, .ptr 0 0, .ptr 1 0, .any, .any, .any, nV ((c + 1 : Nat) : Int)] 38) (by repeat' (first | exact Fit.nil | refine Fit.any ?_ | refine Fit.same ?_))) (Conv.trans (Conv.freeze 2 (t := 265) (cs := L.flatMap spC) rfl) (Conv.trans (Conv.seeIn (l := 1) rfl (LendL.mid (x' := spV L) (.sm' rfl (flat_length spC_len L).symm rfl hp.length_eq.symm) (S.map spV) (List.replicate m nilV))) ?_))
        refine Conv.ren [0, 1] _ (fun _ h => absurd h (Nat.not_lt_zero _)) (by decide) ?_ (.same rfl (.same ?_ .nil))
        · repeat' (first | exact Fit.nil | refine Fit.any ?_ | refine Fit.same ?_ | refine Fit.eq (roV_ren _ _) ?_)
        · rw [ABlk.ren, renL_append, spsR, renL_append, nilsR]
          show _ = some (ABlk.cells 261 (S.map spV ++ ((spV L).ren _ :: List.replicate m nilV)))
          rw [spV_ren]; rfl
  · obtain rfl : c = 8 := by omega
    have hSl : S.length = 8 := hS.1
    conv => whnf
    repeat (first | refine go ?_ | (refine AW.plan (id := 9) hm (.one 0 (.one 1 (.one 2 (.one 4 (.one 6 (.one 5 (.one 7 (.one 8 (.one 3 (.one 9 (.one 10 (.one 11 (.one 12 .nil))))))))))))) (by kernel_rfl) ?_; conv => whnf))
    refine AOut.stay ?_
    rw [Nat.sub_self, List.replicate_zero, List.append_nil]
    have hcut : ∀ {K : List AV → Prop}, K (S.map spV) → ACut (drp (S.map spV) 0) 0 (T 261).size K := fun q => by
      rw [drp_zero]; exact ACut.all (by rw [List.length_map, hSl]; rfl) q
    have hcut' : ∀ {K : List AV → Prop}, K (S.map spV) → ACut (S.map spV) 0 (T 261).size K := fun q => ACut.all (by rw [List.length_map, hSl]; rfl) q
    conv => whnf
    repeat (first | refine go ?_ | ((first | refine AW.plan (id := 9) hm (.one 0 (.one 1 (.one 2 (.one 4 (.one 6 (.one 5 (.one 7 (.one 8 (.one 3 (.one 9 (.one 10 (.one 11 (.one 12 .nil))))))))))))) (by kernel_rfl) ?_ | refine hcut ?_ | refine hcut' ?_ | refine AReq.mk (by rw [List.length_map, hSl]; rfl) ?_ | refine AUpd.to (S.map spV) (by rw [List.length_map, hSl]; decide) (by unfold spl; rw [List.take_zero, List.nil_append, List.drop_eq_nil_of_le (by rw [List.length_map, hSl]; decide), List.append_nil]) ?_); conv => whnf))
    exact AFin.val (by show AV.agg (renL _ (S.map spV)) = _; rw [spsR]) ⟨⟨S, hS, rfl⟩, rfl⟩
end Go.Aw.UT

set_option linter.unusedSimpArgs false
set_option linter.unusedVariables false
set_option maxHeartbeats 1000000
namespace Go.Aw.UT
open Go Go.Proofs

/-! ### the first amount that no span has -/
def covS (l : List (Int × Int)) (m : Int) : Prop := ∃ s ∈ l, s.1 ≤ m ∧ m ≤ s.2
theorem hol_spec : ∀ (S : List (Int × Int)) (n : Int), S.Pairwise (fun x y => spLt y x = false) → (∀ s ∈ S, s.1 ≤ s.2) → n ≤ holF S n ∧ ¬ covS S (holF S n) ∧ ∀ m, n ≤ m → m < holF S n → covS S m
  | [], n, _, _ => by
    rw [holF]
    exact ⟨Int.le_refl _, by rintro ⟨s, hs, _⟩; simp at hs, fun m h1 h2 => by omega⟩
  | s :: ss, n, hp, hs => by
    rw [List.pairwise_cons] at hp
    have hs1 := hs s (by simp)
    rw [holF]
    split
    · rename_i h
      refine ⟨Int.le_refl _, ?_, fun m h1 h2 => by omega⟩
      rintro ⟨t, ht, h1, h2⟩
      rcases List.mem_cons.1 ht with rfl | ht
      · omega
      · have := hp.1 t ht
        simp only [spLt, decide_eq_false_iff_not] at this
        omega
    · rename_i h
      obtain ⟨g1, g2, g3⟩ := hol_spec ss (if s.2 + 1 > n then s.2 + 1 else n) hp.2 (fun t ht => hs t (by simp [ht]))
      have hn : n ≤ (if s.2 + 1 > n then s.2 + 1 else n) ∧ s.2 + 1 ≤ (if s.2 + 1 > n then s.2 + 1 else n) := by split <;> omega
      refine ⟨by omega, ?_, fun m h1 h2 => ?_⟩
      · rintro ⟨t, ht, h1, h2⟩
        rcases List.mem_cons.1 ht with rfl | ht
        · omega
        · exact g2 ⟨t, ht, h1, h2⟩
      · by_cases hm : m ≤ s.2
        · exact ⟨s, by simp, by omega, hm⟩
        · have : (if s.2 + 1 > n then s.2 + 1 else n) ≤ m := by split <;> omega
          obtain ⟨t, ht, h3⟩ := g3 m this h2
          exact ⟨t, by simp [ht], h3⟩
theorem hol_uniq {S S' : List (Int × Int)} {n : Int} (hp : S.Pairwise (fun x y => spLt y x = false)) (hp' : S'.Pairwise (fun x y => spLt y x = false)) (hs : ∀ s ∈ S, s.1 ≤ s.2) (h : S.Perm S') : holF S n = holF S' n := by
  obtain ⟨a1, a2, a3⟩ := hol_spec S n hp hs
  obtain ⟨b1, b2, b3⟩ := hol_spec S' n hp' (fun s h' => hs s (h.mem_iff.2 h'))
  have hc : ∀ m, covS S m ↔ covS S' m := fun m => ⟨fun ⟨s, hs, h1⟩ => ⟨s, h.mem_iff.1 hs, h1⟩, fun ⟨s, hs, h1⟩ => ⟨s, h.mem_iff.2 hs, h1⟩⟩
  rcases Int.lt_trichotomy (holF S n) (holF S' n) with h1 | h1 | h1
  · exact absurd ((hc _).2 (b3 _ a1 h1)) a2
  · exact h1
  · exact absurd ((hc _).1 (a3 _ b1 h1)) b2
def srt (l : List (Int × Int)) : List (Int × Int) := l.mergeSort fun x y => decide (x.1 ≤ y.1)
theorem srt_ok (l : List (Int × Int)) : (srt l).Perm l ∧ (srt l).Pairwise (fun x y => spLt y x = false) := by
  refine ⟨List.mergeSort_perm _ _, ?_⟩
  have := List.pairwise_mergeSort (le := fun (x y : Int × Int) => decide (x.1 ≤ y.1)) (fun a b c h1 h2 => by simp at *; omega) (fun a b => by simp; omega) l
  exact this.imp (by intro a b h; simp [spLt] at *; omega)
/-- the first amount from n on that no row with a cell has -/
def holC (l : List Ro) (c : Nat) (n : Int) : Int := holF (srt (spc l c)) n
theorem spc_mem {l : List Ro} {c : Nat} {s : Int × Int} (h : s ∈ spc l c) : ∃ r ∈ l, inB r c = true ∧ s = (r.lo, r.hi) := by
  unfold spc at h
  obtain ⟨r, hr, rfl⟩ := List.mem_map.1 h
  rw [List.mem_filter] at hr
  exact ⟨r, hr.1, hr.2, rfl⟩
theorem spc_ok {l : List Ro} (hr : ∀ r ∈ l, rowB r = true) {c : Nat} {s : Int × Int} (h : s ∈ spc l c) : s.1 ≤ s.2 ∧ 0 ≤ s.1 ∧ s.2 ≤ 1000000000000 := by
  obtain ⟨r, h1, _, rfl⟩ := spc_mem h
  have := rowB_iff.1 (hr r h1)
  exact ⟨this.2.2.2.2.2.1, this.2.2.2.2.1, this.2.2.2.2.2.2.1⟩
theorem hol_eq {l : List Ro} {S : List (List (Int × Int))} (hS : spOk l S 8) (hr : ∀ r ∈ l, rowB r = true) {c : Nat} (hc : c < 8) (n : Int) : holF (S[c]'(by rw [hS.1]; exact hc)) n = holC l c n := by
  have hc' : c < S.length := by rw [hS.1]; exact hc
  obtain ⟨h1, h2⟩ := hS.2 c hc'
  obtain ⟨h3, h4⟩ := srt_ok (spc l c)
  exact hol_uniq h2 h4 (fun s hs => (spc_ok hr (h1.mem_iff.1 hs)).1) (h1.trans h3.symm)
def gapG (l : List Ro) : List Nat → Fc × Bool
  | [] => (⟨0, false, 0⟩, false)
  | c :: cs => if holC l c 0 ≤ 1000000000000 then (fcOf c (holC l c 0), true) else gapG l cs
def gapF (l : List Ro) : Fc × Bool := if tabB l then gapG l (List.range 8) else (⟨0, false, 0⟩, true)
theorem aggS_ren (ρ : Nat → Nat) (S : List (List (Int × Int))) : (AV.agg (S.map spV)).ren ρ = .agg (S.map spV) := by
  show AV.agg (renL ρ (S.map spV)) = _
  rw [spsR]
theorem spans_call {H : List ABlk} {K : AV → List ABlk → Prop} (l : List Ro) (hl : l.length ≤ 20) (hr : ∀ r ∈ l, rowB r = true) (k : ∀ S, spOk l S 8 → K (.agg (S.map spV)) H) : ACall P 194 [roV l] H K := by
  refine ACall.out (by kernel_rfl) (f194 l hl hr) (roV1 _ _) ?_
  rintro r ⟨S, hS, rfl⟩
  rw [aggS_ren]
  exact k S hS
theorem half_c {c : Nat} (h : c < 8) : IntKind.wrap .i64 ((c : Int).tdiv 2) = ((c / 2 : Nat) : Int) ∧ decide ((c : Int).tmod 2 = 1) = decide (c % 2 = 1) := by
  rw [Int.tdiv_eq_ediv_of_nonneg (by omega), Int.tmod_eq_emod_of_nonneg (by omega), wrap_i64 _ (by omega) (by omega)]
  refine ⟨by omega, ?_⟩
  congr 1
  exact propext ⟨fun h => by omega, fun h => by omega⟩
theorem f169 (l : List Ro) : Fun P 169 [roV l] (.tup [fcA (gapF l).1, bV (gapF l).2]) := by
  refine spec_of hT (f := 169) (fn := Go.Proofs.Tryz.f169) (c := body Go.Proofs.Tryz.f169) (by kernel_rfl) (by kernel_rfl) ?_
  unfold gapF
  conv => whnf
  repeat refine go ?_
  refine ACall.val (by kernel_rfl) (f193 l) (roV1 _ _) rfl ?_
  rcases Bool.eq_false_or_eq_true (tabB l) with g | g
  case inr =>
    simp only [g, Bool.false_eq_true, if_false]
    conv => whnf
    repeat refine go ?_
    refine ACond.yes rfl ?_
    conv => whnf
    repeat refine go ?_
    exact AFin.val rfl ⟨rfl, rfl⟩
  obtain ⟨t1, t2, t3⟩ := tabB_row g
  simp only [g, if_true]
  conv => whnf
  repeat refine go ?_
  refine ACond.no rfl ?_
  conv => whnf
  repeat refine go ?_
  refine spans_call l t1 t3 (fun S hS => ?_)
  have hSl := hS.1
  conv => whnf
  repeat refine go ?_
  refine ALoop.mk (fun j E H => ∃ (c : Nat), j + c = 8 ∧ gapG l ((List.range 8).drop c) = gapG l (List.range 8) ∧ E = pad ([.any, .any, .ptr 0 0, .v (.bool false)] ++ List.replicate 9 .any ++ [.agg (S.map spV), nV c]) 34 ∧ H = [.cells 228 (fcC ⟨0, false, 0⟩)])
    (n := 8) _ _ ⟨0, rfl, rfl, rfl, rfl⟩ (Conv.fit (by repeat' (first | exact Fit.nil | refine Fit.any ?_ | refine Fit.same ?_))) ?_
  rintro j _ _ ⟨c, hj, hg, rfl, rfl⟩
  conv => whnf
  repeat refine go ?_
  refine ACond.dec (fun h1 => ?_) (fun h1 => ?_)
  · have hc8 : c < 8 := by omega
    have hcS : c < S.length := by omega
    have w0 : IntKind.wrap .i64 ((c : Int) + 1) = ((c + 1 : Nat) : Int) := by rw [wrap_i64 _ (by omega) (by omega)]; omega
    have hdr : (List.range 8).drop c = c :: (List.range 8).drop (c + 1) := by
      rw [List.drop_eq_getElem_cons (by simpa using hc8), List.getElem_range]
    have hpm := (hS.2 c hcS).1
    have hall : ∀ s ∈ S[c], s.1 ≤ s.2 ∧ 0 ≤ s.1 ∧ s.2 ≤ 1000000000000 := fun s hs => spc_ok t3 (hpm.mem_iff.1 hs)
    have hlen : S[c].length ≤ 20 := by rw [hpm.length_eq]; exact Nat.le_trans (spc_le l c) t1
    have h24 := f195 S[c] 0 1000000000000 (by omega) (fun s hs => by have := hall s hs; omega)
    rw [hol_eq hS t3 hc8] at h24
    rw [hdr, gapG] at hg
    conv => whnf
    repeat (first | refine go ?_ | ((first | refine AReq.mk (by omega) ?_ | refine AIdx.map1 (f := spV) (xs := S) (i := c) hcS ?_ | refine ACall.val (by kernel_rfl) h24 (show renL _ [spV S[c], .agg [nV 0, nV 1000000000000]] = [spV S[c], .agg [nV 0, nV 1000000000000]] by show [(spV S[c]).ren _, _] = _; rw [spV_ren]; rfl) rfl ?_); conv => whnf))
    refine ACond.dec (fun h2 => ?_) (fun h2 => ?_)
    · rw [if_pos h2] at hg
      rw [← hg]
      unfold fcOf
      conv => whnf
      repeat (first | refine go ?_ | ((first | refine AReq.mk (by omega) ?_ | refine AIdx.map1 (f := spV) (xs := S) (i := c) hcS ?_ | refine ACall.val (by kernel_rfl) h24 (show renL _ [spV S[c], .agg [nV 0, nV 1000000000000]] = [spV S[c], .agg [nV 0, nV 1000000000000]] by show [(spV S[c]).ren _, _] = _; rw [spV_ren]; rfl) rfl ?_ | refine AReq.mk (by decide) ?_); conv => whnf))
      rw [(half_c hc8).1, (half_c hc8).2]
      refine AOut.stay ?_
      conv => whnf
      repeat (first | refine go ?_ | ((first | refine AReq.mk (by omega) ?_ | refine AIdx.map1 (f := spV) (xs := S) (i := c) hcS ?_ | refine ACall.val (by kernel_rfl) h24 (show renL _ [spV S[c], .agg [nV 0, nV 1000000000000]] = [spV S[c], .agg [nV 0, nV 1000000000000]] by show [(spV S[c]).ren _, _] = _; rw [spV_ren]; rfl) rfl ?_ | refine AReq.mk (by decide) ?_); conv => whnf))
      exact AFin.val rfl ⟨rfl, rfl⟩
    · rw [if_neg h2] at hg
      conv => whnf
      repeat (first | refine go ?_ | ((first | refine AReq.mk (by omega) ?_ | refine AIdx.map1 (f := spV) (xs := S) (i := c) hcS ?_ | refine ACall.val (by kernel_rfl) h24 (show renL _ [spV S[c], .agg [nV 0, nV 1000000000000]] = [spV S[c], .agg [nV 0, nV 1000000000000]] by show [(spV S[c]).ren _, _] = _; rw [spV_ren]; rfl) rfl ?_ | refine AReq.mk (by decide) ?_); conv => whnf))
      rw [w0]
      refine AHead.mk (j - 1) _ _ (by omega) ⟨c + 1, by omega, hg, rfl, rfl⟩ (Conv.fit (by repeat' (first | exact Fit.nil | refine Fit.any ?_ | refine Fit.same ?_)))
  · obtain rfl : c = 8 := by omega
    have hg' : gapG l [] = gapG l (List.range 8) := hg
    rw [← hg', gapG]
    conv => whnf
    repeat refine go ?_
    refine AOut.stay ?_
    conv => whnf
    repeat refine go ?_
    exact AFin.val rfl ⟨rfl, rfl⟩
theorem f133 (l : List Ro) : Fun P 133 [roV l] (bV (!(gapF l).2)) := by
  refine spec_of hT (f := 133) (fn := Go.Proofs.Tryz.f133) (c := body Go.Proofs.Tryz.f133) (by kernel_rfl) (by kernel_rfl) ?_
  conv => whnf
  repeat refine go ?_
  refine ACall.val (by kernel_rfl) (f169 l) (roV1 _ _) rfl ?_
  conv => whnf
  repeat refine go ?_
  exact AFin.val rfl ⟨rfl, rfl⟩
end Go.Aw.UT

set_option linter.unusedSimpArgs false
set_option linter.unusedVariables false
set_option maxHeartbeats 1000000
namespace Go.Aw.UT
open Go Go.Proofs

def quizB (l : List Int) : Bool := decide (1 ≤ l.length ∧ l.length ≤ 8 ∧ ∀ n ∈ l, 0 ≤ n ∧ n ≤ 1000)
def cutB (l : List Int) : Bool := decide (l.length = 3 ∧ 0 ≤ l.getD 0 0 ∧ l.getD 0 0 ≤ l.getD 1 0 ∧ l.getD 1 0 ≤ l.getD 2 0 ∧ l.getD 2 0 ≤ 8000)
def feeB (l : List Int) : Bool := decide (l.length = 4 ∧ 0 ≤ l.getD 0 0 ∧ l.getD 0 0 ≤ l.getD 1 0 ∧ l.getD 1 0 ≤ l.getD 2 0 ∧ l.getD 2 0 ≤ l.getD 3 0 ∧ l.getD 3 0 ≤ 10000)
theorem iVs1 (ρ : Nat → Nat) (l : List Int) : renL ρ [iVs l] = [iVs l] := by show [(iVs l).ren ρ] = _; rw [iVs_ren]
theorem f130 (l : List Int) : Fun P 130 [iVs l] (nV (if quizB l then 0 else 36)) := by
  refine spec_of hT (f := 130) (fn := Go.Proofs.Tryz.f130) (c := body Go.Proofs.Tryz.f130) (by kernel_rfl) (by kernel_rfl) ?_
  have hbad : ∀ {H : List ABlk}, quizB l = false → AFin 0 (nV 36) H (fun r' H' => r' = nV (if quizB l then 0 else 36) ∧ H' = []) := fun h => by
    rw [h]; exact AFin.val rfl ⟨rfl, rfl⟩
  conv => whnf
  repeat refine go ?_
  refine ASplit.dec (fun h1 => ?_) (fun h1 => ?_)
  · conv => whnf
    repeat refine ru ?_
    exact hbad (decide_eq_false (fun h => by omega))
  conv => whnf
  repeat refine go ?_
  refine ACond.dec (fun h2 => ?_) (fun h2 => ?_)
  · conv => whnf
    repeat refine ru ?_
    exact hbad (decide_eq_false (fun h => by omega))
  conv => whnf
  repeat refine go ?_
  refine ALoop.mk (fun j E H => ∃ i : Nat, j + i = l.length ∧ (∀ k (h : k < l.length), k < i → 0 ≤ l[k] ∧ l[k] ≤ 1000) ∧ E = pad ([.any, .any, .v (.int .i64 0)] ++ List.replicate 10 .any ++ [iVs l, nV l.length, nV i]) 26 ∧ H = [])
    (n := l.length) _ _ ⟨0, rfl, fun _ _ h => absurd h (Nat.not_lt_zero _), rfl, rfl⟩ (Conv.fit (by repeat' (first | exact Fit.nil | refine Fit.any ?_ | refine Fit.same ?_))) ?_
  rintro j _ _ ⟨i, hj, hok, rfl, rfl⟩
  conv => whnf
  repeat refine go ?_
  refine ACond.dec (fun h3 => ?_) (fun h3 => ?_)
  · have hil : i < l.length := by omega
    have w1 : IntKind.wrap .i64 ((i : Int) + 1) = ((i + 1 : Nat) : Int) := by rw [wrap_i64 _ (by omega) (by omega)]; omega
    have hb : ¬ (0 ≤ l[i] ∧ l[i] ≤ 1000) → quizB l = false := fun h => decide_eq_false (fun g => h (g.2.2 _ (List.getElem_mem hil)))
    conv => whnf
    repeat (first | refine go ?_ | ((first | refine AReq.mk (by omega) ?_ | refine AIdx.map1 (f := nV) (xs := l) (i := i) hil ?_); conv => whnf))
    refine ASplit.dec (fun h4 => ?_) (fun h4 => ?_)
    · conv => whnf
      repeat (first | refine go ?_ | ((first | refine AReq.mk (by omega) ?_ | refine AIdx.map1 (f := nV) (xs := l) (i := i) hil ?_); conv => whnf))
      refine ACond.yes rfl ?_
      conv => whnf
      repeat (first | refine go ?_ | ((first | refine AReq.mk (by omega) ?_ | refine AIdx.map1 (f := nV) (xs := l) (i := i) hil ?_); conv => whnf))
      refine AOut.stay ?_
      conv => whnf
      repeat (first | refine go ?_ | ((first | refine AReq.mk (by omega) ?_ | refine AIdx.map1 (f := nV) (xs := l) (i := i) hil ?_); conv => whnf))
      exact hbad (hb (by omega))
    conv => whnf
    repeat (first | refine go ?_ | ((first | refine AReq.mk (by omega) ?_ | refine AIdx.map1 (f := nV) (xs := l) (i := i) hil ?_); conv => whnf))
    refine ACond.dec (fun h5 => ?_) (fun h5 => ?_)
    · conv => whnf
      repeat (first | refine go ?_ | ((first | refine AReq.mk (by omega) ?_ | refine AIdx.map1 (f := nV) (xs := l) (i := i) hil ?_); conv => whnf))
      refine AOut.stay ?_
      conv => whnf
      repeat (first | refine go ?_ | ((first | refine AReq.mk (by omega) ?_ | refine AIdx.map1 (f := nV) (xs := l) (i := i) hil ?_); conv => whnf))
      exact hbad (hb (by omega))
    · conv => whnf
      repeat (first | refine go ?_ | ((first | refine AReq.mk (by omega) ?_ | refine AIdx.map1 (f := nV) (xs := l) (i := i) hil ?_); conv => whnf))
      rw [w1]
      refine AHead.mk (j - 1) _ _ (by omega) ⟨i + 1, by omega, ?_, rfl, rfl⟩ (Conv.fit (by repeat' (first | exact Fit.nil | refine Fit.any ?_ | refine Fit.same ?_)))
      intro k hk hki
      rcases Nat.lt_or_ge k i with g | g
      · exact hok k hk g
      · obtain rfl : k = i := by omega
        exact ⟨by omega, by omega⟩
  · have hall : quizB l = true := by
      refine decide_eq_true ⟨by omega, by omega, fun n hn => ?_⟩
      obtain ⟨k, hk, rfl⟩ := List.mem_iff_getElem.1 hn
      exact hok k hk (by omega)
    rw [hall]
    conv => whnf
    repeat (first | refine go ?_ | ((first | refine AReq.mk (by omega) ?_ | refine AIdx.map1 (f := nV) (xs := l) (i := i) hil ?_); conv => whnf))
    refine AOut.stay ?_
    conv => whnf
    repeat (first | refine go ?_ | ((first | refine AReq.mk (by omega) ?_ | refine AIdx.map1 (f := nV) (xs := l) (i := i) hil ?_); conv => whnf))
    exact AFin.val rfl ⟨rfl, rfl⟩
theorem len3 {l : List Int} (h : l.length = 3) : ∃ a b c, l = [a, b, c] := by
  match l, h with
  | [a, b, c], _ => exact ⟨a, b, c, rfl⟩
theorem len4 {l : List Int} (h : l.length = 4) : ∃ a b c d, l = [a, b, c, d] := by
  match l, h with
  | [a, b, c, d], _ => exact ⟨a, b, c, d, rfl⟩
theorem f157 (n : Int) : Fun P 157 [nV n] (bV false) := by
  refine spec_of hT (f := 157) (fn := Go.Proofs.Tryz.f157) (c := body Go.Proofs.Tryz.f157) (by kernel_rfl) (by kernel_rfl) ?_
  conv => whnf
  repeat refine go ?_
  exact AFin.val rfl ⟨by simp, rfl⟩
theorem f192 (a b : Int) : Fun P 192 [nV a, nV b] (bV (decide (a < b))) := by
  refine spec_of hT (f := 192) (fn := Go.Proofs.Tryz.f192) (c := body Go.Proofs.Tryz.f192) (by kernel_rfl) (by kernel_rfl) ?_
  conv => whnf
  repeat (first | refine go ?_ | ((first | refine ACall.val (by kernel_rfl) (f157 a) rfl rfl ?_ | refine ASplit.no rfl ?_); conv => whnf))
  exact AFin.val rfl ⟨rfl, rfl⟩
theorem f167 (a b c : Int) : Fun P 167 [iVs [a, b, c]] (bV (decide (a ≤ b ∧ b ≤ c))) := by
  refine spec_of hT (f := 167) (fn := Go.Proofs.Tryz.f167) (c := body Go.Proofs.Tryz.f167) (by kernel_rfl) (by kernel_rfl) ?_
  conv => whnf
  repeat (first | refine go ?_ | ((first | refine AW.plan (id := 4) hm (.one 0 (.one 1 (.one 2 (.one 4 (.one 5 (.one 6 (.one 7 (.one 3 (.one 8 (.one 9 .nil)))))))))) (by kernel_rfl) ?_ | refine ALoop.un ?_ | refine ALp.step (T := T) ?_ | refine AReq.mk (of_decide_eq_true rfl) ?_ | refine AIdx.sp rfl ?_ | refine ACond.yes rfl ?_ | refine ACond.no rfl ?_ | refine ACall.val (by kernel_rfl) (f192 c b) rfl rfl ?_ | refine ACall.val (by kernel_rfl) (f192 b a) rfl rfl ?_); conv => whnf))
  refine ACond.dec (fun h => ?_) (fun h => ?_)
  · rw [decide_eq_false (fun g => by omega)]
    conv => whnf
    repeat (first | refine go ?_ | ((first | refine AW.plan (id := 4) hm (.one 0 (.one 1 (.one 2 (.one 4 (.one 5 (.one 6 (.one 7 (.one 3 (.one 8 (.one 9 .nil)))))))))) (by kernel_rfl) ?_ | refine ALoop.un ?_ | refine ALp.step (T := T) ?_ | refine AReq.mk (of_decide_eq_true rfl) ?_ | refine AIdx.sp rfl ?_ | refine ACond.yes rfl ?_ | refine ACond.no rfl ?_ | refine ACall.val (by kernel_rfl) (f192 c b) rfl rfl ?_ | refine ACall.val (by kernel_rfl) (f192 b a) rfl rfl ?_); conv => whnf))
    exact AFin.val rfl ⟨rfl, rfl⟩
  conv => whnf
  repeat (first | refine go ?_ | ((first | refine AW.plan (id := 4) hm (.one 0 (.one 1 (.one 2 (.one 4 (.one 5 (.one 6 (.one 7 (.one 3 (.one 8 (.one 9 .nil)))))))))) (by kernel_rfl) ?_ | refine ALoop.un ?_ | refine ALp.step (T := T) ?_ | refine AReq.mk (of_decide_eq_true rfl) ?_ | refine AIdx.sp rfl ?_ | refine ACond.yes rfl ?_ | refine ACond.no rfl ?_ | refine ACall.val (by kernel_rfl) (f192 c b) rfl rfl ?_ | refine ACall.val (by kernel_rfl) (f192 b a) rfl rfl ?_); conv => whnf))
  refine ACond.dec (fun h2 => ?_) (fun h2 => ?_)
  · rw [decide_eq_false (fun g => by omega)]
    conv => whnf
    repeat (first | refine go ?_ | ((first | refine AW.plan (id := 4) hm (.one 0 (.one 1 (.one 2 (.one 4 (.one 5 (.one 6 (.one 7 (.one 3 (.one 8 (.one 9 .nil)))))))))) (by kernel_rfl) ?_ | refine ALoop.un ?_ | refine ALp.step (T := T) ?_ | refine AReq.mk (of_decide_eq_true rfl) ?_ | refine AIdx.sp rfl ?_ | refine ACond.yes rfl ?_ | refine ACond.no rfl ?_ | refine ACall.val (by kernel_rfl) (f192 c b) rfl rfl ?_ | refine ACall.val (by kernel_rfl) (f192 b a) rfl rfl ?_); conv => whnf))
    exact AFin.val rfl ⟨rfl, rfl⟩
  rw [decide_eq_true (by omega)]
  conv => whnf
  repeat (first | refine go ?_ | ((first | refine AW.plan (id := 4) hm (.one 0 (.one 1 (.one 2 (.one 4 (.one 5 (.one 6 (.one 7 (.one 3 (.one 8 (.one 9 .nil)))))))))) (by kernel_rfl) ?_ | refine ALoop.un ?_ | refine ALp.step (T := T) ?_ | refine AReq.mk (of_decide_eq_true rfl) ?_ | refine AIdx.sp rfl ?_ | refine ACond.yes rfl ?_ | refine ACond.no rfl ?_ | refine ACall.val (by kernel_rfl) (f192 c b) rfl rfl ?_ | refine ACall.val (by kernel_rfl) (f192 b a) rfl rfl ?_); conv => whnf))
  exact AFin.val rfl ⟨rfl, rfl⟩
theorem f131 (l : List Int) : Fun P 131 [iVs l] (nV (if cutB l then 0 else 36)) := by
  refine spec_of hT (f := 131) (fn := Go.Proofs.Tryz.f131) (c := body Go.Proofs.Tryz.f131) (by kernel_rfl) (by kernel_rfl) ?_
  have hbad : ∀ {H : List ABlk}, cutB l = false → AFin 0 (nV 36) H (fun r' H' => r' = nV (if cutB l then 0 else 36) ∧ H' = []) := fun h => by
    rw [h]; exact AFin.val rfl ⟨rfl, rfl⟩
  by_cases hl : l.length = 3
  case neg =>
    conv => whnf
    repeat refine go ?_
    refine ASplit.ndec (fun h1 => ?_) (fun h1 => absurd h1 (by omega))
    conv => whnf
    repeat refine ru ?_
    exact hbad (decide_eq_false (fun h => by omega))
  obtain ⟨a, b, c, rfl⟩ := len3 hl
  have hcb : cutB [a, b, c] = decide (0 ≤ a ∧ a ≤ b ∧ b ≤ c ∧ c ≤ 8000) := by unfold cutB; simp
  conv => whnf
  repeat (first | refine go ?_ | ((first | refine AReq.mk (of_decide_eq_true rfl) ?_ | refine AIdx.sp rfl ?_ | refine ACall.val (by kernel_rfl) (f167 a b c) rfl rfl ?_); conv => whnf))
  refine ASplit.no rfl ?_
  conv => whnf
  repeat (first | refine go ?_ | ((first | refine AReq.mk (of_decide_eq_true rfl) ?_ | refine AIdx.sp rfl ?_ | refine ACall.val (by kernel_rfl) (f167 a b c) rfl rfl ?_); conv => whnf))
  refine ASplit.ndec (fun h1 => ?_) (fun h1 => ?_)
  · conv => whnf
    repeat (first | refine ru ?_ | ((first | refine AReq.mk (of_decide_eq_true rfl) ?_ | refine AIdx.sp rfl ?_ | refine ACall.val (by kernel_rfl) (f167 a b c) rfl rfl ?_); conv => whnf))
    exact hbad (by rw [hcb]; exact decide_eq_false (fun h => h1 ⟨h.2.1, h.2.2.1⟩))
  conv => whnf
  repeat (first | refine go ?_ | ((first | refine AReq.mk (of_decide_eq_true rfl) ?_ | refine AIdx.sp rfl ?_ | refine ACall.val (by kernel_rfl) (f167 a b c) rfl rfl ?_); conv => whnf))
  refine ASplit.dec (fun h2 => ?_) (fun h2 => ?_)
  · conv => whnf
    repeat (first | refine ru ?_ | ((first | refine AReq.mk (of_decide_eq_true rfl) ?_ | refine AIdx.sp rfl ?_ | refine ACall.val (by kernel_rfl) (f167 a b c) rfl rfl ?_); conv => whnf))
    exact hbad (by rw [hcb]; exact decide_eq_false (fun h => by omega))
  conv => whnf
  repeat (first | refine go ?_ | ((first | refine AReq.mk (of_decide_eq_true rfl) ?_ | refine AIdx.sp rfl ?_ | refine ACall.val (by kernel_rfl) (f167 a b c) rfl rfl ?_); conv => whnf))
  refine ACond.dec (fun h3 => ?_) (fun h3 => ?_)
  · conv => whnf
    repeat (first | refine ru ?_ | ((first | refine AReq.mk (of_decide_eq_true rfl) ?_ | refine AIdx.sp rfl ?_ | refine ACall.val (by kernel_rfl) (f167 a b c) rfl rfl ?_); conv => whnf))
    exact hbad (by rw [hcb]; exact decide_eq_false (fun h => by omega))
  rw [hcb, decide_eq_true ⟨by omega, h1.1, h1.2, by omega⟩]
  conv => whnf
  repeat (first | refine go ?_ | ((first | refine AReq.mk (of_decide_eq_true rfl) ?_ | refine AIdx.sp rfl ?_ | refine ACall.val (by kernel_rfl) (f167 a b c) rfl rfl ?_); conv => whnf))
  exact AFin.val rfl ⟨rfl, rfl⟩
theorem f168 (n : Int) : Fun P 168 [nV n] (bV (decide (0 ≤ n ∧ n ≤ 10000))) := by
  refine spec_of hT (f := 168) (fn := Go.Proofs.Tryz.f168) (c := body Go.Proofs.Tryz.f168) (by kernel_rfl) (by kernel_rfl) ?_
  conv => whnf
  repeat' (first | refine go ?_ | ((first | refine ASplit.yes rfl ?_ | refine ASplit.no rfl ?_ | refine ACond.yes rfl ?_ | refine ACond.no rfl ?_ | refine ASplit.dec (fun _ => ?_) (fun _ => ?_) | refine ASplit.ndec (fun _ => ?_) (fun _ => ?_) | refine ACond.dec (fun _ => ?_) (fun _ => ?_) | refine ACond.ndec (fun _ => ?_) (fun _ => ?_)) <;> conv => whnf))
  all_goals refine AFin.val rfl ⟨congrArg bV ?_, rfl⟩
  all_goals first
    | (exact decide_eq_decide.2 (by omega))
    | (exact (decide_eq_false (by omega)).symm)
end Go.Aw.UT

set_option linter.unusedSimpArgs false
set_option linter.unusedVariables false
set_option maxHeartbeats 1000000
namespace Go.Aw.UT
open Go Go.Proofs

theorem f132 (l : List Int) : Fun P 132 [iVs l] (nV (if feeB l then 0 else 36)) := by
  refine spec_of hT (f := 132) (fn := Go.Proofs.Tryz.f132) (c := body Go.Proofs.Tryz.f132) (by kernel_rfl) (by kernel_rfl) ?_
  have hbad : ∀ {H : List ABlk}, feeB l = false → AFin 0 (nV 36) H (fun r' H' => r' = nV (if feeB l then 0 else 36) ∧ H' = []) := fun h => by
    rw [h]; exact AFin.val rfl ⟨rfl, rfl⟩
  by_cases hl : l.length = 4
  case neg =>
    conv => whnf
    repeat refine go ?_
    refine ACond.ndec (fun h1 => ?_) (fun h1 => absurd h1 (by omega))
    conv => whnf
    repeat refine ru ?_
    exact hbad (decide_eq_false (fun h => by omega))
  obtain ⟨a, b, c, d, rfl⟩ := len4 hl
  have hcb : feeB [a, b, c, d] = decide (0 ≤ a ∧ a ≤ b ∧ b ≤ c ∧ c ≤ d ∧ d ≤ 10000) := by unfold feeB; simp
  conv => whnf
  repeat (first | refine go ?_ | ((first | refine ALoop.un ?_ | refine ALp.step (T := T) ?_ | refine AReq.mk (of_decide_eq_true rfl) ?_ | refine AIdx.sp rfl ?_ | refine ACond.yes rfl ?_ | refine ACond.no rfl ?_ | refine ACall.val (by kernel_rfl) (f168 a) rfl rfl ?_ | refine ACall.val (by kernel_rfl) (f168 b) rfl rfl ?_ | refine ACall.val (by kernel_rfl) (f168 c) rfl rfl ?_ | refine ACall.val (by kernel_rfl) (f168 d) rfl rfl ?_); conv => whnf))
  refine ASplit.ndec (fun h1 => ?_) (fun h1 => ?_)
  · conv => whnf
    repeat (first | refine go ?_ | ((first | refine ALoop.un ?_ | refine ALp.step (T := T) ?_ | refine AReq.mk (of_decide_eq_true rfl) ?_ | refine AIdx.sp rfl ?_ | refine ACond.yes rfl ?_ | refine ACond.no rfl ?_ | refine ACall.val (by kernel_rfl) (f168 a) rfl rfl ?_ | refine ACall.val (by kernel_rfl) (f168 b) rfl rfl ?_ | refine ACall.val (by kernel_rfl) (f168 c) rfl rfl ?_ | refine ACall.val (by kernel_rfl) (f168 d) rfl rfl ?_); conv => whnf))
    exact hbad (by rw [hcb]; exact decide_eq_false (fun h => h1 (by omega)))
  conv => whnf
  repeat (first | refine go ?_ | ((first | refine ALoop.un ?_ | refine ALp.step (T := T) ?_ | refine AReq.mk (of_decide_eq_true rfl) ?_ | refine AIdx.sp rfl ?_ | refine ACond.yes rfl ?_ | refine ACond.no rfl ?_ | refine ACall.val (by kernel_rfl) (f168 a) rfl rfl ?_ | refine ACall.val (by kernel_rfl) (f168 b) rfl rfl ?_ | refine ACall.val (by kernel_rfl) (f168 c) rfl rfl ?_ | refine ACall.val (by kernel_rfl) (f168 d) rfl rfl ?_); conv => whnf))
  refine ACond.dec (fun h2 => ?_) (fun h2 => ?_)
  · omega
  conv => whnf
  repeat (first | refine go ?_ | ((first | refine ALoop.un ?_ | refine ALp.step (T := T) ?_ | refine AReq.mk (of_decide_eq_true rfl) ?_ | refine AIdx.sp rfl ?_ | refine ACond.yes rfl ?_ | refine ACond.no rfl ?_ | refine ACall.val (by kernel_rfl) (f168 a) rfl rfl ?_ | refine ACall.val (by kernel_rfl) (f168 b) rfl rfl ?_ | refine ACall.val (by kernel_rfl) (f168 c) rfl rfl ?_ | refine ACall.val (by kernel_rfl) (f168 d) rfl rfl ?_); conv => whnf))
  refine ASplit.ndec (fun h3 => ?_) (fun h3 => ?_)
  · conv => whnf
    repeat (first | refine go ?_ | ((first | refine ALoop.un ?_ | refine ALp.step (T := T) ?_ | refine AReq.mk (of_decide_eq_true rfl) ?_ | refine AIdx.sp rfl ?_ | refine ACond.yes rfl ?_ | refine ACond.no rfl ?_ | refine ACall.val (by kernel_rfl) (f168 a) rfl rfl ?_ | refine ACall.val (by kernel_rfl) (f168 b) rfl rfl ?_ | refine ACall.val (by kernel_rfl) (f168 c) rfl rfl ?_ | refine ACall.val (by kernel_rfl) (f168 d) rfl rfl ?_); conv => whnf))
    exact hbad (by rw [hcb]; exact decide_eq_false (fun h => h3 (by omega)))
  conv => whnf
  repeat (first | refine go ?_ | ((first | refine ALoop.un ?_ | refine ALp.step (T := T) ?_ | refine AReq.mk (of_decide_eq_true rfl) ?_ | refine AIdx.sp rfl ?_ | refine ACond.yes rfl ?_ | refine ACond.no rfl ?_ | refine ACall.val (by kernel_rfl) (f168 a) rfl rfl ?_ | refine ACall.val (by kernel_rfl) (f168 b) rfl rfl ?_ | refine ACall.val (by kernel_rfl) (f168 c) rfl rfl ?_ | refine ACall.val (by kernel_rfl) (f168 d) rfl rfl ?_); conv => whnf))
  refine ACond.dec (fun h4 => ?_) (fun h4 => ?_)
  · conv => whnf
    repeat (first | refine go ?_ | ((first | refine ALoop.un ?_ | refine ALp.step (T := T) ?_ | refine AReq.mk (of_decide_eq_true rfl) ?_ | refine AIdx.sp rfl ?_ | refine ACond.yes rfl ?_ | refine ACond.no rfl ?_ | refine ACall.val (by kernel_rfl) (f168 a) rfl rfl ?_ | refine ACall.val (by kernel_rfl) (f168 b) rfl rfl ?_ | refine ACall.val (by kernel_rfl) (f168 c) rfl rfl ?_ | refine ACall.val (by kernel_rfl) (f168 d) rfl rfl ?_); conv => whnf))
    exact hbad (by rw [hcb]; exact decide_eq_false (fun h => by omega))
  conv => whnf
  repeat (first | refine go ?_ | ((first | refine ALoop.un ?_ | refine ALp.step (T := T) ?_ | refine AReq.mk (of_decide_eq_true rfl) ?_ | refine AIdx.sp rfl ?_ | refine ACond.yes rfl ?_ | refine ACond.no rfl ?_ | refine ACall.val (by kernel_rfl) (f168 a) rfl rfl ?_ | refine ACall.val (by kernel_rfl) (f168 b) rfl rfl ?_ | refine ACall.val (by kernel_rfl) (f168 c) rfl rfl ?_ | refine ACall.val (by kernel_rfl) (f168 d) rfl rfl ?_); conv => whnf))
  refine ASplit.ndec (fun h5 => ?_) (fun h5 => ?_)
  · conv => whnf
    repeat (first | refine go ?_ | ((first | refine ALoop.un ?_ | refine ALp.step (T := T) ?_ | refine AReq.mk (of_decide_eq_true rfl) ?_ | refine AIdx.sp rfl ?_ | refine ACond.yes rfl ?_ | refine ACond.no rfl ?_ | refine ACall.val (by kernel_rfl) (f168 a) rfl rfl ?_ | refine ACall.val (by kernel_rfl) (f168 b) rfl rfl ?_ | refine ACall.val (by kernel_rfl) (f168 c) rfl rfl ?_ | refine ACall.val (by kernel_rfl) (f168 d) rfl rfl ?_); conv => whnf))
    exact hbad (by rw [hcb]; exact decide_eq_false (fun h => h5 (by omega)))
  conv => whnf
  repeat (first | refine go ?_ | ((first | refine ALoop.un ?_ | refine ALp.step (T := T) ?_ | refine AReq.mk (of_decide_eq_true rfl) ?_ | refine AIdx.sp rfl ?_ | refine ACond.yes rfl ?_ | refine ACond.no rfl ?_ | refine ACall.val (by kernel_rfl) (f168 a) rfl rfl ?_ | refine ACall.val (by kernel_rfl) (f168 b) rfl rfl ?_ | refine ACall.val (by kernel_rfl) (f168 c) rfl rfl ?_ | refine ACall.val (by kernel_rfl) (f168 d) rfl rfl ?_); conv => whnf))
  refine ACond.dec (fun h6 => ?_) (fun h6 => ?_)
  · conv => whnf
    repeat (first | refine go ?_ | ((first | refine ALoop.un ?_ | refine ALp.step (T := T) ?_ | refine AReq.mk (of_decide_eq_true rfl) ?_ | refine AIdx.sp rfl ?_ | refine ACond.yes rfl ?_ | refine ACond.no rfl ?_ | refine ACall.val (by kernel_rfl) (f168 a) rfl rfl ?_ | refine ACall.val (by kernel_rfl) (f168 b) rfl rfl ?_ | refine ACall.val (by kernel_rfl) (f168 c) rfl rfl ?_ | refine ACall.val (by kernel_rfl) (f168 d) rfl rfl ?_); conv => whnf))
    exact hbad (by rw [hcb]; exact decide_eq_false (fun h => by omega))
  conv => whnf
  repeat (first | refine go ?_ | ((first | refine ALoop.un ?_ | refine ALp.step (T := T) ?_ | refine AReq.mk (of_decide_eq_true rfl) ?_ | refine AIdx.sp rfl ?_ | refine ACond.yes rfl ?_ | refine ACond.no rfl ?_ | refine ACall.val (by kernel_rfl) (f168 a) rfl rfl ?_ | refine ACall.val (by kernel_rfl) (f168 b) rfl rfl ?_ | refine ACall.val (by kernel_rfl) (f168 c) rfl rfl ?_ | refine ACall.val (by kernel_rfl) (f168 d) rfl rfl ?_); conv => whnf))
  refine ASplit.ndec (fun h7 => ?_) (fun h7 => ?_)
  · conv => whnf
    repeat (first | refine go ?_ | ((first | refine ALoop.un ?_ | refine ALp.step (T := T) ?_ | refine AReq.mk (of_decide_eq_true rfl) ?_ | refine AIdx.sp rfl ?_ | refine ACond.yes rfl ?_ | refine ACond.no rfl ?_ | refine ACall.val (by kernel_rfl) (f168 a) rfl rfl ?_ | refine ACall.val (by kernel_rfl) (f168 b) rfl rfl ?_ | refine ACall.val (by kernel_rfl) (f168 c) rfl rfl ?_ | refine ACall.val (by kernel_rfl) (f168 d) rfl rfl ?_); conv => whnf))
    exact hbad (by rw [hcb]; exact decide_eq_false (fun h => h7 (by omega)))
  conv => whnf
  repeat (first | refine go ?_ | ((first | refine ALoop.un ?_ | refine ALp.step (T := T) ?_ | refine AReq.mk (of_decide_eq_true rfl) ?_ | refine AIdx.sp rfl ?_ | refine ACond.yes rfl ?_ | refine ACond.no rfl ?_ | refine ACall.val (by kernel_rfl) (f168 a) rfl rfl ?_ | refine ACall.val (by kernel_rfl) (f168 b) rfl rfl ?_ | refine ACall.val (by kernel_rfl) (f168 c) rfl rfl ?_ | refine ACall.val (by kernel_rfl) (f168 d) rfl rfl ?_); conv => whnf))
  refine ACond.dec (fun h8 => ?_) (fun h8 => ?_)
  · conv => whnf
    repeat (first | refine go ?_ | ((first | refine ALoop.un ?_ | refine ALp.step (T := T) ?_ | refine AReq.mk (of_decide_eq_true rfl) ?_ | refine AIdx.sp rfl ?_ | refine ACond.yes rfl ?_ | refine ACond.no rfl ?_ | refine ACall.val (by kernel_rfl) (f168 a) rfl rfl ?_ | refine ACall.val (by kernel_rfl) (f168 b) rfl rfl ?_ | refine ACall.val (by kernel_rfl) (f168 c) rfl rfl ?_ | refine ACall.val (by kernel_rfl) (f168 d) rfl rfl ?_); conv => whnf))
    exact hbad (by rw [hcb]; exact decide_eq_false (fun h => by omega))
  rw [hcb, decide_eq_true (by omega)]
  conv => whnf
  repeat (first | refine go ?_ | ((first | refine ALoop.un ?_ | refine ALp.step (T := T) ?_ | refine AReq.mk (of_decide_eq_true rfl) ?_ | refine AIdx.sp rfl ?_ | refine ACond.yes rfl ?_ | refine ACond.no rfl ?_ | refine ACall.val (by kernel_rfl) (f168 a) rfl rfl ?_ | refine ACall.val (by kernel_rfl) (f168 b) rfl rfl ?_ | refine ACall.val (by kernel_rfl) (f168 c) rfl rfl ?_ | refine ACall.val (by kernel_rfl) (f168 d) rfl rfl ?_); conv => whnf))
  exact AFin.val rfl ⟨rfl, rfl⟩
structure Ru where
  asks : List Int
  cuts : List Int
  fees : List Int
  rows : List Ro
def ruC (r : Ru) : List AV := [iVs r.asks, iVs r.cuts, iVs r.fees, roV r.rows]
def checkB (r : Ru) : Bool := quizB r.asks && cutB r.cuts && feeB r.fees && !(gapF r.rows).2
theorem f69 (r : Ru) : Fun P 69 [.agg (ruC r)] (nV (if checkB r then 0 else 36)) := by
  refine spec_of hT (f := 69) (fn := Go.Proofs.Tryz.f69) (c := body Go.Proofs.Tryz.f69) (by kernel_rfl) (by kernel_rfl) ?_
  unfold checkB
  conv => whnf
  repeat refine go ?_
  refine ACall.val (by kernel_rfl) (f130 r.asks) (iVs1 _ _) rfl ?_
  rcases Bool.eq_false_or_eq_true (quizB r.asks) with g | g <;> simp only [g, Bool.false_eq_true, if_false, if_true]
  case inr =>
    conv => whnf
    repeat refine ru ?_
    exact AFin.val rfl ⟨rfl, rfl⟩
  conv => whnf
  repeat refine ru ?_
  refine ACall.val (by kernel_rfl) (f131 r.cuts) (iVs1 _ _) rfl ?_
  rcases Bool.eq_false_or_eq_true (cutB r.cuts) with g | g <;> simp only [g, Bool.false_eq_true, if_false, if_true]
  case inr =>
    conv => whnf
    repeat refine ru ?_
    exact AFin.val rfl ⟨rfl, rfl⟩
  conv => whnf
  repeat refine ru ?_
  refine ACall.val (by kernel_rfl) (f132 r.fees) (iVs1 _ _) rfl ?_
  rcases Bool.eq_false_or_eq_true (feeB r.fees) with g | g <;> simp only [g, Bool.false_eq_true, if_false, if_true]
  case inr =>
    conv => whnf
    repeat refine ru ?_
    exact AFin.val rfl ⟨rfl, rfl⟩
  conv => whnf
  repeat refine ru ?_
  refine ACall.val (by kernel_rfl) (f133 r.rows) (roV1 _ _) rfl ?_
  rcases Bool.eq_false_or_eq_true (gapF r.rows).2 with g | g <;> simp only [g, Bool.false_eq_true, if_false, if_true]
  · conv => whnf
    repeat refine ru ?_
    exact AFin.val rfl ⟨rfl, rfl⟩
  · conv => whnf
    repeat refine ru ?_
    exact AFin.val rfl ⟨rfl, rfl⟩
end Go.Aw.UT

