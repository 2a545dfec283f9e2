/-
  The statement AuditUnits: any unit may have come of any other one, or not, and any node is reached from any other one, or not, as the document says, without any condition.
-/
import Derived.Test.YtgpnhbekepoebaaGreatR03
import Derived.Test.YtgpnhbekepoebaaGreatR06
import Derived.Test.YtgpnhbekepoebaaGreatR02
import Derived.Laws.RangeAny
import Derived.Laws.Cover4
set_option linter.unusedSimpArgs false
set_option linter.unusedVariables false
set_option linter.unusedSimpArgs false
set_option linter.unusedVariables false
set_option maxHeartbeats 4000000
set_option maxRecDepth 8000
namespace Go.Aw.U1
open Go Go.Proofs
theorem eqNd2 {st way a b : Int} {K : AV → Prop} (k : K (bV (decide (st = a) && decide (way = b)))) : AEqs P .eql 28 (.agg [nV st, nV way]) (.agg [nV a, nV b]) K :=
  AEqs.eql (ks := [.int .i64, .int .i64]) (vx := [.int .i64 st, .int .i64 way]) (vy := [.int .i64 a, .int .i64 b]) (by kernel_rfl) (by kernel_rfl) rfl rfl rfl rfl (by rw [show eqL [Value.int .i64 st, .int .i64 way] [.int .i64 a, .int .i64 b] = (decide (st = a) && decide (way = b)) by simp [eqL, eqv]]; exact k)
theorem f134 (S : List Nd) (n : Nd) (hS : S.length ≤ 1000000) : Fun P 134 [ndsV S, ndA n.1 n.2] (nV (idxF (fun x => decide (n.1 = x.1) && decide (n.2 = x.2)) S 0)) := by
  refine spec_of hT (f := 134) (fn := Go.Proofs.Tryz.f134) (c := body Go.Proofs.Tryz.f134) (by kernel_rfl) (by kernel_rfl) ?_
  generalize hR : idxF (fun x : Nd => decide (n.1 = x.1) && decide (n.2 = x.2)) S 0 = R
  conv => whnf
  repeat (first | refine go ?_ | (refine AW.plan (id := 4) hm (.one 1 (.one 2 (.one 3 (.one 0 (.one 4 (.one 5 .nil)))))) (by kernel_rfl) ?_; conv => whnf))
  refine ALoop.mk (fun k E H => ∃ (i : Nat), k = S.length - i ∧ i ≤ S.length ∧ idxF (fun x => decide (n.1 = x.1) && decide (n.2 = x.2)) (S.drop i) i = R ∧
      E = pad [ndsV S, ndA n.1 n.2, .any, .ptr 0 0, nV 0, .any, .any, nV S.length, nV i] 19 ∧ H = [.cells 28 (ndC n)]) (n := S.length) _ _
    ⟨0, rfl, Nat.zero_le _, hR, rfl, rfl⟩ (Conv.fit (by repeat' (first | exact Fit.nil | refine Fit.any ?_ | refine Fit.same ?_))) ?_
  rintro _ _ _ ⟨i, rfl, hi, hI, rfl, rfl⟩
  conv => whnf
  repeat (first | refine go ?_ | (refine AW.plan (id := 4) hm (.one 1 (.one 2 (.one 3 (.one 0 (.one 4 (.one 5 .nil)))))) (by kernel_rfl) ?_; conv => whnf))
  refine ACond.dec (fun h1 => ?_) (fun h1 => ?_)
  · have hil : i < S.length := by omega
    have w1 : IntKind.wrap .i64 ((i : Int) + 1) = ((i + 1 : Nat) : Int) := by rw [wrap_i64 _ (by omega) (by omega)]; omega
    rw [idxF_drop hil] at hI
    conv => whnf
    repeat (first | refine go ?_ | ((first | refine AW.plan (id := 4) hm (.one 1 (.one 2 (.one 3 (.one 0 (.one 4 (.one 5 .nil)))))) (by kernel_rfl) ?_ | refine AReq.mk (by omega) ?_ | refine AIdx.flat (enc := ndC) ndC_len (xs := S) (i := i) hil ?_ | refine eqNd2 ?_); conv => whnf))
    refine ACond.mk (fun h4 => ?_) (fun h4 => ?_)
    · conv => whnf
      repeat (first | refine go ?_ | ((first | refine AW.plan (id := 4) hm (.one 1 (.one 2 (.one 3 (.one 0 (.one 4 (.one 5 .nil)))))) (by kernel_rfl) ?_ | refine AReq.mk (by omega) ?_ | refine AIdx.flat (enc := ndC) ndC_len (xs := S) (i := i) hil ?_ | refine eqNd2 ?_); conv => whnf))
      refine AOut.stay ?_
      conv => whnf
      repeat (first | refine go ?_ | ((first | refine AW.plan (id := 4) hm (.one 1 (.one 2 (.one 3 (.one 0 (.one 4 (.one 5 .nil)))))) (by kernel_rfl) ?_ | refine AReq.mk (by omega) ?_ | refine AIdx.flat (enc := ndC) ndC_len (xs := S) (i := i) hil ?_ | refine eqNd2 ?_); conv => whnf))
      refine AFin.val rfl ⟨?_, rfl⟩
      rw [if_pos h4] at hI
      rw [hI]
    · conv => whnf
      repeat (first | refine go ?_ | ((first | refine AW.plan (id := 4) hm (.one 1 (.one 2 (.one 3 (.one 0 (.one 4 (.one 5 .nil)))))) (by kernel_rfl) ?_ | refine AReq.mk (by omega) ?_ | refine AIdx.flat (enc := ndC) ndC_len (xs := S) (i := i) hil ?_ | refine eqNd2 ?_); conv => whnf))
      rw [w1]
      exact AHead.mk (S.length - (i + 1)) _ _ (by omega) ⟨i + 1, rfl, by omega, by rw [← hI]; exact (if_neg (fun h5 => Bool.noConfusion (h5.symm.trans h4))).symm, rfl, rfl⟩ (Conv.fit (by repeat' (first | exact Fit.nil | refine Fit.any ?_ | refine Fit.same ?_)))
  · rw [idxF_end (by omega)] at hI
    conv => whnf
    repeat (first | refine go ?_ | (refine AW.plan (id := 4) hm (.one 1 (.one 2 (.one 3 (.one 0 (.one 4 (.one 5 .nil)))))) (by kernel_rfl) ?_; conv => whnf))
    refine AOut.stay ?_
    conv => whnf
    repeat (first | refine go ?_ | (refine AW.plan (id := 4) hm (.one 1 (.one 2 (.one 3 (.one 0 (.one 4 (.one 5 .nil)))))) (by kernel_rfl) ?_; conv => whnf))
    exact AFin.val rfl ⟨congrArg nV hI, rfl⟩
theorem any_nd (S : List Nd) (n : Nd) : (S.any fun x => decide (n.1 = x.1) && decide (n.2 = x.2)) = S.contains n := by
  rw [Bool.eq_iff_iff, List.any_eq_true, List.contains_iff_mem]
  constructor
  · rintro ⟨x, hx, h⟩
    simp only [Bool.and_eq_true, decide_eq_true_eq] at h
    rw [show n = x from Prod.ext h.1 h.2]; exact hx
  · intro h; exact ⟨n, h, by simp⟩
theorem f52 (S : List Nd) (n : Nd) (hS : S.length ≤ 1000000) : Fun P 52 [ndsV S, ndA n.1 n.2] (bV (S.contains n)) := by
  refine spec_of hT (f := 52) (fn := Go.Proofs.Tryz.f52) (c := body Go.Proofs.Tryz.f52) (by kernel_rfl) (by kernel_rfl) ?_
  conv => whnf
  repeat refine go ?_
  refine ACall.val (args := [ndsV S, ndA n.1 n.2]) (by kernel_rfl) (f134 S n hS) (by simp only [renL, ndsV_ren]; rfl) rfl ?_
  conv => whnf
  repeat refine go ?_
  exact AFin.val rfl ⟨congrArg bV (by rw [← any_nd, ← idxF_any]), rfl⟩
theorem flatE {α : Type} {enc : α → List AV} {sz : Nat} (hs : ∀ x, (enc x).length = sz) {xs : List α} {i : Nat} {x : α} {K : List AV → Prop} (h : xs[i]? = some x) (k : K (enc x)) : AIdx (xs.flatMap enc) sz i K := by
  obtain ⟨hi, e⟩ := List.getElem?_eq_some_iff.1 h
  exact AIdx.flat hs hi (by rw [e]; exact k)
theorem pre_some {S S' : List Nd} (h : S <+: S') {i : Nat} {x : Nd} (hi : S[i]? = some x) : S'[i]? = some x := by
  obtain ⟨t, rfl⟩ := h
  obtain ⟨h1, h2⟩ := List.getElem?_eq_some_iff.1 hi
  rw [List.getElem?_append_left h1]; exact hi
theorem add1_pre (S : List Nd) (r : Nd × Int) : S <+: add1 S r := by
  unfold add1; split
  · exact List.prefix_append _ _
  · exact List.prefix_rfl
theorem addW_pre (n : Nd) (act : Int) : ∀ (k : Nat) (w : Int) (S : List Nd), S <+: addW n act k w S
  | 0, _, _ => List.prefix_rfl
  | k + 1, w, S => by
    rw [addW]; split
    · exact (add1_pre S _).trans (addW_pre n act k (w + 1) _)
    · exact List.prefix_rfl
theorem addA_pre (n : Nd) : ∀ (l : List Int) (S : List Nd), S <+: addA n l S
  | [], _ => List.prefix_rfl
  | a :: l, S => (addW_pre n a 5 1 S).trans (addA_pre n l _)
theorem pre_at {S S' : List Nd} (h : S <+: S') {i : Nat} (hi : i < S.length) : ∃ hi' : i < S'.length, S'[i] = S[i] := by
  have hl := h.length_le
  exact ⟨by omega, (List.IsPrefix.getElem h hi).symm⟩
theorem f12 (a b : Nd) : Fun P 12 [ndA a.1 a.2, ndA b.1 b.2] (bV (reachB a b)) := by
  refine spec_of hT (f := 12) (fn := Go.Proofs.Tryz.f12) (c := body Go.Proofs.Tryz.f12) (by kernel_rfl) (by kernel_rfl) ?_
  unfold reachB
  conv => whnf
  repeat (first | refine go ?_ | (refine AW.plan (id := 7) hm (.one 0 (.one 1 (.one 2 (.one 3 (.one 4 (.one 5 .nil)))))) (by kernel_rfl) ?_; conv => whnf))
  refine ACall.val (args := [ndA a.1 a.2]) (by kernel_rfl) (f49 a.1 a.2) rfl rfl ?_
  unfold lifeC
  cases ha : nodeB a.1 a.2 with
  | false =>
    conv => whnf
    repeat (first | refine ru ?_ | (refine AW.plan (id := 7) hm (.one 0 (.one 1 (.one 2 (.one 3 (.one 4 (.one 5 .nil)))))) (by kernel_rfl) ?_; conv => whnf))
    exact AFin.val rfl ⟨rfl, rfl⟩
  | true =>
  conv => whnf
  repeat (first | refine ru ?_ | (refine AW.plan (id := 7) hm (.one 0 (.one 1 (.one 2 (.one 3 (.one 4 (.one 5 .nil)))))) (by kernel_rfl) ?_; conv => whnf))
  refine ACall.val (args := [ndA b.1 b.2]) (by kernel_rfl) (f49 b.1 b.2) rfl rfl ?_
  unfold lifeC
  cases hb : nodeB b.1 b.2 with
  | false =>
    conv => whnf
    repeat (first | refine ru ?_ | (refine AW.plan (id := 7) hm (.one 0 (.one 1 (.one 2 (.one 3 (.one 4 (.one 5 .nil)))))) (by kernel_rfl) ?_; conv => whnf))
    exact AFin.val rfl ⟨rfl, rfl⟩
  | true =>
  obtain ⟨hC, hCl⟩ := closure_ok a (node_mem ha)
  generalize closure a = C at hC hCl
  conv => whnf
  iterate 9 ((first | refine AO.cons hT ?_ | refine AO.nil ?_ | refine AW.seq ?_ | refine AW.region ?_ | refine AW.cond ?_ | refine AW.block ?_ | refine AW.skip ?_ | refine ASplit.no rfl ?_ | refine ACond.no rfl ?_); conv => whnf)
  refine AO.consA rfl ?_
  refine AOp.sliceO hT ?_
  conv => whnf
  conv => whnf
  repeat (first | refine ru ?_ | (refine AW.plan (id := 7) hm (.one 0 (.one 1 (.one 2 (.one 3 (.one 4 (.one 5 .nil)))))) (by kernel_rfl) ?_; conv => whnf))
  refine ALoop.mk (fun n E H => ∃ (S : List Nd) (i : Nat), bfsO n S i = some C ∧ (∀ k (hk : k < S.length), k < i → S[k] ≠ b) ∧ i ≤ S.length ∧
      E = pad [ndA a.1 a.2, ndA b.1 b.2, .ptr 0 0, .ptr 1 0, bV false, .ms 2 2 0 S.length, nV i] 72 ∧ H = [.cells 28 (ndC a), .cells 28 (ndC b), .cells 28 (S.flatMap ndC)]) (n := 20) _ _
    ⟨[a], 0, hC, fun k _ hk => absurd hk (Nat.not_lt_zero _), Nat.zero_le _, rfl, rfl⟩ (Conv.fit (by repeat' (first | exact Fit.nil | refine Fit.any ?_ | refine Fit.same ?_))) ?_
  clear hC
  rintro n _ _ ⟨S, i, hC, hb', hi, rfl, rfl⟩
  have hSl := (bfs_sub hC).1
  conv => whnf
  repeat (first | refine go ?_ | (refine AW.plan (id := 7) hm (.one 0 (.one 1 (.one 2 (.one 3 (.one 4 (.one 5 .nil)))))) (by kernel_rfl) ?_; conv => whnf))
  refine ACond.dec (fun h1 => ?_) (fun h1 => ?_)
  · have hil : i < S.length := by omega
    obtain ⟨n, rfl⟩ : ∃ m, n = m + 1 := ⟨n - 1, by cases n with
      | zero => cases hC
      | succ n => rfl⟩
    rw [bfsO, List.getElem?_eq_getElem hil] at hC
    replace hC : bfsO n (addA S[i] (actF S[i].1 S[i].2) S) (i + 1) = some C := hC
    have fl := flat_len ndC_len S
    have hmemC : S[i] ∈ C := (bfs_sub hC).2 _ ((addA_sub _ _ _).2 _ (List.getElem_mem hil))
    have hl1 := (bfs_sub hC).1
    have hndi : S[i]? = some S[i] := List.getElem?_eq_getElem hil
    have hb2 : (decide (S[i].1 = b.1) && decide (S[i].2 = b.2)) = false → ∀ k x, k < i + 1 → S[k]? = some x → x ≠ b := fun hd k x hki hx => by
      obtain ⟨hk, rfl⟩ := List.getElem?_eq_some_iff.1 hx
      rcases Nat.lt_or_ge k i with g | g
      · exact hb' k hk g
      · obtain rfl : k = i := by omega
        intro e
        rw [e] at hd; simp at hd
    generalize S[i] = nd at hC hmemC hndi hb2 hl1
    conv => whnf
    repeat (first | refine go ?_ | ((first | refine AW.plan (id := 7) hm (.one 0 (.one 1 (.one 2 (.one 3 (.one 4 (.one 5 .nil)))))) (by kernel_rfl) ?_ | refine AReq.mk (by omega) ?_ | refine flatE (enc := ndC) ndC_len hndi ?_ | refine eqNd2 ?_); conv => whnf))
    refine ACond.mk (fun h4 => ?_) (fun h4 => ?_)
    · have e : nd = b := by
        simp only [Bool.and_eq_true, decide_eq_true_eq] at h4
        exact Prod.ext h4.1 h4.2
      conv => whnf
      repeat (first | refine ru ?_ | ((first | refine AW.plan (id := 7) hm (.one 0 (.one 1 (.one 2 (.one 3 (.one 4 (.one 5 .nil)))))) (by kernel_rfl) ?_ | refine AReq.mk (by omega) ?_ | refine flatE (enc := ndC) ndC_len hndi ?_ | refine eqNd2 ?_); conv => whnf))
      refine AOut.stay ?_
      conv => whnf
      repeat (first | refine ru ?_ | ((first | refine AW.plan (id := 7) hm (.one 0 (.one 1 (.one 2 (.one 3 (.one 4 (.one 5 .nil)))))) (by kernel_rfl) ?_ | refine AReq.mk (by omega) ?_ | refine flatE (enc := ndC) ndC_len hndi ?_ | refine eqNd2 ?_); conv => whnf))
      refine AFin.val rfl ⟨congrArg bV ?_, rfl⟩
      symm
      simp only [Bool.and_self, Bool.true_and]
      exact List.contains_iff_mem.2 (e ▸ hmemC)
    have hb3 := hb2 h4
    conv => whnf
    repeat (first | refine ru ?_ | ((first | refine AW.plan (id := 7) hm (.one 0 (.one 1 (.one 2 (.one 3 (.one 4 (.one 5 .nil)))))) (by kernel_rfl) ?_ | refine AReq.mk (by omega) ?_ | refine flatE (enc := ndC) ndC_len hndi ?_ | refine eqNd2 ?_); conv => whnf))
    refine ACall.val (args := [ndA nd.1 nd.2]) (by kernel_rfl) (f50 nd.1 nd.2) rfl (actV_ren _ _) ?_
    have hLl : (actF nd.1 nd.2).length ≤ 3 := by unfold actF; repeat' split
                                                 all_goals simp
    generalize hS1 : addA nd (actF nd.1 nd.2) S = S1 at hC hl1
    have hpre1 : S <+: S1 := hS1 ▸ addA_pre nd _ S
    have hb4 : ∀ k (hk : k < S1.length), k < i + 1 → S1[k] ≠ b := fun k hk hki => by
      refine hb3 k S1[k] hki ?_
      have hks : k < S.length := by omega
      obtain ⟨hk2, e⟩ := pre_at hpre1 hks
      rw [e]; exact List.getElem?_eq_getElem hks
    have hi1 : i + 1 ≤ S1.length := by have := hpre1.length_le; omega
    have w1 : IntKind.wrap .i64 ((i : Int) + 1) = ((i + 1 : Nat) : Int) := by rw [wrap_i64 _ (by omega) (by omega)]; omega
    generalize actF nd.1 nd.2 = L at hS1 hLl
    cases L with
    | nil =>
      obtain rfl : S = S1 := hS1
      unfold actV
      conv => whnf
      repeat (first | refine ru ?_ | ((first | refine AW.plan (id := 7) hm (.one 0 (.one 1 (.one 2 (.one 3 (.one 4 (.one 5 .nil)))))) (by kernel_rfl) ?_ | refine AReq.mk (by omega) ?_ | refine flatE (enc := ndC) ndC_len hndi ?_ | refine eqNd2 ?_); conv => whnf))
      refine ALoop.un ?_
      refine ALp.step (T := T) ?_
      conv => whnf
      repeat (first | refine ru ?_ | ((first | refine AW.plan (id := 7) hm (.one 0 (.one 1 (.one 2 (.one 3 (.one 4 (.one 5 .nil)))))) (by kernel_rfl) ?_ | refine AReq.mk (by omega) ?_ | refine flatE (enc := ndC) ndC_len hndi ?_ | refine eqNd2 ?_); conv => whnf))
      rw [w1]
      exact AHead.mk n _ _ (by omega) ⟨S, i + 1, hC, hb4, hi1, rfl, rfl⟩ (Conv.ren [0, 1, 2] _ (by simp) (by simp) (by simp only [pad, renL, AV.ren, rens]; repeat' (first | exact Fit.nil | refine Fit.any ?_ | refine Fit.same ?_)) (.same rfl (.same rfl (.same (by simp only [ABlk.ren, fr_nd]; rfl) .nil))))
    | cons x L' =>
      unfold actV isV
      conv => whnf
      repeat (first | refine ru ?_ | ((first | refine AW.plan (id := 7) hm (.one 0 (.one 1 (.one 2 (.one 3 (.one 4 (.one 5 .nil)))))) (by kernel_rfl) ?_ | refine AReq.mk (by omega) ?_ | refine flatE (enc := ndC) ndC_len hndi ?_ | refine eqNd2 ?_); conv => whnf))
      have hb28 : (T 28).bytes = 16 := by kernel_rfl
      refine ALoop.mk (fun n E H => ∃ (j : Nat) (S' : List Nd), n = (x :: L').length - j ∧ j ≤ (x :: L').length ∧ addA nd ((x :: L').drop j) S' = S1 ∧ S <+: S' ∧
          E = pad [ndA a.1 a.2, ndA b.1 b.2, .ptr 0 0, .ptr 1 0, bV false, .ms 2 2 0 S'.length, nV i, .any, .any, .any, .any, .any, .any, .any, .any, .any, .any, .any, .any, .any, .any, .any, .any, .any, .any, .any, .any, .any, .any, .any, .any, .any, .any, .any, .any, .any, .any, .any, isV (x :: L'), nV (x :: L').length, nV j] 72 ∧ H = [.cells 28 (ndC a), .cells 28 (ndC b), .cells 28 (S'.flatMap ndC)]) (n := (x :: L').length) _ _
        ⟨0, S, rfl, Nat.zero_le _, hS1, List.prefix_rfl, rfl, rfl⟩ (Conv.fit (by repeat' (first | exact Fit.nil | refine Fit.any ?_ | refine Fit.same ?_))) ?_
      generalize x :: L' = L at hS1 hLl
      rintro _ _ _ ⟨j, S', rfl, hj, hA, hpre, rfl, rfl⟩
      have hA2 := (addA_sub nd (L.drop j) S').1
      rw [hA] at hA2
      conv => whnf
      repeat (first | refine go ?_ | ((first | refine AW.plan (id := 7) hm (.one 0 (.one 1 (.one 2 (.one 3 (.one 4 (.one 5 .nil)))))) (by kernel_rfl) ?_ | refine AReq.mk (by omega) ?_ | refine flatE (enc := ndC) ndC_len hndi ?_ | refine eqNd2 ?_); conv => whnf))
      refine ACond.dec (fun h2 => ?_) (fun h2 => ?_)
      · have hjl : j < L.length := by omega
        have w2 : IntKind.wrap .i64 ((j : Int) + 1) = ((j + 1 : Nat) : Int) := by rw [wrap_i64 _ (by omega) (by omega)]; omega
        rw [List.drop_eq_getElem_cons hjl, addA] at hA
        conv => whnf
        repeat (first | refine go ?_ | ((first | refine AW.plan (id := 7) hm (.one 0 (.one 1 (.one 2 (.one 3 (.one 4 (.one 5 .nil)))))) (by kernel_rfl) ?_ | refine AReq.mk (by omega) ?_ | refine flatE (enc := ndC) ndC_len hndi ?_ | refine eqNd2 ?_ | refine AIdx.flat (enc := iC) iC_len (xs := L) (i := j) hjl ?_); conv => whnf))
        generalize L[j] = act at hA
        generalize hS2 : addW nd act 5 1 S' = S2 at hA
        have hA3 := (addA_sub nd (L.drop (j + 1)) S2).1
        rw [hA] at hA3
        have hpre2 : S <+: S2 := hpre.trans (hS2 ▸ addW_pre nd act 5 1 S')
        clear hA2
        refine ALoop.mk (fun n E H => ∃ (w : Int) (S3 : List Nd), (n : Int) = 6 - w ∧ 1 ≤ w ∧ addW nd act n w S3 = S2 ∧ S <+: S3 ∧
            E = pad [ndA a.1 a.2, ndA b.1 b.2, .ptr 0 0, .ptr 1 0, bV false, .ms 2 2 0 S3.length, nV i, .any, nV act, nV w, .any, .any, .any, .any, .any, .any, .any, .any, .any, .any, .any, .any, .any, .any, .any, .any, .any, .any, .any, .any, .any, .any, .any, .any, .any, .any, .any, .any, isV L, nV L.length, nV j] 72 ∧ H = [.cells 28 (ndC a), .cells 28 (ndC b), .cells 28 (S3.flatMap ndC)]) (n := 5) _ _
          ⟨1, S', rfl, by decide, hS2, hpre, rfl, rfl⟩ (Conv.fit (by repeat' (first | exact Fit.nil | refine Fit.any ?_ | refine Fit.same ?_))) ?_
        clear hS2 hpre
        clear S'
        rintro m _ _ ⟨w, S', hm5, hw1, hW, hpre, rfl, rfl⟩
        have hW2 := (addW_sub nd act m w S').1
        rw [hW] at hW2
        have hnd' : S'[i]? = some nd := pre_some hpre hndi
        have fl2 := flat_len ndC_len S'
        have hpl := hpre.length_le
        conv => whnf
        repeat (first | refine go ?_ | ((first | refine AW.plan (id := 7) hm (.one 0 (.one 1 (.one 2 (.one 3 (.one 4 (.one 5 .nil)))))) (by kernel_rfl) ?_ | refine AReq.mk (by omega) ?_ | refine flatE (enc := ndC) ndC_len hndi ?_ | refine eqNd2 ?_ | refine AIdx.flat (enc := iC) iC_len (xs := L) (i := j) hjl ?_); conv => whnf))
        refine ACond.dec (fun h3 => ?_) (fun h3 => ?_)
        · obtain ⟨m, rfl⟩ : ∃ k, m = k + 1 := ⟨m - 1, by omega⟩
          have w3 : IntKind.wrap .i64 (w + 1) = w + 1 := by rw [wrap_i64 _ (by omega) (by omega)]
          rw [addW, if_pos h3] at hW
          have hf51 := f51 nd act w
          have hf52 := f52 S' (nextF nd act w).1 (by omega)
          generalize hr : nextF nd act w = r at hW hf51 hf52
          conv => whnf
          repeat (first | refine go ?_ | ((first | refine AW.plan (id := 7) hm (.one 0 (.one 1 (.one 2 (.one 3 (.one 4 (.one 5 .nil)))))) (by kernel_rfl) ?_ | refine AReq.mk (by omega) ?_ | refine flatE (enc := ndC) ndC_len hndi ?_ | refine eqNd2 ?_ | refine AIdx.flat (enc := iC) iC_len (xs := L) (i := j) hjl ?_ | refine flatE (enc := ndC) ndC_len hnd' ?_ | refine ACall.val (args := [ndA nd.1 nd.2, .agg [nV act, nV w]]) (by kernel_rfl) hf51 rfl rfl ?_); conv => whnf))
          refine ASplit.dec (fun h5 => ?_) (fun h5 => ?_)
          · conv => whnf
            repeat (first | refine ru ?_ | ((first | refine AW.plan (id := 7) hm (.one 0 (.one 1 (.one 2 (.one 3 (.one 4 (.one 5 .nil)))))) (by kernel_rfl) ?_ | refine AReq.mk (by omega) ?_ | refine flatE (enc := ndC) ndC_len hndi ?_ | refine eqNd2 ?_ | refine AIdx.flat (enc := iC) iC_len (xs := L) (i := j) hjl ?_ | refine flatE (enc := ndC) ndC_len hnd' ?_ | refine ACall.val (args := [ndA nd.1 nd.2, .agg [nV act, nV w]]) (by kernel_rfl) hf51 rfl rfl ?_); conv => whnf))
            refine ACall.fun (args0 := [ndsV S', ndA r.1.1 r.1.2]) (by kernel_rfl) hf52 [2] (by intro l' hl'; simp at hl'; subst hl'; exact ⟨_, _, rfl⟩) (.cons (.ms (.inl ⟨by simp, rfl⟩) (by omega) ?_) (.cons (.same rfl) .nil)) (.inr trivial) rfl ?_
            · rw [fr_nd, List.drop_zero, List.take_of_length_le (by omega)]
            cases hc : S'.contains r.1 with
            | true =>
              have e1 : add1 S' r = S' := by rw [add1, if_neg (by rw [hc]; simp)]
              rw [e1] at hW
              conv => whnf
              repeat (first | refine ru ?_ | ((first | refine AW.plan (id := 7) hm (.one 0 (.one 1 (.one 2 (.one 3 (.one 4 (.one 5 .nil)))))) (by kernel_rfl) ?_ | refine AReq.mk (by omega) ?_ | refine flatE (enc := ndC) ndC_len hndi ?_ | refine eqNd2 ?_ | refine AIdx.flat (enc := iC) iC_len (xs := L) (i := j) hjl ?_ | refine flatE (enc := ndC) ndC_len hnd' ?_ | refine ACall.val (args := [ndA nd.1 nd.2, .agg [nV act, nV w]]) (by kernel_rfl) hf51 rfl rfl ?_); conv => whnf))
              rw [w3]
              exact AHead.mk m _ _ (by omega) ⟨w + 1, S', by omega, by omega, hW, hpre, rfl, rfl⟩ (Conv.ren [0, 1, 2] _ (by simp) (by simp) (by simp only [pad, renL, AV.ren, rens]; repeat' (first | exact Fit.nil | refine Fit.any ?_ | refine Fit.same ?_)) (.same rfl (.same rfl (.same (by simp only [ABlk.ren, fr_nd]; rfl) .nil))))
            | false =>
              have e1 : add1 S' r = S' ++ [r.1] := by rw [add1, if_pos ⟨h5, hc⟩]
              rw [e1] at hW
              conv => whnf
              repeat (first | refine ru ?_ | ((first | refine AW.plan (id := 7) hm (.one 0 (.one 1 (.one 2 (.one 3 (.one 4 (.one 5 .nil)))))) (by kernel_rfl) ?_ | refine AReq.mk (by omega) ?_ | refine flatE (enc := ndC) ndC_len hndi ?_ | refine eqNd2 ?_ | refine AIdx.flat (enc := iC) iC_len (xs := L) (i := j) hjl ?_ | refine flatE (enc := ndC) ndC_len hnd' ?_ | refine ACall.val (args := [ndA nd.1 nd.2, .agg [nV act, nV w]]) (by kernel_rfl) hf51 rfl rfl ?_ | refine AReq.mk (by rw [hb28]; omega) ?_); conv => whnf))
              rw [w3]
              refine AHead.mk m _ _ (by omega) ⟨w + 1, S' ++ [r.1], by omega, by omega, hW, hpre.trans (List.prefix_append _ _), rfl, rfl⟩ ?_
              rw [List.length_append, List.flatMap_append]
              exact Conv.ren [0, 1, 4] _ (by simp) (by decide) (by simp only [pad, renL, AV.ren, rens]; repeat' (first | exact Fit.nil | refine Fit.any ?_ | refine Fit.same ?_)) (.same rfl (.same rfl (.same (by simp only [ABlk.ren, renL_append, fr_nd]; rfl) .nil)))
          · have e1 : add1 S' r = S' := by rw [add1, if_neg (fun h => h5 h.1)]
            rw [e1] at hW
            conv => whnf
            repeat (first | refine ru ?_ | ((first | refine AW.plan (id := 7) hm (.one 0 (.one 1 (.one 2 (.one 3 (.one 4 (.one 5 .nil)))))) (by kernel_rfl) ?_ | refine AReq.mk (by omega) ?_ | refine flatE (enc := ndC) ndC_len hndi ?_ | refine eqNd2 ?_ | refine AIdx.flat (enc := iC) iC_len (xs := L) (i := j) hjl ?_ | refine flatE (enc := ndC) ndC_len hnd' ?_ | refine ACall.val (args := [ndA nd.1 nd.2, .agg [nV act, nV w]]) (by kernel_rfl) hf51 rfl rfl ?_ | refine AReq.mk (by rw [hb28]; omega) ?_); conv => whnf))
            rw [w3]
            exact AHead.mk m _ _ (by omega) ⟨w + 1, S', by omega, by omega, hW, hpre, rfl, rfl⟩ (Conv.ren [0, 1, 2] _ (by simp) (by simp) (by simp only [pad, renL, AV.ren, rens]; repeat' (first | exact Fit.nil | refine Fit.any ?_ | refine Fit.same ?_)) (.same rfl (.same rfl (.same (by simp only [ABlk.ren, fr_nd]; rfl) .nil))))
        · obtain rfl : m = 0 := by omega
          obtain rfl : S' = S2 := hW
          conv => whnf
          repeat (first | refine go ?_ | ((first | refine AW.plan (id := 7) hm (.one 0 (.one 1 (.one 2 (.one 3 (.one 4 (.one 5 .nil)))))) (by kernel_rfl) ?_ | refine AReq.mk (by omega) ?_ | refine flatE (enc := ndC) ndC_len hndi ?_ | refine eqNd2 ?_ | refine AIdx.flat (enc := iC) iC_len (xs := L) (i := j) hjl ?_ | refine flatE (enc := ndC) ndC_len hnd' ?_ | refine ACall.val (args := [ndA nd.1 nd.2, .agg [nV act, nV w]]) (by kernel_rfl) hf51 rfl rfl ?_ | refine AReq.mk (by rw [hb28]; omega) ?_); conv => whnf))
          refine AOut.stay ?_
          conv => whnf
          repeat (first | refine go ?_ | ((first | refine AW.plan (id := 7) hm (.one 0 (.one 1 (.one 2 (.one 3 (.one 4 (.one 5 .nil)))))) (by kernel_rfl) ?_ | refine AReq.mk (by omega) ?_ | refine flatE (enc := ndC) ndC_len hndi ?_ | refine eqNd2 ?_ | refine AIdx.flat (enc := iC) iC_len (xs := L) (i := j) hjl ?_ | refine flatE (enc := ndC) ndC_len hnd' ?_ | refine ACall.val (args := [ndA nd.1 nd.2, .agg [nV act, nV w]]) (by kernel_rfl) hf51 rfl rfl ?_ | refine AReq.mk (by rw [hb28]; omega) ?_); conv => whnf))
          rw [w2]
          exact AHead.mk (L.length - (j + 1)) _ _ (by omega) ⟨j + 1, S', rfl, by omega, hA, hpre, rfl, rfl⟩ (Conv.ren [0, 1, 2] _ (by simp) (by simp) (by simp only [pad, renL, AV.ren, rens]; repeat' (first | exact Fit.nil | refine Fit.any ?_ | refine Fit.same ?_)) (.same rfl (.same rfl (.same (by simp only [ABlk.ren, fr_nd]; rfl) .nil))))
      · rw [List.drop_of_length_le (by omega)] at hA
        obtain rfl : S' = S1 := hA
        conv => whnf
        repeat (first | refine go ?_ | ((first | refine AW.plan (id := 7) hm (.one 0 (.one 1 (.one 2 (.one 3 (.one 4 (.one 5 .nil)))))) (by kernel_rfl) ?_ | refine AReq.mk (by omega) ?_ | refine flatE (enc := ndC) ndC_len hndi ?_ | refine eqNd2 ?_ | refine AIdx.flat (enc := iC) iC_len (xs := L) (i := j) hjl ?_ | refine flatE (enc := ndC) ndC_len hnd' ?_ | refine ACall.val (args := [ndA nd.1 nd.2, .agg [nV act, nV w]]) (by kernel_rfl) hf51 rfl rfl ?_ | refine AReq.mk (by rw [hb28]; omega) ?_); conv => whnf))
        refine AOut.stay ?_
        conv => whnf
        repeat (first | refine go ?_ | ((first | refine AW.plan (id := 7) hm (.one 0 (.one 1 (.one 2 (.one 3 (.one 4 (.one 5 .nil)))))) (by kernel_rfl) ?_ | refine AReq.mk (by omega) ?_ | refine flatE (enc := ndC) ndC_len hndi ?_ | refine eqNd2 ?_ | refine AIdx.flat (enc := iC) iC_len (xs := L) (i := j) hjl ?_ | refine flatE (enc := ndC) ndC_len hnd' ?_ | refine ACall.val (args := [ndA nd.1 nd.2, .agg [nV act, nV w]]) (by kernel_rfl) hf51 rfl rfl ?_ | refine AReq.mk (by rw [hb28]; omega) ?_); conv => whnf))
        rw [w1]
        exact AHead.mk n _ _ (by omega) ⟨S', i + 1, hC, hb4, hi1, rfl, rfl⟩ (Conv.ren [0, 1, 2] _ (by simp) (by simp) (by simp only [pad, renL, AV.ren, rens]; repeat' (first | exact Fit.nil | refine Fit.any ?_ | refine Fit.same ?_)) (.same rfl (.same rfl (.same (by simp only [ABlk.ren, fr_nd]; rfl) .nil))))
  · conv => whnf
    repeat (first | refine go ?_ | (refine AW.plan (id := 7) hm (.one 0 (.one 1 (.one 2 (.one 3 (.one 4 (.one 5 .nil)))))) (by kernel_rfl) ?_; conv => whnf))
    refine AOut.stay ?_
    conv => whnf
    repeat (first | refine go ?_ | (refine AW.plan (id := 7) hm (.one 0 (.one 1 (.one 2 (.one 3 (.one 4 (.one 5 .nil)))))) (by kernel_rfl) ?_; conv => whnf))
    refine AFin.val rfl ⟨congrArg bV ?_, rfl⟩
    symm
    simp only [Bool.and_self, Bool.true_and]
    have hSC : S = C := by
      cases n with
      | zero => cases hC
      | succ n =>
        rw [bfsO, List.getElem?_eq_none (by omega)] at hC
        exact Option.some.inj hC
    rw [← Bool.not_eq_true, List.contains_iff_mem, ← hSC]
    intro hm
    obtain ⟨k, hk, hk2⟩ := List.mem_iff_getElem.1 hm
    exact hb' k hk (by omega) hk2
end Go.Aw.U1

set_option linter.unusedSimpArgs false
set_option linter.unusedVariables false
set_option maxHeartbeats 4000000
set_option maxRecDepth 30000
namespace Go.Aw.U1
open Go Go.Proofs

/-! ### the document's graph -/
def edC (e : Ed) : List AV := [nV e.1, nV e.2.1, nV e.2.2.1, nV e.2.2.2.1, nV e.2.2.2.2.1, nV e.2.2.2.2.2]
theorem edC_len (e : Ed) : (edC e).length = 6 := rfl
def edV : AV := .vs 6 edgesL.length (edgesL.flatMap edC)
theorem edV_ren (ρ : Nat → Nat) : edV.ren ρ = edV := rfl
theorem f54 : Fun P 54 [] edV := by
  refine spec_of hT (f := 54) (fn := Go.Proofs.Tryz.f54) (c := body Go.Proofs.Tryz.f54) (by kernel_rfl) (by kernel_rfl) ?_
  conv => whnf
  repeat refine go ?_
  exact AFin.to edV [] (Conv.out (.vx rfl) (fun ρ => rfl)) ⟨rfl, rfl⟩
def eMat (st way : Int) (e : Ed) : Bool := (decide (e.1 = st) && decide (e.2.1 = way)) || (decide (e.2.2.2.2.1 = st) && decide (e.2.2.2.2.2 = way))
theorem f53 (st way : Int) : Fun P 53 [nV st, nV way] (bV (nodeR st way)) := by
  refine spec_of hT (f := 53) (fn := Go.Proofs.Tryz.f53) (c := body Go.Proofs.Tryz.f53) (by kernel_rfl) (by kernel_rfl) ?_
  have hlen : edgesL.length = 13 := rfl
  have hR : nodeR st way = edgesL.any (eMat st way) := rfl
  rw [hR]
  conv => whnf
  repeat refine go ?_
  refine ACall.val (args := []) (by kernel_rfl) f54 rfl (edV_ren _) ?_
  unfold edV
  generalize edgesL = L at hlen
  clear hR
  conv => whnf
  repeat refine ru ?_
  refine ALoop.mk (fun n E H => ∃ (i : Nat), n = L.length - i ∧ i ≤ L.length ∧ (∀ k (hk : k < L.length), k < i → eMat st way L[k] = false) ∧
      E = pad [nV st, nV way, .any, .any, bV false, .vs 6 L.length (L.flatMap edC), nV i] 48 ∧ H = []) (n := L.length) _ _
    ⟨0, rfl, Nat.zero_le _, fun k _ hk => absurd hk (Nat.not_lt_zero _), rfl, rfl⟩ (Conv.fit (by repeat' (first | exact Fit.nil | refine Fit.any ?_ | refine Fit.same ?_))) ?_
  rintro _ _ _ ⟨i, rfl, hi, hI, rfl, rfl⟩
  conv => whnf
  repeat refine go ?_
  refine ACond.dec (fun h1 => ?_) (fun h1 => ?_)
  · have hil : i < L.length := by omega
    have w1 : IntKind.wrap .i64 ((i : Int) + 1) = ((i + 1 : Nat) : Int) := by rw [wrap_i64 _ (by omega) (by omega)]; omega
    have hyes : eMat st way L[i] = true → L.any (eMat st way) = true := fun h => List.any_eq_true.2 ⟨_, List.getElem_mem hil, h⟩
    have hno : eMat st way L[i] = false → ∀ k (hk : k < L.length), k < i + 1 → eMat st way L[k] = false := fun h k hk hki => by
      rcases Nat.lt_or_ge k i with g | g
      · exact hI k hk g
      · obtain rfl : k = i := by omega
        exact h
    have hndi : L[i]? = some L[i] := List.getElem?_eq_getElem hil
    generalize L[i] = e at hyes hno hndi
    conv => whnf
    repeat' (first | refine go ?_ | ((first | refine ASplit.yes rfl ?_ | refine ASplit.no rfl ?_ | refine ACond.yes rfl ?_ | refine ACond.no rfl ?_ | refine ASplit.dec (fun _ => ?_) (fun _ => ?_) | refine ASplit.ndec (fun _ => ?_) (fun _ => ?_) | refine ACond.dec (fun _ => ?_) (fun _ => ?_) | refine ACond.ndec (fun _ => ?_) (fun _ => ?_) | refine AReq.mk (by omega) ?_ | refine flatE (enc := edC) edC_len hndi ?_ | (refine ASplit.mk (fun _ => ?_) (fun _ => ?_)) | (refine ACond.mk (fun _ => ?_) (fun _ => ?_)) | refine AOut.stay ?_) <;> conv => whnf))
    all_goals first
      | refine AFin.val rfl ⟨congrArg bV (hyes ?_).symm, rfl⟩
      | (rw [w1]; refine AHead.mk (L.length - (i + 1)) _ _ (by omega) ⟨i + 1, rfl, by omega, hno ?_, rfl, rfl⟩ (Conv.fit (by repeat' (first | exact Fit.nil | refine Fit.any ?_ | refine Fit.same ?_))))
    all_goals simp_all [eMat]
  · have hall : L.any (eMat st way) = false := List.any_eq_false.2 fun x hx => by
      obtain ⟨k, hk, rfl⟩ := List.mem_iff_getElem.1 hx
      rw [hI k hk (by omega)]; exact Bool.false_ne_true
    conv => whnf
    repeat refine go ?_
    refine AOut.stay ?_
    conv => whnf
    repeat refine go ?_
    exact AFin.val rfl ⟨by rw [hall], rfl⟩
end Go.Aw.U1

set_option linter.unusedSimpArgs false
set_option linter.unusedVariables false
set_option maxHeartbeats 4000000
set_option maxRecDepth 30000
namespace Go.Aw.U1
open Go Go.Proofs

theorem fr_ed (ρ : Nat → Nat) (l : List Ed) : renL ρ (l.flatMap edC) = l.flatMap edC := flat_ren (enc := edC) (fun _ _ => rfl) ρ l
theorem f13 (a b : Nd) : Fun P 13 [nV a.1, nV a.2, nV b.1, nV b.2] (bV (reachR a b)) := by
  refine spec_of hT (f := 13) (fn := Go.Proofs.Tryz.f13) (c := body Go.Proofs.Tryz.f13) (by kernel_rfl) (by kernel_rfl) ?_
  unfold reachR
  obtain ⟨L, hL⟩ : ∃ L, L = edgesL := ⟨_, rfl⟩
  have hV : edV = .vs 6 L.length (L.flatMap edC) := by rw [hL]; rfl
  have hLl : L.length = 13 := by rw [hL]; rfl
  have hf54 := f54
  rw [hV] at hf54
  conv => whnf
  repeat (first | refine go ?_ | ((first | refine AW.plan (id := 17) hm (.one 0 (.one 1 (.one 2 (.one 3 (.one 5 (.one 6 (.one 7 (.one 8 (.one 4 (.one 9 (.one 10 (.one 11 (.one 12 (.one 13 (.one 14 (.one 15 (.one 17 (.one 18 (.one 19 (.one 20 (.one 16 (.one 21 (.one 22 (.one 23 (.one 24 (.one 25 (.one 26 (.one 27 (.one 28 (.one 29 (.one 30 (.one 31 .nil)))))))))))))))))))))))))))))))) (by kernel_rfl) ?_ | refine AW.plan (id := 18) hm (.one 0 (.one 1 (.one 2 (.one 3 (.one 4 (.one 6 (.one 7 (.one 8 (.one 9 (.one 5 (.one 10 (.one 11 (.one 12 (.one 13 (.one 14 .nil))))))))))))))) (by kernel_rfl) ?_); conv => whnf))
  refine ACall.val (args := [nV a.1, nV a.2]) (by kernel_rfl) (f53 a.1 a.2) rfl rfl ?_
  cases ha : nodeR a.1 a.2 with
  | false =>
    conv => whnf
    repeat (first | refine ru ?_ | ((first | refine AW.plan (id := 17) hm (.one 0 (.one 1 (.one 2 (.one 3 (.one 5 (.one 6 (.one 7 (.one 8 (.one 4 (.one 9 (.one 10 (.one 11 (.one 12 (.one 13 (.one 14 (.one 15 (.one 17 (.one 18 (.one 19 (.one 20 (.one 16 (.one 21 (.one 22 (.one 23 (.one 24 (.one 25 (.one 26 (.one 27 (.one 28 (.one 29 (.one 30 (.one 31 .nil)))))))))))))))))))))))))))))))) (by kernel_rfl) ?_ | refine AW.plan (id := 18) hm (.one 0 (.one 1 (.one 2 (.one 3 (.one 4 (.one 6 (.one 7 (.one 8 (.one 9 (.one 5 (.one 10 (.one 11 (.one 12 (.one 13 (.one 14 .nil))))))))))))))) (by kernel_rfl) ?_); conv => whnf))
    exact AFin.val rfl ⟨rfl, rfl⟩
  | true =>
  conv => whnf
  repeat (first | refine ru ?_ | ((first | refine AW.plan (id := 17) hm (.one 0 (.one 1 (.one 2 (.one 3 (.one 5 (.one 6 (.one 7 (.one 8 (.one 4 (.one 9 (.one 10 (.one 11 (.one 12 (.one 13 (.one 14 (.one 15 (.one 17 (.one 18 (.one 19 (.one 20 (.one 16 (.one 21 (.one 22 (.one 23 (.one 24 (.one 25 (.one 26 (.one 27 (.one 28 (.one 29 (.one 30 (.one 31 .nil)))))))))))))))))))))))))))))))) (by kernel_rfl) ?_ | refine AW.plan (id := 18) hm (.one 0 (.one 1 (.one 2 (.one 3 (.one 4 (.one 6 (.one 7 (.one 8 (.one 9 (.one 5 (.one 10 (.one 11 (.one 12 (.one 13 (.one 14 .nil))))))))))))))) (by kernel_rfl) ?_); conv => whnf))
  refine ACall.val (args := [nV b.1, nV b.2]) (by kernel_rfl) (f53 b.1 b.2) rfl rfl ?_
  cases hb : nodeR b.1 b.2 with
  | false =>
    conv => whnf
    repeat (first | refine ru ?_ | ((first | refine AW.plan (id := 17) hm (.one 0 (.one 1 (.one 2 (.one 3 (.one 5 (.one 6 (.one 7 (.one 8 (.one 4 (.one 9 (.one 10 (.one 11 (.one 12 (.one 13 (.one 14 (.one 15 (.one 17 (.one 18 (.one 19 (.one 20 (.one 16 (.one 21 (.one 22 (.one 23 (.one 24 (.one 25 (.one 26 (.one 27 (.one 28 (.one 29 (.one 30 (.one 31 .nil)))))))))))))))))))))))))))))))) (by kernel_rfl) ?_ | refine AW.plan (id := 18) hm (.one 0 (.one 1 (.one 2 (.one 3 (.one 4 (.one 6 (.one 7 (.one 8 (.one 9 (.one 5 (.one 10 (.one 11 (.one 12 (.one 13 (.one 14 .nil))))))))))))))) (by kernel_rfl) ?_); conv => whnf))
    exact AFin.val rfl ⟨rfl, rfl⟩
  | true =>
  conv => whnf
  repeat (first | refine ru ?_ | ((first | refine AW.plan (id := 17) hm (.one 0 (.one 1 (.one 2 (.one 3 (.one 5 (.one 6 (.one 7 (.one 8 (.one 4 (.one 9 (.one 10 (.one 11 (.one 12 (.one 13 (.one 14 (.one 15 (.one 17 (.one 18 (.one 19 (.one 20 (.one 16 (.one 21 (.one 22 (.one 23 (.one 24 (.one 25 (.one 26 (.one 27 (.one 28 (.one 29 (.one 30 (.one 31 .nil)))))))))))))))))))))))))))))))) (by kernel_rfl) ?_ | refine AW.plan (id := 18) hm (.one 0 (.one 1 (.one 2 (.one 3 (.one 4 (.one 6 (.one 7 (.one 8 (.one 9 (.one 5 (.one 10 (.one 11 (.one 12 (.one 13 (.one 14 .nil))))))))))))))) (by kernel_rfl) ?_); conv => whnf))
  refine ACall.val (args := []) (by kernel_rfl) hf54 rfl (by rw [← hV]; exact edV_ren _) ?_
  conv => whnf
  repeat (first | refine ru ?_ | ((first | refine AW.plan (id := 17) hm (.one 0 (.one 1 (.one 2 (.one 3 (.one 5 (.one 6 (.one 7 (.one 8 (.one 4 (.one 9 (.one 10 (.one 11 (.one 12 (.one 13 (.one 14 (.one 15 (.one 17 (.one 18 (.one 19 (.one 20 (.one 16 (.one 21 (.one 22 (.one 23 (.one 24 (.one 25 (.one 26 (.one 27 (.one 28 (.one 29 (.one 30 (.one 31 .nil)))))))))))))))))))))))))))))))) (by kernel_rfl) ?_ | refine AW.plan (id := 18) hm (.one 0 (.one 1 (.one 2 (.one 3 (.one 4 (.one 6 (.one 7 (.one 8 (.one 9 (.one 5 (.one 10 (.one 11 (.one 12 (.one 13 (.one 14 .nil))))))))))))))) (by kernel_rfl) ?_); conv => whnf))
  rw [Bool.and_self, Bool.true_and]
  generalize hRR : refR b 8 [a] = R
  have hb113 : (T 113).bytes = 16 := by kernel_rfl
  refine ALoop.mk (fun n E H => ∃ (A : List Nd) (i : Nat), n = 8 - i ∧ i ≤ 8 ∧ refR b n A = R ∧ A.length ≤ 13 ^ i ∧
      E = pad [nV a.1, nV a.2, nV b.1, nV b.2, .any, .any, .any, .any, bV false, .vs 6 L.length (L.flatMap edC), ndsV A, nV i] 120 ∧ H = []) (n := 8) _ _
    ⟨[a], 0, rfl, by decide, hRR, by simp, rfl, rfl⟩ (Conv.trans (Conv.fit (xs' := pad [nV a.1, nV a.2, nV b.1, nV b.2, .any, .any, .any, .any, bV false, .vs 6 L.length (L.flatMap edC), .vx 2 1 (ndC a), nV 0] 120) (by repeat' (first | exact Fit.nil | refine Fit.any ?_ | refine Fit.same ?_))) (Conv.see (.cons (.it _) (.cons (.it _) (.cons (.it _) (.cons (.it _) (.cons (.it _) (.cons (.it _) (.cons (.it _) (.cons (.it _) (.cons (.it _) (.cons (.it _) (.cons (.vx rfl) (LendL.it _)))))))))))))) ?_
  clear hRR
  rintro n _ _ ⟨A, i, rfl, hi, hR, hAl, rfl, rfl⟩
  have hpow : 13 ^ i ≤ 13 ^ 8 := Nat.pow_le_pow_right (by decide) hi
  rw [show 13 ^ 8 = 815730721 by decide] at hpow
  have hps : 13 ^ (i + 1) = 13 * 13 ^ i := by rw [Nat.pow_succ, Nat.mul_comm]
  generalize 13 ^ i = q at hAl hpow hps
  conv => whnf
  repeat (first | refine go ?_ | ((first | refine AW.plan (id := 17) hm (.one 0 (.one 1 (.one 2 (.one 3 (.one 5 (.one 6 (.one 7 (.one 8 (.one 4 (.one 9 (.one 10 (.one 11 (.one 12 (.one 13 (.one 14 (.one 15 (.one 17 (.one 18 (.one 19 (.one 20 (.one 16 (.one 21 (.one 22 (.one 23 (.one 24 (.one 25 (.one 26 (.one 27 (.one 28 (.one 29 (.one 30 (.one 31 .nil)))))))))))))))))))))))))))))))) (by kernel_rfl) ?_ | refine AW.plan (id := 18) hm (.one 0 (.one 1 (.one 2 (.one 3 (.one 4 (.one 6 (.one 7 (.one 8 (.one 9 (.one 5 (.one 10 (.one 11 (.one 12 (.one 13 (.one 14 .nil))))))))))))))) (by kernel_rfl) ?_); conv => whnf))
  refine ACond.dec (fun h1 => ?_) (fun h1 => ?_)
  · obtain ⟨m, hm8⟩ : ∃ m, 8 - i = m + 1 := ⟨7 - i, by omega⟩
    rw [hm8, refR] at hR
    have w1 : IntKind.wrap .i64 ((i : Int) + 1) = ((i + 1 : Nat) : Int) := by rw [wrap_i64 _ (by omega) (by omega)]; omega
    conv => whnf
    repeat (first | refine go ?_ | ((first | refine AW.plan (id := 17) hm (.one 0 (.one 1 (.one 2 (.one 3 (.one 5 (.one 6 (.one 7 (.one 8 (.one 4 (.one 9 (.one 10 (.one 11 (.one 12 (.one 13 (.one 14 (.one 15 (.one 17 (.one 18 (.one 19 (.one 20 (.one 16 (.one 21 (.one 22 (.one 23 (.one 24 (.one 25 (.one 26 (.one 27 (.one 28 (.one 29 (.one 30 (.one 31 .nil)))))))))))))))))))))))))))))))) (by kernel_rfl) ?_ | refine AW.plan (id := 18) hm (.one 0 (.one 1 (.one 2 (.one 3 (.one 4 (.one 6 (.one 7 (.one 8 (.one 9 (.one 5 (.one 10 (.one 11 (.one 12 (.one 13 (.one 14 .nil))))))))))))))) (by kernel_rfl) ?_); conv => whnf))
    refine ALoop.mk (fun n E H => ∃ (j : Nat) (O : List Nd), n = A.length - j ∧ j ≤ A.length ∧ stepR b (A.drop j) O = stepR b A [] ∧ O.length ≤ 13 * j ∧
        E = pad [nV a.1, nV a.2, nV b.1, nV b.2, .any, .any, .any, .any, bV false, .vs 6 L.length (L.flatMap edC), ndsV A, nV i, .ms 2 0 0 O.length, nV j] 120 ∧ H = [.cells 113 (O.flatMap ndC)]) (n := A.length) _ _
      ⟨0, [], rfl, Nat.zero_le _, rfl, by simp, rfl, rfl⟩ (Conv.own (sz := 2) 113 (by repeat' (first | exact FitN.nil | refine FitN.any ?_ | refine FitN.own ?_ | refine FitN.same ?_))) ?_
    rintro _ _ _ ⟨j, O, rfl, hj, hO, hOl, rfl, rfl⟩
    conv => whnf
    repeat (first | refine go ?_ | ((first | refine AW.plan (id := 17) hm (.one 0 (.one 1 (.one 2 (.one 3 (.one 5 (.one 6 (.one 7 (.one 8 (.one 4 (.one 9 (.one 10 (.one 11 (.one 12 (.one 13 (.one 14 (.one 15 (.one 17 (.one 18 (.one 19 (.one 20 (.one 16 (.one 21 (.one 22 (.one 23 (.one 24 (.one 25 (.one 26 (.one 27 (.one 28 (.one 29 (.one 30 (.one 31 .nil)))))))))))))))))))))))))))))))) (by kernel_rfl) ?_ | refine AW.plan (id := 18) hm (.one 0 (.one 1 (.one 2 (.one 3 (.one 4 (.one 6 (.one 7 (.one 8 (.one 9 (.one 5 (.one 10 (.one 11 (.one 12 (.one 13 (.one 14 .nil))))))))))))))) (by kernel_rfl) ?_); conv => whnf))
    refine ACond.dec (fun h2 => ?_) (fun h2 => ?_)
    · have hjl : j < A.length := by omega
      have w2 : IntKind.wrap .i64 ((j : Int) + 1) = ((j + 1 : Nat) : Int) := by rw [wrap_i64 _ (by omega) (by omega)]; omega
      have hndj : A[j]? = some A[j] := List.getElem?_eq_getElem hjl
      rw [List.drop_eq_getElem_cons hjl, stepR, ← hL] at hO
      generalize A[j] = x at hndj hO
      conv => whnf
      repeat (first | refine go ?_ | ((first | refine AW.plan (id := 17) hm (.one 0 (.one 1 (.one 2 (.one 3 (.one 5 (.one 6 (.one 7 (.one 8 (.one 4 (.one 9 (.one 10 (.one 11 (.one 12 (.one 13 (.one 14 (.one 15 (.one 17 (.one 18 (.one 19 (.one 20 (.one 16 (.one 21 (.one 22 (.one 23 (.one 24 (.one 25 (.one 26 (.one 27 (.one 28 (.one 29 (.one 30 (.one 31 .nil)))))))))))))))))))))))))))))))) (by kernel_rfl) ?_ | refine AW.plan (id := 18) hm (.one 0 (.one 1 (.one 2 (.one 3 (.one 4 (.one 6 (.one 7 (.one 8 (.one 9 (.one 5 (.one 10 (.one 11 (.one 12 (.one 13 (.one 14 .nil))))))))))))))) (by kernel_rfl) ?_ | refine AReq.mk (by omega) ?_ | refine AReq.mk (by decide) ?_ | refine flatE (enc := ndC) ndC_len hndj ?_ | refine AIdx.sp rfl ?_); conv => whnf))
      refine ASplit.dec (fun h3 => ?_) (fun h3 => ?_)
      · conv => whnf
        repeat (first | refine ru ?_ | ((first | refine AW.plan (id := 17) hm (.one 0 (.one 1 (.one 2 (.one 3 (.one 5 (.one 6 (.one 7 (.one 8 (.one 4 (.one 9 (.one 10 (.one 11 (.one 12 (.one 13 (.one 14 (.one 15 (.one 17 (.one 18 (.one 19 (.one 20 (.one 16 (.one 21 (.one 22 (.one 23 (.one 24 (.one 25 (.one 26 (.one 27 (.one 28 (.one 29 (.one 30 (.one 31 .nil)))))))))))))))))))))))))))))))) (by kernel_rfl) ?_ | refine AW.plan (id := 18) hm (.one 0 (.one 1 (.one 2 (.one 3 (.one 4 (.one 6 (.one 7 (.one 8 (.one 9 (.one 5 (.one 10 (.one 11 (.one 12 (.one 13 (.one 14 .nil))))))))))))))) (by kernel_rfl) ?_ | refine AReq.mk (by omega) ?_ | refine AReq.mk (by decide) ?_ | refine flatE (enc := ndC) ndC_len hndj ?_ | refine AIdx.sp rfl ?_); conv => whnf))
        refine ACond.dec (fun h3' => ?_) (fun h3' => ?_)
        · rw [if_pos ⟨h3, h3'⟩] at hO
          rw [← hO] at hR
          have hR : true = R := hR
          conv => whnf
          repeat (first | refine ru ?_ | ((first | refine AW.plan (id := 17) hm (.one 0 (.one 1 (.one 2 (.one 3 (.one 5 (.one 6 (.one 7 (.one 8 (.one 4 (.one 9 (.one 10 (.one 11 (.one 12 (.one 13 (.one 14 (.one 15 (.one 17 (.one 18 (.one 19 (.one 20 (.one 16 (.one 21 (.one 22 (.one 23 (.one 24 (.one 25 (.one 26 (.one 27 (.one 28 (.one 29 (.one 30 (.one 31 .nil)))))))))))))))))))))))))))))))) (by kernel_rfl) ?_ | refine AW.plan (id := 18) hm (.one 0 (.one 1 (.one 2 (.one 3 (.one 4 (.one 6 (.one 7 (.one 8 (.one 9 (.one 5 (.one 10 (.one 11 (.one 12 (.one 13 (.one 14 .nil))))))))))))))) (by kernel_rfl) ?_ | refine AReq.mk (by omega) ?_ | refine AReq.mk (by decide) ?_ | refine flatE (enc := ndC) ndC_len hndj ?_ | refine AIdx.sp rfl ?_); conv => whnf))
          refine AOut.stay ?_
          conv => whnf
          repeat (first | refine ru ?_ | ((first | refine AW.plan (id := 17) hm (.one 0 (.one 1 (.one 2 (.one 3 (.one 5 (.one 6 (.one 7 (.one 8 (.one 4 (.one 9 (.one 10 (.one 11 (.one 12 (.one 13 (.one 14 (.one 15 (.one 17 (.one 18 (.one 19 (.one 20 (.one 16 (.one 21 (.one 22 (.one 23 (.one 24 (.one 25 (.one 26 (.one 27 (.one 28 (.one 29 (.one 30 (.one 31 .nil)))))))))))))))))))))))))))))))) (by kernel_rfl) ?_ | refine AW.plan (id := 18) hm (.one 0 (.one 1 (.one 2 (.one 3 (.one 4 (.one 6 (.one 7 (.one 8 (.one 9 (.one 5 (.one 10 (.one 11 (.one 12 (.one 13 (.one 14 .nil))))))))))))))) (by kernel_rfl) ?_ | refine AReq.mk (by omega) ?_ | refine AReq.mk (by decide) ?_ | refine flatE (enc := ndC) ndC_len hndj ?_ | refine AIdx.sp rfl ?_); conv => whnf))
          refine AOut.stay ?_
          conv => whnf
          repeat (first | refine ru ?_ | ((first | refine AW.plan (id := 17) hm (.one 0 (.one 1 (.one 2 (.one 3 (.one 5 (.one 6 (.one 7 (.one 8 (.one 4 (.one 9 (.one 10 (.one 11 (.one 12 (.one 13 (.one 14 (.one 15 (.one 17 (.one 18 (.one 19 (.one 20 (.one 16 (.one 21 (.one 22 (.one 23 (.one 24 (.one 25 (.one 26 (.one 27 (.one 28 (.one 29 (.one 30 (.one 31 .nil)))))))))))))))))))))))))))))))) (by kernel_rfl) ?_ | refine AW.plan (id := 18) hm (.one 0 (.one 1 (.one 2 (.one 3 (.one 4 (.one 6 (.one 7 (.one 8 (.one 9 (.one 5 (.one 10 (.one 11 (.one 12 (.one 13 (.one 14 .nil))))))))))))))) (by kernel_rfl) ?_ | refine AReq.mk (by omega) ?_ | refine AReq.mk (by decide) ?_ | refine flatE (enc := ndC) ndC_len hndj ?_ | refine AIdx.sp rfl ?_); conv => whnf))
          exact AFin.val rfl ⟨by rw [← hR]; rfl, rfl⟩
        rw [if_neg (fun h => h3' h.2)] at hO
        conv => whnf
        repeat (first | refine ru ?_ | ((first | refine AW.plan (id := 17) hm (.one 0 (.one 1 (.one 2 (.one 3 (.one 5 (.one 6 (.one 7 (.one 8 (.one 4 (.one 9 (.one 10 (.one 11 (.one 12 (.one 13 (.one 14 (.one 15 (.one 17 (.one 18 (.one 19 (.one 20 (.one 16 (.one 21 (.one 22 (.one 23 (.one 24 (.one 25 (.one 26 (.one 27 (.one 28 (.one 29 (.one 30 (.one 31 .nil)))))))))))))))))))))))))))))))) (by kernel_rfl) ?_ | refine AW.plan (id := 18) hm (.one 0 (.one 1 (.one 2 (.one 3 (.one 4 (.one 6 (.one 7 (.one 8 (.one 9 (.one 5 (.one 10 (.one 11 (.one 12 (.one 13 (.one 14 .nil))))))))))))))) (by kernel_rfl) ?_ | refine AReq.mk (by omega) ?_ | refine AReq.mk (by decide) ?_ | refine flatE (enc := ndC) ndC_len hndj ?_ | refine AIdx.sp rfl ?_); conv => whnf))
        refine ALoop.mk (fun n E H => ∃ (k : Nat) (O2 : List Nd), n = L.length - k ∧ k ≤ L.length ∧ stepE x (L.drop k) O2 = stepE x L O ∧ O2.length ≤ O.length + k ∧
            E = pad [nV a.1, nV a.2, nV b.1, nV b.2, .any, .any, .any, .any, bV false, .vs 6 L.length (L.flatMap edC), ndsV A, nV i, .ms 2 0 0 O2.length, nV j, nV k] 120 ∧ H = [.cells 113 (O2.flatMap ndC)]) (n := L.length) _ _
          ⟨0, O, rfl, Nat.zero_le _, rfl, by omega, rfl, rfl⟩ (Conv.fit (by repeat' (first | exact Fit.nil | refine Fit.any ?_ | refine Fit.same ?_))) ?_
        rintro _ _ _ ⟨k, O2, rfl, hk, hE, hO2, rfl, rfl⟩
        have fl2 := flat_len ndC_len O2
        conv => whnf
        repeat (first | refine go ?_ | ((first | refine AW.plan (id := 17) hm (.one 0 (.one 1 (.one 2 (.one 3 (.one 5 (.one 6 (.one 7 (.one 8 (.one 4 (.one 9 (.one 10 (.one 11 (.one 12 (.one 13 (.one 14 (.one 15 (.one 17 (.one 18 (.one 19 (.one 20 (.one 16 (.one 21 (.one 22 (.one 23 (.one 24 (.one 25 (.one 26 (.one 27 (.one 28 (.one 29 (.one 30 (.one 31 .nil)))))))))))))))))))))))))))))))) (by kernel_rfl) ?_ | refine AW.plan (id := 18) hm (.one 0 (.one 1 (.one 2 (.one 3 (.one 4 (.one 6 (.one 7 (.one 8 (.one 9 (.one 5 (.one 10 (.one 11 (.one 12 (.one 13 (.one 14 .nil))))))))))))))) (by kernel_rfl) ?_ | refine AReq.mk (by omega) ?_ | refine AReq.mk (by decide) ?_ | refine flatE (enc := ndC) ndC_len hndj ?_ | refine AIdx.sp rfl ?_); conv => whnf))
        refine ACond.dec (fun h4 => ?_) (fun h4 => ?_)
        · have hkl : k < L.length := by omega
          have w3 : IntKind.wrap .i64 ((k : Int) + 1) = ((k + 1 : Nat) : Int) := by rw [wrap_i64 _ (by omega) (by omega)]; omega
          have hed : L[k]? = some L[k] := List.getElem?_eq_getElem hkl
          rw [List.drop_eq_getElem_cons hkl, stepE] at hE
          generalize L[k] = e at hed hE
          conv => whnf
          repeat (first | refine go ?_ | ((first | refine AW.plan (id := 17) hm (.one 0 (.one 1 (.one 2 (.one 3 (.one 5 (.one 6 (.one 7 (.one 8 (.one 4 (.one 9 (.one 10 (.one 11 (.one 12 (.one 13 (.one 14 (.one 15 (.one 17 (.one 18 (.one 19 (.one 20 (.one 16 (.one 21 (.one 22 (.one 23 (.one 24 (.one 25 (.one 26 (.one 27 (.one 28 (.one 29 (.one 30 (.one 31 .nil)))))))))))))))))))))))))))))))) (by kernel_rfl) ?_ | refine AW.plan (id := 18) hm (.one 0 (.one 1 (.one 2 (.one 3 (.one 4 (.one 6 (.one 7 (.one 8 (.one 9 (.one 5 (.one 10 (.one 11 (.one 12 (.one 13 (.one 14 .nil))))))))))))))) (by kernel_rfl) ?_ | refine AReq.mk (by omega) ?_ | refine AReq.mk (by decide) ?_ | refine flatE (enc := ndC) ndC_len hndj ?_ | refine AIdx.sp rfl ?_ | refine flatE (enc := edC) edC_len hed ?_); conv => whnf))
          refine ASplit.dec (fun h5 => ?_) (fun h5 => ?_)
          · conv => whnf
            repeat (first | refine ru ?_ | ((first | refine AW.plan (id := 17) hm (.one 0 (.one 1 (.one 2 (.one 3 (.one 5 (.one 6 (.one 7 (.one 8 (.one 4 (.one 9 (.one 10 (.one 11 (.one 12 (.one 13 (.one 14 (.one 15 (.one 17 (.one 18 (.one 19 (.one 20 (.one 16 (.one 21 (.one 22 (.one 23 (.one 24 (.one 25 (.one 26 (.one 27 (.one 28 (.one 29 (.one 30 (.one 31 .nil)))))))))))))))))))))))))))))))) (by kernel_rfl) ?_ | refine AW.plan (id := 18) hm (.one 0 (.one 1 (.one 2 (.one 3 (.one 4 (.one 6 (.one 7 (.one 8 (.one 9 (.one 5 (.one 10 (.one 11 (.one 12 (.one 13 (.one 14 .nil))))))))))))))) (by kernel_rfl) ?_ | refine AReq.mk (by omega) ?_ | refine AReq.mk (by decide) ?_ | refine flatE (enc := ndC) ndC_len hndj ?_ | refine AIdx.sp rfl ?_ | refine flatE (enc := edC) edC_len hed ?_); conv => whnf))
            refine ASplit.dec (fun h6 => ?_) (fun h6 => ?_)
            · conv => whnf
              repeat (first | refine ru ?_ | ((first | refine AW.plan (id := 17) hm (.one 0 (.one 1 (.one 2 (.one 3 (.one 5 (.one 6 (.one 7 (.one 8 (.one 4 (.one 9 (.one 10 (.one 11 (.one 12 (.one 13 (.one 14 (.one 15 (.one 17 (.one 18 (.one 19 (.one 20 (.one 16 (.one 21 (.one 22 (.one 23 (.one 24 (.one 25 (.one 26 (.one 27 (.one 28 (.one 29 (.one 30 (.one 31 .nil)))))))))))))))))))))))))))))))) (by kernel_rfl) ?_ | refine AW.plan (id := 18) hm (.one 0 (.one 1 (.one 2 (.one 3 (.one 4 (.one 6 (.one 7 (.one 8 (.one 9 (.one 5 (.one 10 (.one 11 (.one 12 (.one 13 (.one 14 .nil))))))))))))))) (by kernel_rfl) ?_ | refine AReq.mk (by omega) ?_ | refine AReq.mk (by decide) ?_ | refine flatE (enc := ndC) ndC_len hndj ?_ | refine AIdx.sp rfl ?_ | refine flatE (enc := edC) edC_len hed ?_); conv => whnf))
              refine ACond.ndec (fun h7 => ?_) (fun h7 => ?_)
              · rw [if_pos ⟨h5, h6, h7⟩] at hE
                conv => whnf
                repeat (first | refine ru ?_ | ((first | refine AW.plan (id := 17) hm (.one 0 (.one 1 (.one 2 (.one 3 (.one 5 (.one 6 (.one 7 (.one 8 (.one 4 (.one 9 (.one 10 (.one 11 (.one 12 (.one 13 (.one 14 (.one 15 (.one 17 (.one 18 (.one 19 (.one 20 (.one 16 (.one 21 (.one 22 (.one 23 (.one 24 (.one 25 (.one 26 (.one 27 (.one 28 (.one 29 (.one 30 (.one 31 .nil)))))))))))))))))))))))))))))))) (by kernel_rfl) ?_ | refine AW.plan (id := 18) hm (.one 0 (.one 1 (.one 2 (.one 3 (.one 4 (.one 6 (.one 7 (.one 8 (.one 9 (.one 5 (.one 10 (.one 11 (.one 12 (.one 13 (.one 14 .nil))))))))))))))) (by kernel_rfl) ?_ | refine AReq.mk (by omega) ?_ | refine AReq.mk (by decide) ?_ | refine flatE (enc := ndC) ndC_len hndj ?_ | refine AIdx.sp rfl ?_ | refine flatE (enc := edC) edC_len hed ?_ | refine AReq.mk (by rw [hb113]; omega) ?_); conv => whnf))
                rw [w3]
                refine AHead.mk (L.length - (k + 1)) _ _ (by omega) ⟨k + 1, O2 ++ [(e.2.2.2.2.1, e.2.2.2.2.2)], rfl, by omega, hE, by simp; omega, rfl, rfl⟩ ?_
                rw [List.length_append, List.flatMap_append]
                exact Conv.ren [1] _ (by simp) (by decide) (by simp only [pad, renL, AV.ren, rens, ndsV_ren, fr_ed]; repeat' (first | exact Fit.nil | refine Fit.any ?_ | refine Fit.same ?_)) (.same (by simp only [ABlk.ren, renL_append, fr_nd]; rfl) .nil)
              · rw [if_neg (fun h => h.2.2 h7)] at hE
                conv => whnf
                repeat (first | refine ru ?_ | ((first | refine AW.plan (id := 17) hm (.one 0 (.one 1 (.one 2 (.one 3 (.one 5 (.one 6 (.one 7 (.one 8 (.one 4 (.one 9 (.one 10 (.one 11 (.one 12 (.one 13 (.one 14 (.one 15 (.one 17 (.one 18 (.one 19 (.one 20 (.one 16 (.one 21 (.one 22 (.one 23 (.one 24 (.one 25 (.one 26 (.one 27 (.one 28 (.one 29 (.one 30 (.one 31 .nil)))))))))))))))))))))))))))))))) (by kernel_rfl) ?_ | refine AW.plan (id := 18) hm (.one 0 (.one 1 (.one 2 (.one 3 (.one 4 (.one 6 (.one 7 (.one 8 (.one 9 (.one 5 (.one 10 (.one 11 (.one 12 (.one 13 (.one 14 .nil))))))))))))))) (by kernel_rfl) ?_ | refine AReq.mk (by omega) ?_ | refine AReq.mk (by decide) ?_ | refine flatE (enc := ndC) ndC_len hndj ?_ | refine AIdx.sp rfl ?_ | refine flatE (enc := edC) edC_len hed ?_ | refine AReq.mk (by rw [hb113]; omega) ?_); conv => whnf))
                rw [w3]
                exact AHead.mk (L.length - (k + 1)) _ _ (by omega) ⟨k + 1, O2, rfl, by omega, hE, by omega, rfl, rfl⟩ (Conv.fit (by repeat' (first | exact Fit.nil | refine Fit.any ?_ | refine Fit.same ?_)))
            · rw [if_neg (fun h => h6 h.2.1)] at hE
              conv => whnf
              repeat (first | refine ru ?_ | ((first | refine AW.plan (id := 17) hm (.one 0 (.one 1 (.one 2 (.one 3 (.one 5 (.one 6 (.one 7 (.one 8 (.one 4 (.one 9 (.one 10 (.one 11 (.one 12 (.one 13 (.one 14 (.one 15 (.one 17 (.one 18 (.one 19 (.one 20 (.one 16 (.one 21 (.one 22 (.one 23 (.one 24 (.one 25 (.one 26 (.one 27 (.one 28 (.one 29 (.one 30 (.one 31 .nil)))))))))))))))))))))))))))))))) (by kernel_rfl) ?_ | refine AW.plan (id := 18) hm (.one 0 (.one 1 (.one 2 (.one 3 (.one 4 (.one 6 (.one 7 (.one 8 (.one 9 (.one 5 (.one 10 (.one 11 (.one 12 (.one 13 (.one 14 .nil))))))))))))))) (by kernel_rfl) ?_ | refine AReq.mk (by omega) ?_ | refine AReq.mk (by decide) ?_ | refine flatE (enc := ndC) ndC_len hndj ?_ | refine AIdx.sp rfl ?_ | refine flatE (enc := edC) edC_len hed ?_ | refine AReq.mk (by rw [hb113]; omega) ?_); conv => whnf))
              rw [w3]
              exact AHead.mk (L.length - (k + 1)) _ _ (by omega) ⟨k + 1, O2, rfl, by omega, hE, by omega, rfl, rfl⟩ (Conv.fit (by repeat' (first | exact Fit.nil | refine Fit.any ?_ | refine Fit.same ?_)))
          · rw [if_neg (fun h => h5 h.1)] at hE
            conv => whnf
            repeat (first | refine ru ?_ | ((first | refine AW.plan (id := 17) hm (.one 0 (.one 1 (.one 2 (.one 3 (.one 5 (.one 6 (.one 7 (.one 8 (.one 4 (.one 9 (.one 10 (.one 11 (.one 12 (.one 13 (.one 14 (.one 15 (.one 17 (.one 18 (.one 19 (.one 20 (.one 16 (.one 21 (.one 22 (.one 23 (.one 24 (.one 25 (.one 26 (.one 27 (.one 28 (.one 29 (.one 30 (.one 31 .nil)))))))))))))))))))))))))))))))) (by kernel_rfl) ?_ | refine AW.plan (id := 18) hm (.one 0 (.one 1 (.one 2 (.one 3 (.one 4 (.one 6 (.one 7 (.one 8 (.one 9 (.one 5 (.one 10 (.one 11 (.one 12 (.one 13 (.one 14 .nil))))))))))))))) (by kernel_rfl) ?_ | refine AReq.mk (by omega) ?_ | refine AReq.mk (by decide) ?_ | refine flatE (enc := ndC) ndC_len hndj ?_ | refine AIdx.sp rfl ?_ | refine flatE (enc := edC) edC_len hed ?_ | refine AReq.mk (by rw [hb113]; omega) ?_); conv => whnf))
            rw [w3]
            exact AHead.mk (L.length - (k + 1)) _ _ (by omega) ⟨k + 1, O2, rfl, by omega, hE, by omega, rfl, rfl⟩ (Conv.fit (by repeat' (first | exact Fit.nil | refine Fit.any ?_ | refine Fit.same ?_)))
        · rw [List.drop_of_length_le (by omega), stepE] at hE
          rw [← hE] at hO
          conv => whnf
          repeat (first | refine go ?_ | ((first | refine AW.plan (id := 17) hm (.one 0 (.one 1 (.one 2 (.one 3 (.one 5 (.one 6 (.one 7 (.one 8 (.one 4 (.one 9 (.one 10 (.one 11 (.one 12 (.one 13 (.one 14 (.one 15 (.one 17 (.one 18 (.one 19 (.one 20 (.one 16 (.one 21 (.one 22 (.one 23 (.one 24 (.one 25 (.one 26 (.one 27 (.one 28 (.one 29 (.one 30 (.one 31 .nil)))))))))))))))))))))))))))))))) (by kernel_rfl) ?_ | refine AW.plan (id := 18) hm (.one 0 (.one 1 (.one 2 (.one 3 (.one 4 (.one 6 (.one 7 (.one 8 (.one 9 (.one 5 (.one 10 (.one 11 (.one 12 (.one 13 (.one 14 .nil))))))))))))))) (by kernel_rfl) ?_ | refine AReq.mk (by omega) ?_ | refine AReq.mk (by decide) ?_ | refine flatE (enc := ndC) ndC_len hndj ?_ | refine AIdx.sp rfl ?_ | refine flatE (enc := edC) edC_len hed ?_ | refine AReq.mk (by rw [hb113]; omega) ?_); conv => whnf))
          refine AOut.stay ?_
          conv => whnf
          repeat (first | refine go ?_ | ((first | refine AW.plan (id := 17) hm (.one 0 (.one 1 (.one 2 (.one 3 (.one 5 (.one 6 (.one 7 (.one 8 (.one 4 (.one 9 (.one 10 (.one 11 (.one 12 (.one 13 (.one 14 (.one 15 (.one 17 (.one 18 (.one 19 (.one 20 (.one 16 (.one 21 (.one 22 (.one 23 (.one 24 (.one 25 (.one 26 (.one 27 (.one 28 (.one 29 (.one 30 (.one 31 .nil)))))))))))))))))))))))))))))))) (by kernel_rfl) ?_ | refine AW.plan (id := 18) hm (.one 0 (.one 1 (.one 2 (.one 3 (.one 4 (.one 6 (.one 7 (.one 8 (.one 9 (.one 5 (.one 10 (.one 11 (.one 12 (.one 13 (.one 14 .nil))))))))))))))) (by kernel_rfl) ?_ | refine AReq.mk (by omega) ?_ | refine AReq.mk (by decide) ?_ | refine flatE (enc := ndC) ndC_len hndj ?_ | refine AIdx.sp rfl ?_ | refine flatE (enc := edC) edC_len hed ?_ | refine AReq.mk (by rw [hb113]; omega) ?_); conv => whnf))
          rw [w2]
          exact AHead.mk (A.length - (j + 1)) _ _ (by omega) ⟨j + 1, O2, rfl, by omega, hO, by omega, rfl, rfl⟩ (Conv.fit (by repeat' (first | exact Fit.nil | refine Fit.any ?_ | refine Fit.same ?_)))
      · rw [if_neg (fun h => h3 h.1)] at hO
        conv => whnf
        repeat (first | refine ru ?_ | ((first | refine AW.plan (id := 17) hm (.one 0 (.one 1 (.one 2 (.one 3 (.one 5 (.one 6 (.one 7 (.one 8 (.one 4 (.one 9 (.one 10 (.one 11 (.one 12 (.one 13 (.one 14 (.one 15 (.one 17 (.one 18 (.one 19 (.one 20 (.one 16 (.one 21 (.one 22 (.one 23 (.one 24 (.one 25 (.one 26 (.one 27 (.one 28 (.one 29 (.one 30 (.one 31 .nil)))))))))))))))))))))))))))))))) (by kernel_rfl) ?_ | refine AW.plan (id := 18) hm (.one 0 (.one 1 (.one 2 (.one 3 (.one 4 (.one 6 (.one 7 (.one 8 (.one 9 (.one 5 (.one 10 (.one 11 (.one 12 (.one 13 (.one 14 .nil))))))))))))))) (by kernel_rfl) ?_ | refine AReq.mk (by omega) ?_ | refine AReq.mk (by decide) ?_ | refine flatE (enc := ndC) ndC_len hndj ?_ | refine AIdx.sp rfl ?_ | refine flatE (enc := edC) edC_len hed ?_ | refine AReq.mk (by rw [hb113]; omega) ?_); conv => whnf))
        refine ALoop.mk (fun n E H => ∃ (k : Nat) (O2 : List Nd), n = L.length - k ∧ k ≤ L.length ∧ stepE x (L.drop k) O2 = stepE x L O ∧ O2.length ≤ O.length + k ∧
            E = pad [nV a.1, nV a.2, nV b.1, nV b.2, .any, .any, .any, .any, bV false, .vs 6 L.length (L.flatMap edC), ndsV A, nV i, .ms 2 0 0 O2.length, nV j, nV k] 120 ∧ H = [.cells 113 (O2.flatMap ndC)]) (n := L.length) _ _
          ⟨0, O, rfl, Nat.zero_le _, rfl, by omega, rfl, rfl⟩ (Conv.fit (by repeat' (first | exact Fit.nil | refine Fit.any ?_ | refine Fit.same ?_))) ?_
        rintro _ _ _ ⟨k, O2, rfl, hk, hE, hO2, rfl, rfl⟩
        have fl2 := flat_len ndC_len O2
        conv => whnf
        repeat (first | refine go ?_ | ((first | refine AW.plan (id := 17) hm (.one 0 (.one 1 (.one 2 (.one 3 (.one 5 (.one 6 (.one 7 (.one 8 (.one 4 (.one 9 (.one 10 (.one 11 (.one 12 (.one 13 (.one 14 (.one 15 (.one 17 (.one 18 (.one 19 (.one 20 (.one 16 (.one 21 (.one 22 (.one 23 (.one 24 (.one 25 (.one 26 (.one 27 (.one 28 (.one 29 (.one 30 (.one 31 .nil)))))))))))))))))))))))))))))))) (by kernel_rfl) ?_ | refine AW.plan (id := 18) hm (.one 0 (.one 1 (.one 2 (.one 3 (.one 4 (.one 6 (.one 7 (.one 8 (.one 9 (.one 5 (.one 10 (.one 11 (.one 12 (.one 13 (.one 14 .nil))))))))))))))) (by kernel_rfl) ?_ | refine AReq.mk (by omega) ?_ | refine AReq.mk (by decide) ?_ | refine flatE (enc := ndC) ndC_len hndj ?_ | refine AIdx.sp rfl ?_ | refine flatE (enc := edC) edC_len hed ?_ | refine AReq.mk (by rw [hb113]; omega) ?_); conv => whnf))
        refine ACond.dec (fun h4 => ?_) (fun h4 => ?_)
        · have hkl : k < L.length := by omega
          have w3 : IntKind.wrap .i64 ((k : Int) + 1) = ((k + 1 : Nat) : Int) := by rw [wrap_i64 _ (by omega) (by omega)]; omega
          have hed : L[k]? = some L[k] := List.getElem?_eq_getElem hkl
          rw [List.drop_eq_getElem_cons hkl, stepE] at hE
          generalize L[k] = e at hed hE
          conv => whnf
          repeat (first | refine go ?_ | ((first | refine AW.plan (id := 17) hm (.one 0 (.one 1 (.one 2 (.one 3 (.one 5 (.one 6 (.one 7 (.one 8 (.one 4 (.one 9 (.one 10 (.one 11 (.one 12 (.one 13 (.one 14 (.one 15 (.one 17 (.one 18 (.one 19 (.one 20 (.one 16 (.one 21 (.one 22 (.one 23 (.one 24 (.one 25 (.one 26 (.one 27 (.one 28 (.one 29 (.one 30 (.one 31 .nil)))))))))))))))))))))))))))))))) (by kernel_rfl) ?_ | refine AW.plan (id := 18) hm (.one 0 (.one 1 (.one 2 (.one 3 (.one 4 (.one 6 (.one 7 (.one 8 (.one 9 (.one 5 (.one 10 (.one 11 (.one 12 (.one 13 (.one 14 .nil))))))))))))))) (by kernel_rfl) ?_ | refine AReq.mk (by omega) ?_ | refine AReq.mk (by decide) ?_ | refine flatE (enc := ndC) ndC_len hndj ?_ | refine AIdx.sp rfl ?_ | refine flatE (enc := edC) edC_len hed ?_ | refine AReq.mk (by rw [hb113]; omega) ?_ | refine flatE (enc := edC) edC_len hed ?_); conv => whnf))
          refine ASplit.dec (fun h5 => ?_) (fun h5 => ?_)
          · conv => whnf
            repeat (first | refine ru ?_ | ((first | refine AW.plan (id := 17) hm (.one 0 (.one 1 (.one 2 (.one 3 (.one 5 (.one 6 (.one 7 (.one 8 (.one 4 (.one 9 (.one 10 (.one 11 (.one 12 (.one 13 (.one 14 (.one 15 (.one 17 (.one 18 (.one 19 (.one 20 (.one 16 (.one 21 (.one 22 (.one 23 (.one 24 (.one 25 (.one 26 (.one 27 (.one 28 (.one 29 (.one 30 (.one 31 .nil)))))))))))))))))))))))))))))))) (by kernel_rfl) ?_ | refine AW.plan (id := 18) hm (.one 0 (.one 1 (.one 2 (.one 3 (.one 4 (.one 6 (.one 7 (.one 8 (.one 9 (.one 5 (.one 10 (.one 11 (.one 12 (.one 13 (.one 14 .nil))))))))))))))) (by kernel_rfl) ?_ | refine AReq.mk (by omega) ?_ | refine AReq.mk (by decide) ?_ | refine flatE (enc := ndC) ndC_len hndj ?_ | refine AIdx.sp rfl ?_ | refine flatE (enc := edC) edC_len hed ?_ | refine AReq.mk (by rw [hb113]; omega) ?_ | refine flatE (enc := edC) edC_len hed ?_); conv => whnf))
            refine ASplit.dec (fun h6 => ?_) (fun h6 => ?_)
            · conv => whnf
              repeat (first | refine ru ?_ | ((first | refine AW.plan (id := 17) hm (.one 0 (.one 1 (.one 2 (.one 3 (.one 5 (.one 6 (.one 7 (.one 8 (.one 4 (.one 9 (.one 10 (.one 11 (.one 12 (.one 13 (.one 14 (.one 15 (.one 17 (.one 18 (.one 19 (.one 20 (.one 16 (.one 21 (.one 22 (.one 23 (.one 24 (.one 25 (.one 26 (.one 27 (.one 28 (.one 29 (.one 30 (.one 31 .nil)))))))))))))))))))))))))))))))) (by kernel_rfl) ?_ | refine AW.plan (id := 18) hm (.one 0 (.one 1 (.one 2 (.one 3 (.one 4 (.one 6 (.one 7 (.one 8 (.one 9 (.one 5 (.one 10 (.one 11 (.one 12 (.one 13 (.one 14 .nil))))))))))))))) (by kernel_rfl) ?_ | refine AReq.mk (by omega) ?_ | refine AReq.mk (by decide) ?_ | refine flatE (enc := ndC) ndC_len hndj ?_ | refine AIdx.sp rfl ?_ | refine flatE (enc := edC) edC_len hed ?_ | refine AReq.mk (by rw [hb113]; omega) ?_ | refine flatE (enc := edC) edC_len hed ?_); conv => whnf))
              refine ACond.ndec (fun h7 => ?_) (fun h7 => ?_)
              · rw [if_pos ⟨h5, h6, h7⟩] at hE
                conv => whnf
                repeat (first | refine ru ?_ | ((first | refine AW.plan (id := 17) hm (.one 0 (.one 1 (.one 2 (.one 3 (.one 5 (.one 6 (.one 7 (.one 8 (.one 4 (.one 9 (.one 10 (.one 11 (.one 12 (.one 13 (.one 14 (.one 15 (.one 17 (.one 18 (.one 19 (.one 20 (.one 16 (.one 21 (.one 22 (.one 23 (.one 24 (.one 25 (.one 26 (.one 27 (.one 28 (.one 29 (.one 30 (.one 31 .nil)))))))))))))))))))))))))))))))) (by kernel_rfl) ?_ | refine AW.plan (id := 18) hm (.one 0 (.one 1 (.one 2 (.one 3 (.one 4 (.one 6 (.one 7 (.one 8 (.one 9 (.one 5 (.one 10 (.one 11 (.one 12 (.one 13 (.one 14 .nil))))))))))))))) (by kernel_rfl) ?_ | refine AReq.mk (by omega) ?_ | refine AReq.mk (by decide) ?_ | refine flatE (enc := ndC) ndC_len hndj ?_ | refine AIdx.sp rfl ?_ | refine flatE (enc := edC) edC_len hed ?_ | refine AReq.mk (by rw [hb113]; omega) ?_ | refine flatE (enc := edC) edC_len hed ?_ | refine AReq.mk (by rw [hb113]; omega) ?_); conv => whnf))
                rw [w3]
                refine AHead.mk (L.length - (k + 1)) _ _ (by omega) ⟨k + 1, O2 ++ [(e.2.2.2.2.1, e.2.2.2.2.2)], rfl, by omega, hE, by simp; omega, rfl, rfl⟩ ?_
                rw [List.length_append, List.flatMap_append]
                exact Conv.ren [1] _ (by simp) (by decide) (by simp only [pad, renL, AV.ren, rens, ndsV_ren, fr_ed]; repeat' (first | exact Fit.nil | refine Fit.any ?_ | refine Fit.same ?_)) (.same (by simp only [ABlk.ren, renL_append, fr_nd]; rfl) .nil)
              · rw [if_neg (fun h => h.2.2 h7)] at hE
                conv => whnf
                repeat (first | refine ru ?_ | ((first | refine AW.plan (id := 17) hm (.one 0 (.one 1 (.one 2 (.one 3 (.one 5 (.one 6 (.one 7 (.one 8 (.one 4 (.one 9 (.one 10 (.one 11 (.one 12 (.one 13 (.one 14 (.one 15 (.one 17 (.one 18 (.one 19 (.one 20 (.one 16 (.one 21 (.one 22 (.one 23 (.one 24 (.one 25 (.one 26 (.one 27 (.one 28 (.one 29 (.one 30 (.one 31 .nil)))))))))))))))))))))))))))))))) (by kernel_rfl) ?_ | refine AW.plan (id := 18) hm (.one 0 (.one 1 (.one 2 (.one 3 (.one 4 (.one 6 (.one 7 (.one 8 (.one 9 (.one 5 (.one 10 (.one 11 (.one 12 (.one 13 (.one 14 .nil))))))))))))))) (by kernel_rfl) ?_ | refine AReq.mk (by omega) ?_ | refine AReq.mk (by decide) ?_ | refine flatE (enc := ndC) ndC_len hndj ?_ | refine AIdx.sp rfl ?_ | refine flatE (enc := edC) edC_len hed ?_ | refine AReq.mk (by rw [hb113]; omega) ?_ | refine flatE (enc := edC) edC_len hed ?_ | refine AReq.mk (by rw [hb113]; omega) ?_); conv => whnf))
                rw [w3]
                exact AHead.mk (L.length - (k + 1)) _ _ (by omega) ⟨k + 1, O2, rfl, by omega, hE, by omega, rfl, rfl⟩ (Conv.fit (by repeat' (first | exact Fit.nil | refine Fit.any ?_ | refine Fit.same ?_)))
            · rw [if_neg (fun h => h6 h.2.1)] at hE
              conv => whnf
              repeat (first | refine ru ?_ | ((first | refine AW.plan (id := 17) hm (.one 0 (.one 1 (.one 2 (.one 3 (.one 5 (.one 6 (.one 7 (.one 8 (.one 4 (.one 9 (.one 10 (.one 11 (.one 12 (.one 13 (.one 14 (.one 15 (.one 17 (.one 18 (.one 19 (.one 20 (.one 16 (.one 21 (.one 22 (.one 23 (.one 24 (.one 25 (.one 26 (.one 27 (.one 28 (.one 29 (.one 30 (.one 31 .nil)))))))))))))))))))))))))))))))) (by kernel_rfl) ?_ | refine AW.plan (id := 18) hm (.one 0 (.one 1 (.one 2 (.one 3 (.one 4 (.one 6 (.one 7 (.one 8 (.one 9 (.one 5 (.one 10 (.one 11 (.one 12 (.one 13 (.one 14 .nil))))))))))))))) (by kernel_rfl) ?_ | refine AReq.mk (by omega) ?_ | refine AReq.mk (by decide) ?_ | refine flatE (enc := ndC) ndC_len hndj ?_ | refine AIdx.sp rfl ?_ | refine flatE (enc := edC) edC_len hed ?_ | refine AReq.mk (by rw [hb113]; omega) ?_ | refine flatE (enc := edC) edC_len hed ?_ | refine AReq.mk (by rw [hb113]; omega) ?_); conv => whnf))
              rw [w3]
              exact AHead.mk (L.length - (k + 1)) _ _ (by omega) ⟨k + 1, O2, rfl, by omega, hE, by omega, rfl, rfl⟩ (Conv.fit (by repeat' (first | exact Fit.nil | refine Fit.any ?_ | refine Fit.same ?_)))
          · rw [if_neg (fun h => h5 h.1)] at hE
            conv => whnf
            repeat (first | refine ru ?_ | ((first | refine AW.plan (id := 17) hm (.one 0 (.one 1 (.one 2 (.one 3 (.one 5 (.one 6 (.one 7 (.one 8 (.one 4 (.one 9 (.one 10 (.one 11 (.one 12 (.one 13 (.one 14 (.one 15 (.one 17 (.one 18 (.one 19 (.one 20 (.one 16 (.one 21 (.one 22 (.one 23 (.one 24 (.one 25 (.one 26 (.one 27 (.one 28 (.one 29 (.one 30 (.one 31 .nil)))))))))))))))))))))))))))))))) (by kernel_rfl) ?_ | refine AW.plan (id := 18) hm (.one 0 (.one 1 (.one 2 (.one 3 (.one 4 (.one 6 (.one 7 (.one 8 (.one 9 (.one 5 (.one 10 (.one 11 (.one 12 (.one 13 (.one 14 .nil))))))))))))))) (by kernel_rfl) ?_ | refine AReq.mk (by omega) ?_ | refine AReq.mk (by decide) ?_ | refine flatE (enc := ndC) ndC_len hndj ?_ | refine AIdx.sp rfl ?_ | refine flatE (enc := edC) edC_len hed ?_ | refine AReq.mk (by rw [hb113]; omega) ?_ | refine flatE (enc := edC) edC_len hed ?_ | refine AReq.mk (by rw [hb113]; omega) ?_); conv => whnf))
            rw [w3]
            exact AHead.mk (L.length - (k + 1)) _ _ (by omega) ⟨k + 1, O2, rfl, by omega, hE, by omega, rfl, rfl⟩ (Conv.fit (by repeat' (first | exact Fit.nil | refine Fit.any ?_ | refine Fit.same ?_)))
        · rw [List.drop_of_length_le (by omega), stepE] at hE
          rw [← hE] at hO
          conv => whnf
          repeat (first | refine go ?_ | ((first | refine AW.plan (id := 17) hm (.one 0 (.one 1 (.one 2 (.one 3 (.one 5 (.one 6 (.one 7 (.one 8 (.one 4 (.one 9 (.one 10 (.one 11 (.one 12 (.one 13 (.one 14 (.one 15 (.one 17 (.one 18 (.one 19 (.one 20 (.one 16 (.one 21 (.one 22 (.one 23 (.one 24 (.one 25 (.one 26 (.one 27 (.one 28 (.one 29 (.one 30 (.one 31 .nil)))))))))))))))))))))))))))))))) (by kernel_rfl) ?_ | refine AW.plan (id := 18) hm (.one 0 (.one 1 (.one 2 (.one 3 (.one 4 (.one 6 (.one 7 (.one 8 (.one 9 (.one 5 (.one 10 (.one 11 (.one 12 (.one 13 (.one 14 .nil))))))))))))))) (by kernel_rfl) ?_ | refine AReq.mk (by omega) ?_ | refine AReq.mk (by decide) ?_ | refine flatE (enc := ndC) ndC_len hndj ?_ | refine AIdx.sp rfl ?_ | refine flatE (enc := edC) edC_len hed ?_ | refine AReq.mk (by rw [hb113]; omega) ?_ | refine flatE (enc := edC) edC_len hed ?_ | refine AReq.mk (by rw [hb113]; omega) ?_); conv => whnf))
          refine AOut.stay ?_
          conv => whnf
          repeat (first | refine go ?_ | ((first | refine AW.plan (id := 17) hm (.one 0 (.one 1 (.one 2 (.one 3 (.one 5 (.one 6 (.one 7 (.one 8 (.one 4 (.one 9 (.one 10 (.one 11 (.one 12 (.one 13 (.one 14 (.one 15 (.one 17 (.one 18 (.one 19 (.one 20 (.one 16 (.one 21 (.one 22 (.one 23 (.one 24 (.one 25 (.one 26 (.one 27 (.one 28 (.one 29 (.one 30 (.one 31 .nil)))))))))))))))))))))))))))))))) (by kernel_rfl) ?_ | refine AW.plan (id := 18) hm (.one 0 (.one 1 (.one 2 (.one 3 (.one 4 (.one 6 (.one 7 (.one 8 (.one 9 (.one 5 (.one 10 (.one 11 (.one 12 (.one 13 (.one 14 .nil))))))))))))))) (by kernel_rfl) ?_ | refine AReq.mk (by omega) ?_ | refine AReq.mk (by decide) ?_ | refine flatE (enc := ndC) ndC_len hndj ?_ | refine AIdx.sp rfl ?_ | refine flatE (enc := edC) edC_len hed ?_ | refine AReq.mk (by rw [hb113]; omega) ?_ | refine flatE (enc := edC) edC_len hed ?_ | refine AReq.mk (by rw [hb113]; omega) ?_); conv => whnf))
          rw [w2]
          exact AHead.mk (A.length - (j + 1)) _ _ (by omega) ⟨j + 1, O2, rfl, by omega, hO, by omega, rfl, rfl⟩ (Conv.fit (by repeat' (first | exact Fit.nil | refine Fit.any ?_ | refine Fit.same ?_)))
    · rw [List.drop_of_length_le (by omega), stepR] at hO
      rw [← hO] at hR
      have hR : refR b m O = R := hR
      conv => whnf
      repeat (first | refine go ?_ | ((first | refine AW.plan (id := 17) hm (.one 0 (.one 1 (.one 2 (.one 3 (.one 5 (.one 6 (.one 7 (.one 8 (.one 4 (.one 9 (.one 10 (.one 11 (.one 12 (.one 13 (.one 14 (.one 15 (.one 17 (.one 18 (.one 19 (.one 20 (.one 16 (.one 21 (.one 22 (.one 23 (.one 24 (.one 25 (.one 26 (.one 27 (.one 28 (.one 29 (.one 30 (.one 31 .nil)))))))))))))))))))))))))))))))) (by kernel_rfl) ?_ | refine AW.plan (id := 18) hm (.one 0 (.one 1 (.one 2 (.one 3 (.one 4 (.one 6 (.one 7 (.one 8 (.one 9 (.one 5 (.one 10 (.one 11 (.one 12 (.one 13 (.one 14 .nil))))))))))))))) (by kernel_rfl) ?_ | refine AReq.mk (by omega) ?_ | refine AReq.mk (by decide) ?_ | refine flatE (enc := ndC) ndC_len hndj ?_ | refine AIdx.sp rfl ?_ | refine flatE (enc := edC) edC_len hed ?_ | refine AReq.mk (by rw [hb113]; omega) ?_ | refine flatE (enc := edC) edC_len hed ?_ | refine AReq.mk (by rw [hb113]; omega) ?_); conv => whnf))
      refine AOut.stay ?_
      conv => whnf
      repeat (first | refine go ?_ | ((first | refine AW.plan (id := 17) hm (.one 0 (.one 1 (.one 2 (.one 3 (.one 5 (.one 6 (.one 7 (.one 8 (.one 4 (.one 9 (.one 10 (.one 11 (.one 12 (.one 13 (.one 14 (.one 15 (.one 17 (.one 18 (.one 19 (.one 20 (.one 16 (.one 21 (.one 22 (.one 23 (.one 24 (.one 25 (.one 26 (.one 27 (.one 28 (.one 29 (.one 30 (.one 31 .nil)))))))))))))))))))))))))))))))) (by kernel_rfl) ?_ | refine AW.plan (id := 18) hm (.one 0 (.one 1 (.one 2 (.one 3 (.one 4 (.one 6 (.one 7 (.one 8 (.one 9 (.one 5 (.one 10 (.one 11 (.one 12 (.one 13 (.one 14 .nil))))))))))))))) (by kernel_rfl) ?_ | refine AReq.mk (by omega) ?_ | refine AReq.mk (by decide) ?_ | refine flatE (enc := ndC) ndC_len hndj ?_ | refine AIdx.sp rfl ?_ | refine flatE (enc := edC) edC_len hed ?_ | refine AReq.mk (by rw [hb113]; omega) ?_ | refine flatE (enc := edC) edC_len hed ?_ | refine AReq.mk (by rw [hb113]; omega) ?_); conv => whnf))
      rw [w1]
      refine AHead.mk m _ _ (by omega) ⟨O, i + 1, by omega, by omega, hR, by omega, rfl, rfl⟩ ?_
      refine Conv.trans (Conv.freeze 0 rfl) (Conv.trans (Conv.fit (xs' := pad [nV a.1, nV a.2, nV b.1, nV b.2, .any, .any, .any, .any, bV false, .vs 6 L.length (L.flatMap edC), .ms 2 0 0 O.length, nV (i + 1 : Nat)] 120) (by repeat' (first | exact Fit.nil | refine Fit.any ?_ | refine Fit.same ?_))) (Conv.trans (Conv.see (.cons (.it _) (.cons (.it _) (.cons (.it _) (.cons (.it _) (.cons (.it _) (.cons (.it _) (.cons (.it _) (.cons (.it _) (.cons (.it _) (.cons (.it _) (.cons (.sm' rfl (by rw [flat_len ndC_len]) rfl rfl) (LendL.it _))))))))))))) (Conv.ren [] _ (by simp) (by simp) ?_ .nil)))
      simp only [pad, renL, AV.ren, rens, fr_nd, fr_ed, ndsV_ren]
      unfold ndsV
      repeat' (first | exact Fit.nil | refine Fit.any ?_ | refine Fit.same ?_)
  · have h0 : 8 - i = 0 := by omega
    rw [h0, refR] at hR
    subst hR
    conv => whnf
    repeat (first | refine go ?_ | ((first | refine AW.plan (id := 17) hm (.one 0 (.one 1 (.one 2 (.one 3 (.one 5 (.one 6 (.one 7 (.one 8 (.one 4 (.one 9 (.one 10 (.one 11 (.one 12 (.one 13 (.one 14 (.one 15 (.one 17 (.one 18 (.one 19 (.one 20 (.one 16 (.one 21 (.one 22 (.one 23 (.one 24 (.one 25 (.one 26 (.one 27 (.one 28 (.one 29 (.one 30 (.one 31 .nil)))))))))))))))))))))))))))))))) (by kernel_rfl) ?_ | refine AW.plan (id := 18) hm (.one 0 (.one 1 (.one 2 (.one 3 (.one 4 (.one 6 (.one 7 (.one 8 (.one 9 (.one 5 (.one 10 (.one 11 (.one 12 (.one 13 (.one 14 .nil))))))))))))))) (by kernel_rfl) ?_ | refine AReq.mk (by omega) ?_ | refine AReq.mk (by decide) ?_ | refine flatE (enc := ndC) ndC_len hndj ?_ | refine AIdx.sp rfl ?_ | refine flatE (enc := edC) edC_len hed ?_ | refine AReq.mk (by rw [hb113]; omega) ?_ | refine flatE (enc := edC) edC_len hed ?_ | refine AReq.mk (by rw [hb113]; omega) ?_); conv => whnf))
    refine AOut.stay ?_
    conv => whnf
    repeat' (first | refine go ?_ | ((first | refine AW.plan (id := 17) hm (.one 0 (.one 1 (.one 2 (.one 3 (.one 5 (.one 6 (.one 7 (.one 8 (.one 4 (.one 9 (.one 10 (.one 11 (.one 12 (.one 13 (.one 14 (.one 15 (.one 17 (.one 18 (.one 19 (.one 20 (.one 16 (.one 21 (.one 22 (.one 23 (.one 24 (.one 25 (.one 26 (.one 27 (.one 28 (.one 29 (.one 30 (.one 31 .nil)))))))))))))))))))))))))))))))) (by kernel_rfl) ?_ | refine AW.plan (id := 18) hm (.one 0 (.one 1 (.one 2 (.one 3 (.one 4 (.one 6 (.one 7 (.one 8 (.one 9 (.one 5 (.one 10 (.one 11 (.one 12 (.one 13 (.one 14 .nil))))))))))))))) (by kernel_rfl) ?_ | refine ASplit.yes rfl ?_ | refine ASplit.no rfl ?_ | refine ACond.yes rfl ?_ | refine ACond.no rfl ?_ | refine ASplit.dec (fun _ => ?_) (fun _ => ?_) | refine ASplit.ndec (fun _ => ?_) (fun _ => ?_) | refine ACond.dec (fun _ => ?_) (fun _ => ?_) | refine ACond.ndec (fun _ => ?_) (fun _ => ?_) | refine AReq.mk (by omega) ?_ | refine AReq.mk (by decide) ?_ | refine flatE (enc := ndC) ndC_len hndj ?_ | refine AIdx.sp rfl ?_ | refine flatE (enc := edC) edC_len hed ?_ | refine AReq.mk (by rw [hb113]; omega) ?_ | refine flatE (enc := edC) edC_len hed ?_ | refine AReq.mk (by rw [hb113]; omega) ?_ | (refine ASplit.mk (fun _ => ?_) (fun _ => ?_))) <;> conv => whnf))
    all_goals refine AFin.val rfl ⟨congrArg bV ?_, rfl⟩
    all_goals simp_all
end Go.Aw.U1

set_option linter.unusedSimpArgs false
set_option linter.unusedVariables false
namespace Go.Aw.U1
open Go Go.Proofs


def dnN (c : UInt8) : Nat := if 97 ≤ c.toNat ∧ c.toNat ≤ 122 then c.toNat - 32 else c.toNat
def bN (s : ByteArray) (i : Nat) : Nat := (s.get! i).toNat
def rfT (s : ByteArray) : Nat → Nat → List Nat → Option (List Nat)
  | 0, _, out => some out
  | n + 1, pos, out => if pos < s.size then (if clsF (bN s pos) = 0 ∨ (bN s pos = 45 ∧ bN s (pos - 1) = 45) then none else rfT s n (pos + 1) (out ++ [dnN (s.get! pos)])) else some out
def bytesN (l : List Nat) : ByteArray := ⟨(l.map UInt8.ofNat).toArray⟩
def rfF (s : ByteArray) : ByteArray × Int :=
  if s.size = 0 ∨ 16 < s.size ∨ bN s 0 = 45 ∨ bN s (s.size - 1) = 45 then (eS, 9) else match rfT s s.size 0 [] with | none => (eS, 9) | some o => (bytesN o, 0)
theorem get_at {s : ByteArray} {i : Nat} (h : i < s.size) : s.get! i = s[i]'h := by
  cases s with
  | mk d => exact getElem!_pos d i h
theorem get_bN {s : ByteArray} {i : Nat} (h : i < s.size) : (s[i]'h).toNat = bN s i := by
  rw [bN, get_at h]
theorem cnt_ascii {s : ByteArray} (ha : ∀ i, i < s.size → bN s i < 128) : ∀ (n pos : Nat) (k : Int), pos ≤ s.size → s.size - pos ≤ n → cntT s n pos k = k + ((s.size - pos : Nat) : Int)
  | 0, pos, k, h1, h2 => by rw [cntT]; omega
  | n + 1, pos, k, h1, h2 => by
    rw [cntT]
    split
    · rename_i h
      rw [decode_ascii s pos h (by rw [get_bN h]; exact ha pos h), cnt_ascii ha n (pos + 1) (k + 1) (by omega) (by omega)]
      omega
    · omega
theorem cls_lo {n : Nat} (h : clsF n ≠ 0) : n < 128 := by
  unfold clsF at h
  repeat' split at h
  all_goals omega
theorem cls3 {n : Nat} : clsF n = 3 ↔ n = 45 := by
  unfold clsF
  repeat' split
  all_goals omega
theorem runes_snoc (l : List Int) (c : Nat) (h : c < 128) : runesBytes (l ++ [(c : Int)]) = ⟨(runesBytes l).data ++ #[UInt8.ofNat c]⟩ := by
  have e : Utf8.encode (c : Int) = ⟨#[UInt8.ofNat c]⟩ := by
    unfold Utf8.encode
    have hv : Utf8.valid (c : Int) = true := by unfold Utf8.valid; simp; omega
    simp only [hv, if_true, Int.toNat_natCast]
    rw [if_pos h]
  unfold runesBytes
  rw [List.foldl_append, List.foldl_cons, List.foldl_nil, e]
  generalize (List.foldl (fun s r => s ++ Utf8.encode r) ByteArray.empty l) = a
  exact ByteArray.ext (by simp)
theorem runes_bytes : ∀ (l : List Nat), (∀ c ∈ l, c < 128) → runesBytes (l.map fun c : Nat => (c : Int)) = bytesN l := by
  have key : ∀ n (l : List Nat), l.length = n → (∀ c ∈ l, c < 128) → runesBytes (l.map fun c : Nat => (c : Int)) = bytesN l := by
    intro n
    induction n with
    | zero => intro l hl _; rw [List.eq_nil_of_length_eq_zero hl]; rfl
    | succ n ih =>
      intro l hl h
      have hne : l ≠ [] := fun e => by rw [e] at hl; cases hl
      rw [← List.dropLast_concat_getLast hne, List.map_append, List.map_cons, List.map_nil, runes_snoc _ _ (h _ (List.getLast_mem hne)), ih _ (by simp [hl]) (fun x hx => h x (List.dropLast_subset _ hx))]
      unfold bytesN
      simp
  exact fun l => key l.length l rfl
theorem dn_eq (c : UInt8) : foldR (c.toNat : Int) = (dnN c : Int) := by
  unfold foldR dnN
  split <;> split <;> omega
theorem fold_rf (s : ByteArray) (h0 : s.size ≠ 0 → bN s 0 ≠ 45) : ∀ (n pos : Nat) (last : Int) (out : List Nat), pos ≤ s.size → s.size - pos ≤ n → (pos = 0 → last = 3) → (pos ≠ 0 → last = clsF (bN s (pos - 1))) → (∀ c ∈ out, c < 128) →
    foldT s n pos last (out.map fun c : Nat => (c : Int)) = match rfT s n pos out with | none => (eS, 9) | some o => (bytesN o, 0)
  | 0, pos, last, out, h1, h2, h3, h4, ho => by
    rw [foldT, rfT, runes_bytes out ho]
  | n + 1, pos, last, out, h1, h2, h3, h4, ho => by
    rw [foldT, rfT]
    split
    · rename_i h
      have hN := get_bN h
      rcases Nat.lt_or_ge (bN s pos) 128 with ha | ha
      · rw [decode_ascii s pos h (by rw [hN]; exact ha), hN]
        have hok : okR (bN s pos) last = true ↔ ¬ (clsF (bN s pos) = 0 ∨ (bN s pos = 45 ∧ bN s (pos - 1) = 45)) := by
          simp only [okR, Bool.and_eq_true, Bool.or_eq_true, Bool.not_eq_true', decide_eq_false_iff_not, cls3]
          by_cases hp : pos = 0
          · subst hp
            have := h0 (by omega)
            have := h3 rfl
            simp [this]
          · rw [h4 hp, cls3]
            constructor
            · rintro ⟨g1, g2⟩ (g3 | ⟨g3, g4⟩)
              · exact g1 g3
              · exact g2.elim (fun g => g g3) (fun g => g g4)
            · intro g
              refine ⟨fun g1 => g (.inl g1), ?_⟩
              by_cases g3 : bN s pos = 45
              · exact .inr fun g4 => g (.inr ⟨g3, g4⟩)
              · exact .inl g3
        by_cases hc : clsF (bN s pos) = 0 ∨ (bN s pos = 45 ∧ bN s (pos - 1) = 45)
        · rw [if_pos hc, if_neg (fun g => hok.1 g hc)]
        · rw [if_neg hc, if_pos (hok.2 hc)]
          have hd : foldR (bN s pos : Int) = (dnN (s.get! pos) : Int) := by rw [bN, dn_eq]
          have hdl : dnN (s.get! pos) < 128 := by
            have : (s.get! pos).toNat < 128 := ha
            unfold dnN; split <;> omega
          have := fold_rf s h0 n (pos + 1) (clsF (bN s pos)) (out ++ [dnN (s.get! pos)]) (by omega) (by omega) (by omega) (fun _ => by simp) (fun c hc => by
            rcases List.mem_append.1 hc with hc | hc
            · exact ho c hc
            · simp at hc; rw [hc]; exact hdl)
          rw [List.map_append, List.map_cons, List.map_nil] at this
          rw [hd, this]
      · have hd := (decode_high s pos h (by rw [hN]; exact ha)).1
        have e0 : clsF ((Utf8.decode s pos).1 : Int) = 0 := Classical.byContradiction fun g => by have := cls_lo g; omega
        have e1 : clsF (bN s pos : Int) = 0 := Classical.byContradiction fun g => by have := cls_lo g; omega
        rw [if_neg (by simp [okR, e0]), if_pos (.inl e1)]
    · rw [runes_bytes out ho]
theorem rf_none {s : ByteArray} : ∀ (n pos : Nat) (out : List Nat) (i : Nat), s.size - pos ≤ n → pos ≤ i → i < s.size → 128 ≤ bN s i → rfT s n pos out = none
  | 0, pos, out, i, h1, h2, h3, h4 => by omega
  | n + 1, pos, out, i, h1, h2, h3, h4 => by
    rw [rfT, if_pos (by omega)]
    split
    · rfl
    · rename_i h
      rcases Nat.lt_or_ge pos i with g | g
      · exact rf_none n (pos + 1) _ i (by omega) (by omega) h3 h4
      · obtain rfl : pos = i := by omega
        exact absurd (.inl (Classical.byContradiction fun g => by have := cls_lo g; omega)) h
theorem suf_dash (s : ByteArray) : sufB s dashS = true ↔ s.size ≠ 0 ∧ bN s (s.size - 1) = 45 := by
  unfold sufB
  rw [Bool.and_eq_true, decide_eq_true_eq, show dashS.size = 1 from rfl]
  by_cases h : s.size = 0
  · simp [h]
  · have h1 : (s.extract (s.size - 1) s.size).toList = [s[s.size - 1]'(by omega)] := by
      rw [ByteArray.toList_eq, ByteArray.data_extract, Array.toList_extract]
      have hs : s.data.toList.length = s.size := by rw [Array.length_toList]; rfl
      apply List.ext_getElem
      · simp; omega
      · intro k h1 h2
        have : k = 0 := by simpa using h2
        subst this
        simp only [List.extract_eq_take_drop, List.getElem_take, List.getElem_drop, Nat.add_zero, List.getElem_cons_zero, Array.getElem_toList]
        rfl
    rw [h1, show dashS.toList = [45] by rw [ByteArray.toList_eq]; rfl]
    have hN := get_bN (s := s) (i := s.size - 1) (by omega)
    rw [← hN]
    simp only [beq_iff_eq, List.cons.injEq, and_true]
    constructor
    · rintro ⟨_, g⟩; exact ⟨h, by rw [g]; rfl⟩
    · rintro ⟨_, g⟩; exact ⟨by omega, UInt8.toNat_inj.1 g⟩
theorem fold_doc (s : ByteArray) : foldF s = rfF s := by
  unfold foldF rfF
  by_cases hall : ∀ i, i < s.size → bN s i < 128
  · rw [cnt_ascii hall s.size 0 0 (Nat.zero_le _) (by omega)]
    simp only [Nat.sub_zero, Int.zero_add, suf_dash]
    by_cases hz : s.size = 0
    · rw [if_pos (.inl (by omega)), if_pos (.inl hz)]
    by_cases hl : 16 < s.size
    · rw [if_pos (.inr (.inl (by omega))), if_pos (.inr (.inl hl))]
    by_cases hd : bN s (s.size - 1) = 45
    · rw [if_pos (.inr (.inr ⟨hz, hd⟩)), if_pos (.inr (.inr (.inr hd)))]
    rw [if_neg (by rintro (g | g | g); omega; omega; exact hd g.2)]
    by_cases h0 : bN s 0 = 45
    · rw [if_pos (.inr (.inr (.inl h0)))]
      obtain ⟨n, hn⟩ : ∃ n, s.size = n + 1 := ⟨s.size - 1, by omega⟩
      have hN := get_bN (show 0 < s.size by omega)
      rw [hn, foldT, if_pos (by omega), decode_ascii s 0 (by omega) (by rw [hN]; omega), hN, h0, if_neg (by decide)]
    · rw [if_neg (by rintro (g | g | g | g); exact hz g; exact hl g; exact h0 g; exact hd g)]
      exact fold_rf s (fun _ => h0) s.size 0 3 [] (Nat.zero_le _) (by omega) (fun _ => rfl) (fun g => absurd rfl g) (by simp)
  · have hex : ∃ i, i < s.size ∧ 128 ≤ bN s i := Classical.byContradiction fun h => hall fun i hi => by
      rcases Nat.lt_or_ge (bN s i) 128 with g | g
      · exact g
      · exact absurd ⟨i, hi, g⟩ h
    obtain ⟨i, hi, hbi⟩ := hex
    have hr := rf_none s.size 0 [] i (by omega) (Nat.zero_le _) hi hbi
    have e2 : (if s.size = 0 ∨ 16 < s.size ∨ bN s 0 = 45 ∨ bN s (s.size - 1) = 45 then (eS, (9 : Int)) else match rfT s s.size 0 [] with | none => (eS, 9) | some o => (bytesN o, 0)) = (eS, 9) := by
      rw [hr]; split <;> rfl
    rw [e2]
    split
    · rfl
    · by_cases h0 : bN s 0 = 45
      · have hN := get_bN (show 0 < s.size by omega)
        obtain ⟨n, hn⟩ : ∃ n, s.size = n + 1 := ⟨s.size - 1, by omega⟩
        rw [hn, foldT, if_pos (by omega), decode_ascii s 0 (by omega) (by rw [hN]; omega), hN, h0, if_neg (by decide)]
      · have := fold_rf s (fun _ => h0) s.size 0 3 [] (Nat.zero_le _) (by omega) (fun _ => rfl) (fun g => absurd rfl g) (by simp)
        rw [hr] at this
        exact this
end Go.Aw.U1

set_option linter.unusedSimpArgs false
set_option linter.unusedVariables false
set_option maxHeartbeats 4000000
set_option maxRecDepth 30000
namespace Go.Aw.U1
open Go Go.Proofs

/-! ### the document's serials, and its units -/
theorem f129 (n : Int) : Fun P 129 [nV n] (bV (idB n)) := by
  refine spec_of hT (f := 129) (fn := Go.Proofs.Tryz.f129) (c := body Go.Proofs.Tryz.f129) (by kernel_rfl) (by kernel_rfl) ?_
  have e : idB n = (decide (0 < n) && decide (n < 1000000)) := by
    unfold idB
    rw [Bool.eq_iff_iff]
    simp only [Bool.and_eq_true, decide_eq_true_eq]
    omega
  rw [e]
  conv => whnf
  repeat refine go ?_
  refine ASplit.dec (fun h => ?_) (fun h => ?_)
  · rw [decide_eq_true h, Bool.true_and]
    conv => whnf
    repeat refine ru ?_
    exact AFin.val rfl ⟨rfl, rfl⟩
  · rw [decide_eq_false h, Bool.false_and]
    conv => whnf
    repeat refine ru ?_
    exact AFin.val rfl ⟨rfl, rfl⟩
theorem f308 (n : Int) : Fun P 308 [rI n] (nV (clsF n)) := by
  refine spec_of hT (f := 308) (fn := Go.Proofs.Tryz.f308) (c := body Go.Proofs.Tryz.f308) (by kernel_rfl) (by kernel_rfl) ?_
  conv => whnf
  repeat' (first | refine go ?_ | ((first | refine ASplit.yes rfl ?_ | refine ASplit.no rfl ?_ | refine ACond.yes rfl ?_ | refine ACond.no rfl ?_ | refine ASplit.dec (fun _ => ?_) (fun _ => ?_) | refine ASplit.ndec (fun _ => ?_) (fun _ => ?_) | refine ACond.dec (fun _ => ?_) (fun _ => ?_) | refine ACond.ndec (fun _ => ?_) (fun _ => ?_) | (refine ASplit.mk (fun _ => ?_) (fun _ => ?_)) | (refine ACond.mk (fun _ => ?_) (fun _ => ?_))) <;> conv => whnf))
  all_goals refine AFin.val rfl ⟨congrArg nV ?_, rfl⟩
  all_goals try simp only [decide_eq_true_eq, decide_eq_false_iff_not, Bool.and_eq_true, Bool.or_eq_true, Bool.true_eq_false, Bool.false_eq_true] at *
  all_goals (unfold clsF; first | omega | (rw [if_pos (by omega)]) | (rw [if_neg (by omega), if_pos (by omega)]) | (rw [if_neg (by omega), if_neg (by omega), if_pos (by omega)]) | (rw [if_neg (by omega), if_neg (by omega), if_neg (by omega)]))
theorem bt_bN {s : ByteArray} {i : Nat} (h : i < s.size) : bt s (i : Int) = (bN s i : Int) := by
  rw [bt, Int.toNat_natCast]
  have hl : i < s.data.toList.length := by rw [Array.length_toList]; exact h
  rw [List.getElem?_eq_getElem hl, Option.getD_some, ← get_bN h]
  rfl
theorem bN_lt (s : ByteArray) (i : Nat) : bN s i < 256 := (s.get! i).toNat_lt
def dnU (c : UInt8) : UInt8 := UInt8.ofNat (dnN c)
theorem dnU_nat (c : UInt8) : (dnU c).toNat = dnN c := by
  have h : dnN c < 256 := by have := c.toNat_lt; unfold dnN; split <;> omega
  simp [dnU, Nat.mod_eq_of_lt h]
theorem bytesN_map (l : List UInt8) : bytesN (l.map (·.toNat)) = ⟨l.toArray⟩ := by
  unfold bytesN
  rw [List.map_map]
  congr 2
  rw [show (UInt8.ofNat ∘ fun x : UInt8 => x.toNat) = id from funext fun x => by simp, List.map_id]
theorem ren_by (ρ : Nat → Nat) (l : List UInt8) : renL ρ (l.map byteC) = l.map byteC := by
  induction l with
  | nil => rfl
  | cons a l ih => rw [List.map_cons, renL, ih]; rfl
theorem wrap_u8 (n : Int) (h1 : 0 ≤ n) (h2 : n ≤ 255) : IntKind.wrap .u8 n = n := by
  simp only [IntKind.wrap, IntKind.signed, IntKind.bits]
  simp
  omega
theorem f225 (s : ByteArray) (hs : s.size ≤ 9223372036854775807) : Fun P 225 [sV s] (txtE (rfF s)) := by
  refine spec_of hT (f := 225) (fn := Go.Proofs.Tryz.f225) (c := body Go.Proofs.Tryz.f225) (by kernel_rfl) (by kernel_rfl) ?_
  unfold rfF
  have hb5 : (T 5).bytes = 1 := by kernel_rfl
  conv => whnf
  repeat refine go ?_
  refine ASplit.dec (fun h1 => ?_) (fun h1 => ?_)
  · rw [if_pos (.inl (show s.size = 0 by omega))]
    conv => whnf
    repeat refine ru ?_
    exact AFin.val rfl ⟨rfl, rfl⟩
  conv => whnf
  repeat refine ru ?_
  refine ASplit.dec (fun h2 => ?_) (fun h2 => ?_)
  · rw [if_pos (.inr (.inl (show 16 < s.size by omega)))]
    conv => whnf
    repeat refine ru ?_
    exact AFin.val rfl ⟨rfl, rfl⟩
  have hb0 : bt s 0 = (bN s 0 : Int) := bt_bN (i := 0) (by omega)
  have wl : IntKind.wrap .i64 ((s.size : Int) - 1) = ((s.size - 1 : Nat) : Int) := by rw [wrap_i64 _ (by omega) (by omega)]; omega
  have hbl : bt s ((s.size - 1 : Nat) : Int) = (bN s (s.size - 1) : Int) := bt_bN (by omega)
  conv => whnf
  repeat (first | refine ru ?_ | (refine AReq.mk (by omega) ?_; conv => whnf))
  rw [hb0]
  refine ASplit.dec (fun h3 => ?_) (fun h3 => ?_)
  · rw [if_pos (.inr (.inr (.inl (show bN s 0 = 45 by omega))))]
    conv => whnf
    repeat (first | refine ru ?_ | (refine AReq.mk (by omega) ?_; conv => whnf))
    exact AFin.val rfl ⟨rfl, rfl⟩
  conv => whnf
  repeat (first | refine ru ?_ | (refine AReq.mk (by omega) ?_; conv => whnf))
  rw [wl]
  conv => whnf
  repeat (first | refine ru ?_ | (refine AReq.mk (by omega) ?_; conv => whnf))
  rw [hbl]
  refine ACond.dec (fun h4 => ?_) (fun h4 => ?_)
  · rw [if_pos (.inr (.inr (.inr (show bN s (s.size - 1) = 45 by omega))))]
    conv => whnf
    repeat (first | refine ru ?_ | (refine AReq.mk (by omega) ?_; conv => whnf))
    exact AFin.val rfl ⟨rfl, rfl⟩
  rw [if_neg (show ¬ (s.size = 0 ∨ 16 < s.size ∨ bN s 0 = 45 ∨ bN s (s.size - 1) = 45) by omega)]
  generalize hRR : rfT s s.size 0 [] = R
  conv => whnf
  repeat (first | refine ru ?_ | (refine AReq.mk (by omega) ?_; conv => whnf))
  refine ALoop.mk (fun n E H => ∃ (i : Nat) (out : List UInt8), n = s.size - i ∧ i ≤ s.size ∧ out.length ≤ i ∧ rfT s (s.size - i) i (out.map (·.toNat)) = R ∧
      E = pad [sV s, .any, sV eS, nV 0, .ms 1 0 0 out.length, nV i] 66 ∧ H = [.cells 5 (out.map byteC)]) (n := s.size) _ _
    ⟨0, [], rfl, Nat.zero_le _, by simp, hRR, rfl, rfl⟩ (Conv.own (sz := 1) 5 (by repeat' (first | exact FitN.nil | refine FitN.any ?_ | refine FitN.own ?_ | refine FitN.same ?_))) ?_
  clear hRR
  rintro _ _ _ ⟨i, out, rfl, hi, ho, hR, rfl, rfl⟩
  conv => whnf
  repeat (first | refine go ?_ | (refine AReq.mk (by omega) ?_; conv => whnf))
  refine ACond.dec (fun g1 => ?_) (fun g1 => ?_)
  · have hil : i < s.size := by omega
    have w1 : IntKind.wrap .i64 ((i : Int) + 1) = ((i + 1 : Nat) : Int) := by rw [wrap_i64 _ (by omega) (by omega)]; omega
    have hbi : bt s (i : Int) = (bN s i : Int) := bt_bN hil
    have hlt := bN_lt s i
    have w2 : IntKind.wrap .i32 (bN s i : Int) = (bN s i : Int) := by rw [wrap_i32 _ (by omega) (by omega)]
    rw [show s.size - i = (s.size - (i + 1)) + 1 by omega, rfT, if_pos hil] at hR
    conv => whnf
    repeat (first | refine go ?_ | (refine AReq.mk (by omega) ?_; conv => whnf))
    rw [hbi, w2]
    refine ACall.val (args := [rI (bN s i : Int)]) (by kernel_rfl) (f308 (bN s i : Int)) rfl rfl ?_
    conv => whnf
    repeat (first | refine ru ?_ | (refine AReq.mk (by omega) ?_; conv => whnf))
    refine ASplit.dec (fun g2 => ?_) (fun g2 => ?_)
    · rw [if_pos (.inl g2)] at hR
      subst hR
      conv => whnf
      repeat (first | refine ru ?_ | (refine AReq.mk (by omega) ?_; conv => whnf))
      refine AOut.stay ?_
      conv => whnf
      repeat (first | refine ru ?_ | (refine AReq.mk (by omega) ?_; conv => whnf))
      exact AFin.val rfl ⟨rfl, rfl⟩
    conv => whnf
    repeat (first | refine ru ?_ | (refine AReq.mk (by omega) ?_; conv => whnf))
    refine ASplit.dec (fun g3 => ?_) (fun g3 => ?_)
    · have hi1 : 1 ≤ i := by
        rcases Nat.eq_zero_or_pos i with g | g
        · subst g; omega
        · exact g
      have w3 : IntKind.wrap .i64 ((i : Int) - 1) = ((i - 1 : Nat) : Int) := by rw [wrap_i64 _ (by omega) (by omega)]; omega
      have hbp : bt s ((i - 1 : Nat) : Int) = (bN s (i - 1) : Int) := bt_bN (by omega)
      conv => whnf
      repeat (first | refine ru ?_ | (refine AReq.mk (by omega) ?_; conv => whnf))
      rw [w3]
      conv => whnf
      repeat (first | refine ru ?_ | (refine AReq.mk (by omega) ?_; conv => whnf))
      rw [hbp]
      refine ACond.dec (fun g4 => ?_) (fun g4 => ?_)
      · rw [if_pos (.inr ⟨by omega, by omega⟩)] at hR
        subst hR
        conv => whnf
        repeat (first | refine ru ?_ | (refine AReq.mk (by omega) ?_; conv => whnf))
        refine AOut.stay ?_
        conv => whnf
        repeat (first | refine ru ?_ | (refine AReq.mk (by omega) ?_; conv => whnf))
        exact AFin.val rfl ⟨rfl, rfl⟩
      rw [if_neg (show ¬ (clsF (bN s i) = 0 ∨ (bN s i = 45 ∧ bN s (i - 1) = 45)) from fun h => h.elim g2 (fun h => by omega))] at hR
      have hlow : ((dnN (s.get! i) : Nat) : Int) = (bN s i : Int) := by
        have : dnN (s.get! i) = bN s i := by unfold dnN; exact if_neg (fun h => by have h1 : 97 ≤ bN s i := h.1; have h2 : bN s i ≤ 122 := h.2; omega)
        rw [this]
      conv => whnf
      repeat (first | refine ru ?_ | (refine AReq.mk (by omega) ?_; conv => whnf))
      refine ASplit.no (decide_eq_false (by omega)) ?_
      conv => whnf
      repeat (first | refine ru ?_ | ((first | refine AReq.mk (by omega) ?_ | refine AReq.mk (by rw [hb5]; simp; omega) ?_); conv => whnf))
      rw [w1]
      refine AHead.mk (s.size - (i + 1)) _ _ (by omega) ⟨i + 1, out ++ [dnU (s.get! i)], rfl, by omega, by simp; omega, by rw [List.map_append, List.map_cons, List.map_nil, dnU_nat]; exact hR, rfl, rfl⟩ ?_
      have e2 : byteC (dnU (s.get! i)) = .v (.int .u8 (bN s i : Int)) := by
        show AV.v (.int .u8 ((dnU (s.get! i)).toNat : Int)) = _
        rw [dnU_nat, hlow]
      rw [List.length_append, List.map_append, List.map_cons, List.map_nil, e2]
      exact Conv.ren [1] _ (by simp) (by decide) (by simp only [pad, renL, AV.ren, rens]; repeat' (first | exact Fit.nil | refine Fit.any ?_ | refine Fit.same ?_)) (.same (by simp only [ABlk.ren, renL_append, ren_by]; rfl) .nil)
    · rw [if_neg (show ¬ (clsF (bN s i) = 0 ∨ (bN s i = 45 ∧ bN s (i - 1) = 45)) from fun h => h.elim g2 (fun h => by omega))] at hR
      conv => whnf
      repeat (first | refine ru ?_ | ((first | refine AReq.mk (by omega) ?_ | refine AReq.mk (by rw [hb5]; simp; omega) ?_); conv => whnf))
      refine ASplit.dec (fun g5 => ?_) (fun g5 => ?_)
      · conv => whnf
        repeat (first | refine ru ?_ | ((first | refine AReq.mk (by omega) ?_ | refine AReq.mk (by rw [hb5]; simp; omega) ?_); conv => whnf))
        refine ACond.dec (fun g6 => ?_) (fun g6 => ?_)
        · have hlow : ((dnN (s.get! i) : Nat) : Int) = (bN s i : Int) - 32 := by
            have : dnN (s.get! i) = bN s i - 32 := by unfold dnN; exact if_pos ⟨show 97 ≤ bN s i by omega, show bN s i ≤ 122 by omega⟩
            rw [this]; omega
          have w4 : IntKind.wrap .u8 ((bN s i : Int) - 32) = (bN s i : Int) - 32 := by rw [wrap_u8 _ (by omega) (by omega)]
          conv => whnf
          repeat (first | refine ru ?_ | ((first | refine AReq.mk (by omega) ?_ | refine AReq.mk (by rw [hb5]; simp; omega) ?_); conv => whnf))
          rw [w4]
          conv => whnf
          repeat (first | refine ru ?_ | ((first | refine AReq.mk (by omega) ?_ | refine AReq.mk (by rw [hb5]; simp; omega) ?_ | refine AReq.mk (by rw [hb5]; simp; omega) ?_); conv => whnf))
          rw [w1]
          refine AHead.mk (s.size - (i + 1)) _ _ (by omega) ⟨i + 1, out ++ [dnU (s.get! i)], rfl, by omega, by simp; omega, by rw [List.map_append, List.map_cons, List.map_nil, dnU_nat]; exact hR, rfl, rfl⟩ ?_
          have e2 : byteC (dnU (s.get! i)) = .v (.int .u8 ((bN s i : Int) - 32)) := by
            show AV.v (.int .u8 ((dnU (s.get! i)).toNat : Int)) = _
            rw [dnU_nat, hlow]
          rw [List.length_append, List.map_append, List.map_cons, List.map_nil, e2]
          exact Conv.ren [1] _ (by simp) (by decide) (by simp only [pad, renL, AV.ren, rens]; repeat' (first | exact Fit.nil | refine Fit.any ?_ | refine Fit.same ?_)) (.same (by simp only [ABlk.ren, renL_append, ren_by]; rfl) .nil)
        · have hlow : ((dnN (s.get! i) : Nat) : Int) = (bN s i : Int) := by
            have : dnN (s.get! i) = bN s i := by unfold dnN; exact if_neg (fun h => by have h1 : 97 ≤ bN s i := h.1; have h2 : bN s i ≤ 122 := h.2; omega)
            rw [this]
          conv => whnf
          repeat (first | refine ru ?_ | ((first | refine AReq.mk (by omega) ?_ | refine AReq.mk (by rw [hb5]; simp; omega) ?_ | refine AReq.mk (by rw [hb5]; simp; omega) ?_ | refine AReq.mk (by rw [hb5]; simp; omega) ?_); conv => whnf))
          rw [w1]
          refine AHead.mk (s.size - (i + 1)) _ _ (by omega) ⟨i + 1, out ++ [dnU (s.get! i)], rfl, by omega, by simp; omega, by rw [List.map_append, List.map_cons, List.map_nil, dnU_nat]; exact hR, rfl, rfl⟩ ?_
          have e2 : byteC (dnU (s.get! i)) = .v (.int .u8 (bN s i : Int)) := by
            show AV.v (.int .u8 ((dnU (s.get! i)).toNat : Int)) = _
            rw [dnU_nat, hlow]
          rw [List.length_append, List.map_append, List.map_cons, List.map_nil, e2]
          exact Conv.ren [1] _ (by simp) (by decide) (by simp only [pad, renL, AV.ren, rens]; repeat' (first | exact Fit.nil | refine Fit.any ?_ | refine Fit.same ?_)) (.same (by simp only [ABlk.ren, renL_append, ren_by]; rfl) .nil)
      · have hlow : ((dnN (s.get! i) : Nat) : Int) = (bN s i : Int) := by
          have : dnN (s.get! i) = bN s i := by unfold dnN; exact if_neg (fun h => by have h1 : 97 ≤ bN s i := h.1; have h2 : bN s i ≤ 122 := h.2; omega)
          rw [this]
        conv => whnf
        repeat (first | refine ru ?_ | ((first | refine AReq.mk (by omega) ?_ | refine AReq.mk (by rw [hb5]; simp; omega) ?_ | refine AReq.mk (by rw [hb5]; simp; omega) ?_ | refine AReq.mk (by rw [hb5]; simp; omega) ?_ | refine AReq.mk (by rw [hb5]; simp; omega) ?_); conv => whnf))
        rw [w1]
        refine AHead.mk (s.size - (i + 1)) _ _ (by omega) ⟨i + 1, out ++ [dnU (s.get! i)], rfl, by omega, by simp; omega, by rw [List.map_append, List.map_cons, List.map_nil, dnU_nat]; exact hR, rfl, rfl⟩ ?_
        have e2 : byteC (dnU (s.get! i)) = .v (.int .u8 (bN s i : Int)) := by
          show AV.v (.int .u8 ((dnU (s.get! i)).toNat : Int)) = _
          rw [dnU_nat, hlow]
        rw [List.length_append, List.map_append, List.map_cons, List.map_nil, e2]
        exact Conv.ren [1] _ (by simp) (by decide) (by simp only [pad, renL, AV.ren, rens]; repeat' (first | exact Fit.nil | refine Fit.any ?_ | refine Fit.same ?_)) (.same (by simp only [ABlk.ren, renL_append, ren_by]; rfl) .nil)
  · rw [show s.size - i = 0 by omega, rfT] at hR
    subst hR
    have hbm := bytesN_map out
    conv => whnf
    repeat (first | refine go ?_ | ((first | refine AReq.mk (by omega) ?_ | refine AReq.mk (by rw [hb5]; simp; omega) ?_ | refine AReq.mk (by rw [hb5]; simp; omega) ?_ | refine AReq.mk (by rw [hb5]; simp; omega) ?_ | refine AReq.mk (by rw [hb5]; simp; omega) ?_); conv => whnf))
    refine AOut.stay ?_
    conv => whnf
    repeat (first | refine go ?_ | ((first | refine AReq.mk (by omega) ?_ | refine AReq.mk (by rw [hb5]; simp; omega) ?_ | refine AReq.mk (by rw [hb5]; simp; omega) ?_ | refine AReq.mk (by rw [hb5]; simp; omega) ?_ | refine AReq.mk (by rw [hb5]; simp; omega) ?_ | refine AStr.mk ?_ | refine ACut.all (by simp) ?_); conv => whnf))
    exact AFin.val rfl ⟨by show _ = txtE (bytesN _, 0); rw [hbm]; rfl, rfl⟩
theorem f128 (s : ByteArray) (hs : s.size ≤ 9223372036854775807) : Fun P 128 [sV s] (nV (serC s)) := by
  refine spec_of hT (f := 128) (fn := Go.Proofs.Tryz.f128) (c := body Go.Proofs.Tryz.f128) (by kernel_rfl) (by kernel_rfl) ?_
  have hf := f225 s hs
  rw [← fold_doc] at hf
  conv => whnf
  repeat' (first | refine go ?_ | ((first | refine ASplit.yes rfl ?_ | refine ASplit.no rfl ?_ | refine ACond.yes rfl ?_ | refine ACond.no rfl ?_ | refine ASplit.dec (fun _ => ?_) (fun _ => ?_) | refine ASplit.ndec (fun _ => ?_) (fun _ => ?_) | refine ACond.dec (fun _ => ?_) (fun _ => ?_) | refine ACond.ndec (fun _ => ?_) (fun _ => ?_) | refine ACall.val (args := [sV s]) (by kernel_rfl) hf rfl rfl ?_ | (refine ASplit.mk (fun _ => ?_) (fun _ => ?_)) | (refine ACond.mk (fun _ => ?_) (fun _ => ?_))) <;> conv => whnf))
  all_goals refine AFin.val rfl ⟨congrArg nV ?_, rfl⟩
  all_goals simp_all [serC]
end Go.Aw.U1

set_option linter.unusedSimpArgs false
set_option linter.unusedVariables false
set_option maxHeartbeats 4000000
set_option maxRecDepth 30000
namespace Go.Aw.U1
open Go Go.Proofs

theorem f48 (u : Un) (hu : sOk u.s) : Fun P 48 [unA u] (nV (if unB u then 0 else 40)) := by
  refine spec_of hT (f := 48) (fn := Go.Proofs.Tryz.f48) (c := body Go.Proofs.Tryz.f48) (by kernel_rfl) (by kernel_rfl) ?_
  have hf := f53 u.state u.way
  rw [node_eq] at hf
  conv => whnf
  repeat' (first | refine go ?_ | ((first | refine ASplit.yes rfl ?_ | refine ASplit.no rfl ?_ | refine ACond.yes rfl ?_ | refine ACond.no rfl ?_ | refine ASplit.dec (fun _ => ?_) (fun _ => ?_) | refine ASplit.ndec (fun _ => ?_) (fun _ => ?_) | refine ACond.dec (fun _ => ?_) (fun _ => ?_) | refine ACond.ndec (fun _ => ?_) (fun _ => ?_) | refine ACall.val (args := [sV u.s]) (by kernel_rfl) (f128 u.s hu) rfl rfl ?_ | refine ACall.val (by kernel_rfl) (f129 _) rfl rfl ?_ | refine ACall.val (args := [nV u.state, nV u.way]) (by kernel_rfl) hf rfl rfl ?_ | (refine ASplit.mk (fun _ => ?_) (fun _ => ?_)) | (refine ACond.mk (fun _ => ?_) (fun _ => ?_))) <;> conv => whnf))
  all_goals refine AFin.val rfl ⟨congrArg nV ?_, rfl⟩
  all_goals simp_all [unB, standB, gradedB, heldB, timeB, serC]
  all_goals omega
end Go.Aw.U1

