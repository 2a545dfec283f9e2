/-
  The statement StateBounds: of a state that may be, of no line more is authorised, received or paid back than was shipped and paid, without any condition.
-/
import Derived.Test.YtnfbiphfhkfnaaaGreatUgH
set_option linter.unusedSimpArgs false
set_option linter.unusedVariables false
set_option linter.unusedSimpArgs false
set_option linter.unusedVariables false
set_option maxHeartbeats 4000000
set_option maxRecDepth 8000
namespace Go.Aw.U1
open Go Go.Proofs

def lnFew (l : Ln) : Prop := l.ss.length ≤ 40 ∧ ∀ x ∈ l.ss, x.size ≤ 100
theorem f14 (l : List Ln) : Spec P 14 [lnsV l] [] (fun r H => (∃ b, r = bV b ∧ (b = true → l.length ≤ 20 ∧ ∀ x ∈ l, lnFew x) ∧ (l.length ≤ 20 → (∀ x ∈ l, lnFew x) → b = true)) ∧ H = []) := by
  refine spec_of hT (f := 14) (fn := Go.Proofs.Tryz.f14) (c := body Go.Proofs.Tryz.f14) (by kernel_rfl) (by kernel_rfl) ?_
  have hfalse : ∀ {H : List ABlk}, ¬ (l.length ≤ 20 ∧ ∀ x ∈ l, lnFew x) → AFin 0 (bV false) H (fun r H => (∃ b, r = bV b ∧ (b = true → l.length ≤ 20 ∧ ∀ x ∈ l, lnFew x) ∧ (l.length ≤ 20 → (∀ x ∈ l, lnFew x) → b = true)) ∧ H = []) := fun hn => AFin.val rfl ⟨⟨false, rfl, fun h => Bool.noConfusion h, fun h1 h2 => absurd ⟨h1, h2⟩ hn⟩, rfl⟩
  conv => whnf
  repeat refine go ?_
  refine ACond.dec (fun h1 => ?_) (fun h1 => ?_)
  · conv => whnf
    repeat refine ru ?_
    exact hfalse (fun h => by omega)
  conv => whnf
  repeat refine ru ?_
  refine ALoop.mk (fun n E H => ∃ (i : Nat), n = l.length - i ∧ i ≤ l.length ∧ (∀ k (hk : k < l.length), k < i → lnFew l[k]) ∧
      E = pad [lnsV l, .any, bV false, nV i] 41 ∧ H = []) (n := l.length) _ _
    ⟨0, rfl, Nat.zero_le _, fun k _ hk => absurd hk (Nat.not_lt_zero _), rfl, rfl⟩ (Conv.fit (by repeat' (first | exact Fit.nil | refine Fit.any ?_ | refine Fit.same ?_))) ?_
  rintro _ _ _ ⟨i, rfl, hi, hI, rfl, rfl⟩
  conv => whnf
  repeat refine go ?_
  refine ACond.dec (fun h2 => ?_) (fun h2 => ?_)
  · have hil : i < l.length := by omega
    have w1 : IntKind.wrap .i64 ((i : Int) + 1) = ((i + 1 : Nat) : Int) := by rw [wrap_i64 _ (by omega) (by omega)]; omega
    conv => whnf
    repeat (first | refine go ?_ | ((first | refine AReq.mk (by omega) ?_ | refine AIdx.flat (enc := lnC) lnC_len (xs := l) (i := i) hil ?_); conv => whnf))
    refine ACond.dec (fun h3 => ?_) (fun h3 => ?_)
    · conv => whnf
      repeat (first | refine go ?_ | ((first | refine AReq.mk (by omega) ?_ | refine AIdx.flat (enc := lnC) lnC_len (xs := l) (i := i) hil ?_); conv => whnf))
      refine AOut.stay ?_
      conv => whnf
      repeat (first | refine go ?_ | ((first | refine AReq.mk (by omega) ?_ | refine AIdx.flat (enc := lnC) lnC_len (xs := l) (i := i) hil ?_); conv => whnf))
      exact hfalse (fun h => by have := (h.2 _ (List.getElem_mem hil)).1; omega)
    conv => whnf
    repeat (first | refine go ?_ | ((first | refine AReq.mk (by omega) ?_ | refine AIdx.flat (enc := lnC) lnC_len (xs := l) (i := i) hil ?_); conv => whnf))
    refine ALoop.mk (fun n E H => ∃ (k : Nat), n = l[i].ss.length - k ∧ k ≤ l[i].ss.length ∧ (∀ j (hj : j < l[i].ss.length), j < k → l[i].ss[j].size ≤ 100) ∧
        E = pad [lnsV l, .any, bV false, nV i, nV k] 41 ∧ H = []) (n := l[i].ss.length) _ _
      ⟨0, rfl, Nat.zero_le _, fun k _ hk => absurd hk (Nat.not_lt_zero _), rfl, rfl⟩ (Conv.fit (by repeat' (first | exact Fit.nil | refine Fit.any ?_ | refine Fit.same ?_))) ?_
    rintro _ _ _ ⟨k, rfl, hk, hall, rfl, rfl⟩
    conv => whnf
    repeat (first | refine go ?_ | ((first | refine AReq.mk (by omega) ?_ | refine AIdx.flat (enc := lnC) lnC_len (xs := l) (i := i) hil ?_); conv => whnf))
    refine ACond.dec (fun h4 => ?_) (fun h4 => ?_)
    · have hkl : k < l[i].ss.length := by omega
      have w2 : IntKind.wrap .i64 ((k : Int) + 1) = ((k + 1 : Nat) : Int) := by rw [wrap_i64 _ (by omega) (by omega)]; omega
      conv => whnf
      repeat (first | refine go ?_ | ((first | refine AReq.mk (by omega) ?_ | refine AIdx.flat (enc := lnC) lnC_len (xs := l) (i := i) hil ?_ | refine AIdx.flat (enc := sC) sC_len (xs := l[i].ss) (i := k) hkl ?_); conv => whnf))
      refine ACond.dec (fun h5 => ?_) (fun h5 => ?_)
      · conv => whnf
        repeat (first | refine go ?_ | ((first | refine AReq.mk (by omega) ?_ | refine AIdx.flat (enc := lnC) lnC_len (xs := l) (i := i) hil ?_ | refine AIdx.flat (enc := sC) sC_len (xs := l[i].ss) (i := k) hkl ?_); conv => whnf))
        refine AOut.stay ?_
        conv => whnf
        repeat (first | refine go ?_ | ((first | refine AReq.mk (by omega) ?_ | refine AIdx.flat (enc := lnC) lnC_len (xs := l) (i := i) hil ?_ | refine AIdx.flat (enc := sC) sC_len (xs := l[i].ss) (i := k) hkl ?_); conv => whnf))
        refine AOut.stay ?_
        conv => whnf
        repeat (first | refine go ?_ | ((first | refine AReq.mk (by omega) ?_ | refine AIdx.flat (enc := lnC) lnC_len (xs := l) (i := i) hil ?_ | refine AIdx.flat (enc := sC) sC_len (xs := l[i].ss) (i := k) hkl ?_); conv => whnf))
        exact hfalse (fun h => by have := (h.2 _ (List.getElem_mem hil)).2 _ (List.getElem_mem hkl); omega)
      · conv => whnf
        repeat (first | refine go ?_ | ((first | refine AReq.mk (by omega) ?_ | refine AIdx.flat (enc := lnC) lnC_len (xs := l) (i := i) hil ?_ | refine AIdx.flat (enc := sC) sC_len (xs := l[i].ss) (i := k) hkl ?_); conv => whnf))
        rw [w2]
        refine AHead.mk (l[i].ss.length - (k + 1)) _ _ (by omega) ⟨k + 1, rfl, by omega, ?_, rfl, rfl⟩ (Conv.fit (by repeat' (first | exact Fit.nil | refine Fit.any ?_ | refine Fit.same ?_)))
        intro j hj hjk
        rcases Nat.lt_or_ge j k with g | g
        · exact hall j hj g
        · obtain rfl : j = k := by omega
          omega
    · conv => whnf
      repeat (first | refine go ?_ | ((first | refine AReq.mk (by omega) ?_ | refine AIdx.flat (enc := lnC) lnC_len (xs := l) (i := i) hil ?_ | refine AIdx.flat (enc := sC) sC_len (xs := l[i].ss) (i := k) hkl ?_); conv => whnf))
      refine AOut.stay ?_
      conv => whnf
      repeat (first | refine go ?_ | ((first | refine AReq.mk (by omega) ?_ | refine AIdx.flat (enc := lnC) lnC_len (xs := l) (i := i) hil ?_ | refine AIdx.flat (enc := sC) sC_len (xs := l[i].ss) (i := k) hkl ?_); conv => whnf))
      rw [w1]
      refine AHead.mk (l.length - (i + 1)) _ _ (by omega) ⟨i + 1, rfl, by omega, ?_, rfl, rfl⟩ (Conv.fit (by repeat' (first | exact Fit.nil | refine Fit.any ?_ | refine Fit.same ?_)))
      intro j hj hji
      rcases Nat.lt_or_ge j i with g | g
      · exact hI j hj g
      · obtain rfl : j = i := by omega
        refine ⟨by omega, fun x hx => ?_⟩
        obtain ⟨q, hq, rfl⟩ := List.mem_iff_getElem.1 hx
        exact hall q hq (by omega)
  · conv => whnf
    repeat refine go ?_
    refine AOut.stay ?_
    conv => whnf
    repeat refine go ?_
    refine AFin.val rfl ⟨⟨true, rfl, fun _ => ⟨by omega, fun x hx => ?_⟩, fun _ _ => rfl⟩, rfl⟩
    obtain ⟨k, hk, rfl⟩ := List.mem_iff_getElem.1 hx
    exact hI k hk (by omega)
structure FewOk (s : Sta) : Prop where
  items : s.items.length ≤ 70
  orders : s.orders.length ≤ 70
  rmas : s.rmas.length ≤ 70
  units : s.units.length ≤ 420
  works : s.works.length ≤ 70
  claims : s.claims.length ≤ 70
  memos : s.memos.length ≤ 70
  moves : s.moves.length ≤ 300
  keys : s.keys.length ≤ 40
  rows : s.rules.rows.length ≤ 30
  asks : s.rules.asks.length ≤ 20
  cuts : s.rules.cuts.length ≤ 20
  fees : s.rules.fees.length ≤ 20
  lines : ∀ o ∈ s.orders, o.ls.length ≤ 20 ∧ ∀ x ∈ o.ls, lnFew x
theorem f5 (s : Sta) : Spec P 5 [stA s] [] (fun r H => (∃ b, r = bV b ∧ (b = true → FewOk s)) ∧ H = []) := by
  refine spec_of hT (f := 5) (fn := Go.Proofs.Tryz.f5) (c := body Go.Proofs.Tryz.f5) (by kernel_rfl) (by kernel_rfl) ?_
  have hfalse : ∀ {H : List ABlk}, AFin 0 (bV false) H (fun r H => (∃ b, r = bV b ∧ (b = true → FewOk s)) ∧ H = []) := AFin.val rfl ⟨⟨false, rfl, fun h => Bool.noConfusion h⟩, rfl⟩
  conv => whnf
  repeat (first | refine go ?_ | ((first | refine AW.plan (id := 24) hm (.one 0 (.one 1 (.one 3 (.one 8 (.one 10 (.imm 2 (.one 4 (.one 5 (.imm 6 (.one 7 (.one 9 (.one 11 (.one 12 (.one 13 (.one 14 (.one 15 (.one 16 (.one 17 .nil)))))))))))))))))) (by kernel_rfl) ?_ | refine AW.plan (id := 28) hm (.one 0 (.one 1 (.one 3 (.one 9 (.one 11 (.imm 2 (.one 4 (.one 5 (.imm 6 (.one 7 (.one 8 (.one 10 (.one 12 (.one 13 (.one 14 (.one 15 (.one 16 (.one 17 (.one 18 (.one 19 .nil)))))))))))))))))))) (by kernel_rfl) ?_); conv => whnf))
  refine ASplit.dec (fun a0 => ?_) (fun a0 => ?_)
  · conv => whnf
    repeat (first | refine ru ?_ | ((first | refine AW.plan (id := 24) hm (.one 0 (.one 1 (.one 3 (.one 8 (.one 10 (.imm 2 (.one 4 (.one 5 (.imm 6 (.one 7 (.one 9 (.one 11 (.one 12 (.one 13 (.one 14 (.one 15 (.one 16 (.one 17 .nil)))))))))))))))))) (by kernel_rfl) ?_ | refine AW.plan (id := 28) hm (.one 0 (.one 1 (.one 3 (.one 9 (.one 11 (.imm 2 (.one 4 (.one 5 (.imm 6 (.one 7 (.one 8 (.one 10 (.one 12 (.one 13 (.one 14 (.one 15 (.one 16 (.one 17 (.one 18 (.one 19 .nil)))))))))))))))))))) (by kernel_rfl) ?_); conv => whnf))
    exact hfalse
  conv => whnf
  repeat (first | refine ru ?_ | ((first | refine AW.plan (id := 24) hm (.one 0 (.one 1 (.one 3 (.one 8 (.one 10 (.imm 2 (.one 4 (.one 5 (.imm 6 (.one 7 (.one 9 (.one 11 (.one 12 (.one 13 (.one 14 (.one 15 (.one 16 (.one 17 .nil)))))))))))))))))) (by kernel_rfl) ?_ | refine AW.plan (id := 28) hm (.one 0 (.one 1 (.one 3 (.one 9 (.one 11 (.imm 2 (.one 4 (.one 5 (.imm 6 (.one 7 (.one 8 (.one 10 (.one 12 (.one 13 (.one 14 (.one 15 (.one 16 (.one 17 (.one 18 (.one 19 .nil)))))))))))))))))))) (by kernel_rfl) ?_); conv => whnf))
  refine ASplit.dec (fun a1 => ?_) (fun a1 => ?_)
  · conv => whnf
    repeat (first | refine ru ?_ | ((first | refine AW.plan (id := 24) hm (.one 0 (.one 1 (.one 3 (.one 8 (.one 10 (.imm 2 (.one 4 (.one 5 (.imm 6 (.one 7 (.one 9 (.one 11 (.one 12 (.one 13 (.one 14 (.one 15 (.one 16 (.one 17 .nil)))))))))))))))))) (by kernel_rfl) ?_ | refine AW.plan (id := 28) hm (.one 0 (.one 1 (.one 3 (.one 9 (.one 11 (.imm 2 (.one 4 (.one 5 (.imm 6 (.one 7 (.one 8 (.one 10 (.one 12 (.one 13 (.one 14 (.one 15 (.one 16 (.one 17 (.one 18 (.one 19 .nil)))))))))))))))))))) (by kernel_rfl) ?_); conv => whnf))
    exact hfalse
  conv => whnf
  repeat (first | refine ru ?_ | ((first | refine AW.plan (id := 24) hm (.one 0 (.one 1 (.one 3 (.one 8 (.one 10 (.imm 2 (.one 4 (.one 5 (.imm 6 (.one 7 (.one 9 (.one 11 (.one 12 (.one 13 (.one 14 (.one 15 (.one 16 (.one 17 .nil)))))))))))))))))) (by kernel_rfl) ?_ | refine AW.plan (id := 28) hm (.one 0 (.one 1 (.one 3 (.one 9 (.one 11 (.imm 2 (.one 4 (.one 5 (.imm 6 (.one 7 (.one 8 (.one 10 (.one 12 (.one 13 (.one 14 (.one 15 (.one 16 (.one 17 (.one 18 (.one 19 .nil)))))))))))))))))))) (by kernel_rfl) ?_); conv => whnf))
  refine ASplit.dec (fun a2 => ?_) (fun a2 => ?_)
  · conv => whnf
    repeat (first | refine ru ?_ | ((first | refine AW.plan (id := 24) hm (.one 0 (.one 1 (.one 3 (.one 8 (.one 10 (.imm 2 (.one 4 (.one 5 (.imm 6 (.one 7 (.one 9 (.one 11 (.one 12 (.one 13 (.one 14 (.one 15 (.one 16 (.one 17 .nil)))))))))))))))))) (by kernel_rfl) ?_ | refine AW.plan (id := 28) hm (.one 0 (.one 1 (.one 3 (.one 9 (.one 11 (.imm 2 (.one 4 (.one 5 (.imm 6 (.one 7 (.one 8 (.one 10 (.one 12 (.one 13 (.one 14 (.one 15 (.one 16 (.one 17 (.one 18 (.one 19 .nil)))))))))))))))))))) (by kernel_rfl) ?_); conv => whnf))
    exact hfalse
  conv => whnf
  repeat (first | refine ru ?_ | ((first | refine AW.plan (id := 24) hm (.one 0 (.one 1 (.one 3 (.one 8 (.one 10 (.imm 2 (.one 4 (.one 5 (.imm 6 (.one 7 (.one 9 (.one 11 (.one 12 (.one 13 (.one 14 (.one 15 (.one 16 (.one 17 .nil)))))))))))))))))) (by kernel_rfl) ?_ | refine AW.plan (id := 28) hm (.one 0 (.one 1 (.one 3 (.one 9 (.one 11 (.imm 2 (.one 4 (.one 5 (.imm 6 (.one 7 (.one 8 (.one 10 (.one 12 (.one 13 (.one 14 (.one 15 (.one 16 (.one 17 (.one 18 (.one 19 .nil)))))))))))))))))))) (by kernel_rfl) ?_); conv => whnf))
  refine ASplit.dec (fun a3 => ?_) (fun a3 => ?_)
  · conv => whnf
    repeat (first | refine ru ?_ | ((first | refine AW.plan (id := 24) hm (.one 0 (.one 1 (.one 3 (.one 8 (.one 10 (.imm 2 (.one 4 (.one 5 (.imm 6 (.one 7 (.one 9 (.one 11 (.one 12 (.one 13 (.one 14 (.one 15 (.one 16 (.one 17 .nil)))))))))))))))))) (by kernel_rfl) ?_ | refine AW.plan (id := 28) hm (.one 0 (.one 1 (.one 3 (.one 9 (.one 11 (.imm 2 (.one 4 (.one 5 (.imm 6 (.one 7 (.one 8 (.one 10 (.one 12 (.one 13 (.one 14 (.one 15 (.one 16 (.one 17 (.one 18 (.one 19 .nil)))))))))))))))))))) (by kernel_rfl) ?_); conv => whnf))
    exact hfalse
  conv => whnf
  repeat (first | refine ru ?_ | ((first | refine AW.plan (id := 24) hm (.one 0 (.one 1 (.one 3 (.one 8 (.one 10 (.imm 2 (.one 4 (.one 5 (.imm 6 (.one 7 (.one 9 (.one 11 (.one 12 (.one 13 (.one 14 (.one 15 (.one 16 (.one 17 .nil)))))))))))))))))) (by kernel_rfl) ?_ | refine AW.plan (id := 28) hm (.one 0 (.one 1 (.one 3 (.one 9 (.one 11 (.imm 2 (.one 4 (.one 5 (.imm 6 (.one 7 (.one 8 (.one 10 (.one 12 (.one 13 (.one 14 (.one 15 (.one 16 (.one 17 (.one 18 (.one 19 .nil)))))))))))))))))))) (by kernel_rfl) ?_); conv => whnf))
  refine ASplit.dec (fun a4 => ?_) (fun a4 => ?_)
  · conv => whnf
    repeat (first | refine ru ?_ | ((first | refine AW.plan (id := 24) hm (.one 0 (.one 1 (.one 3 (.one 8 (.one 10 (.imm 2 (.one 4 (.one 5 (.imm 6 (.one 7 (.one 9 (.one 11 (.one 12 (.one 13 (.one 14 (.one 15 (.one 16 (.one 17 .nil)))))))))))))))))) (by kernel_rfl) ?_ | refine AW.plan (id := 28) hm (.one 0 (.one 1 (.one 3 (.one 9 (.one 11 (.imm 2 (.one 4 (.one 5 (.imm 6 (.one 7 (.one 8 (.one 10 (.one 12 (.one 13 (.one 14 (.one 15 (.one 16 (.one 17 (.one 18 (.one 19 .nil)))))))))))))))))))) (by kernel_rfl) ?_); conv => whnf))
    exact hfalse
  conv => whnf
  repeat (first | refine ru ?_ | ((first | refine AW.plan (id := 24) hm (.one 0 (.one 1 (.one 3 (.one 8 (.one 10 (.imm 2 (.one 4 (.one 5 (.imm 6 (.one 7 (.one 9 (.one 11 (.one 12 (.one 13 (.one 14 (.one 15 (.one 16 (.one 17 .nil)))))))))))))))))) (by kernel_rfl) ?_ | refine AW.plan (id := 28) hm (.one 0 (.one 1 (.one 3 (.one 9 (.one 11 (.imm 2 (.one 4 (.one 5 (.imm 6 (.one 7 (.one 8 (.one 10 (.one 12 (.one 13 (.one 14 (.one 15 (.one 16 (.one 17 (.one 18 (.one 19 .nil)))))))))))))))))))) (by kernel_rfl) ?_); conv => whnf))
  refine ASplit.dec (fun a5 => ?_) (fun a5 => ?_)
  · conv => whnf
    repeat (first | refine ru ?_ | ((first | refine AW.plan (id := 24) hm (.one 0 (.one 1 (.one 3 (.one 8 (.one 10 (.imm 2 (.one 4 (.one 5 (.imm 6 (.one 7 (.one 9 (.one 11 (.one 12 (.one 13 (.one 14 (.one 15 (.one 16 (.one 17 .nil)))))))))))))))))) (by kernel_rfl) ?_ | refine AW.plan (id := 28) hm (.one 0 (.one 1 (.one 3 (.one 9 (.one 11 (.imm 2 (.one 4 (.one 5 (.imm 6 (.one 7 (.one 8 (.one 10 (.one 12 (.one 13 (.one 14 (.one 15 (.one 16 (.one 17 (.one 18 (.one 19 .nil)))))))))))))))))))) (by kernel_rfl) ?_); conv => whnf))
    exact hfalse
  conv => whnf
  repeat (first | refine ru ?_ | ((first | refine AW.plan (id := 24) hm (.one 0 (.one 1 (.one 3 (.one 8 (.one 10 (.imm 2 (.one 4 (.one 5 (.imm 6 (.one 7 (.one 9 (.one 11 (.one 12 (.one 13 (.one 14 (.one 15 (.one 16 (.one 17 .nil)))))))))))))))))) (by kernel_rfl) ?_ | refine AW.plan (id := 28) hm (.one 0 (.one 1 (.one 3 (.one 9 (.one 11 (.imm 2 (.one 4 (.one 5 (.imm 6 (.one 7 (.one 8 (.one 10 (.one 12 (.one 13 (.one 14 (.one 15 (.one 16 (.one 17 (.one 18 (.one 19 .nil)))))))))))))))))))) (by kernel_rfl) ?_); conv => whnf))
  refine ASplit.dec (fun a6 => ?_) (fun a6 => ?_)
  · conv => whnf
    repeat (first | refine ru ?_ | ((first | refine AW.plan (id := 24) hm (.one 0 (.one 1 (.one 3 (.one 8 (.one 10 (.imm 2 (.one 4 (.one 5 (.imm 6 (.one 7 (.one 9 (.one 11 (.one 12 (.one 13 (.one 14 (.one 15 (.one 16 (.one 17 .nil)))))))))))))))))) (by kernel_rfl) ?_ | refine AW.plan (id := 28) hm (.one 0 (.one 1 (.one 3 (.one 9 (.one 11 (.imm 2 (.one 4 (.one 5 (.imm 6 (.one 7 (.one 8 (.one 10 (.one 12 (.one 13 (.one 14 (.one 15 (.one 16 (.one 17 (.one 18 (.one 19 .nil)))))))))))))))))))) (by kernel_rfl) ?_); conv => whnf))
    exact hfalse
  conv => whnf
  repeat (first | refine ru ?_ | ((first | refine AW.plan (id := 24) hm (.one 0 (.one 1 (.one 3 (.one 8 (.one 10 (.imm 2 (.one 4 (.one 5 (.imm 6 (.one 7 (.one 9 (.one 11 (.one 12 (.one 13 (.one 14 (.one 15 (.one 16 (.one 17 .nil)))))))))))))))))) (by kernel_rfl) ?_ | refine AW.plan (id := 28) hm (.one 0 (.one 1 (.one 3 (.one 9 (.one 11 (.imm 2 (.one 4 (.one 5 (.imm 6 (.one 7 (.one 8 (.one 10 (.one 12 (.one 13 (.one 14 (.one 15 (.one 16 (.one 17 (.one 18 (.one 19 .nil)))))))))))))))))))) (by kernel_rfl) ?_); conv => whnf))
  refine ASplit.dec (fun a7 => ?_) (fun a7 => ?_)
  · conv => whnf
    repeat (first | refine ru ?_ | ((first | refine AW.plan (id := 24) hm (.one 0 (.one 1 (.one 3 (.one 8 (.one 10 (.imm 2 (.one 4 (.one 5 (.imm 6 (.one 7 (.one 9 (.one 11 (.one 12 (.one 13 (.one 14 (.one 15 (.one 16 (.one 17 .nil)))))))))))))))))) (by kernel_rfl) ?_ | refine AW.plan (id := 28) hm (.one 0 (.one 1 (.one 3 (.one 9 (.one 11 (.imm 2 (.one 4 (.one 5 (.imm 6 (.one 7 (.one 8 (.one 10 (.one 12 (.one 13 (.one 14 (.one 15 (.one 16 (.one 17 (.one 18 (.one 19 .nil)))))))))))))))))))) (by kernel_rfl) ?_); conv => whnf))
    exact hfalse
  conv => whnf
  repeat (first | refine ru ?_ | ((first | refine AW.plan (id := 24) hm (.one 0 (.one 1 (.one 3 (.one 8 (.one 10 (.imm 2 (.one 4 (.one 5 (.imm 6 (.one 7 (.one 9 (.one 11 (.one 12 (.one 13 (.one 14 (.one 15 (.one 16 (.one 17 .nil)))))))))))))))))) (by kernel_rfl) ?_ | refine AW.plan (id := 28) hm (.one 0 (.one 1 (.one 3 (.one 9 (.one 11 (.imm 2 (.one 4 (.one 5 (.imm 6 (.one 7 (.one 8 (.one 10 (.one 12 (.one 13 (.one 14 (.one 15 (.one 16 (.one 17 (.one 18 (.one 19 .nil)))))))))))))))))))) (by kernel_rfl) ?_); conv => whnf))
  refine ASplit.dec (fun a8 => ?_) (fun a8 => ?_)
  · conv => whnf
    repeat (first | refine ru ?_ | ((first | refine AW.plan (id := 24) hm (.one 0 (.one 1 (.one 3 (.one 8 (.one 10 (.imm 2 (.one 4 (.one 5 (.imm 6 (.one 7 (.one 9 (.one 11 (.one 12 (.one 13 (.one 14 (.one 15 (.one 16 (.one 17 .nil)))))))))))))))))) (by kernel_rfl) ?_ | refine AW.plan (id := 28) hm (.one 0 (.one 1 (.one 3 (.one 9 (.one 11 (.imm 2 (.one 4 (.one 5 (.imm 6 (.one 7 (.one 8 (.one 10 (.one 12 (.one 13 (.one 14 (.one 15 (.one 16 (.one 17 (.one 18 (.one 19 .nil)))))))))))))))))))) (by kernel_rfl) ?_); conv => whnf))
    exact hfalse
  conv => whnf
  repeat (first | refine ru ?_ | ((first | refine AW.plan (id := 24) hm (.one 0 (.one 1 (.one 3 (.one 8 (.one 10 (.imm 2 (.one 4 (.one 5 (.imm 6 (.one 7 (.one 9 (.one 11 (.one 12 (.one 13 (.one 14 (.one 15 (.one 16 (.one 17 .nil)))))))))))))))))) (by kernel_rfl) ?_ | refine AW.plan (id := 28) hm (.one 0 (.one 1 (.one 3 (.one 9 (.one 11 (.imm 2 (.one 4 (.one 5 (.imm 6 (.one 7 (.one 8 (.one 10 (.one 12 (.one 13 (.one 14 (.one 15 (.one 16 (.one 17 (.one 18 (.one 19 .nil)))))))))))))))))))) (by kernel_rfl) ?_); conv => whnf))
  refine ASplit.dec (fun a9 => ?_) (fun a9 => ?_)
  · conv => whnf
    repeat (first | refine ru ?_ | ((first | refine AW.plan (id := 24) hm (.one 0 (.one 1 (.one 3 (.one 8 (.one 10 (.imm 2 (.one 4 (.one 5 (.imm 6 (.one 7 (.one 9 (.one 11 (.one 12 (.one 13 (.one 14 (.one 15 (.one 16 (.one 17 .nil)))))))))))))))))) (by kernel_rfl) ?_ | refine AW.plan (id := 28) hm (.one 0 (.one 1 (.one 3 (.one 9 (.one 11 (.imm 2 (.one 4 (.one 5 (.imm 6 (.one 7 (.one 8 (.one 10 (.one 12 (.one 13 (.one 14 (.one 15 (.one 16 (.one 17 (.one 18 (.one 19 .nil)))))))))))))))))))) (by kernel_rfl) ?_); conv => whnf))
    exact hfalse
  conv => whnf
  repeat (first | refine ru ?_ | ((first | refine AW.plan (id := 24) hm (.one 0 (.one 1 (.one 3 (.one 8 (.one 10 (.imm 2 (.one 4 (.one 5 (.imm 6 (.one 7 (.one 9 (.one 11 (.one 12 (.one 13 (.one 14 (.one 15 (.one 16 (.one 17 .nil)))))))))))))))))) (by kernel_rfl) ?_ | refine AW.plan (id := 28) hm (.one 0 (.one 1 (.one 3 (.one 9 (.one 11 (.imm 2 (.one 4 (.one 5 (.imm 6 (.one 7 (.one 8 (.one 10 (.one 12 (.one 13 (.one 14 (.one 15 (.one 16 (.one 17 (.one 18 (.one 19 .nil)))))))))))))))))))) (by kernel_rfl) ?_); conv => whnf))
  refine ASplit.dec (fun a10 => ?_) (fun a10 => ?_)
  · conv => whnf
    repeat (first | refine ru ?_ | ((first | refine AW.plan (id := 24) hm (.one 0 (.one 1 (.one 3 (.one 8 (.one 10 (.imm 2 (.one 4 (.one 5 (.imm 6 (.one 7 (.one 9 (.one 11 (.one 12 (.one 13 (.one 14 (.one 15 (.one 16 (.one 17 .nil)))))))))))))))))) (by kernel_rfl) ?_ | refine AW.plan (id := 28) hm (.one 0 (.one 1 (.one 3 (.one 9 (.one 11 (.imm 2 (.one 4 (.one 5 (.imm 6 (.one 7 (.one 8 (.one 10 (.one 12 (.one 13 (.one 14 (.one 15 (.one 16 (.one 17 (.one 18 (.one 19 .nil)))))))))))))))))))) (by kernel_rfl) ?_); conv => whnf))
    exact hfalse
  conv => whnf
  repeat (first | refine ru ?_ | ((first | refine AW.plan (id := 24) hm (.one 0 (.one 1 (.one 3 (.one 8 (.one 10 (.imm 2 (.one 4 (.one 5 (.imm 6 (.one 7 (.one 9 (.one 11 (.one 12 (.one 13 (.one 14 (.one 15 (.one 16 (.one 17 .nil)))))))))))))))))) (by kernel_rfl) ?_ | refine AW.plan (id := 28) hm (.one 0 (.one 1 (.one 3 (.one 9 (.one 11 (.imm 2 (.one 4 (.one 5 (.imm 6 (.one 7 (.one 8 (.one 10 (.one 12 (.one 13 (.one 14 (.one 15 (.one 16 (.one 17 (.one 18 (.one 19 .nil)))))))))))))))))))) (by kernel_rfl) ?_); conv => whnf))
  refine ASplit.dec (fun a11 => ?_) (fun a11 => ?_)
  · conv => whnf
    repeat (first | refine ru ?_ | ((first | refine AW.plan (id := 24) hm (.one 0 (.one 1 (.one 3 (.one 8 (.one 10 (.imm 2 (.one 4 (.one 5 (.imm 6 (.one 7 (.one 9 (.one 11 (.one 12 (.one 13 (.one 14 (.one 15 (.one 16 (.one 17 .nil)))))))))))))))))) (by kernel_rfl) ?_ | refine AW.plan (id := 28) hm (.one 0 (.one 1 (.one 3 (.one 9 (.one 11 (.imm 2 (.one 4 (.one 5 (.imm 6 (.one 7 (.one 8 (.one 10 (.one 12 (.one 13 (.one 14 (.one 15 (.one 16 (.one 17 (.one 18 (.one 19 .nil)))))))))))))))))))) (by kernel_rfl) ?_); conv => whnf))
    exact hfalse
  conv => whnf
  repeat (first | refine ru ?_ | ((first | refine AW.plan (id := 24) hm (.one 0 (.one 1 (.one 3 (.one 8 (.one 10 (.imm 2 (.one 4 (.one 5 (.imm 6 (.one 7 (.one 9 (.one 11 (.one 12 (.one 13 (.one 14 (.one 15 (.one 16 (.one 17 .nil)))))))))))))))))) (by kernel_rfl) ?_ | refine AW.plan (id := 28) hm (.one 0 (.one 1 (.one 3 (.one 9 (.one 11 (.imm 2 (.one 4 (.one 5 (.imm 6 (.one 7 (.one 8 (.one 10 (.one 12 (.one 13 (.one 14 (.one 15 (.one 16 (.one 17 (.one 18 (.one 19 .nil)))))))))))))))))))) (by kernel_rfl) ?_); conv => whnf))
  refine ACond.dec (fun a12 => ?_) (fun a12 => ?_)
  · conv => whnf
    repeat (first | refine ru ?_ | ((first | refine AW.plan (id := 24) hm (.one 0 (.one 1 (.one 3 (.one 8 (.one 10 (.imm 2 (.one 4 (.one 5 (.imm 6 (.one 7 (.one 9 (.one 11 (.one 12 (.one 13 (.one 14 (.one 15 (.one 16 (.one 17 .nil)))))))))))))))))) (by kernel_rfl) ?_ | refine AW.plan (id := 28) hm (.one 0 (.one 1 (.one 3 (.one 9 (.one 11 (.imm 2 (.one 4 (.one 5 (.imm 6 (.one 7 (.one 8 (.one 10 (.one 12 (.one 13 (.one 14 (.one 15 (.one 16 (.one 17 (.one 18 (.one 19 .nil)))))))))))))))))))) (by kernel_rfl) ?_); conv => whnf))
    exact hfalse
  conv => whnf
  repeat (first | refine ru ?_ | ((first | refine AW.plan (id := 24) hm (.one 0 (.one 1 (.one 3 (.one 8 (.one 10 (.imm 2 (.one 4 (.one 5 (.imm 6 (.one 7 (.one 9 (.one 11 (.one 12 (.one 13 (.one 14 (.one 15 (.one 16 (.one 17 .nil)))))))))))))))))) (by kernel_rfl) ?_ | refine AW.plan (id := 28) hm (.one 0 (.one 1 (.one 3 (.one 9 (.one 11 (.imm 2 (.one 4 (.one 5 (.imm 6 (.one 7 (.one 8 (.one 10 (.one 12 (.one 13 (.one 14 (.one 15 (.one 16 (.one 17 (.one 18 (.one 19 .nil)))))))))))))))))))) (by kernel_rfl) ?_); conv => whnf))
  refine ALoop.mk (fun n E H => ∃ (i : Nat) (m : Int), n = s.orders.length - i ∧ i ≤ s.orders.length ∧ (∀ k (hk : k < s.orders.length), k < i → s.orders[k].ls.length ≤ 20 ∧ ∀ x ∈ s.orders[k].ls, lnFew x) ∧
      E = pad [stA s, .ptr 0 0, bV false, nV m, nV i] 213 ∧ H = [.ice 36 (stC s)]) (n := s.orders.length) _ _
    ⟨0, 0, rfl, Nat.zero_le _, fun k _ hk => absurd hk (Nat.not_lt_zero _), rfl, rfl⟩ (Conv.trans (Conv.fit (by repeat' (first | exact Fit.nil | refine Fit.any ?_ | refine Fit.same ?_))) (Conv.freeze 0 rfl)) ?_
  rintro _ _ _ ⟨i, m, rfl, hi, hI, rfl, rfl⟩
  conv => whnf
  repeat (first | refine go ?_ | ((first | refine AW.plan (id := 24) hm (.one 0 (.one 1 (.one 3 (.one 8 (.one 10 (.imm 2 (.one 4 (.one 5 (.imm 6 (.one 7 (.one 9 (.one 11 (.one 12 (.one 13 (.one 14 (.one 15 (.one 16 (.one 17 .nil)))))))))))))))))) (by kernel_rfl) ?_ | refine AW.plan (id := 28) hm (.one 0 (.one 1 (.one 3 (.one 9 (.one 11 (.imm 2 (.one 4 (.one 5 (.imm 6 (.one 7 (.one 8 (.one 10 (.one 12 (.one 13 (.one 14 (.one 15 (.one 16 (.one 17 (.one 18 (.one 19 .nil)))))))))))))))))))) (by kernel_rfl) ?_); conv => whnf))
  refine ACond.dec (fun h2 => ?_) (fun h2 => ?_)
  · have hil : i < s.orders.length := by omega
    have w1 : IntKind.wrap .i64 ((i : Int) + 1) = ((i + 1 : Nat) : Int) := by rw [wrap_i64 _ (by omega) (by omega)]; omega
    conv => whnf
    repeat (first | refine go ?_ | ((first | refine AW.plan (id := 24) hm (.one 0 (.one 1 (.one 3 (.one 8 (.one 10 (.imm 2 (.one 4 (.one 5 (.imm 6 (.one 7 (.one 9 (.one 11 (.one 12 (.one 13 (.one 14 (.one 15 (.one 16 (.one 17 .nil)))))))))))))))))) (by kernel_rfl) ?_ | refine AW.plan (id := 28) hm (.one 0 (.one 1 (.one 3 (.one 9 (.one 11 (.imm 2 (.one 4 (.one 5 (.imm 6 (.one 7 (.one 8 (.one 10 (.one 12 (.one 13 (.one 14 (.one 15 (.one 16 (.one 17 (.one 18 (.one 19 .nil)))))))))))))))))))) (by kernel_rfl) ?_ | refine AReq.mk (by omega) ?_ | refine AIdx.flat (enc := odC) odC_len (xs := s.orders) (i := i) hil ?_); conv => whnf))
    refine ACall.spec (args := [lnsV s.orders[i].ls]) (by kernel_rfl) (f14 s.orders[i].ls) (by (first | rfl | (simp only [renL, AV.ren, List.nil_append, List.cons_append, rens]; try rfl))) ?_
    rintro _ _ ⟨⟨b, rfl, hb, _⟩, rfl⟩
    cases b with
    | false =>
      conv => whnf
      repeat (first | refine ru ?_ | ((first | refine AW.plan (id := 24) hm (.one 0 (.one 1 (.one 3 (.one 8 (.one 10 (.imm 2 (.one 4 (.one 5 (.imm 6 (.one 7 (.one 9 (.one 11 (.one 12 (.one 13 (.one 14 (.one 15 (.one 16 (.one 17 .nil)))))))))))))))))) (by kernel_rfl) ?_ | refine AW.plan (id := 28) hm (.one 0 (.one 1 (.one 3 (.one 9 (.one 11 (.imm 2 (.one 4 (.one 5 (.imm 6 (.one 7 (.one 8 (.one 10 (.one 12 (.one 13 (.one 14 (.one 15 (.one 16 (.one 17 (.one 18 (.one 19 .nil)))))))))))))))))))) (by kernel_rfl) ?_); conv => whnf))
      refine AOut.stay ?_
      conv => whnf
      repeat (first | refine ru ?_ | ((first | refine AW.plan (id := 24) hm (.one 0 (.one 1 (.one 3 (.one 8 (.one 10 (.imm 2 (.one 4 (.one 5 (.imm 6 (.one 7 (.one 9 (.one 11 (.one 12 (.one 13 (.one 14 (.one 15 (.one 16 (.one 17 .nil)))))))))))))))))) (by kernel_rfl) ?_ | refine AW.plan (id := 28) hm (.one 0 (.one 1 (.one 3 (.one 9 (.one 11 (.imm 2 (.one 4 (.one 5 (.imm 6 (.one 7 (.one 8 (.one 10 (.one 12 (.one 13 (.one 14 (.one 15 (.one 16 (.one 17 (.one 18 (.one 19 .nil)))))))))))))))))))) (by kernel_rfl) ?_); conv => whnf))
      exact hfalse
    | true =>
    have hb := hb rfl
    conv => whnf
    repeat (first | refine ru ?_ | ((first | refine AW.plan (id := 24) hm (.one 0 (.one 1 (.one 3 (.one 8 (.one 10 (.imm 2 (.one 4 (.one 5 (.imm 6 (.one 7 (.one 9 (.one 11 (.one 12 (.one 13 (.one 14 (.one 15 (.one 16 (.one 17 .nil)))))))))))))))))) (by kernel_rfl) ?_ | refine AW.plan (id := 28) hm (.one 0 (.one 1 (.one 3 (.one 9 (.one 11 (.imm 2 (.one 4 (.one 5 (.imm 6 (.one 7 (.one 8 (.one 10 (.one 12 (.one 13 (.one 14 (.one 15 (.one 16 (.one 17 (.one 18 (.one 19 .nil)))))))))))))))))))) (by kernel_rfl) ?_); conv => whnf))
    refine ALoop.mk (fun n E H => ∃ (k : Nat) (m : Int), n = s.orders[i].ls.length - k ∧ k ≤ s.orders[i].ls.length ∧
        E = pad [stA s, .ptr 0 0, bV false, nV m, nV i, nV k] 213 ∧ H = [.ice 36 (stC s)]) (n := s.orders[i].ls.length) _ _
      ⟨0, m, rfl, Nat.zero_le _, rfl, rfl⟩ (Conv.fit (by repeat' (first | exact Fit.nil | refine Fit.any ?_ | refine Fit.same ?_))) ?_
    rintro _ _ _ ⟨k, m, rfl, hk, rfl, rfl⟩
    conv => whnf
    repeat (first | refine go ?_ | ((first | refine AW.plan (id := 24) hm (.one 0 (.one 1 (.one 3 (.one 8 (.one 10 (.imm 2 (.one 4 (.one 5 (.imm 6 (.one 7 (.one 9 (.one 11 (.one 12 (.one 13 (.one 14 (.one 15 (.one 16 (.one 17 .nil)))))))))))))))))) (by kernel_rfl) ?_ | refine AW.plan (id := 28) hm (.one 0 (.one 1 (.one 3 (.one 9 (.one 11 (.imm 2 (.one 4 (.one 5 (.imm 6 (.one 7 (.one 8 (.one 10 (.one 12 (.one 13 (.one 14 (.one 15 (.one 16 (.one 17 (.one 18 (.one 19 .nil)))))))))))))))))))) (by kernel_rfl) ?_ | refine AReq.mk (by omega) ?_ | refine AIdx.flat (enc := odC) odC_len (xs := s.orders) (i := i) hil ?_); conv => whnf))
    refine ACond.dec (fun h4 => ?_) (fun h4 => ?_)
    · have hkl : k < s.orders[i].ls.length := by omega
      have w2 : IntKind.wrap .i64 ((k : Int) + 1) = ((k + 1 : Nat) : Int) := by rw [wrap_i64 _ (by omega) (by omega)]; omega
      conv => whnf
      repeat (first | refine go ?_ | ((first | refine AW.plan (id := 24) hm (.one 0 (.one 1 (.one 3 (.one 8 (.one 10 (.imm 2 (.one 4 (.one 5 (.imm 6 (.one 7 (.one 9 (.one 11 (.one 12 (.one 13 (.one 14 (.one 15 (.one 16 (.one 17 .nil)))))))))))))))))) (by kernel_rfl) ?_ | refine AW.plan (id := 28) hm (.one 0 (.one 1 (.one 3 (.one 9 (.one 11 (.imm 2 (.one 4 (.one 5 (.imm 6 (.one 7 (.one 8 (.one 10 (.one 12 (.one 13 (.one 14 (.one 15 (.one 16 (.one 17 (.one 18 (.one 19 .nil)))))))))))))))))))) (by kernel_rfl) ?_ | refine AReq.mk (by omega) ?_ | refine AIdx.flat (enc := odC) odC_len (xs := s.orders) (i := i) hil ?_ | refine AIdx.flat (enc := lnC) lnC_len (xs := s.orders[i].ls) (i := k) hkl ?_); conv => whnf))
      rw [w2]
      exact AHead.mk (s.orders[i].ls.length - (k + 1)) _ _ (by omega) ⟨k + 1, _, rfl, by omega, rfl, rfl⟩ (Conv.fit (by repeat' (first | exact Fit.nil | refine Fit.any ?_ | refine Fit.same ?_)))
    · conv => whnf
      repeat (first | refine go ?_ | ((first | refine AW.plan (id := 24) hm (.one 0 (.one 1 (.one 3 (.one 8 (.one 10 (.imm 2 (.one 4 (.one 5 (.imm 6 (.one 7 (.one 9 (.one 11 (.one 12 (.one 13 (.one 14 (.one 15 (.one 16 (.one 17 .nil)))))))))))))))))) (by kernel_rfl) ?_ | refine AW.plan (id := 28) hm (.one 0 (.one 1 (.one 3 (.one 9 (.one 11 (.imm 2 (.one 4 (.one 5 (.imm 6 (.one 7 (.one 8 (.one 10 (.one 12 (.one 13 (.one 14 (.one 15 (.one 16 (.one 17 (.one 18 (.one 19 .nil)))))))))))))))))))) (by kernel_rfl) ?_ | refine AReq.mk (by omega) ?_ | refine AIdx.flat (enc := odC) odC_len (xs := s.orders) (i := i) hil ?_ | refine AIdx.flat (enc := lnC) lnC_len (xs := s.orders[i].ls) (i := k) hkl ?_); conv => whnf))
      refine AOut.stay ?_
      conv => whnf
      repeat (first | refine go ?_ | ((first | refine AW.plan (id := 24) hm (.one 0 (.one 1 (.one 3 (.one 8 (.one 10 (.imm 2 (.one 4 (.one 5 (.imm 6 (.one 7 (.one 9 (.one 11 (.one 12 (.one 13 (.one 14 (.one 15 (.one 16 (.one 17 .nil)))))))))))))))))) (by kernel_rfl) ?_ | refine AW.plan (id := 28) hm (.one 0 (.one 1 (.one 3 (.one 9 (.one 11 (.imm 2 (.one 4 (.one 5 (.imm 6 (.one 7 (.one 8 (.one 10 (.one 12 (.one 13 (.one 14 (.one 15 (.one 16 (.one 17 (.one 18 (.one 19 .nil)))))))))))))))))))) (by kernel_rfl) ?_ | refine AReq.mk (by omega) ?_ | refine AIdx.flat (enc := odC) odC_len (xs := s.orders) (i := i) hil ?_ | refine AIdx.flat (enc := lnC) lnC_len (xs := s.orders[i].ls) (i := k) hkl ?_); conv => whnf))
      rw [w1]
      refine AHead.mk (s.orders.length - (i + 1)) _ _ (by omega) ⟨i + 1, m, rfl, by omega, ?_, rfl, rfl⟩ (Conv.fit (by repeat' (first | exact Fit.nil | refine Fit.any ?_ | refine Fit.same ?_)))
      intro j hj hji
      rcases Nat.lt_or_ge j i with g | g
      · exact hI j hj g
      · obtain rfl : j = i := by omega
        exact hb
  have hlines : ∀ o ∈ s.orders, o.ls.length ≤ 20 ∧ ∀ x ∈ o.ls, lnFew x := fun o ho => by
    obtain ⟨k, hk, rfl⟩ := List.mem_iff_getElem.1 ho
    exact hI k hk (by omega)
  have hfew : FewOk s := ⟨by omega, by omega, by omega, by omega, by omega, by omega, by omega, by omega, by omega, by omega, by omega, by omega, by omega, hlines⟩
  conv => whnf
  repeat (first | refine go ?_ | ((first | refine AW.plan (id := 24) hm (.one 0 (.one 1 (.one 3 (.one 8 (.one 10 (.imm 2 (.one 4 (.one 5 (.imm 6 (.one 7 (.one 9 (.one 11 (.one 12 (.one 13 (.one 14 (.one 15 (.one 16 (.one 17 .nil)))))))))))))))))) (by kernel_rfl) ?_ | refine AW.plan (id := 28) hm (.one 0 (.one 1 (.one 3 (.one 9 (.one 11 (.imm 2 (.one 4 (.one 5 (.imm 6 (.one 7 (.one 8 (.one 10 (.one 12 (.one 13 (.one 14 (.one 15 (.one 16 (.one 17 (.one 18 (.one 19 .nil)))))))))))))))))))) (by kernel_rfl) ?_); conv => whnf))
  refine AOut.stay ?_
  conv => whnf
  repeat (first | refine go ?_ | ((first | refine AW.plan (id := 24) hm (.one 0 (.one 1 (.one 3 (.one 8 (.one 10 (.imm 2 (.one 4 (.one 5 (.imm 6 (.one 7 (.one 9 (.one 11 (.one 12 (.one 13 (.one 14 (.one 15 (.one 16 (.one 17 .nil)))))))))))))))))) (by kernel_rfl) ?_ | refine AW.plan (id := 28) hm (.one 0 (.one 1 (.one 3 (.one 9 (.one 11 (.imm 2 (.one 4 (.one 5 (.imm 6 (.one 7 (.one 8 (.one 10 (.one 12 (.one 13 (.one 14 (.one 15 (.one 16 (.one 17 (.one 18 (.one 19 .nil)))))))))))))))))))) (by kernel_rfl) ?_); conv => whnf))
  refine ALoop.mk (fun n E H => ∃ (i : Nat) (m : Int), n = s.rmas.length - i ∧ i ≤ s.rmas.length ∧
      E = pad [stA s, .ptr 0 0, bV false, nV m, .any, .any, nV i] 213 ∧ H = [.ice 36 (stC s)]) (n := s.rmas.length) _ _
    ⟨0, m, rfl, Nat.zero_le _, rfl, rfl⟩ (Conv.fit (by repeat' (first | exact Fit.nil | refine Fit.any ?_ | refine Fit.same ?_))) ?_
  rintro _ _ _ ⟨i, m, rfl, hi, rfl, rfl⟩
  conv => whnf
  repeat (first | refine go ?_ | ((first | refine AW.plan (id := 24) hm (.one 0 (.one 1 (.one 3 (.one 8 (.one 10 (.imm 2 (.one 4 (.one 5 (.imm 6 (.one 7 (.one 9 (.one 11 (.one 12 (.one 13 (.one 14 (.one 15 (.one 16 (.one 17 .nil)))))))))))))))))) (by kernel_rfl) ?_ | refine AW.plan (id := 28) hm (.one 0 (.one 1 (.one 3 (.one 9 (.one 11 (.imm 2 (.one 4 (.one 5 (.imm 6 (.one 7 (.one 8 (.one 10 (.one 12 (.one 13 (.one 14 (.one 15 (.one 16 (.one 17 (.one 18 (.one 19 .nil)))))))))))))))))))) (by kernel_rfl) ?_); conv => whnf))
  refine ACond.dec (fun h2 => ?_) (fun h2 => ?_)
  · have hil : i < s.rmas.length := by omega
    have w1 : IntKind.wrap .i64 ((i : Int) + 1) = ((i + 1 : Nat) : Int) := by rw [wrap_i64 _ (by omega) (by omega)]; omega
    conv => whnf
    repeat (first | refine go ?_ | ((first | refine AW.plan (id := 24) hm (.one 0 (.one 1 (.one 3 (.one 8 (.one 10 (.imm 2 (.one 4 (.one 5 (.imm 6 (.one 7 (.one 9 (.one 11 (.one 12 (.one 13 (.one 14 (.one 15 (.one 16 (.one 17 .nil)))))))))))))))))) (by kernel_rfl) ?_ | refine AW.plan (id := 28) hm (.one 0 (.one 1 (.one 3 (.one 9 (.one 11 (.imm 2 (.one 4 (.one 5 (.imm 6 (.one 7 (.one 8 (.one 10 (.one 12 (.one 13 (.one 14 (.one 15 (.one 16 (.one 17 (.one 18 (.one 19 .nil)))))))))))))))))))) (by kernel_rfl) ?_ | refine AReq.mk (by first | omega | decide) ?_ | refine AIdx.flat (enc := rmC) rmC_len (xs := s.rmas) (i := i) hil ?_); conv => whnf))
    rw [w1]
    exact AHead.mk (s.rmas.length - (i + 1)) _ _ (by omega) ⟨i + 1, _, rfl, by omega, rfl, rfl⟩ (Conv.fit (by repeat' (first | exact Fit.nil | refine Fit.any ?_ | refine Fit.same ?_)))
  conv => whnf
  repeat (first | refine go ?_ | ((first | refine AW.plan (id := 24) hm (.one 0 (.one 1 (.one 3 (.one 8 (.one 10 (.imm 2 (.one 4 (.one 5 (.imm 6 (.one 7 (.one 9 (.one 11 (.one 12 (.one 13 (.one 14 (.one 15 (.one 16 (.one 17 .nil)))))))))))))))))) (by kernel_rfl) ?_ | refine AW.plan (id := 28) hm (.one 0 (.one 1 (.one 3 (.one 9 (.one 11 (.imm 2 (.one 4 (.one 5 (.imm 6 (.one 7 (.one 8 (.one 10 (.one 12 (.one 13 (.one 14 (.one 15 (.one 16 (.one 17 (.one 18 (.one 19 .nil)))))))))))))))))))) (by kernel_rfl) ?_); conv => whnf))
  refine AOut.stay ?_
  conv => whnf
  repeat (first | refine go ?_ | ((first | refine AW.plan (id := 24) hm (.one 0 (.one 1 (.one 3 (.one 8 (.one 10 (.imm 2 (.one 4 (.one 5 (.imm 6 (.one 7 (.one 9 (.one 11 (.one 12 (.one 13 (.one 14 (.one 15 (.one 16 (.one 17 .nil)))))))))))))))))) (by kernel_rfl) ?_ | refine AW.plan (id := 28) hm (.one 0 (.one 1 (.one 3 (.one 9 (.one 11 (.imm 2 (.one 4 (.one 5 (.imm 6 (.one 7 (.one 8 (.one 10 (.one 12 (.one 13 (.one 14 (.one 15 (.one 16 (.one 17 (.one 18 (.one 19 .nil)))))))))))))))))))) (by kernel_rfl) ?_); conv => whnf))
  refine ALoop.mk (fun n E H => ∃ (i : Nat) (m : Int), n = s.claims.length - i ∧ i ≤ s.claims.length ∧
      E = pad [stA s, .ptr 0 0, bV false, nV m, .any, .any, .any, nV i] 213 ∧ H = [.ice 36 (stC s)]) (n := s.claims.length) _ _
    ⟨0, m, rfl, Nat.zero_le _, rfl, rfl⟩ (Conv.fit (by repeat' (first | exact Fit.nil | refine Fit.any ?_ | refine Fit.same ?_))) ?_
  rintro _ _ _ ⟨i, m, rfl, hi, rfl, rfl⟩
  conv => whnf
  repeat (first | refine go ?_ | ((first | refine AW.plan (id := 24) hm (.one 0 (.one 1 (.one 3 (.one 8 (.one 10 (.imm 2 (.one 4 (.one 5 (.imm 6 (.one 7 (.one 9 (.one 11 (.one 12 (.one 13 (.one 14 (.one 15 (.one 16 (.one 17 .nil)))))))))))))))))) (by kernel_rfl) ?_ | refine AW.plan (id := 28) hm (.one 0 (.one 1 (.one 3 (.one 9 (.one 11 (.imm 2 (.one 4 (.one 5 (.imm 6 (.one 7 (.one 8 (.one 10 (.one 12 (.one 13 (.one 14 (.one 15 (.one 16 (.one 17 (.one 18 (.one 19 .nil)))))))))))))))))))) (by kernel_rfl) ?_); conv => whnf))
  refine ACond.dec (fun h2 => ?_) (fun h2 => ?_)
  · have hil : i < s.claims.length := by omega
    have w1 : IntKind.wrap .i64 ((i : Int) + 1) = ((i + 1 : Nat) : Int) := by rw [wrap_i64 _ (by omega) (by omega)]; omega
    conv => whnf
    repeat (first | refine go ?_ | ((first | refine AW.plan (id := 24) hm (.one 0 (.one 1 (.one 3 (.one 8 (.one 10 (.imm 2 (.one 4 (.one 5 (.imm 6 (.one 7 (.one 9 (.one 11 (.one 12 (.one 13 (.one 14 (.one 15 (.one 16 (.one 17 .nil)))))))))))))))))) (by kernel_rfl) ?_ | refine AW.plan (id := 28) hm (.one 0 (.one 1 (.one 3 (.one 9 (.one 11 (.imm 2 (.one 4 (.one 5 (.imm 6 (.one 7 (.one 8 (.one 10 (.one 12 (.one 13 (.one 14 (.one 15 (.one 16 (.one 17 (.one 18 (.one 19 .nil)))))))))))))))))))) (by kernel_rfl) ?_ | refine AReq.mk (by first | omega | decide) ?_ | refine AIdx.flat (enc := clC) clC_len (xs := s.claims) (i := i) hil ?_); conv => whnf))
    rw [w1]
    exact AHead.mk (s.claims.length - (i + 1)) _ _ (by omega) ⟨i + 1, _, rfl, by omega, rfl, rfl⟩ (Conv.fit (by repeat' (first | exact Fit.nil | refine Fit.any ?_ | refine Fit.same ?_)))
  conv => whnf
  repeat (first | refine go ?_ | ((first | refine AW.plan (id := 24) hm (.one 0 (.one 1 (.one 3 (.one 8 (.one 10 (.imm 2 (.one 4 (.one 5 (.imm 6 (.one 7 (.one 9 (.one 11 (.one 12 (.one 13 (.one 14 (.one 15 (.one 16 (.one 17 .nil)))))))))))))))))) (by kernel_rfl) ?_ | refine AW.plan (id := 28) hm (.one 0 (.one 1 (.one 3 (.one 9 (.one 11 (.imm 2 (.one 4 (.one 5 (.imm 6 (.one 7 (.one 8 (.one 10 (.one 12 (.one 13 (.one 14 (.one 15 (.one 16 (.one 17 (.one 18 (.one 19 .nil)))))))))))))))))))) (by kernel_rfl) ?_); conv => whnf))
  refine AOut.stay ?_
  conv => whnf
  repeat (first | refine go ?_ | ((first | refine AW.plan (id := 24) hm (.one 0 (.one 1 (.one 3 (.one 8 (.one 10 (.imm 2 (.one 4 (.one 5 (.imm 6 (.one 7 (.one 9 (.one 11 (.one 12 (.one 13 (.one 14 (.one 15 (.one 16 (.one 17 .nil)))))))))))))))))) (by kernel_rfl) ?_ | refine AW.plan (id := 28) hm (.one 0 (.one 1 (.one 3 (.one 9 (.one 11 (.imm 2 (.one 4 (.one 5 (.imm 6 (.one 7 (.one 8 (.one 10 (.one 12 (.one 13 (.one 14 (.one 15 (.one 16 (.one 17 (.one 18 (.one 19 .nil)))))))))))))))))))) (by kernel_rfl) ?_); conv => whnf))
  refine ALoop.mk (fun n E H => ∃ (i : Nat) (m : Int), n = s.memos.length - i ∧ i ≤ s.memos.length ∧
      E = pad [stA s, .ptr 0 0, bV false, nV m, .any, .any, .any, .any, nV i] 213 ∧ H = [.ice 36 (stC s)]) (n := s.memos.length) _ _
    ⟨0, m, rfl, Nat.zero_le _, rfl, rfl⟩ (Conv.fit (by repeat' (first | exact Fit.nil | refine Fit.any ?_ | refine Fit.same ?_))) ?_
  rintro _ _ _ ⟨i, m, rfl, hi, rfl, rfl⟩
  conv => whnf
  repeat (first | refine go ?_ | ((first | refine AW.plan (id := 24) hm (.one 0 (.one 1 (.one 3 (.one 8 (.one 10 (.imm 2 (.one 4 (.one 5 (.imm 6 (.one 7 (.one 9 (.one 11 (.one 12 (.one 13 (.one 14 (.one 15 (.one 16 (.one 17 .nil)))))))))))))))))) (by kernel_rfl) ?_ | refine AW.plan (id := 28) hm (.one 0 (.one 1 (.one 3 (.one 9 (.one 11 (.imm 2 (.one 4 (.one 5 (.imm 6 (.one 7 (.one 8 (.one 10 (.one 12 (.one 13 (.one 14 (.one 15 (.one 16 (.one 17 (.one 18 (.one 19 .nil)))))))))))))))))))) (by kernel_rfl) ?_); conv => whnf))
  refine ACond.dec (fun h2 => ?_) (fun h2 => ?_)
  · have hil : i < s.memos.length := by omega
    have w1 : IntKind.wrap .i64 ((i : Int) + 1) = ((i + 1 : Nat) : Int) := by rw [wrap_i64 _ (by omega) (by omega)]; omega
    conv => whnf
    repeat (first | refine go ?_ | ((first | refine AW.plan (id := 24) hm (.one 0 (.one 1 (.one 3 (.one 8 (.one 10 (.imm 2 (.one 4 (.one 5 (.imm 6 (.one 7 (.one 9 (.one 11 (.one 12 (.one 13 (.one 14 (.one 15 (.one 16 (.one 17 .nil)))))))))))))))))) (by kernel_rfl) ?_ | refine AW.plan (id := 28) hm (.one 0 (.one 1 (.one 3 (.one 9 (.one 11 (.imm 2 (.one 4 (.one 5 (.imm 6 (.one 7 (.one 8 (.one 10 (.one 12 (.one 13 (.one 14 (.one 15 (.one 16 (.one 17 (.one 18 (.one 19 .nil)))))))))))))))))))) (by kernel_rfl) ?_ | refine AReq.mk (by first | omega | decide) ?_ | refine AIdx.flat (enc := moC) moC_len (xs := s.memos) (i := i) hil ?_); conv => whnf))
    rw [w1]
    exact AHead.mk (s.memos.length - (i + 1)) _ _ (by omega) ⟨i + 1, _, rfl, by omega, rfl, rfl⟩ (Conv.fit (by repeat' (first | exact Fit.nil | refine Fit.any ?_ | refine Fit.same ?_)))
  conv => whnf
  repeat (first | refine go ?_ | ((first | refine AW.plan (id := 24) hm (.one 0 (.one 1 (.one 3 (.one 8 (.one 10 (.imm 2 (.one 4 (.one 5 (.imm 6 (.one 7 (.one 9 (.one 11 (.one 12 (.one 13 (.one 14 (.one 15 (.one 16 (.one 17 .nil)))))))))))))))))) (by kernel_rfl) ?_ | refine AW.plan (id := 28) hm (.one 0 (.one 1 (.one 3 (.one 9 (.one 11 (.imm 2 (.one 4 (.one 5 (.imm 6 (.one 7 (.one 8 (.one 10 (.one 12 (.one 13 (.one 14 (.one 15 (.one 16 (.one 17 (.one 18 (.one 19 .nil)))))))))))))))))))) (by kernel_rfl) ?_); conv => whnf))
  refine AOut.stay ?_
  conv => whnf
  repeat (first | refine go ?_ | ((first | refine AW.plan (id := 24) hm (.one 0 (.one 1 (.one 3 (.one 8 (.one 10 (.imm 2 (.one 4 (.one 5 (.imm 6 (.one 7 (.one 9 (.one 11 (.one 12 (.one 13 (.one 14 (.one 15 (.one 16 (.one 17 .nil)))))))))))))))))) (by kernel_rfl) ?_ | refine AW.plan (id := 28) hm (.one 0 (.one 1 (.one 3 (.one 9 (.one 11 (.imm 2 (.one 4 (.one 5 (.imm 6 (.one 7 (.one 8 (.one 10 (.one 12 (.one 13 (.one 14 (.one 15 (.one 16 (.one 17 (.one 18 (.one 19 .nil)))))))))))))))))))) (by kernel_rfl) ?_); conv => whnf))
  refine ALoop.mk (fun n E H => ∃ (i : Nat) (m : Int), n = s.keys.length - i ∧ i ≤ s.keys.length ∧
      E = pad [stA s, .ptr 0 0, bV false, nV m, .any, .any, .any, .any, .any, nV i] 213 ∧ H = [.ice 36 (stC s)]) (n := s.keys.length) _ _
    ⟨0, m, rfl, Nat.zero_le _, rfl, rfl⟩ (Conv.fit (by repeat' (first | exact Fit.nil | refine Fit.any ?_ | refine Fit.same ?_))) ?_
  rintro _ _ _ ⟨i, m, rfl, hi, rfl, rfl⟩
  conv => whnf
  repeat (first | refine go ?_ | ((first | refine AW.plan (id := 24) hm (.one 0 (.one 1 (.one 3 (.one 8 (.one 10 (.imm 2 (.one 4 (.one 5 (.imm 6 (.one 7 (.one 9 (.one 11 (.one 12 (.one 13 (.one 14 (.one 15 (.one 16 (.one 17 .nil)))))))))))))))))) (by kernel_rfl) ?_ | refine AW.plan (id := 28) hm (.one 0 (.one 1 (.one 3 (.one 9 (.one 11 (.imm 2 (.one 4 (.one 5 (.imm 6 (.one 7 (.one 8 (.one 10 (.one 12 (.one 13 (.one 14 (.one 15 (.one 16 (.one 17 (.one 18 (.one 19 .nil)))))))))))))))))))) (by kernel_rfl) ?_); conv => whnf))
  refine ACond.dec (fun h2 => ?_) (fun h2 => ?_)
  · have hil : i < s.keys.length := by omega
    have w1 : IntKind.wrap .i64 ((i : Int) + 1) = ((i + 1 : Nat) : Int) := by rw [wrap_i64 _ (by omega) (by omega)]; omega
    conv => whnf
    repeat (first | refine go ?_ | ((first | refine AW.plan (id := 24) hm (.one 0 (.one 1 (.one 3 (.one 8 (.one 10 (.imm 2 (.one 4 (.one 5 (.imm 6 (.one 7 (.one 9 (.one 11 (.one 12 (.one 13 (.one 14 (.one 15 (.one 16 (.one 17 .nil)))))))))))))))))) (by kernel_rfl) ?_ | refine AW.plan (id := 28) hm (.one 0 (.one 1 (.one 3 (.one 9 (.one 11 (.imm 2 (.one 4 (.one 5 (.imm 6 (.one 7 (.one 8 (.one 10 (.one 12 (.one 13 (.one 14 (.one 15 (.one 16 (.one 17 (.one 18 (.one 19 .nil)))))))))))))))))))) (by kernel_rfl) ?_ | refine AReq.mk (by first | omega | decide) ?_ | refine AIdx.flat (enc := dnC) dnC_len (xs := s.keys) (i := i) hil ?_); conv => whnf))
    rw [w1]
    exact AHead.mk (s.keys.length - (i + 1)) _ _ (by omega) ⟨i + 1, _, rfl, by omega, rfl, rfl⟩ (Conv.fit (by repeat' (first | exact Fit.nil | refine Fit.any ?_ | refine Fit.same ?_)))
  conv => whnf
  repeat (first | refine go ?_ | ((first | refine AW.plan (id := 24) hm (.one 0 (.one 1 (.one 3 (.one 8 (.one 10 (.imm 2 (.one 4 (.one 5 (.imm 6 (.one 7 (.one 9 (.one 11 (.one 12 (.one 13 (.one 14 (.one 15 (.one 16 (.one 17 .nil)))))))))))))))))) (by kernel_rfl) ?_ | refine AW.plan (id := 28) hm (.one 0 (.one 1 (.one 3 (.one 9 (.one 11 (.imm 2 (.one 4 (.one 5 (.imm 6 (.one 7 (.one 8 (.one 10 (.one 12 (.one 13 (.one 14 (.one 15 (.one 16 (.one 17 (.one 18 (.one 19 .nil)))))))))))))))))))) (by kernel_rfl) ?_); conv => whnf))
  refine AOut.stay ?_
  conv => whnf
  repeat (first | refine go ?_ | ((first | refine AW.plan (id := 24) hm (.one 0 (.one 1 (.one 3 (.one 8 (.one 10 (.imm 2 (.one 4 (.one 5 (.imm 6 (.one 7 (.one 9 (.one 11 (.one 12 (.one 13 (.one 14 (.one 15 (.one 16 (.one 17 .nil)))))))))))))))))) (by kernel_rfl) ?_ | refine AW.plan (id := 28) hm (.one 0 (.one 1 (.one 3 (.one 9 (.one 11 (.imm 2 (.one 4 (.one 5 (.imm 6 (.one 7 (.one 8 (.one 10 (.one 12 (.one 13 (.one 14 (.one 15 (.one 16 (.one 17 (.one 18 (.one 19 .nil)))))))))))))))))))) (by kernel_rfl) ?_); conv => whnf))
  exact AFin.val rfl ⟨⟨_, rfl, fun _ => hfew⟩, rfl⟩
end Go.Aw.U1

