/-
  The statement AuditMoney: what was paid back is from nothing to what was paid, units that are left and that are done are all, and no more units are there than were shipped, without any condition.
-/
import Derived.Test.YtgpnhbekepoebaaGreatQ05
set_option linter.unusedSimpArgs false
set_option linter.unusedVariables false
set_option linter.unusedSimpArgs false
set_option linter.unusedVariables false
set_option maxHeartbeats 4000000
set_option maxRecDepth 30000
namespace Go.Aw.U1
open Go Go.Proofs

def rng (n : Nat) : List Int := (List.range n).map fun i : Nat => (i : Int)
theorem rng_len (n : Nat) : (rng n).length = n := by simp [rng]
theorem rng_get {n i : Nat} (h : i < (rng n).length) : (rng n)[i] = (i : Int) := by simp [rng]
def alike (l : List Int) : Prop := ∀ i j (hi : i < l.length) (hj : j < l.length), l[i] = l[j]
theorem f512 (l : List Int) (n a b : Nat) (hl : l.length = n) (hn : n ≤ 20) (hal : alike l) (hab : a ≤ b) (hb : b ≤ n) :
    Spec P 512 [.ms 1 0 0 n, nV a, nV b, cmp1 l] [.cells 3 ((rng n).flatMap iC)] (fun r H => r = .tup [] ∧ H = [.cells 3 ((rng n).flatMap iC)]) := by
  refine spec_of hT (f := 512) (fn := Go.Proofs.Tryz.f512) (c := body Go.Proofs.Tryz.f512) (by kernel_rfl) (by kernel_rfl) ?_
  have hr := rng_len n
  have w0 : IntKind.wrap .i64 ((a : Int) + 1) = ((a + 1 : Nat) : Int) := by rw [wrap_i64 _ (by omega) (by omega)]; omega
  conv => whnf
  repeat (first | refine go ?_ | ((first | refine AW.plan (id := 4) hm (.one 0 (.one 1 (.one 2 (.one 3 (.one 4 (.one 5 (.one 6 (.one 7 (.one 9 (.one 10 (.one 11 (.one 12 (.one 8 (.one 13 (.one 14 (.one 15 (.one 16 .nil))))))))))))))))) (by kernel_rfl) ?_ | refine AW.plan (id := 6) hm (.one 0 (.one 1 (.one 2 (.one 3 (.one 4 (.one 5 (.one 6 (.one 7 (.one 8 (.one 10 (.one 11 (.one 12 (.one 9 (.one 13 (.one 14 (.one 15 (.one 16 (.one 17 .nil)))))))))))))))))) (by kernel_rfl) ?_); conv => whnf))
  rw [w0]
  refine ALoop.mk (fun m E H => ∃ i : Nat, m = n + 2 - i ∧ a + 1 ≤ i ∧ i ≤ n + 1 ∧
      E = pad [.ms 1 0 0 n, nV a, nV b, cmp1 l, .any, .any, .any, .any, nV i] 53 ∧ H = [.cells 3 ((rng n).flatMap iC)]) (n := n + 1 - a) _ _
    ⟨a + 1, by omega, Nat.le_refl _, by omega, rfl, rfl⟩ (Conv.fit (by repeat' (first | exact Fit.nil | refine Fit.any ?_ | refine Fit.same ?_))) ?_
  rintro _ _ _ ⟨i, rfl, hi, hi2, rfl, rfl⟩
  conv => whnf
  repeat (first | refine go ?_ | ((first | refine AW.plan (id := 4) hm (.one 0 (.one 1 (.one 2 (.one 3 (.one 4 (.one 5 (.one 6 (.one 7 (.one 9 (.one 10 (.one 11 (.one 12 (.one 8 (.one 13 (.one 14 (.one 15 (.one 16 .nil))))))))))))))))) (by kernel_rfl) ?_ | refine AW.plan (id := 6) hm (.one 0 (.one 1 (.one 2 (.one 3 (.one 4 (.one 5 (.one 6 (.one 7 (.one 8 (.one 10 (.one 11 (.one 12 (.one 9 (.one 13 (.one 14 (.one 15 (.one 16 (.one 17 .nil)))))))))))))))))) (by kernel_rfl) ?_); conv => whnf))
  refine ACond.dec (fun h => ?_) (fun h => ?_)
  · have hil : i < n := by omega
    have w1 : IntKind.wrap .i64 ((i : Int) + 1) = ((i + 1 : Nat) : Int) := by rw [wrap_i64 _ (by omega) (by omega)]; omega
    have w2 : IntKind.wrap .i64 ((i : Int) - 1) = ((i - 1 : Nat) : Int) := by rw [wrap_i64 _ (by omega) (by omega)]; omega
    have hcmp := f479 l i (i - 1) (by omega) (by omega) (hal _ _ _ _)
    conv => whnf
    repeat (first | refine go ?_ | ((first | refine AW.plan (id := 4) hm (.one 0 (.one 1 (.one 2 (.one 3 (.one 4 (.one 5 (.one 6 (.one 7 (.one 9 (.one 10 (.one 11 (.one 12 (.one 8 (.one 13 (.one 14 (.one 15 (.one 16 .nil))))))))))))))))) (by kernel_rfl) ?_ | refine AW.plan (id := 6) hm (.one 0 (.one 1 (.one 2 (.one 3 (.one 4 (.one 5 (.one 6 (.one 7 (.one 8 (.one 10 (.one 11 (.one 12 (.one 9 (.one 13 (.one 14 (.one 15 (.one 16 (.one 17 .nil)))))))))))))))))) (by kernel_rfl) ?_); conv => whnf))
    refine ALoop.mk (fun m E H => m = 0 ∧
        E = pad [.ms 1 0 0 n, nV a, nV b, cmp1 l, .any, .any, .any, .any, nV i, nV i] 53 ∧ H = [.cells 3 ((rng n).flatMap iC)]) (n := 0) _ _
      ⟨rfl, rfl, rfl⟩ (Conv.fit (by repeat' (first | exact Fit.nil | refine Fit.any ?_ | refine Fit.same ?_))) ?_
    rintro _ _ _ ⟨rfl, rfl, rfl⟩
    conv => whnf
    repeat (first | refine go ?_ | ((first | refine AW.plan (id := 4) hm (.one 0 (.one 1 (.one 2 (.one 3 (.one 4 (.one 5 (.one 6 (.one 7 (.one 9 (.one 10 (.one 11 (.one 12 (.one 8 (.one 13 (.one 14 (.one 15 (.one 16 .nil))))))))))))))))) (by kernel_rfl) ?_ | refine AW.plan (id := 6) hm (.one 0 (.one 1 (.one 2 (.one 3 (.one 4 (.one 5 (.one 6 (.one 7 (.one 8 (.one 10 (.one 11 (.one 12 (.one 9 (.one 13 (.one 14 (.one 15 (.one 16 (.one 17 .nil)))))))))))))))))) (by kernel_rfl) ?_ | refine AReq.mk (by omega) ?_); conv => whnf))
    refine ASplit.yes (decide_eq_true (by omega)) ?_
    conv => whnf
    repeat (first | refine ru ?_ | ((first | refine AW.plan (id := 4) hm (.one 0 (.one 1 (.one 2 (.one 3 (.one 4 (.one 5 (.one 6 (.one 7 (.one 9 (.one 10 (.one 11 (.one 12 (.one 8 (.one 13 (.one 14 (.one 15 (.one 16 .nil))))))))))))))))) (by kernel_rfl) ?_ | refine AW.plan (id := 6) hm (.one 0 (.one 1 (.one 2 (.one 3 (.one 4 (.one 5 (.one 6 (.one 7 (.one 8 (.one 10 (.one 11 (.one 12 (.one 9 (.one 13 (.one 14 (.one 15 (.one 16 (.one 17 .nil)))))))))))))))))) (by kernel_rfl) ?_ | refine AReq.mk (by omega) ?_); conv => whnf))
    refine AIdx.flat (enc := iC) iC_len (xs := rng n) (i := i) (by omega) ?_
    conv => whnf
    repeat (first | refine ru ?_ | ((first | refine AW.plan (id := 4) hm (.one 0 (.one 1 (.one 2 (.one 3 (.one 4 (.one 5 (.one 6 (.one 7 (.one 9 (.one 10 (.one 11 (.one 12 (.one 8 (.one 13 (.one 14 (.one 15 (.one 16 .nil))))))))))))))))) (by kernel_rfl) ?_ | refine AW.plan (id := 6) hm (.one 0 (.one 1 (.one 2 (.one 3 (.one 4 (.one 5 (.one 6 (.one 7 (.one 8 (.one 10 (.one 11 (.one 12 (.one 9 (.one 13 (.one 14 (.one 15 (.one 16 (.one 17 .nil)))))))))))))))))) (by kernel_rfl) ?_ | refine AReq.mk (by omega) ?_); conv => whnf))
    rw [w2]
    conv => whnf
    repeat (first | refine ru ?_ | ((first | refine AW.plan (id := 4) hm (.one 0 (.one 1 (.one 2 (.one 3 (.one 4 (.one 5 (.one 6 (.one 7 (.one 9 (.one 10 (.one 11 (.one 12 (.one 8 (.one 13 (.one 14 (.one 15 (.one 16 .nil))))))))))))))))) (by kernel_rfl) ?_ | refine AW.plan (id := 6) hm (.one 0 (.one 1 (.one 2 (.one 3 (.one 4 (.one 5 (.one 6 (.one 7 (.one 8 (.one 10 (.one 11 (.one 12 (.one 9 (.one 13 (.one 14 (.one 15 (.one 16 (.one 17 .nil)))))))))))))))))) (by kernel_rfl) ?_ | refine AReq.mk (by omega) ?_); conv => whnf))
    refine AIdx.flat (enc := iC) iC_len (xs := rng n) (i := i - 1) (by omega) ?_
    conv => whnf
    repeat (first | refine ru ?_ | ((first | refine AW.plan (id := 4) hm (.one 0 (.one 1 (.one 2 (.one 3 (.one 4 (.one 5 (.one 6 (.one 7 (.one 9 (.one 10 (.one 11 (.one 12 (.one 8 (.one 13 (.one 14 (.one 15 (.one 16 .nil))))))))))))))))) (by kernel_rfl) ?_ | refine AW.plan (id := 6) hm (.one 0 (.one 1 (.one 2 (.one 3 (.one 4 (.one 5 (.one 6 (.one 7 (.one 8 (.one 10 (.one 11 (.one 12 (.one 9 (.one 13 (.one 14 (.one 15 (.one 16 (.one 17 .nil)))))))))))))))))) (by kernel_rfl) ?_ | refine AReq.mk (by omega) ?_); conv => whnf))
    rw [rng_get, rng_get]
    refine ACall.val (args := [nV i, nV (i - 1 : Nat), .ip [key1 l]]) (by kernel_rfl) hcmp (by simp only [renL, AV.ren, key1_ren]) rfl ?_
    conv => whnf
    repeat (first | refine ru ?_ | ((first | refine AW.plan (id := 4) hm (.one 0 (.one 1 (.one 2 (.one 3 (.one 4 (.one 5 (.one 6 (.one 7 (.one 9 (.one 10 (.one 11 (.one 12 (.one 8 (.one 13 (.one 14 (.one 15 (.one 16 .nil))))))))))))))))) (by kernel_rfl) ?_ | refine AW.plan (id := 6) hm (.one 0 (.one 1 (.one 2 (.one 3 (.one 4 (.one 5 (.one 6 (.one 7 (.one 8 (.one 10 (.one 11 (.one 12 (.one 9 (.one 13 (.one 14 (.one 15 (.one 16 (.one 17 .nil)))))))))))))))))) (by kernel_rfl) ?_ | refine AReq.mk (by omega) ?_); conv => whnf))
    refine AOut.stay ?_
    conv => whnf
    repeat (first | refine ru ?_ | ((first | refine AW.plan (id := 4) hm (.one 0 (.one 1 (.one 2 (.one 3 (.one 4 (.one 5 (.one 6 (.one 7 (.one 9 (.one 10 (.one 11 (.one 12 (.one 8 (.one 13 (.one 14 (.one 15 (.one 16 .nil))))))))))))))))) (by kernel_rfl) ?_ | refine AW.plan (id := 6) hm (.one 0 (.one 1 (.one 2 (.one 3 (.one 4 (.one 5 (.one 6 (.one 7 (.one 8 (.one 10 (.one 11 (.one 12 (.one 9 (.one 13 (.one 14 (.one 15 (.one 16 (.one 17 .nil)))))))))))))))))) (by kernel_rfl) ?_ | refine AReq.mk (by omega) ?_); conv => whnf))
    rw [w1]
    exact AHead.mk (n + 2 - (i + 1)) _ _ (by omega) ⟨i + 1, rfl, by omega, by omega, rfl, rfl⟩ (Conv.fit (by repeat' (first | exact Fit.nil | refine Fit.any ?_ | refine Fit.same ?_)))
  · conv => whnf
    repeat (first | refine go ?_ | ((first | refine AW.plan (id := 4) hm (.one 0 (.one 1 (.one 2 (.one 3 (.one 4 (.one 5 (.one 6 (.one 7 (.one 9 (.one 10 (.one 11 (.one 12 (.one 8 (.one 13 (.one 14 (.one 15 (.one 16 .nil))))))))))))))))) (by kernel_rfl) ?_ | refine AW.plan (id := 6) hm (.one 0 (.one 1 (.one 2 (.one 3 (.one 4 (.one 5 (.one 6 (.one 7 (.one 8 (.one 10 (.one 11 (.one 12 (.one 9 (.one 13 (.one 14 (.one 15 (.one 16 (.one 17 .nil)))))))))))))))))) (by kernel_rfl) ?_); conv => whnf))
    refine AOut.stay ?_
    conv => whnf
    repeat (first | refine go ?_ | ((first | refine AW.plan (id := 4) hm (.one 0 (.one 1 (.one 2 (.one 3 (.one 4 (.one 5 (.one 6 (.one 7 (.one 9 (.one 10 (.one 11 (.one 12 (.one 8 (.one 13 (.one 14 (.one 15 (.one 16 .nil))))))))))))))))) (by kernel_rfl) ?_ | refine AW.plan (id := 6) hm (.one 0 (.one 1 (.one 2 (.one 3 (.one 4 (.one 5 (.one 6 (.one 7 (.one 8 (.one 10 (.one 11 (.one 12 (.one 9 (.one 13 (.one 14 (.one 15 (.one 16 (.one 17 .nil)))))))))))))))))) (by kernel_rfl) ?_); conv => whnf))
    exact AFin.mk ⟨rfl, rfl⟩
end Go.Aw.U1

set_option linter.unusedSimpArgs false
set_option linter.unusedVariables false
set_option maxHeartbeats 4000000
set_option maxRecDepth 30000
namespace Go.Aw.U1
open Go Go.Proofs

theorem f496 (l : List Int) (n : Nat) (hl : l.length = n) (hn : n ≤ 20) (hal : alike l) :
    Spec P 496 [.ms 1 0 0 n, nV n, cmp1 l] [.cells 3 ((rng n).flatMap iC)] (fun r H => r = .tup [] ∧ H = [.cells 3 ((rng n).flatMap iC)]) := by
  refine spec_of hT (f := 496) (fn := Go.Proofs.Tryz.f496) (c := body Go.Proofs.Tryz.f496) (by kernel_rfl) (by kernel_rfl) ?_
  conv => whnf
  repeat refine go ?_
  refine ALoop.mk (fun m E H => ∃ i : Nat, m = 1 - i ∧ (i = 0 ∨ i = 1 ∧ n = 20) ∧
      E = pad [.ms 1 0 0 n, nV n, cmp1 l, .any, .any, .any, nV 20, nV (20 * i : Nat), nV (20 * i + 20 : Nat)] 63 ∧ H = [.cells 3 ((rng n).flatMap iC)]) (n := 1) _ _
    ⟨0, rfl, .inl rfl, rfl, rfl⟩ (Conv.fit (by repeat' (first | exact Fit.nil | refine Fit.any ?_ | refine Fit.same ?_))) ?_
  rintro _ _ _ ⟨i, rfl, hi, rfl, rfl⟩
  conv => whnf
  repeat refine go ?_
  refine ACond.dec (fun h => ?_) (fun h => ?_)
  · obtain ⟨rfl, rfl⟩ : i = 0 ∧ n = 20 := by omega
    conv => whnf
    repeat refine go ?_
    refine ACall.all (args := [.ms 1 0 0 20, nV 0, nV 20, cmp1 l]) (by kernel_rfl) (f512 l 20 0 20 hl (by decide) hal (by decide) (by decide)) ?_
    rintro _ _ ⟨rfl, rfl⟩
    conv => whnf
    repeat refine ru ?_
    exact AHead.mk 0 _ _ (by decide) ⟨1, rfl, .inr ⟨rfl, rfl⟩, rfl, rfl⟩ (Conv.fit (by repeat' (first | exact Fit.nil | refine Fit.any ?_ | refine Fit.same ?_)))
  · conv => whnf
    repeat refine go ?_
    refine AOut.stay ?_
    conv => whnf
    repeat refine ru ?_
    refine ACall.all (args := [.ms 1 0 0 n, nV (20 * i : Nat), nV n, cmp1 l]) (by kernel_rfl) (f512 l n (20 * i) n hl hn hal (by omega) (Nat.le_refl _)) ?_
    rintro _ _ ⟨rfl, rfl⟩
    conv => whnf
    repeat refine ru ?_
    refine ALoop.mk (fun m E H => m = 0 ∧
        E = pad [.ms 1 0 0 n, nV n, cmp1 l, .any, .any, .any, nV 20] 63 ∧ H = [.cells 3 ((rng n).flatMap iC)]) (n := 0) _ _
      ⟨rfl, rfl, rfl⟩ (Conv.fit (by repeat' (first | exact Fit.nil | refine Fit.any ?_ | refine Fit.same ?_))) ?_
    rintro _ _ _ ⟨rfl, rfl, rfl⟩
    conv => whnf
    repeat refine go ?_
    refine ACond.no (decide_eq_false (by omega)) ?_
    conv => whnf
    repeat refine ru ?_
    refine AOut.stay ?_
    conv => whnf
    repeat refine ru ?_
    exact AFin.mk ⟨rfl, rfl⟩
theorem f478 (l : List Int) (n : Nat) (hl : l.length = n) (hn : n ≤ 20) (hal : alike l) :
    Spec P 478 [.ms 1 0 0 n, cmp1 l] [.cells 3 ((rng n).flatMap iC)] (fun r H => r = .tup [] ∧ H = [.cells 3 ((rng n).flatMap iC)]) := by
  refine spec_of hT (f := 478) (fn := Go.Proofs.Tryz.f478) (c := body Go.Proofs.Tryz.f478) (by kernel_rfl) (by kernel_rfl) ?_
  conv => whnf
  repeat refine go ?_
  refine ACall.all (args := [.ms 1 0 0 n, nV n, cmp1 l]) (by kernel_rfl) (f496 l n hl hn hal) ?_
  rintro _ _ ⟨rfl, rfl⟩
  conv => whnf
  repeat refine ru ?_
  exact AFin.mk ⟨rfl, rfl⟩
theorem f438 (l : List Int) (n : Nat) (hl : l.length = n) (hn : n ≤ 20) (hal : alike l) : Fun P 438 [nV n, key1 l] (isV (rng n)) := by
  refine spec_of hT (f := 438) (fn := Go.Proofs.Tryz.f438) (c := body Go.Proofs.Tryz.f438) (by kernel_rfl) (by kernel_rfl) ?_
  have hr := rng_len n
  have hb3 : (T 3).bytes = 8 := by kernel_rfl
  have hml : (rng n).length = (List.replicate n (0 : Int)).length := by simp [rng]
  conv => whnf
  repeat (first | refine go ?_ | (refine AReq.mk (by rw [hb3]; omega) ?_; conv => whnf))
  refine ALoop.mk (fun m E H => ∃ i : Nat, m = n - i ∧ i ≤ n ∧
      E = pad [nV n, .any, .any, .ptr 0 0, .any, .ms 1 1 0 n, .any, .any, .any, .any, nV n, nV i] 23 ∧ H = [.cells 206 [key1 l], .cells 3 ((mix (rng n) (List.replicate n (0 : Int)) i).flatMap iC)]) (n := n) _ _
    ⟨0, rfl, Nat.zero_le _, rfl, ?_⟩ (Conv.fit (by repeat' (first | exact Fit.nil | refine Fit.any ?_ | refine Fit.same ?_))) ?_
  · rw [mix_zero, ← rep_flat]; rfl
  rintro _ _ _ ⟨i, rfl, hi, rfl, rfl⟩
  conv => whnf
  repeat refine go ?_
  refine ACond.dec (fun h => ?_) (fun h => ?_)
  · have hil : i < n := by omega
    have w1 : IntKind.wrap .i64 ((i : Int) + 1) = ((i + 1 : Nat) : Int) := by rw [wrap_i64 _ (by omega) (by omega)]; omega
    have hmx : (mix (rng n) (List.replicate n (0 : Int)) i).length = n := by rw [mix_len hml]; simp
    have hst := mix_set hml (i := i) (by simpa using hil)
    rw [rng_get] at hst
    conv => whnf
    repeat (first | refine go ?_ | (refine AReq.mk (by omega) ?_; conv => whnf))
    refine AReq.mk rfl ?_
    refine AUpd.flat iC_len i (i : Int) ?_ (by rw [hmx]; exact hil) rfl ?_
    · simp
    rw [hst]
    conv => whnf
    repeat (first | refine go ?_ | (refine AReq.mk (by omega) ?_; conv => whnf))
    rw [w1]
    exact AHead.mk (n - (i + 1)) _ _ (by omega) ⟨i + 1, rfl, by omega, rfl, rfl⟩ (Conv.fit (by repeat' (first | exact Fit.nil | refine Fit.any ?_ | refine Fit.same ?_)))
  · obtain rfl : i = n := by omega
    rw [mix_all (by simp [rng]) (by simp)]
    conv => whnf
    repeat refine go ?_
    refine AOut.stay ?_
    conv => whnf
    repeat refine go ?_
    refine ACall.ice (l := 0) rfl ?_
    refine ACall.see (args' := [.ms 1 1 0 i, cmp1 l]) (.cons (.it _) (.cons (.fn .nil (.cons (Lend.sip rfl) .nil)) .nil)) ?_
    refine ACall.of (args0 := [.ms 1 0 0 i, cmp1 l]) (by kernel_rfl) (f478 l i hl hn hal) [1] [] (by simp) (.same (by simp only [ABlk.ren, fr_i]; rfl) .nil) (by simp) (by simp) ?_ (.inl rfl) ?_
    · have := LendL.same (H := [ABlk.ice 206 [key1 l], .cells 3 ((rng i).flatMap iC)]) (B := []) (ρ := nm [1] 2) [.ms 1 0 0 i, cmp1 l]
      simp only [renL, cmp1_ren, AV.ren] at this
      exact this
    rintro _ _ ⟨rfl, rfl⟩
    simp only [mergeH, ABlk.ren, fr_i]
    conv => whnf
    repeat refine ru ?_
    exact AFin.to (isV (rng i)) [] (Conv.out (.sm' rfl (by rw [flat_len iC_len]) rfl (by simp [rng])) (fun ρ => by (first | rfl | (simp only [renL, AV.ren, List.nil_append, List.cons_append, rens]; try rfl)))) ⟨rfl, rfl⟩
end Go.Aw.U1

set_option linter.unusedSimpArgs false
set_option linter.unusedVariables false
set_option maxHeartbeats 4000000
set_option maxRecDepth 30000
namespace Go.Aw.U1
open Go Go.Proofs

theorem rep_snoc (i : Nat) (q : Int) : List.replicate (i + 1) q = List.replicate i q ++ [q] := List.replicate_succ'
theorem f437 (t n : Nat) (ht : t ≤ 1000000000000) (h1 : 1 ≤ n) (hn : n ≤ 20) :
    Spec P 437 [nV t, nV n, isV (ones n)] [] (fun r H => r = .tup [.ms 1 0 0 n, isV (List.replicate n ((t * 1 % n : Nat) : Int)), nV ((t : Int) - n * (t * 1 / n : Nat)), nV 0] ∧ H = [.cells 3 ((List.replicate n ((t * 1 / n : Nat) : Int)).flatMap iC)]) := by
  refine spec_of hT (f := 437) (fn := Go.Proofs.Tryz.f437) (c := body Go.Proofs.Tryz.f437) (by kernel_rfl) (by kernel_rfl) ?_
  have hl := ones_len n
  have hd : DivOk t 1 n := ⟨ht, h1, by omega, h1⟩
  have hq := hd.ab.2.2.1
  have hfl := f476 t 1 n hd
  have hre := f477 t 1 n hd
  have hnq : (n : Int) * ((t * 1 / n : Nat) : Int) ≤ t := by
    have h0 := Nat.div_mul_le_self (t * 1) n
    have : n * (t * 1 / n) ≤ t := by rw [Nat.mul_comm]; omega
    exact_mod_cast this
  generalize t * 1 / n = q at hq hfl hnq ⊢
  generalize t * 1 % n = r at hre ⊢
  have hb3 : (T 3).bytes = 8 := by kernel_rfl
  conv => whnf
  repeat refine go ?_
  refine ALoop.mk (fun m E H => ∃ (i : Nat), m = n - i ∧ i ≤ n ∧
      E = pad [nV t, nV n, isV (ones n), .any, .any, .any, .ms 1 0 0 i, .ms 1 1 0 i, nV ((t : Int) - i * q), nV 0, .any, .any, .any, .any, .any, .any, isV (ones n), nV (ones n).length, nV i] 57 ∧ H = [.cells 3 ((List.replicate i (q : Int)).flatMap iC), .cells 3 ((List.replicate i (r : Int)).flatMap iC)]) (n := n) _ _
    ⟨0, rfl, Nat.zero_le _, rfl, rfl⟩ (Conv.trans (Conv.own (sz := 1) (xs' := pad [nV t, nV n, isV (ones n), .any, .any, .any, .ms 1 0 0 0, .v (.slice none 0 0), nV t, nV 0, .any, .any, .any, .any, .any, .any, isV (ones n), nV (ones n).length, nV 0] 57) 3 (by repeat' (first | exact FitN.nil | refine FitN.any ?_ | refine FitN.same ?_ | refine FitN.own ?_))) (Conv.trans (Conv.own (sz := 1) (xs' := pad [nV t, nV n, isV (ones n), .any, .any, .any, .ms 1 0 0 0, .ms 1 1 0 0, nV t, nV 0, .any, .any, .any, .any, .any, .any, isV (ones n), nV (ones n).length, nV 0] 57) 3 (by repeat' (first | exact FitN.nil | refine FitN.any ?_ | refine FitN.same ?_ | refine FitN.own ?_))) (Conv.fit ?_))) ?_
  · rw [show ((t : Int) - ((0 : Nat) : Int) * (q : Int)) = t by simp]
    repeat' (first | exact Fit.nil | refine Fit.any ?_ | refine Fit.same ?_)
  rintro _ _ _ ⟨i, rfl, hi, rfl, rfl⟩
  conv => whnf
  repeat refine go ?_
  refine ACond.dec (fun h => ?_) (fun h => ?_)
  · have hil : i < (ones n).length := by omega
    have w1 : IntKind.wrap .i64 ((i : Int) + 1) = ((i + 1 : Nat) : Int) := by rw [wrap_i64 _ (by omega) (by omega)]; omega
    have hiq : (i : Int) * q ≤ (n : Int) * q := Int.mul_le_mul_of_nonneg_right (by omega) (by omega)
    have hiq0 : 0 ≤ (i : Int) * q := Int.mul_nonneg (by omega) (by omega)
    have w2 : IntKind.wrap .i64 ((t : Int) - i * q - q) = (t : Int) - ((i + 1 : Nat) : Int) * q := by
      rw [wrap_i64 _ (by omega) (by omega)]
      rw [show ((i + 1 : Nat) : Int) = (i : Int) + 1 by omega, Int.add_mul]; omega
    conv => whnf
    repeat (first | refine go ?_ | ((first | refine AReq.mk (by omega) ?_ | refine AIdx.flat (enc := iC) iC_len (xs := ones n) (i := i) hil ?_ | refine AReq.mk (by rw [hb3]; simp [flat_len iC_len]; omega) ?_); conv => whnf))
    rw [ones_get]
    refine ACall.val (args := [nV t, nV 1, nV n]) (by kernel_rfl) hfl (by (first | rfl | (simp only [renL, AV.ren, List.nil_append, List.cons_append, rens]; try rfl))) rfl ?_
    conv => whnf
    repeat (first | refine ru ?_ | ((first | refine AReq.mk (by omega) ?_ | refine AIdx.flat (enc := iC) iC_len (xs := ones n) (i := i) hil ?_ | refine AReq.mk (by rw [hb3]; simp [flat_len iC_len]; omega) ?_); conv => whnf))
    refine ACall.val (args := [nV t, nV 1, nV n]) (by kernel_rfl) hre (by (first | rfl | (simp only [renL, AV.ren, List.nil_append, List.cons_append, rens]; try rfl))) rfl ?_
    conv => whnf
    repeat (first | refine ru ?_ | ((first | refine AReq.mk (by omega) ?_ | refine AIdx.flat (enc := iC) iC_len (xs := ones n) (i := i) hil ?_ | refine AReq.mk (by rw [hb3]; simp [flat_len iC_len]; omega) ?_); conv => whnf))
    rw [w1, w2]
    refine AHead.mk (n - (i + 1)) _ _ (by omega) ⟨i + 1, rfl, by omega, rfl, rfl⟩ ?_
    rw [rep_snoc, rep_snoc, List.flatMap_append, List.flatMap_append]
    exact Conv.ren [2, 3] _ (by simp) (by decide) (by simp only [pad, renL, AV.ren, rens]; repeat' (first | exact Fit.nil | refine Fit.any ?_ | refine Fit.same ?_)) (.same (by simp only [ABlk.ren, renL_append, fr_i]; rfl) (.same (by simp only [ABlk.ren, renL_append, fr_i]; rfl) .nil))
  · obtain rfl : i = n := by omega
    conv => whnf
    repeat refine go ?_
    refine AOut.stay ?_
    conv => whnf
    repeat refine go ?_
    refine AFin.to (.tup [.ms 1 0 0 i, isV (List.replicate i (r : Int)), nV ((t : Int) - i * q), nV 0]) [.cells 3 ((List.replicate i (q : Int)).flatMap iC)] ?_ ⟨rfl, rfl⟩
    refine Conv.trans (Conv.freeze 1 rfl) (Conv.trans (Conv.see (.cons (.tup (.cons (.it _) (.cons (.sm' rfl (by rw [flat_len iC_len]) rfl (by simp)) (.cons (.it _) (.cons (.it _) .nil))))) .nil)) (Conv.ren [0] _ (by simp) (by simp) ?_ (.same (by simp only [ABlk.ren, fr_i]; rfl) .nil)))
    simp only [renL, AV.ren, isV_ren, fr_i]
    exact Fit.refl _
end Go.Aw.U1

set_option linter.unusedSimpArgs false
set_option linter.unusedVariables false
set_option maxHeartbeats 4000000
set_option maxRecDepth 30000
namespace Go.Aw.U1
open Go Go.Proofs

def shN (t n i : Nat) : Nat := t / n + if i < t % n then 1 else 0
def shareL (t n : Nat) : List Int := (List.range n).map fun i => ((shN t n i : Nat) : Int)
theorem share_mix (t n : Nat) (h : 0 < n) : mix (List.replicate n (((t / n : Nat) : Int) + 1)) (List.replicate n ((t / n : Nat) : Int)) (t % n) = shareL t n := by
  have hlt := Nat.mod_lt t h
  apply List.ext_getElem
  · rw [mix_len (by simp)]; simp [shareL]
  intro i h1 h2
  have hi : i < n := by simpa [shareL] using h2
  simp only [mix, List.getElem_append, shareL, List.getElem_map, List.getElem_range, shN]
  split
  · rename_i h3
    simp at h3
    rw [List.getElem_take]
    have h4 : i < t % n := by omega
    simp [h4]
  · rename_i h3
    simp at h3
    have : ¬ i < t % n := by omega
    simp [this]
theorem mulmod (t n : Nat) (h : 0 < n) : (t : Int) - n * (t / n : Nat) = ((t % n : Nat) : Int) := by
  have h0 := Nat.div_add_mod t n
  have : (t : Int) = ((n * (t / n) + t % n : Nat) : Int) := by rw [h0]
  rw [Int.natCast_add, Int.natCast_mul] at this
  omega
theorem alike_rep (n : Nat) (x : Int) : alike (List.replicate n x) := fun i j hi hj => by simp
theorem flat_iC (l : List Int) : l.flatMap iC = l.map nV := by
  induction l with
  | nil => rfl
  | cons a l ih => rw [List.flatMap_cons, List.map_cons, ← ih]; rfl
theorem rng_cut {n r : Nat} (h : r ≤ n) : (((rng n).flatMap iC).drop (0 * 1)).take (((r : Int).toNat - 0) * 1) = (rng r).flatMap iC := by
  rw [flat_iC, flat_iC, Nat.zero_mul, List.drop_zero, ← List.map_take]
  congr 1
  simp [rng, ← List.map_take, List.take_range, Nat.min_eq_left h]
theorem f378 (t n : Nat) (ht : t ≤ 1000000000000) (h1 : 1 ≤ n) (hn : n ≤ 20) : Fun P 378 [nV t, isV (ones n)] (.tup [isV (shareL t n), nV 0]) := by
  refine spec_of hT (f := 378) (fn := Go.Proofs.Tryz.f378) (c := body Go.Proofs.Tryz.f378) (by kernel_rfl) (by kernel_rfl) ?_
  have hl := ones_len n
  have hin := f183 t
  rw [(inB_iff (n := (t : Int))).2 ⟨by omega, by omega⟩] at hin
  have hp := f437 t n ht h1 hn
  rw [Nat.mul_one, mulmod t n (by omega)] at hp
  have hby := f438 (List.replicate n ((t % n : Nat) : Int)) n (by simp) hn (alike_rep _ _)
  have hlt := Nat.mod_lt t (show 0 < n by omega)
  have hsm := share_mix t n (by omega)
  have hq : t / n ≤ 1000000000000 := Nat.le_trans (Nat.div_le_self _ _) ht
  generalize t % n = r at hp hby hlt hsm
  generalize t / n = q at hp hsm hq
  have hml : (List.replicate n ((q : Int) + 1)).length = (List.replicate n (q : Int)).length := by simp
  have hr := rng_len n
  conv => whnf
  repeat (first | refine ru ?_ | ((first | refine ACall.val (args := [isV (ones n)]) (by kernel_rfl) (f435 n h1 (by omega)) (by (first | rfl | (simp only [renL, AV.ren, List.nil_append, List.cons_append, rens]; try rfl))) rfl ?_ | refine ACall.val (args := [nV t]) (by kernel_rfl) hin (by (first | rfl | (simp only [renL, AV.ren, List.nil_append, List.cons_append, rens]; try rfl))) rfl ?_ | refine ACall.val (args := [isV (ones n)]) (by kernel_rfl) (f436 n h1 (by omega)) (by (first | rfl | (simp only [renL, AV.ren, List.nil_append, List.cons_append, rens]; try rfl))) rfl ?_); conv => whnf))
  refine ACall.spec (args := [nV t, nV n, isV (ones n)]) (by kernel_rfl) hp (by (first | rfl | (simp only [renL, AV.ren, List.nil_append, List.cons_append, rens]; try rfl))) ?_
  rintro _ _ ⟨rfl, rfl⟩
  conv => whnf
  repeat refine ru ?_
  refine ACall.ice (l := 1) (t := 38) (xs := [isV (List.replicate n (r : Int))]) ?_ ?_
  · simp only [renL, AV.ren, isV_ren, fr_i]; rfl
  refine ACall.see (args' := [nV n, key1 (List.replicate n (r : Int))]) ?_ ?_
  · exact .cons (.it _) (.cons (.fn .nil (.cons (Lend.sip rfl) .nil)) .nil)
  refine ACall.val (by kernel_rfl) hby (by simp only [renL, key1_ren, AV.ren]) (by (first | rfl | (simp only [renL, AV.ren, List.nil_append, List.cons_append, rens]; try rfl))) ?_
  conv => whnf
  repeat refine ru ?_
  refine AReq.mk ⟨by omega, by omega⟩ ?_
  conv => whnf
  repeat refine ru ?_
  refine ACut.iff.2 ⟨by rw [flat_len iC_len]; omega, ?_⟩
  rw [rng_cut (Nat.le_of_lt hlt)]
  conv => whnf
  repeat refine ru ?_
  have hrr := rng_len r
  refine ALoop.mk (fun m E H => ∃ i : Nat, m = r - i ∧ i ≤ r ∧
      E = pad [.any, .any, .any, .any, .any, nV 0, .any, .any, .ms 1 0 0 n, .any, .any, .any, .any, .any, .any, .any, .any, .any, .any, .any, .any, .any, .any, .any, .any, .any, .any, .any, .any, .any, .any, .any, .any, .any, .any, .any, .any, .any, .any, .any, .any, .any, .any, .any, .any, .any, .any, .any, .any, .any, .any, .vs 1 r ((rng r).flatMap iC), nV r, nV i] 65 ∧ H = [.cells 3 ((mix (List.replicate n ((q : Int) + 1)) (List.replicate n (q : Int)) i).flatMap iC)]) (n := r) _ _
    ⟨0, rfl, Nat.zero_le _, rfl, rfl⟩ ?_ ?_
  · rw [mix_zero]
    exact Conv.ren [0] _ (by simp) (by simp) (by simp only [pad, renL, AV.ren, rens]; repeat' (first | exact Fit.nil | refine Fit.any ?_ | refine Fit.same ?_)) (.same (by simp only [ABlk.ren, fr_i]; rfl) .nil)
  rintro _ _ _ ⟨i, rfl, hi, rfl, rfl⟩
  conv => whnf
  repeat refine go ?_
  refine ACond.dec (fun h => ?_) (fun h => ?_)
  · have hil : i < (rng r).length := by omega
    have w1 : IntKind.wrap .i64 ((i : Int) + 1) = ((i + 1 : Nat) : Int) := by rw [wrap_i64 _ (by omega) (by omega)]; omega
    have w2 : IntKind.wrap .i64 ((q : Int) + 1) = (q : Int) + 1 := by rw [wrap_i64 _ (by omega) (by omega)]
    have hmx : (mix (List.replicate n ((q : Int) + 1)) (List.replicate n (q : Int)) i).length = n := by rw [mix_len hml]; simp
    have hst := mix_set hml (i := i) (by simp; omega)
    have hgt : (mix (List.replicate n ((q : Int) + 1)) (List.replicate n (q : Int)) i)[i]'(by omega) = (q : Int) := by
      have := mix_get hml (i := i) (by simp; omega)
      rw [List.getElem?_eq_getElem (by omega)] at this
      simpa using this
    rw [List.getElem_replicate] at hst
    conv => whnf
    repeat (first | refine go ?_ | (refine AReq.mk (by omega) ?_; conv => whnf))
    refine AIdx.flat (enc := iC) iC_len (xs := rng r) (i := i) hil ?_
    conv => whnf
    repeat (first | refine go ?_ | (refine AReq.mk (by omega) ?_; conv => whnf))
    rw [rng_get]
    conv => whnf
    repeat (first | refine go ?_ | (refine AReq.mk (by omega) ?_; conv => whnf))
    refine AIdx.flat (enc := iC) iC_len (xs := mix (List.replicate n ((q : Int) + 1)) (List.replicate n (q : Int)) i) (i := i) (by omega) ?_
    conv => whnf
    repeat (first | refine go ?_ | (refine AReq.mk (by omega) ?_; conv => whnf))
    rw [hgt, w2]
    refine AReq.mk rfl ?_
    refine AUpd.flat iC_len i ((q : Int) + 1) ?_ (by omega) rfl ?_
    · simp
    rw [hst]
    conv => whnf
    repeat (first | refine go ?_ | (refine AReq.mk (by omega) ?_; conv => whnf))
    rw [w1]
    exact AHead.mk (r - (i + 1)) _ _ (by omega) ⟨i + 1, rfl, by omega, rfl, rfl⟩ (Conv.fit (by repeat' (first | exact Fit.nil | refine Fit.any ?_ | refine Fit.same ?_)))
  · obtain rfl : i = r := by omega
    conv => whnf
    repeat refine go ?_
    refine AOut.stay ?_
    conv => whnf
    repeat refine go ?_
    rw [hsm]
    exact AFin.to (.tup [isV (shareL t n), nV 0]) [] (Conv.out (.tup (.cons (.sm' rfl (by rw [flat_len iC_len]) rfl (by simp [shareL])) (.cons (.it _) .nil))) (fun ρ => by (first | rfl | (simp only [renL, AV.ren, List.nil_append, List.cons_append, rens]; try rfl)))) ⟨rfl, rfl⟩
end Go.Aw.U1

set_option linter.unusedSimpArgs false
set_option linter.unusedVariables false
set_option maxHeartbeats 4000000
set_option maxRecDepth 30000
namespace Go.Aw.U1
open Go Go.Proofs

theorem f284 (t n : Nat) (ht : t ≤ 1000000000000) (h1 : 1 ≤ n) (hn : n ≤ 20) : Fun P 284 [nV t, nV n] (.tup [isV (shareL t n), nV 0]) := by
  refine spec_of hT (f := 284) (fn := Go.Proofs.Tryz.f284) (c := body Go.Proofs.Tryz.f284) (by kernel_rfl) (by kernel_rfl) ?_
  conv => whnf
  repeat (first | refine go ?_ | ((first | refine ACall.val (args := [nV n]) (by kernel_rfl) (f379 n (by omega)) (by (first | rfl | (simp only [renL, AV.ren, List.nil_append, List.cons_append, rens]; try rfl))) (by (first | rfl | (simp only [renL, AV.ren, List.nil_append, List.cons_append, rens]; try rfl))) ?_ | refine ACall.val (args := [nV t, isV (ones n)]) (by kernel_rfl) (f378 t n ht h1 hn) (by (first | rfl | (simp only [renL, AV.ren, List.nil_append, List.cons_append, rens]; try rfl))) (by (first | rfl | (simp only [renL, AV.ren, List.nil_append, List.cons_append, rens]; try rfl))) ?_); conv => whnf))
  refine ASplit.no (decide_eq_false (by omega)) ?_
  conv => whnf
  repeat (first | refine go ?_ | ((first | refine ACall.val (args := [nV n]) (by kernel_rfl) (f379 n (by omega)) (by (first | rfl | (simp only [renL, AV.ren, List.nil_append, List.cons_append, rens]; try rfl))) (by (first | rfl | (simp only [renL, AV.ren, List.nil_append, List.cons_append, rens]; try rfl))) ?_ | refine ACall.val (args := [nV t, isV (ones n)]) (by kernel_rfl) (f378 t n ht h1 hn) (by (first | rfl | (simp only [renL, AV.ren, List.nil_append, List.cons_append, rens]; try rfl))) (by (first | rfl | (simp only [renL, AV.ren, List.nil_append, List.cons_append, rens]; try rfl))) ?_); conv => whnf))
  refine ACond.no (decide_eq_false (by omega)) ?_
  conv => whnf
  repeat (first | refine go ?_ | ((first | refine ACall.val (args := [nV n]) (by kernel_rfl) (f379 n (by omega)) (by (first | rfl | (simp only [renL, AV.ren, List.nil_append, List.cons_append, rens]; try rfl))) (by (first | rfl | (simp only [renL, AV.ren, List.nil_append, List.cons_append, rens]; try rfl))) ?_ | refine ACall.val (args := [nV t, isV (ones n)]) (by kernel_rfl) (f378 t n ht h1 hn) (by (first | rfl | (simp only [renL, AV.ren, List.nil_append, List.cons_append, rens]; try rfl))) (by (first | rfl | (simp only [renL, AV.ren, List.nil_append, List.cons_append, rens]; try rfl))) ?_); conv => whnf))
  exact AFin.val (by (first | rfl | (simp only [renL, AV.ren, List.nil_append, List.cons_append, rens]; try rfl))) ⟨rfl, rfl⟩
theorem share_len (t n : Nat) : (shareL t n).length = n := by simp [shareL]
theorem share_get {t n i : Nat} (h : i < (shareL t n).length) : (shareL t n)[i] = ((shN t n i : Nat) : Int) := by simp [shareL]
theorem f283 (t n i : Nat) (ht : t ≤ 1000000000000) (h1 : 1 ≤ n) (hn : n ≤ 20) (hi : i < n) : Fun P 283 [nV t, .ip [nV n], .any, .ip [nV i]] (nV (shN t n i : Nat)) := by
  refine spec_of hT (f := 283) (fn := Go.Proofs.Tryz.f283) (c := body Go.Proofs.Tryz.f283) (by kernel_rfl) (by kernel_rfl) ?_
  have hl := share_len t n
  conv => whnf
  repeat (first | refine ru ?_ | (refine ACall.val (args := [nV t, nV n]) (by kernel_rfl) (f284 t n ht h1 hn) (by (first | rfl | (simp only [renL, AV.ren, List.nil_append, List.cons_append, rens]; try rfl))) (by (first | rfl | (simp only [renL, AV.ren, List.nil_append, List.cons_append, rens]; try rfl))) ?_; conv => whnf))
  refine AReq.mk (by omega) ?_
  conv => whnf
  repeat (first | refine ru ?_ | (refine ACall.val (args := [nV t, nV n]) (by kernel_rfl) (f284 t n ht h1 hn) (by (first | rfl | (simp only [renL, AV.ren, List.nil_append, List.cons_append, rens]; try rfl))) (by (first | rfl | (simp only [renL, AV.ren, List.nil_append, List.cons_append, rens]; try rfl))) ?_; conv => whnf))
  refine AIdx.flat (enc := iC) iC_len (xs := shareL t n) (i := i) (by omega) ?_
  conv => whnf
  repeat (first | refine ru ?_ | (refine ACall.val (args := [nV t, nV n]) (by kernel_rfl) (f284 t n ht h1 hn) (by (first | rfl | (simp only [renL, AV.ren, List.nil_append, List.cons_append, rens]; try rfl))) (by (first | rfl | (simp only [renL, AV.ren, List.nil_append, List.cons_append, rens]; try rfl))) ?_; conv => whnf))
  rw [share_get]
  exact AFin.val rfl ⟨rfl, rfl⟩
theorem lineC_ok {l : Ln} (h : lineC l = 0) : 1 ≤ l.item ∧ l.item ≤ 999999 ∧ 0 ≤ l.net ∧ l.net ≤ 1000000000000 ∧ 0 ≤ l.tax ∧ l.tax ≤ 1000000000000 ∧ l.net + l.tax ≤ 1000000000000 ∧ 1 ≤ l.ss.length ∧ l.ss.length ≤ 20 ∧ rowF l.ss = 0 := by
  unfold lineC at h
  split at h
  · omega
  split at h
  · rename_i hm
    simp only [mayB, Bool.and_eq_true, paidB_iff, decide_eq_true_eq, inB_iff] at hm
    split at h
    · omega
    · rename_i h3
      by_cases h4 : rowF l.ss = 0
      · exact ⟨by omega, by omega, by omega, by omega, by omega, by omega, by omega, by omega, by omega, h4⟩
      · exact absurd (.inr (.inr h4)) h3
  · omega
structure Tri where
  n : Int
  t : Int
  e : Int
def triA (x : Tri) : AV := .tup [nV x.n, nV x.t, nV x.e]
def unitF (l : Ln) (i : Int) : Tri :=
  if lineC l = 0 then if i < 0 ∨ (l.ss.length : Int) ≤ i then ⟨0, 0, 2⟩ else ⟨(shN l.net.toNat l.ss.length i.toNat : Nat), (shN l.tax.toNat l.ss.length i.toNat : Nat), 0⟩ else ⟨0, 0, lineC l⟩
theorem f192 (l : Ln) (i : Int) (hl : lnOk l) : Fun P 192 [lnA l, nV i] (triA (unitF l i)) := by
  refine spec_of hT (f := 192) (fn := Go.Proofs.Tryz.f192) (c := body Go.Proofs.Tryz.f192) (by kernel_rfl) (by kernel_rfl) ?_
  generalize hR : unitF l i = R
  unfold unitF at hR
  conv => whnf
  repeat (first | refine go ?_ | ((first | refine AW.plan (id := 8) hm (.one 0 (.one 1 (.one 4 (.one 5 (.one 2 (.imm 6 (.one 3 (.one 7 (.one 8 (.one 9 .nil)))))))))) (by kernel_rfl) ?_ | refine AW.plan (id := 9) hm (.one 0 (.one 1 (.one 3 (.one 4 (.one 2 (.one 5 .nil)))))) (by kernel_rfl) ?_ | refine ACall.val (args := [lnA l]) (by kernel_rfl) (f118 l hl) (by (first | rfl | (simp only [renL, AV.ren, List.nil_append, List.cons_append, rens]; try rfl))) (by (first | rfl | (simp only [renL, AV.ren, List.nil_append, List.cons_append, rens]; try rfl))) ?_); conv => whnf))
  refine ACond.ndec (fun h1 => ?_) (fun h1 => ?_)
  · rw [if_neg h1] at hR
    conv => whnf
    repeat (first | refine ru ?_ | ((first | refine AW.plan (id := 8) hm (.one 0 (.one 1 (.one 4 (.one 5 (.one 2 (.imm 6 (.one 3 (.one 7 (.one 8 (.one 9 .nil)))))))))) (by kernel_rfl) ?_ | refine AW.plan (id := 9) hm (.one 0 (.one 1 (.one 3 (.one 4 (.one 2 (.one 5 .nil)))))) (by kernel_rfl) ?_); conv => whnf))
    exact AFin.val rfl ⟨congrArg triA hR, rfl⟩
  rw [if_pos h1] at hR
  obtain ⟨o1, o2, o3, o4, o5, o6, o7, o8, o9, o10⟩ := lineC_ok h1
  conv => whnf
  repeat (first | refine ru ?_ | ((first | refine AW.plan (id := 8) hm (.one 0 (.one 1 (.one 4 (.one 5 (.one 2 (.imm 6 (.one 3 (.one 7 (.one 8 (.one 9 .nil)))))))))) (by kernel_rfl) ?_ | refine AW.plan (id := 9) hm (.one 0 (.one 1 (.one 3 (.one 4 (.one 2 (.one 5 .nil)))))) (by kernel_rfl) ?_); conv => whnf))
  refine ASplit.dec (fun h2 => ?_) (fun h2 => ?_)
  · rw [if_pos (.inl h2)] at hR
    conv => whnf
    repeat (first | refine ru ?_ | ((first | refine AW.plan (id := 8) hm (.one 0 (.one 1 (.one 4 (.one 5 (.one 2 (.imm 6 (.one 3 (.one 7 (.one 8 (.one 9 .nil)))))))))) (by kernel_rfl) ?_ | refine AW.plan (id := 9) hm (.one 0 (.one 1 (.one 3 (.one 4 (.one 2 (.one 5 .nil)))))) (by kernel_rfl) ?_); conv => whnf))
    exact AFin.val rfl ⟨congrArg triA hR, rfl⟩
  conv => whnf
  repeat (first | refine ru ?_ | ((first | refine AW.plan (id := 8) hm (.one 0 (.one 1 (.one 4 (.one 5 (.one 2 (.imm 6 (.one 3 (.one 7 (.one 8 (.one 9 .nil)))))))))) (by kernel_rfl) ?_ | refine AW.plan (id := 9) hm (.one 0 (.one 1 (.one 3 (.one 4 (.one 2 (.one 5 .nil)))))) (by kernel_rfl) ?_); conv => whnf))
  refine ACond.dec (fun h3 => ?_) (fun h3 => ?_)
  · rw [if_pos (.inr h3)] at hR
    conv => whnf
    repeat (first | refine ru ?_ | ((first | refine AW.plan (id := 8) hm (.one 0 (.one 1 (.one 4 (.one 5 (.one 2 (.imm 6 (.one 3 (.one 7 (.one 8 (.one 9 .nil)))))))))) (by kernel_rfl) ?_ | refine AW.plan (id := 9) hm (.one 0 (.one 1 (.one 3 (.one 4 (.one 2 (.one 5 .nil)))))) (by kernel_rfl) ?_); conv => whnf))
    exact AFin.val rfl ⟨congrArg triA hR, rfl⟩
  rw [if_neg (by omega)] at hR
  refine AW.conv _ _ (Conv.freeze 0 rfl) ?_
  refine AW.conv _ _ (Conv.freeze 1 rfl) ?_
  refine AW.conv _ _ (Conv.freeze 3 rfl) ?_
  have c1 := f283 l.net.toNat l.ss.length i.toNat (by omega) o8 o9 (by omega)
  have c2 := f283 l.tax.toNat l.ss.length i.toNat (by omega) o8 o9 (by omega)
  rw [Int.toNat_of_nonneg (by omega), Int.toNat_of_nonneg (by omega)] at c1 c2
  conv => whnf
  repeat (first | refine ru ?_ | ((first | refine AW.plan (id := 8) hm (.one 0 (.one 1 (.one 4 (.one 5 (.one 2 (.imm 6 (.one 3 (.one 7 (.one 8 (.one 9 .nil)))))))))) (by kernel_rfl) ?_ | refine AW.plan (id := 9) hm (.one 0 (.one 1 (.one 3 (.one 4 (.one 2 (.one 5 .nil)))))) (by kernel_rfl) ?_); conv => whnf))
  refine ACall.see (args' := [nV l.net, .ip [nV l.ss.length], .any, .ip [nV i]]) (.cons (.it _) (.cons (Lend.sip rfl) (.cons .any (.cons (Lend.sip rfl) .nil)))) ?_
  refine ACall.val (by kernel_rfl) c1 rfl rfl ?_
  conv => whnf
  repeat (first | refine ru ?_ | ((first | refine AW.plan (id := 8) hm (.one 0 (.one 1 (.one 4 (.one 5 (.one 2 (.imm 6 (.one 3 (.one 7 (.one 8 (.one 9 .nil)))))))))) (by kernel_rfl) ?_ | refine AW.plan (id := 9) hm (.one 0 (.one 1 (.one 3 (.one 4 (.one 2 (.one 5 .nil)))))) (by kernel_rfl) ?_); conv => whnf))
  refine ACall.see (args' := [nV l.tax, .ip [nV l.ss.length], .any, .ip [nV i]]) (.cons (.it _) (.cons (Lend.sip rfl) (.cons .any (.cons (Lend.sip rfl) .nil)))) ?_
  refine ACall.val (by kernel_rfl) c2 rfl rfl ?_
  conv => whnf
  repeat (first | refine ru ?_ | ((first | refine AW.plan (id := 8) hm (.one 0 (.one 1 (.one 4 (.one 5 (.one 2 (.imm 6 (.one 3 (.one 7 (.one 8 (.one 9 .nil)))))))))) (by kernel_rfl) ?_ | refine AW.plan (id := 9) hm (.one 0 (.one 1 (.one 3 (.one 4 (.one 2 (.one 5 .nil)))))) (by kernel_rfl) ?_); conv => whnf))
  exact AFin.val rfl ⟨congrArg triA hR, rfl⟩
def fullF (l : Ln) (i : Int) : Int × Int :=
  if (unitF l i).e = 0 then addT [(unitF l i).n, (unitF l i).t] 0 else (0, (unitF l i).e)
theorem f115 (l : Ln) (i : Int) (hl : lnOk l) : Fun P 115 [lnA l, nV i] (numE (fullF l i)) := by
  refine spec_of hT (f := 115) (fn := Go.Proofs.Tryz.f115) (c := body Go.Proofs.Tryz.f115) (by kernel_rfl) (by kernel_rfl) ?_
  generalize hR : fullF l i = R
  unfold fullF at hR
  have hu := f192 l i hl
  generalize unitF l i = x at hu hR
  conv => whnf
  repeat (first | refine go ?_ | (refine ACall.val (args := [lnA l, nV i]) (by kernel_rfl) hu (by (first | rfl | (simp only [renL, AV.ren, List.nil_append, List.cons_append, rens]; try rfl))) (by (first | rfl | (simp only [renL, AV.ren, List.nil_append, List.cons_append, rens]; try rfl))) ?_; conv => whnf))
  refine ACond.ndec (fun h1 => ?_) (fun h1 => ?_)
  · rw [if_neg h1] at hR
    conv => whnf
    repeat refine ru ?_
    exact AFin.val rfl ⟨congrArg numE hR, rfl⟩
  rw [if_pos h1] at hR
  conv => whnf
  repeat (first | refine ru ?_ | (refine ACall.fun (args0 := [isV [x.n, x.t]]) (by kernel_rfl) (f105 [x.n, x.t] (by simp)) [] (by simp) (.cons (.vx rfl) .nil) (.inl rfl) rfl ?_; conv => whnf))
  exact AFin.val rfl ⟨congrArg numE hR, rfl⟩
theorem addT_in : ∀ {l : List Int} {s : Int}, inB s = true → inB (addT l s).1 = true
  | [], s, h => h
  | n :: l, s, h => by
    rw [addT]
    split
    · split
      · rename_i h2; exact addT_in h2
      · rfl
    · rfl
theorem full_bd (l : Ln) (i : Int) : 0 ≤ (fullF l i).1 ∧ (fullF l i).1 ≤ 1000000000000 := by
  unfold fullF
  split
  · have h1 := addT_in (l := [(unitF l i).n, (unitF l i).t]) (s := 0) rfl
    have h2 := inB_iff.1 h1
    refine ⟨?_, h2.2⟩
    have hn : 0 ≤ (unitF l i).n ∧ 0 ≤ (unitF l i).t := by
      unfold unitF
      split
      · split
        · exact ⟨Int.le_refl _, Int.le_refl _⟩
        · exact ⟨Int.natCast_nonneg _, Int.natCast_nonneg _⟩
      · exact ⟨Int.le_refl _, Int.le_refl _⟩
    simp only [addT]
    split
    · split
      · split
        · split
          · show 0 ≤ 0 + (unitF l i).n + (unitF l i).t
            omega
          · exact Int.le_refl _
        · exact Int.le_refl _
      · exact Int.le_refl _
    · exact Int.le_refl _
  · exact ⟨Int.le_refl _, (by show (0 : Int) ≤ 1000000000000; decide)⟩
def valF (l : Ln) (i : Int) (fees : List Int) (g : Int) : Int × Int :=
  if (fullF l i).2 = 0 then gradeF (fullF l i).1 fees g else (0, (fullF l i).2)
theorem f332 (a : Int) (fees : List Int) (g : Int) (ha : 0 ≤ a) (ha2 : a ≤ 1000000000000) : Fun P 332 [isV fees, nV a, nV g] (numE (gradeF a fees g)) := by
  refine spec_of hT (f := 332) (fn := Go.Proofs.Tryz.f332) (c := body Go.Proofs.Tryz.f332) (by kernel_rfl) (by kernel_rfl) ?_
  conv => whnf
  repeat (first | refine go ?_ | (refine ACall.val (args := [nV a, isV fees, nV g]) (by kernel_rfl) (f396 a fees g ha ha2) (by (first | rfl | (simp only [renL, AV.ren, List.nil_append, List.cons_append, rens]; try rfl))) (by (first | rfl | (simp only [renL, AV.ren, List.nil_append, List.cons_append, rens]; try rfl))) ?_; conv => whnf))
  exact AFin.val rfl ⟨rfl, rfl⟩
theorem f247 (l : Ln) (i : Int) (fees : List Int) (g : Int) (hl : lnOk l) : Fun P 247 [lnA l, nV i, isV fees, nV g] (numE (valF l i fees g)) := by
  refine spec_of hT (f := 247) (fn := Go.Proofs.Tryz.f247) (c := body Go.Proofs.Tryz.f247) (by kernel_rfl) (by kernel_rfl) ?_
  generalize hR : valF l i fees g = R
  unfold valF at hR
  have hu := f115 l i hl
  have hb := full_bd l i
  generalize fullF l i = x at hu hR hb
  conv => whnf
  repeat (first | refine go ?_ | (refine ACall.val (args := [lnA l, nV i]) (by kernel_rfl) hu (by (first | rfl | (simp only [renL, AV.ren, List.nil_append, List.cons_append, rens]; try rfl))) (by (first | rfl | (simp only [renL, AV.ren, List.nil_append, List.cons_append, rens]; try rfl))) ?_; conv => whnf))
  refine ACond.ndec (fun h1 => ?_) (fun h1 => ?_)
  · rw [if_neg h1] at hR
    conv => whnf
    repeat refine ru ?_
    exact AFin.val rfl ⟨congrArg numE hR, rfl⟩
  rw [if_pos h1] at hR
  conv => whnf
  repeat (first | refine ru ?_ | (refine ACall.val (args := [isV fees, nV x.1, nV g]) (by kernel_rfl) (f332 x.1 fees g hb.1 hb.2) (by (first | rfl | (simp only [renL, AV.ren, List.nil_append, List.cons_append, rens]; try rfl))) (by (first | rfl | (simp only [renL, AV.ren, List.nil_append, List.cons_append, rens]; try rfl))) ?_; conv => whnf))
  exact AFin.val rfl ⟨congrArg numE hR, rfl⟩
end Go.Aw.U1

set_option linter.unusedSimpArgs false
set_option linter.unusedVariables false
set_option maxHeartbeats 4000000
set_option maxRecDepth 30000
namespace Go.Aw.U1
open Go Go.Proofs

/-! ### numbers that rise are apart -/
theorem ris_all : ∀ {l : List Int} {last : Int}, risT last l = 0 → (∀ x ∈ l, last < x) ∧ l.Pairwise (· < ·)
  | [], _, _ => ⟨by simp, List.Pairwise.nil⟩
  | a :: l, last, h => by
    rw [risT] at h
    split at h
    · omega
    split at h
    · omega
    obtain ⟨h1, h2⟩ := ris_all h
    refine ⟨fun x hx => ?_, List.pairwise_cons.2 ⟨fun x hx => h1 x hx, h2⟩⟩
    rcases List.mem_cons.1 hx with rfl | hx
    · omega
    · have := h1 x hx; omega
theorem tab_ris {l : List Int} {n : Int} (h : tabB l n = true) : l.Pairwise (· < ·) := by
  simp only [tabB, Bool.and_eq_true, decide_eq_true_eq] at h
  exact (ris_all h.1.1.1.2).2
theorem find_id {α : Type} {f : α → Int} : ∀ {l : List α} (hp : (l.map f).Pairwise (· < ·)) {x : α} (hx : x ∈ l), l.find? (fun y => decide (f y = f x)) = some x
  | [], _, x, hx => by simp at hx
  | a :: l, hp, x, hx => by
    rw [List.map_cons, List.pairwise_cons] at hp
    rcases List.mem_cons.1 hx with rfl | hx
    · simp
    · have h1 := hp.1 (f x) (List.mem_map.2 ⟨x, hx, rfl⟩)
      rw [List.find?_cons_of_neg (by simp; omega)]
      exact find_id hp.2 hx
theorem orders_ris {s : Sta} (h : tablesB s = true) : (s.orders.map (·.id)).Pairwise (· < ·) := by
  simp only [tablesB, Bool.and_eq_true] at h
  exact tab_ris h.1.1.2
theorem shL_spec (s : ByteArray) : ∀ (ls : List Ln) (i : Int) {p : Int × Int}, shL s ls i = some p → ∃ (k j : Nat) (hk : k < ls.length) (hj : j < ls[k].ss.length), p = (i + k, (j : Int)) ∧ s.toList = ls[k].ss[j].toList
  | [], i, p, h => by simp [shL] at h
  | l :: ls, i, p, h => by
    rw [shL] at h
    rcases idxF_or (fun x => s.toList == x.toList) l.ss 0 with ⟨h1, h2⟩ | ⟨j, hj, h1, h2⟩
    · rw [if_neg (by rw [show idxF (fun x => s.toList == x.toList) l.ss 0 = -1 from h1]; decide)] at h
      obtain ⟨k, j, hk, hj, hp, he⟩ := shL_spec s ls (i + 1) h
      exact ⟨k + 1, j, by simp; omega, by simpa using hj, by rw [hp]; congr 1; omega, by simpa using he⟩
    · rw [show idxF (fun x => s.toList == x.toList) l.ss 0 = (j : Int) by simpa using h1, if_pos (by omega)] at h
      cases h
      refine ⟨0, j, by simp, by simpa using hj, by simp, ?_⟩
      have := List.find?_some h2
      simpa using this
theorem shT_spec (s : ByteArray) : ∀ (os : List Od), (shT s os).ok = true → ∃ o ∈ os, ∃ (k j : Nat) (hk : k < o.ls.length) (hj : j < o.ls[k].ss.length), (shT s os).o = o.id ∧ (shT s os).l = k ∧ (shT s os).p = j ∧ s.toList = o.ls[k].ss[j].toList
  | [], h => by simp [shT] at h
  | o :: os, h => by
    rw [shT_cons] at h ⊢
    cases e : shL s o.ls 0 with
    | none =>
      rw [e] at h
      obtain ⟨o', ho', r⟩ := shT_spec s os h
      exact ⟨o', List.mem_cons_of_mem _ ho', r⟩
    | some p =>
      obtain ⟨k, j, hk, hj, hp, he⟩ := shL_spec s o.ls 0 e
      exact ⟨o, by simp, k, j, hk, hj, rfl, by simp [shM, hp], by simp [shM, hp], he⟩
/-- where a unit came from -/
structure At (s : Sta) (u : Un) (o : Od) (k j : Nat) : Prop where
  mem : o ∈ s.orders
  find : s.orders.find? (fun x => decide (x.id = u.order)) = some o
  id : o.id = u.order
  line : u.line = k
  place : u.place = j
  klt : k < o.ls.length
  jlt : j < (o.ls[k]).ss.length
  serial : u.s.toList = (o.ls[k]).ss[j].toList
theorem came_at {s : Sta} {u : Un} (ht : tablesB s = true) (hc : cameB s u = true) : ∃ o k j, At s u o k j := by
  simp only [cameB, Bool.and_eq_true, decide_eq_true_eq] at hc
  obtain ⟨⟨⟨⟨⟨⟨⟨⟨⟨h1, h2⟩, h3⟩, h4⟩, h5⟩, h6⟩, h7⟩, h8⟩, h9⟩, h10⟩ := hc
  obtain ⟨o, ho, k, j, hk, hj, e1, e2, e3, e4⟩ := shT_spec u.s s.orders h2
  have hid : o.id = u.order := by omega
  exact ⟨o, k, j, ho, by have := find_id (f := Od.id) (orders_ris ht) ho; rw [← hid]; exact this, hid, by omega, by omega, hk, hj, e4⟩
structure Base (s : Sta) : Prop where
  tab : tablesB s = true
  came : ∀ u ∈ s.units, cameB s u = true
/-- what a memo says -/
structure MemoOk (s : Sta) (m : Mo) : Prop where
  len : m.am.length = m.ss.length
  row : rowF m.ss = 0
  one : ∀ i (h1 : i < m.ss.length) (h2 : i < m.am.length), ∃ u ∈ s.units, findU s m.ss[i] = some u ∧ u.order = m.order ∧ ∃ o k j, At s u o k j ∧ ∃ l, o.ls[k]? = some l ∧ valF l u.place s.rules.fees u.grade = (m.am[i], 0)
end Go.Aw.U1

set_option linter.unusedSimpArgs false
set_option linter.unusedVariables false
set_option maxHeartbeats 4000000
set_option maxRecDepth 30000
namespace Go.Aw.U1
open Go Go.Proofs

/-- what is paid back, one by one: none, when a thing is paid back twice -/
def mvS (v : Bool) : List ByteArray → (ByteArray → Bool) → Option (ByteArray → Bool)
  | [], g => some g
  | x :: l, g => if (!v && g x) = true then none else mvS v l (upd g x (g x || !v))
def crT : List Mo → (ByteArray → Bool) → Bool
  | [], _ => true
  | m :: l, g => shipsM (mvS m.void m.ss g) (crT l)
end Go.Aw.U1

set_option linter.unusedSimpArgs false
set_option linter.unusedVariables false
set_option maxHeartbeats 4000000
set_option maxRecDepth 30000
namespace Go.Aw.U1
open Go Go.Proofs

def cvMv (m : Mv) : UR.Mv := ⟨m.p, m.i, m.q⟩
theorem mvs_cv (l : List Mv) : UR.mvs (l.map cvMv) = mvs l := by
  unfold UR.mvs mvs
  rw [List.length_map, List.flatMap_map]; rfl
def mvL (s : Sta) : List UR.Mv := s.moves.map cvMv
theorem f57 (s : Sta) (h : s.moves.length ≤ 300) : Spec P 57 [mvs s.moves] [] fun r H => (∃ d, (UR.good (mvL s) ∧ UR.AllOf (mvL s) d ∨ ¬ UR.good (mvL s) ∧ d = []) ∧ r = .tup [UR.hds d, nV (UR.chkF (mvL s))]) ∧ H = [] := by
  have := UR.f57v (mvL s) (by simp [mvL]; omega)
  rwa [mvL, mvs_cv] at this
def ordU (s : Sta) (u : Un) : Od := (s.orders.find? (fun x => decide (x.id = u.order))).getD odZ
def itemU (s : Sta) (u : Un) : Int := (((ordU s u).ls[u.line.toNat]?).getD ⟨0, 0, 0, 0, []⟩).item
def cntS (s : Sta) (id : Int) : List Un → Int
  | [] => 0
  | u :: l => (if u.state = 6 ∧ itemU s u = id then 1 else 0) + cntS s id l
theorem cntS_snoc (s : Sta) (id : Int) (u : Un) : ∀ l, cntS s id (l ++ [u]) = cntS s id l + (if u.state = 6 ∧ itemU s u = id then 1 else 0)
  | [] => by simp [cntS]
  | a :: l => by rw [List.cons_append, cntS, cntS, cntS_snoc s id u l]; omega
theorem cntS_bd (s : Sta) (id : Int) : ∀ l, 0 ≤ cntS s id l ∧ cntS s id l ≤ (l.length : Int)
  | [] => by simp [cntS]
  | a :: l => by
    have := cntS_bd s id l
    rw [cntS, List.length_cons]
    split <;> omega
theorem At.item {s : Sta} {u : Un} {o : Od} {k j : Nat} (h : At s u o k j) : ordU s u = o ∧ u.line.toNat = k ∧ itemU s u = (o.ls[k]'h.klt).item := by
  have e1 : ordU s u = o := by rw [ordU, h.find]; rfl
  have e2 : u.line.toNat = k := by rw [h.line]; simp
  refine ⟨e1, e2, ?_⟩
  rw [itemU, e1, e2, List.getElem?_eq_getElem h.klt]; rfl
theorem ordB_lines {o : Od} (h : ordC o = 0) {l : Ln} (hl : l ∈ o.ls) : lineC l = 0 := by
  unfold ordC at h
  split at h
  · rename_i h2
    simp only [ordB, Bool.and_eq_true, List.all_eq_true, decide_eq_true_eq] at h2
    exact h2.1.1.2 l hl
  · omega
structure StockOk (s : Sta) (d : List UR.Hd) : Prop where
  good : UR.good (mvL s)
  all : UR.AllOf (mvL s) d
  cnt : ∀ x ∈ d, x.1 = false → x.2.2 = cntS s x.2.1 s.units
theorem nodup_le {α : Type} [DecidableEq α] : ∀ {l l' : List α}, l.Nodup → (∀ x ∈ l, x ∈ l') → l.length ≤ l'.length
  | [], _, _, _ => Nat.zero_le _
  | a :: l, l', hn, hs => by
    obtain ⟨h1, h2⟩ := List.nodup_cons.1 hn
    have ha := hs a (by simp)
    have ih := nodup_le (l' := l'.erase a) h2 (fun x hx => (List.mem_erase_of_ne (show x ≠ a from fun e => h1 (by rw [← e]; exact hx))).2 (hs x (by simp [hx])))
    rw [List.length_erase_of_mem ha] at ih
    have := List.length_pos_of_mem ha
    rw [List.length_cons]; omega
theorem und137 : P.underlying 241 = some (.map 3 3) := by kernel_rfl
end Go.Aw.U1

set_option linter.unusedSimpArgs false
set_option linter.unusedVariables false
set_option maxHeartbeats 4000000
set_option maxRecDepth 30000
namespace Go.Aw.U1
open Go Go.Proofs

theorem twS_shipsM {o : Option (ByteArray → Bool)} {k : (ByteArray → Bool) → Bool} (h : shipsM o k = true) : ∃ g, k g = true := by
  cases o with
  | none => cases h
  | some g => exact ⟨g, h⟩
theorem ships_ord {s : Sta} : ∀ {os : List Od} {g : ByteArray → Bool}, shipsT s os g = true → ∀ o ∈ os, ordC o = 0
  | [], _, _, o, ho => by simp at ho
  | a :: os, g, h, o, ho => by
    rw [shipsT] at h
    split at h
    · rename_i h1
      rcases List.mem_cons.1 ho with rfl | ho
      · exact h1.1
      · obtain ⟨g', hg⟩ := twS_shipsM h
        exact ships_ord hg o ho
    · cases h
structure CheckOk (s : Sta) : Prop where
  base : Base s
  keys : keysB s = true
  ships : shipsB s = true
  rules : rulesB s = true
  auth : authB s = true
  works : workB s = true
  claims : claimedB s = true
  memos : ∀ m ∈ s.memos, MemoOk s m
  once : crT s.memos (fun _ => false) = true
  stock : ∃ d, StockOk s d
theorem ships_all {s : Sta} (h : shipsB s = true) : ∀ o ∈ s.orders, ordC o = 0 := by
  simp only [shipsB, Bool.and_eq_true] at h
  exact ships_ord h.2
/-- a state whose numbers may be keys -/
def idsOk (s : Sta) : Prop := ∀ r ∈ s.rmas, nOk r.id ∧ ∀ w ∈ r.ws, nOk w.line
/-- a state that has no units -/
structure Easy (s : Sta) : Prop where
  tab : tablesB s = true
  keys : keysB s = true
  ships : shipsB s = true
  rules : rulesB s = true
  auth : authB s = true
  works : workB s = true
  claims : claimedB s = true
  units : s.units = []
  memos : s.memos = []
  moves : s.moves = []
  got : ∀ r ∈ s.rmas, ∀ w ∈ r.ws, w.got = 0
end Go.Aw.U1

set_option linter.unusedSimpArgs false
set_option linter.unusedVariables false
set_option maxHeartbeats 4000000
set_option maxRecDepth 30000
namespace Go.Aw.U1
open Go Go.Proofs

def lnFew (l : Ln) : Prop := l.ss.length ≤ 40 ∧ ∀ x ∈ l.ss, x.size ≤ 100
theorem f55 (l : List Ln) : Spec P 55 [lnsV l] [] (fun r H => (∃ b, r = bV b ∧ (b = true → l.length ≤ 20 ∧ ∀ x ∈ l, lnFew x) ∧ (l.length ≤ 20 → (∀ x ∈ l, lnFew x) → b = true)) ∧ H = []) := by
  refine spec_of hT (f := 55) (fn := Go.Proofs.Tryz.f55) (c := body Go.Proofs.Tryz.f55) (by kernel_rfl) (by kernel_rfl) ?_
  have hfalse : ∀ {H : List ABlk}, ¬ (l.length ≤ 20 ∧ ∀ x ∈ l, lnFew x) → AFin 0 (bV false) H (fun r H => (∃ b, r = bV b ∧ (b = true → l.length ≤ 20 ∧ ∀ x ∈ l, lnFew x) ∧ (l.length ≤ 20 → (∀ x ∈ l, lnFew x) → b = true)) ∧ H = []) := fun hn => AFin.val rfl ⟨⟨false, rfl, fun h => Bool.noConfusion h, fun h1 h2 => absurd ⟨h1, h2⟩ hn⟩, rfl⟩
  conv => whnf
  repeat refine go ?_
  refine ACond.dec (fun h1 => ?_) (fun h1 => ?_)
  · conv => whnf
    repeat refine ru ?_
    exact hfalse (fun h => by omega)
  conv => whnf
  repeat refine ru ?_
  refine ALoop.mk (fun n E H => ∃ (i : Nat), n = l.length - i ∧ i ≤ l.length ∧ (∀ k (hk : k < l.length), k < i → lnFew l[k]) ∧
      E = pad [lnsV l, .any, bV false, nV i] 41 ∧ H = []) (n := l.length) _ _
    ⟨0, rfl, Nat.zero_le _, fun k _ hk => absurd hk (Nat.not_lt_zero _), rfl, rfl⟩ (Conv.fit (by repeat' (first | exact Fit.nil | refine Fit.any ?_ | refine Fit.same ?_))) ?_
  rintro _ _ _ ⟨i, rfl, hi, hI, rfl, rfl⟩
  conv => whnf
  repeat refine go ?_
  refine ACond.dec (fun h2 => ?_) (fun h2 => ?_)
  · have hil : i < l.length := by omega
    have w1 : IntKind.wrap .i64 ((i : Int) + 1) = ((i + 1 : Nat) : Int) := by rw [wrap_i64 _ (by omega) (by omega)]; omega
    conv => whnf
    repeat (first | refine go ?_ | ((first | refine AReq.mk (by omega) ?_ | refine AIdx.flat (enc := lnC) lnC_len (xs := l) (i := i) hil ?_); conv => whnf))
    refine ACond.dec (fun h3 => ?_) (fun h3 => ?_)
    · conv => whnf
      repeat (first | refine go ?_ | ((first | refine AReq.mk (by omega) ?_ | refine AIdx.flat (enc := lnC) lnC_len (xs := l) (i := i) hil ?_); conv => whnf))
      refine AOut.stay ?_
      conv => whnf
      repeat (first | refine go ?_ | ((first | refine AReq.mk (by omega) ?_ | refine AIdx.flat (enc := lnC) lnC_len (xs := l) (i := i) hil ?_); conv => whnf))
      exact hfalse (fun h => by have := (h.2 _ (List.getElem_mem hil)).1; omega)
    conv => whnf
    repeat (first | refine go ?_ | ((first | refine AReq.mk (by omega) ?_ | refine AIdx.flat (enc := lnC) lnC_len (xs := l) (i := i) hil ?_); conv => whnf))
    refine ALoop.mk (fun n E H => ∃ (k : Nat), n = l[i].ss.length - k ∧ k ≤ l[i].ss.length ∧ (∀ j (hj : j < l[i].ss.length), j < k → l[i].ss[j].size ≤ 100) ∧
        E = pad [lnsV l, .any, bV false, nV i, nV k] 41 ∧ H = []) (n := l[i].ss.length) _ _
      ⟨0, rfl, Nat.zero_le _, fun k _ hk => absurd hk (Nat.not_lt_zero _), rfl, rfl⟩ (Conv.fit (by repeat' (first | exact Fit.nil | refine Fit.any ?_ | refine Fit.same ?_))) ?_
    rintro _ _ _ ⟨k, rfl, hk, hall, rfl, rfl⟩
    conv => whnf
    repeat (first | refine go ?_ | ((first | refine AReq.mk (by omega) ?_ | refine AIdx.flat (enc := lnC) lnC_len (xs := l) (i := i) hil ?_); conv => whnf))
    refine ACond.dec (fun h4 => ?_) (fun h4 => ?_)
    · have hkl : k < l[i].ss.length := by omega
      have w2 : IntKind.wrap .i64 ((k : Int) + 1) = ((k + 1 : Nat) : Int) := by rw [wrap_i64 _ (by omega) (by omega)]; omega
      conv => whnf
      repeat (first | refine go ?_ | ((first | refine AReq.mk (by omega) ?_ | refine AIdx.flat (enc := lnC) lnC_len (xs := l) (i := i) hil ?_ | refine AIdx.flat (enc := sC) sC_len (xs := l[i].ss) (i := k) hkl ?_); conv => whnf))
      refine ACond.dec (fun h5 => ?_) (fun h5 => ?_)
      · conv => whnf
        repeat (first | refine go ?_ | ((first | refine AReq.mk (by omega) ?_ | refine AIdx.flat (enc := lnC) lnC_len (xs := l) (i := i) hil ?_ | refine AIdx.flat (enc := sC) sC_len (xs := l[i].ss) (i := k) hkl ?_); conv => whnf))
        refine AOut.stay ?_
        conv => whnf
        repeat (first | refine go ?_ | ((first | refine AReq.mk (by omega) ?_ | refine AIdx.flat (enc := lnC) lnC_len (xs := l) (i := i) hil ?_ | refine AIdx.flat (enc := sC) sC_len (xs := l[i].ss) (i := k) hkl ?_); conv => whnf))
        refine AOut.stay ?_
        conv => whnf
        repeat (first | refine go ?_ | ((first | refine AReq.mk (by omega) ?_ | refine AIdx.flat (enc := lnC) lnC_len (xs := l) (i := i) hil ?_ | refine AIdx.flat (enc := sC) sC_len (xs := l[i].ss) (i := k) hkl ?_); conv => whnf))
        exact hfalse (fun h => by have := (h.2 _ (List.getElem_mem hil)).2 _ (List.getElem_mem hkl); omega)
      · conv => whnf
        repeat (first | refine go ?_ | ((first | refine AReq.mk (by omega) ?_ | refine AIdx.flat (enc := lnC) lnC_len (xs := l) (i := i) hil ?_ | refine AIdx.flat (enc := sC) sC_len (xs := l[i].ss) (i := k) hkl ?_); conv => whnf))
        rw [w2]
        refine AHead.mk (l[i].ss.length - (k + 1)) _ _ (by omega) ⟨k + 1, rfl, by omega, ?_, rfl, rfl⟩ (Conv.fit (by repeat' (first | exact Fit.nil | refine Fit.any ?_ | refine Fit.same ?_)))
        intro j hj hjk
        rcases Nat.lt_or_ge j k with g | g
        · exact hall j hj g
        · obtain rfl : j = k := by omega
          omega
    · conv => whnf
      repeat (first | refine go ?_ | ((first | refine AReq.mk (by omega) ?_ | refine AIdx.flat (enc := lnC) lnC_len (xs := l) (i := i) hil ?_ | refine AIdx.flat (enc := sC) sC_len (xs := l[i].ss) (i := k) hkl ?_); conv => whnf))
      refine AOut.stay ?_
      conv => whnf
      repeat (first | refine go ?_ | ((first | refine AReq.mk (by omega) ?_ | refine AIdx.flat (enc := lnC) lnC_len (xs := l) (i := i) hil ?_ | refine AIdx.flat (enc := sC) sC_len (xs := l[i].ss) (i := k) hkl ?_); conv => whnf))
      rw [w1]
      refine AHead.mk (l.length - (i + 1)) _ _ (by omega) ⟨i + 1, rfl, by omega, ?_, rfl, rfl⟩ (Conv.fit (by repeat' (first | exact Fit.nil | refine Fit.any ?_ | refine Fit.same ?_)))
      intro j hj hji
      rcases Nat.lt_or_ge j i with g | g
      · exact hI j hj g
      · obtain rfl : j = i := by omega
        refine ⟨by omega, fun x hx => ?_⟩
        obtain ⟨q, hq, rfl⟩ := List.mem_iff_getElem.1 hx
        exact hall q hq (by omega)
  · conv => whnf
    repeat refine go ?_
    refine AOut.stay ?_
    conv => whnf
    repeat refine go ?_
    refine AFin.val rfl ⟨⟨true, rfl, fun _ => ⟨by omega, fun x hx => ?_⟩, fun _ _ => rfl⟩, rfl⟩
    obtain ⟨k, hk, rfl⟩ := List.mem_iff_getElem.1 hx
    exact hI k hk (by omega)
structure FewOk (s : Sta) : Prop where
  items : s.items.length ≤ 70
  orders : s.orders.length ≤ 70
  rmas : s.rmas.length ≤ 70
  units : s.units.length ≤ 420
  works : s.works.length ≤ 70
  claims : s.claims.length ≤ 70
  memos : s.memos.length ≤ 70
  moves : s.moves.length ≤ 300
  keys : s.keys.length ≤ 40
  rows : s.rules.rows.length ≤ 30
  asks : s.rules.asks.length ≤ 20
  cuts : s.rules.cuts.length ≤ 20
  fees : s.rules.fees.length ≤ 20
  lines : ∀ o ∈ s.orders, o.ls.length ≤ 20 ∧ ∀ x ∈ o.ls, lnFew x
theorem f14 (s : Sta) : Spec P 14 [stA s] [] (fun r H => (∃ b, r = bV b ∧ (b = true → FewOk s)) ∧ H = []) := by
  refine spec_of hT (f := 14) (fn := Go.Proofs.Tryz.f14) (c := body Go.Proofs.Tryz.f14) (by kernel_rfl) (by kernel_rfl) ?_
  have hfalse : ∀ {H : List ABlk}, AFin 0 (bV false) H (fun r H => (∃ b, r = bV b ∧ (b = true → FewOk s)) ∧ H = []) := AFin.val rfl ⟨⟨false, rfl, fun h => Bool.noConfusion h⟩, rfl⟩
  conv => whnf
  repeat (first | refine go ?_ | ((first | refine AW.plan (id := 24) hm (.one 0 (.one 1 (.one 3 (.one 8 (.one 10 (.imm 2 (.one 4 (.one 5 (.imm 6 (.one 7 (.one 9 (.one 11 (.one 12 (.one 13 (.one 14 (.one 15 (.one 16 (.one 17 .nil)))))))))))))))))) (by kernel_rfl) ?_ | refine AW.plan (id := 28) hm (.one 0 (.one 1 (.one 3 (.one 9 (.one 11 (.imm 2 (.one 4 (.one 5 (.imm 6 (.one 7 (.one 8 (.one 10 (.one 12 (.one 13 (.one 14 (.one 15 (.one 16 (.one 17 (.one 18 (.one 19 .nil)))))))))))))))))))) (by kernel_rfl) ?_); conv => whnf))
  refine ASplit.dec (fun a0 => ?_) (fun a0 => ?_)
  · conv => whnf
    repeat (first | refine ru ?_ | ((first | refine AW.plan (id := 24) hm (.one 0 (.one 1 (.one 3 (.one 8 (.one 10 (.imm 2 (.one 4 (.one 5 (.imm 6 (.one 7 (.one 9 (.one 11 (.one 12 (.one 13 (.one 14 (.one 15 (.one 16 (.one 17 .nil)))))))))))))))))) (by kernel_rfl) ?_ | refine AW.plan (id := 28) hm (.one 0 (.one 1 (.one 3 (.one 9 (.one 11 (.imm 2 (.one 4 (.one 5 (.imm 6 (.one 7 (.one 8 (.one 10 (.one 12 (.one 13 (.one 14 (.one 15 (.one 16 (.one 17 (.one 18 (.one 19 .nil)))))))))))))))))))) (by kernel_rfl) ?_); conv => whnf))
    exact hfalse
  conv => whnf
  repeat (first | refine ru ?_ | ((first | refine AW.plan (id := 24) hm (.one 0 (.one 1 (.one 3 (.one 8 (.one 10 (.imm 2 (.one 4 (.one 5 (.imm 6 (.one 7 (.one 9 (.one 11 (.one 12 (.one 13 (.one 14 (.one 15 (.one 16 (.one 17 .nil)))))))))))))))))) (by kernel_rfl) ?_ | refine AW.plan (id := 28) hm (.one 0 (.one 1 (.one 3 (.one 9 (.one 11 (.imm 2 (.one 4 (.one 5 (.imm 6 (.one 7 (.one 8 (.one 10 (.one 12 (.one 13 (.one 14 (.one 15 (.one 16 (.one 17 (.one 18 (.one 19 .nil)))))))))))))))))))) (by kernel_rfl) ?_); conv => whnf))
  refine ASplit.dec (fun a1 => ?_) (fun a1 => ?_)
  · conv => whnf
    repeat (first | refine ru ?_ | ((first | refine AW.plan (id := 24) hm (.one 0 (.one 1 (.one 3 (.one 8 (.one 10 (.imm 2 (.one 4 (.one 5 (.imm 6 (.one 7 (.one 9 (.one 11 (.one 12 (.one 13 (.one 14 (.one 15 (.one 16 (.one 17 .nil)))))))))))))))))) (by kernel_rfl) ?_ | refine AW.plan (id := 28) hm (.one 0 (.one 1 (.one 3 (.one 9 (.one 11 (.imm 2 (.one 4 (.one 5 (.imm 6 (.one 7 (.one 8 (.one 10 (.one 12 (.one 13 (.one 14 (.one 15 (.one 16 (.one 17 (.one 18 (.one 19 .nil)))))))))))))))))))) (by kernel_rfl) ?_); conv => whnf))
    exact hfalse
  conv => whnf
  repeat (first | refine ru ?_ | ((first | refine AW.plan (id := 24) hm (.one 0 (.one 1 (.one 3 (.one 8 (.one 10 (.imm 2 (.one 4 (.one 5 (.imm 6 (.one 7 (.one 9 (.one 11 (.one 12 (.one 13 (.one 14 (.one 15 (.one 16 (.one 17 .nil)))))))))))))))))) (by kernel_rfl) ?_ | refine AW.plan (id := 28) hm (.one 0 (.one 1 (.one 3 (.one 9 (.one 11 (.imm 2 (.one 4 (.one 5 (.imm 6 (.one 7 (.one 8 (.one 10 (.one 12 (.one 13 (.one 14 (.one 15 (.one 16 (.one 17 (.one 18 (.one 19 .nil)))))))))))))))))))) (by kernel_rfl) ?_); conv => whnf))
  refine ASplit.dec (fun a2 => ?_) (fun a2 => ?_)
  · conv => whnf
    repeat (first | refine ru ?_ | ((first | refine AW.plan (id := 24) hm (.one 0 (.one 1 (.one 3 (.one 8 (.one 10 (.imm 2 (.one 4 (.one 5 (.imm 6 (.one 7 (.one 9 (.one 11 (.one 12 (.one 13 (.one 14 (.one 15 (.one 16 (.one 17 .nil)))))))))))))))))) (by kernel_rfl) ?_ | refine AW.plan (id := 28) hm (.one 0 (.one 1 (.one 3 (.one 9 (.one 11 (.imm 2 (.one 4 (.one 5 (.imm 6 (.one 7 (.one 8 (.one 10 (.one 12 (.one 13 (.one 14 (.one 15 (.one 16 (.one 17 (.one 18 (.one 19 .nil)))))))))))))))))))) (by kernel_rfl) ?_); conv => whnf))
    exact hfalse
  conv => whnf
  repeat (first | refine ru ?_ | ((first | refine AW.plan (id := 24) hm (.one 0 (.one 1 (.one 3 (.one 8 (.one 10 (.imm 2 (.one 4 (.one 5 (.imm 6 (.one 7 (.one 9 (.one 11 (.one 12 (.one 13 (.one 14 (.one 15 (.one 16 (.one 17 .nil)))))))))))))))))) (by kernel_rfl) ?_ | refine AW.plan (id := 28) hm (.one 0 (.one 1 (.one 3 (.one 9 (.one 11 (.imm 2 (.one 4 (.one 5 (.imm 6 (.one 7 (.one 8 (.one 10 (.one 12 (.one 13 (.one 14 (.one 15 (.one 16 (.one 17 (.one 18 (.one 19 .nil)))))))))))))))))))) (by kernel_rfl) ?_); conv => whnf))
  refine ASplit.dec (fun a3 => ?_) (fun a3 => ?_)
  · conv => whnf
    repeat (first | refine ru ?_ | ((first | refine AW.plan (id := 24) hm (.one 0 (.one 1 (.one 3 (.one 8 (.one 10 (.imm 2 (.one 4 (.one 5 (.imm 6 (.one 7 (.one 9 (.one 11 (.one 12 (.one 13 (.one 14 (.one 15 (.one 16 (.one 17 .nil)))))))))))))))))) (by kernel_rfl) ?_ | refine AW.plan (id := 28) hm (.one 0 (.one 1 (.one 3 (.one 9 (.one 11 (.imm 2 (.one 4 (.one 5 (.imm 6 (.one 7 (.one 8 (.one 10 (.one 12 (.one 13 (.one 14 (.one 15 (.one 16 (.one 17 (.one 18 (.one 19 .nil)))))))))))))))))))) (by kernel_rfl) ?_); conv => whnf))
    exact hfalse
  conv => whnf
  repeat (first | refine ru ?_ | ((first | refine AW.plan (id := 24) hm (.one 0 (.one 1 (.one 3 (.one 8 (.one 10 (.imm 2 (.one 4 (.one 5 (.imm 6 (.one 7 (.one 9 (.one 11 (.one 12 (.one 13 (.one 14 (.one 15 (.one 16 (.one 17 .nil)))))))))))))))))) (by kernel_rfl) ?_ | refine AW.plan (id := 28) hm (.one 0 (.one 1 (.one 3 (.one 9 (.one 11 (.imm 2 (.one 4 (.one 5 (.imm 6 (.one 7 (.one 8 (.one 10 (.one 12 (.one 13 (.one 14 (.one 15 (.one 16 (.one 17 (.one 18 (.one 19 .nil)))))))))))))))))))) (by kernel_rfl) ?_); conv => whnf))
  refine ASplit.dec (fun a4 => ?_) (fun a4 => ?_)
  · conv => whnf
    repeat (first | refine ru ?_ | ((first | refine AW.plan (id := 24) hm (.one 0 (.one 1 (.one 3 (.one 8 (.one 10 (.imm 2 (.one 4 (.one 5 (.imm 6 (.one 7 (.one 9 (.one 11 (.one 12 (.one 13 (.one 14 (.one 15 (.one 16 (.one 17 .nil)))))))))))))))))) (by kernel_rfl) ?_ | refine AW.plan (id := 28) hm (.one 0 (.one 1 (.one 3 (.one 9 (.one 11 (.imm 2 (.one 4 (.one 5 (.imm 6 (.one 7 (.one 8 (.one 10 (.one 12 (.one 13 (.one 14 (.one 15 (.one 16 (.one 17 (.one 18 (.one 19 .nil)))))))))))))))))))) (by kernel_rfl) ?_); conv => whnf))
    exact hfalse
  conv => whnf
  repeat (first | refine ru ?_ | ((first | refine AW.plan (id := 24) hm (.one 0 (.one 1 (.one 3 (.one 8 (.one 10 (.imm 2 (.one 4 (.one 5 (.imm 6 (.one 7 (.one 9 (.one 11 (.one 12 (.one 13 (.one 14 (.one 15 (.one 16 (.one 17 .nil)))))))))))))))))) (by kernel_rfl) ?_ | refine AW.plan (id := 28) hm (.one 0 (.one 1 (.one 3 (.one 9 (.one 11 (.imm 2 (.one 4 (.one 5 (.imm 6 (.one 7 (.one 8 (.one 10 (.one 12 (.one 13 (.one 14 (.one 15 (.one 16 (.one 17 (.one 18 (.one 19 .nil)))))))))))))))))))) (by kernel_rfl) ?_); conv => whnf))
  refine ASplit.dec (fun a5 => ?_) (fun a5 => ?_)
  · conv => whnf
    repeat (first | refine ru ?_ | ((first | refine AW.plan (id := 24) hm (.one 0 (.one 1 (.one 3 (.one 8 (.one 10 (.imm 2 (.one 4 (.one 5 (.imm 6 (.one 7 (.one 9 (.one 11 (.one 12 (.one 13 (.one 14 (.one 15 (.one 16 (.one 17 .nil)))))))))))))))))) (by kernel_rfl) ?_ | refine AW.plan (id := 28) hm (.one 0 (.one 1 (.one 3 (.one 9 (.one 11 (.imm 2 (.one 4 (.one 5 (.imm 6 (.one 7 (.one 8 (.one 10 (.one 12 (.one 13 (.one 14 (.one 15 (.one 16 (.one 17 (.one 18 (.one 19 .nil)))))))))))))))))))) (by kernel_rfl) ?_); conv => whnf))
    exact hfalse
  conv => whnf
  repeat (first | refine ru ?_ | ((first | refine AW.plan (id := 24) hm (.one 0 (.one 1 (.one 3 (.one 8 (.one 10 (.imm 2 (.one 4 (.one 5 (.imm 6 (.one 7 (.one 9 (.one 11 (.one 12 (.one 13 (.one 14 (.one 15 (.one 16 (.one 17 .nil)))))))))))))))))) (by kernel_rfl) ?_ | refine AW.plan (id := 28) hm (.one 0 (.one 1 (.one 3 (.one 9 (.one 11 (.imm 2 (.one 4 (.one 5 (.imm 6 (.one 7 (.one 8 (.one 10 (.one 12 (.one 13 (.one 14 (.one 15 (.one 16 (.one 17 (.one 18 (.one 19 .nil)))))))))))))))))))) (by kernel_rfl) ?_); conv => whnf))
  refine ASplit.dec (fun a6 => ?_) (fun a6 => ?_)
  · conv => whnf
    repeat (first | refine ru ?_ | ((first | refine AW.plan (id := 24) hm (.one 0 (.one 1 (.one 3 (.one 8 (.one 10 (.imm 2 (.one 4 (.one 5 (.imm 6 (.one 7 (.one 9 (.one 11 (.one 12 (.one 13 (.one 14 (.one 15 (.one 16 (.one 17 .nil)))))))))))))))))) (by kernel_rfl) ?_ | refine AW.plan (id := 28) hm (.one 0 (.one 1 (.one 3 (.one 9 (.one 11 (.imm 2 (.one 4 (.one 5 (.imm 6 (.one 7 (.one 8 (.one 10 (.one 12 (.one 13 (.one 14 (.one 15 (.one 16 (.one 17 (.one 18 (.one 19 .nil)))))))))))))))))))) (by kernel_rfl) ?_); conv => whnf))
    exact hfalse
  conv => whnf
  repeat (first | refine ru ?_ | ((first | refine AW.plan (id := 24) hm (.one 0 (.one 1 (.one 3 (.one 8 (.one 10 (.imm 2 (.one 4 (.one 5 (.imm 6 (.one 7 (.one 9 (.one 11 (.one 12 (.one 13 (.one 14 (.one 15 (.one 16 (.one 17 .nil)))))))))))))))))) (by kernel_rfl) ?_ | refine AW.plan (id := 28) hm (.one 0 (.one 1 (.one 3 (.one 9 (.one 11 (.imm 2 (.one 4 (.one 5 (.imm 6 (.one 7 (.one 8 (.one 10 (.one 12 (.one 13 (.one 14 (.one 15 (.one 16 (.one 17 (.one 18 (.one 19 .nil)))))))))))))))))))) (by kernel_rfl) ?_); conv => whnf))
  refine ASplit.dec (fun a7 => ?_) (fun a7 => ?_)
  · conv => whnf
    repeat (first | refine ru ?_ | ((first | refine AW.plan (id := 24) hm (.one 0 (.one 1 (.one 3 (.one 8 (.one 10 (.imm 2 (.one 4 (.one 5 (.imm 6 (.one 7 (.one 9 (.one 11 (.one 12 (.one 13 (.one 14 (.one 15 (.one 16 (.one 17 .nil)))))))))))))))))) (by kernel_rfl) ?_ | refine AW.plan (id := 28) hm (.one 0 (.one 1 (.one 3 (.one 9 (.one 11 (.imm 2 (.one 4 (.one 5 (.imm 6 (.one 7 (.one 8 (.one 10 (.one 12 (.one 13 (.one 14 (.one 15 (.one 16 (.one 17 (.one 18 (.one 19 .nil)))))))))))))))))))) (by kernel_rfl) ?_); conv => whnf))
    exact hfalse
  conv => whnf
  repeat (first | refine ru ?_ | ((first | refine AW.plan (id := 24) hm (.one 0 (.one 1 (.one 3 (.one 8 (.one 10 (.imm 2 (.one 4 (.one 5 (.imm 6 (.one 7 (.one 9 (.one 11 (.one 12 (.one 13 (.one 14 (.one 15 (.one 16 (.one 17 .nil)))))))))))))))))) (by kernel_rfl) ?_ | refine AW.plan (id := 28) hm (.one 0 (.one 1 (.one 3 (.one 9 (.one 11 (.imm 2 (.one 4 (.one 5 (.imm 6 (.one 7 (.one 8 (.one 10 (.one 12 (.one 13 (.one 14 (.one 15 (.one 16 (.one 17 (.one 18 (.one 19 .nil)))))))))))))))))))) (by kernel_rfl) ?_); conv => whnf))
  refine ASplit.dec (fun a8 => ?_) (fun a8 => ?_)
  · conv => whnf
    repeat (first | refine ru ?_ | ((first | refine AW.plan (id := 24) hm (.one 0 (.one 1 (.one 3 (.one 8 (.one 10 (.imm 2 (.one 4 (.one 5 (.imm 6 (.one 7 (.one 9 (.one 11 (.one 12 (.one 13 (.one 14 (.one 15 (.one 16 (.one 17 .nil)))))))))))))))))) (by kernel_rfl) ?_ | refine AW.plan (id := 28) hm (.one 0 (.one 1 (.one 3 (.one 9 (.one 11 (.imm 2 (.one 4 (.one 5 (.imm 6 (.one 7 (.one 8 (.one 10 (.one 12 (.one 13 (.one 14 (.one 15 (.one 16 (.one 17 (.one 18 (.one 19 .nil)))))))))))))))))))) (by kernel_rfl) ?_); conv => whnf))
    exact hfalse
  conv => whnf
  repeat (first | refine ru ?_ | ((first | refine AW.plan (id := 24) hm (.one 0 (.one 1 (.one 3 (.one 8 (.one 10 (.imm 2 (.one 4 (.one 5 (.imm 6 (.one 7 (.one 9 (.one 11 (.one 12 (.one 13 (.one 14 (.one 15 (.one 16 (.one 17 .nil)))))))))))))))))) (by kernel_rfl) ?_ | refine AW.plan (id := 28) hm (.one 0 (.one 1 (.one 3 (.one 9 (.one 11 (.imm 2 (.one 4 (.one 5 (.imm 6 (.one 7 (.one 8 (.one 10 (.one 12 (.one 13 (.one 14 (.one 15 (.one 16 (.one 17 (.one 18 (.one 19 .nil)))))))))))))))))))) (by kernel_rfl) ?_); conv => whnf))
  refine ASplit.dec (fun a9 => ?_) (fun a9 => ?_)
  · conv => whnf
    repeat (first | refine ru ?_ | ((first | refine AW.plan (id := 24) hm (.one 0 (.one 1 (.one 3 (.one 8 (.one 10 (.imm 2 (.one 4 (.one 5 (.imm 6 (.one 7 (.one 9 (.one 11 (.one 12 (.one 13 (.one 14 (.one 15 (.one 16 (.one 17 .nil)))))))))))))))))) (by kernel_rfl) ?_ | refine AW.plan (id := 28) hm (.one 0 (.one 1 (.one 3 (.one 9 (.one 11 (.imm 2 (.one 4 (.one 5 (.imm 6 (.one 7 (.one 8 (.one 10 (.one 12 (.one 13 (.one 14 (.one 15 (.one 16 (.one 17 (.one 18 (.one 19 .nil)))))))))))))))))))) (by kernel_rfl) ?_); conv => whnf))
    exact hfalse
  conv => whnf
  repeat (first | refine ru ?_ | ((first | refine AW.plan (id := 24) hm (.one 0 (.one 1 (.one 3 (.one 8 (.one 10 (.imm 2 (.one 4 (.one 5 (.imm 6 (.one 7 (.one 9 (.one 11 (.one 12 (.one 13 (.one 14 (.one 15 (.one 16 (.one 17 .nil)))))))))))))))))) (by kernel_rfl) ?_ | refine AW.plan (id := 28) hm (.one 0 (.one 1 (.one 3 (.one 9 (.one 11 (.imm 2 (.one 4 (.one 5 (.imm 6 (.one 7 (.one 8 (.one 10 (.one 12 (.one 13 (.one 14 (.one 15 (.one 16 (.one 17 (.one 18 (.one 19 .nil)))))))))))))))))))) (by kernel_rfl) ?_); conv => whnf))
  refine ASplit.dec (fun a10 => ?_) (fun a10 => ?_)
  · conv => whnf
    repeat (first | refine ru ?_ | ((first | refine AW.plan (id := 24) hm (.one 0 (.one 1 (.one 3 (.one 8 (.one 10 (.imm 2 (.one 4 (.one 5 (.imm 6 (.one 7 (.one 9 (.one 11 (.one 12 (.one 13 (.one 14 (.one 15 (.one 16 (.one 17 .nil)))))))))))))))))) (by kernel_rfl) ?_ | refine AW.plan (id := 28) hm (.one 0 (.one 1 (.one 3 (.one 9 (.one 11 (.imm 2 (.one 4 (.one 5 (.imm 6 (.one 7 (.one 8 (.one 10 (.one 12 (.one 13 (.one 14 (.one 15 (.one 16 (.one 17 (.one 18 (.one 19 .nil)))))))))))))))))))) (by kernel_rfl) ?_); conv => whnf))
    exact hfalse
  conv => whnf
  repeat (first | refine ru ?_ | ((first | refine AW.plan (id := 24) hm (.one 0 (.one 1 (.one 3 (.one 8 (.one 10 (.imm 2 (.one 4 (.one 5 (.imm 6 (.one 7 (.one 9 (.one 11 (.one 12 (.one 13 (.one 14 (.one 15 (.one 16 (.one 17 .nil)))))))))))))))))) (by kernel_rfl) ?_ | refine AW.plan (id := 28) hm (.one 0 (.one 1 (.one 3 (.one 9 (.one 11 (.imm 2 (.one 4 (.one 5 (.imm 6 (.one 7 (.one 8 (.one 10 (.one 12 (.one 13 (.one 14 (.one 15 (.one 16 (.one 17 (.one 18 (.one 19 .nil)))))))))))))))))))) (by kernel_rfl) ?_); conv => whnf))
  refine ASplit.dec (fun a11 => ?_) (fun a11 => ?_)
  · conv => whnf
    repeat (first | refine ru ?_ | ((first | refine AW.plan (id := 24) hm (.one 0 (.one 1 (.one 3 (.one 8 (.one 10 (.imm 2 (.one 4 (.one 5 (.imm 6 (.one 7 (.one 9 (.one 11 (.one 12 (.one 13 (.one 14 (.one 15 (.one 16 (.one 17 .nil)))))))))))))))))) (by kernel_rfl) ?_ | refine AW.plan (id := 28) hm (.one 0 (.one 1 (.one 3 (.one 9 (.one 11 (.imm 2 (.one 4 (.one 5 (.imm 6 (.one 7 (.one 8 (.one 10 (.one 12 (.one 13 (.one 14 (.one 15 (.one 16 (.one 17 (.one 18 (.one 19 .nil)))))))))))))))))))) (by kernel_rfl) ?_); conv => whnf))
    exact hfalse
  conv => whnf
  repeat (first | refine ru ?_ | ((first | refine AW.plan (id := 24) hm (.one 0 (.one 1 (.one 3 (.one 8 (.one 10 (.imm 2 (.one 4 (.one 5 (.imm 6 (.one 7 (.one 9 (.one 11 (.one 12 (.one 13 (.one 14 (.one 15 (.one 16 (.one 17 .nil)))))))))))))))))) (by kernel_rfl) ?_ | refine AW.plan (id := 28) hm (.one 0 (.one 1 (.one 3 (.one 9 (.one 11 (.imm 2 (.one 4 (.one 5 (.imm 6 (.one 7 (.one 8 (.one 10 (.one 12 (.one 13 (.one 14 (.one 15 (.one 16 (.one 17 (.one 18 (.one 19 .nil)))))))))))))))))))) (by kernel_rfl) ?_); conv => whnf))
  refine ACond.dec (fun a12 => ?_) (fun a12 => ?_)
  · conv => whnf
    repeat (first | refine ru ?_ | ((first | refine AW.plan (id := 24) hm (.one 0 (.one 1 (.one 3 (.one 8 (.one 10 (.imm 2 (.one 4 (.one 5 (.imm 6 (.one 7 (.one 9 (.one 11 (.one 12 (.one 13 (.one 14 (.one 15 (.one 16 (.one 17 .nil)))))))))))))))))) (by kernel_rfl) ?_ | refine AW.plan (id := 28) hm (.one 0 (.one 1 (.one 3 (.one 9 (.one 11 (.imm 2 (.one 4 (.one 5 (.imm 6 (.one 7 (.one 8 (.one 10 (.one 12 (.one 13 (.one 14 (.one 15 (.one 16 (.one 17 (.one 18 (.one 19 .nil)))))))))))))))))))) (by kernel_rfl) ?_); conv => whnf))
    exact hfalse
  conv => whnf
  repeat (first | refine ru ?_ | ((first | refine AW.plan (id := 24) hm (.one 0 (.one 1 (.one 3 (.one 8 (.one 10 (.imm 2 (.one 4 (.one 5 (.imm 6 (.one 7 (.one 9 (.one 11 (.one 12 (.one 13 (.one 14 (.one 15 (.one 16 (.one 17 .nil)))))))))))))))))) (by kernel_rfl) ?_ | refine AW.plan (id := 28) hm (.one 0 (.one 1 (.one 3 (.one 9 (.one 11 (.imm 2 (.one 4 (.one 5 (.imm 6 (.one 7 (.one 8 (.one 10 (.one 12 (.one 13 (.one 14 (.one 15 (.one 16 (.one 17 (.one 18 (.one 19 .nil)))))))))))))))))))) (by kernel_rfl) ?_); conv => whnf))
  refine ALoop.mk (fun n E H => ∃ (i : Nat) (m : Int), n = s.orders.length - i ∧ i ≤ s.orders.length ∧ (∀ k (hk : k < s.orders.length), k < i → s.orders[k].ls.length ≤ 20 ∧ ∀ x ∈ s.orders[k].ls, lnFew x) ∧
      E = pad [stA s, .ptr 0 0, bV false, nV m, nV i] 213 ∧ H = [.ice 44 (stC s)]) (n := s.orders.length) _ _
    ⟨0, 0, rfl, Nat.zero_le _, fun k _ hk => absurd hk (Nat.not_lt_zero _), rfl, rfl⟩ (Conv.trans (Conv.fit (by repeat' (first | exact Fit.nil | refine Fit.any ?_ | refine Fit.same ?_))) (Conv.freeze 0 rfl)) ?_
  rintro _ _ _ ⟨i, m, rfl, hi, hI, rfl, rfl⟩
  conv => whnf
  repeat (first | refine go ?_ | ((first | refine AW.plan (id := 24) hm (.one 0 (.one 1 (.one 3 (.one 8 (.one 10 (.imm 2 (.one 4 (.one 5 (.imm 6 (.one 7 (.one 9 (.one 11 (.one 12 (.one 13 (.one 14 (.one 15 (.one 16 (.one 17 .nil)))))))))))))))))) (by kernel_rfl) ?_ | refine AW.plan (id := 28) hm (.one 0 (.one 1 (.one 3 (.one 9 (.one 11 (.imm 2 (.one 4 (.one 5 (.imm 6 (.one 7 (.one 8 (.one 10 (.one 12 (.one 13 (.one 14 (.one 15 (.one 16 (.one 17 (.one 18 (.one 19 .nil)))))))))))))))))))) (by kernel_rfl) ?_); conv => whnf))
  refine ACond.dec (fun h2 => ?_) (fun h2 => ?_)
  · have hil : i < s.orders.length := by omega
    have w1 : IntKind.wrap .i64 ((i : Int) + 1) = ((i + 1 : Nat) : Int) := by rw [wrap_i64 _ (by omega) (by omega)]; omega
    conv => whnf
    repeat (first | refine go ?_ | ((first | refine AW.plan (id := 24) hm (.one 0 (.one 1 (.one 3 (.one 8 (.one 10 (.imm 2 (.one 4 (.one 5 (.imm 6 (.one 7 (.one 9 (.one 11 (.one 12 (.one 13 (.one 14 (.one 15 (.one 16 (.one 17 .nil)))))))))))))))))) (by kernel_rfl) ?_ | refine AW.plan (id := 28) hm (.one 0 (.one 1 (.one 3 (.one 9 (.one 11 (.imm 2 (.one 4 (.one 5 (.imm 6 (.one 7 (.one 8 (.one 10 (.one 12 (.one 13 (.one 14 (.one 15 (.one 16 (.one 17 (.one 18 (.one 19 .nil)))))))))))))))))))) (by kernel_rfl) ?_ | refine AReq.mk (by omega) ?_ | refine AIdx.flat (enc := odC) odC_len (xs := s.orders) (i := i) hil ?_); conv => whnf))
    refine ACall.spec (args := [lnsV s.orders[i].ls]) (by kernel_rfl) (f55 s.orders[i].ls) (by (first | rfl | (simp only [renL, AV.ren, List.nil_append, List.cons_append, rens]; try rfl))) ?_
    rintro _ _ ⟨⟨b, rfl, hb, _⟩, rfl⟩
    cases b with
    | false =>
      conv => whnf
      repeat (first | refine ru ?_ | ((first | refine AW.plan (id := 24) hm (.one 0 (.one 1 (.one 3 (.one 8 (.one 10 (.imm 2 (.one 4 (.one 5 (.imm 6 (.one 7 (.one 9 (.one 11 (.one 12 (.one 13 (.one 14 (.one 15 (.one 16 (.one 17 .nil)))))))))))))))))) (by kernel_rfl) ?_ | refine AW.plan (id := 28) hm (.one 0 (.one 1 (.one 3 (.one 9 (.one 11 (.imm 2 (.one 4 (.one 5 (.imm 6 (.one 7 (.one 8 (.one 10 (.one 12 (.one 13 (.one 14 (.one 15 (.one 16 (.one 17 (.one 18 (.one 19 .nil)))))))))))))))))))) (by kernel_rfl) ?_); conv => whnf))
      refine AOut.stay ?_
      conv => whnf
      repeat (first | refine ru ?_ | ((first | refine AW.plan (id := 24) hm (.one 0 (.one 1 (.one 3 (.one 8 (.one 10 (.imm 2 (.one 4 (.one 5 (.imm 6 (.one 7 (.one 9 (.one 11 (.one 12 (.one 13 (.one 14 (.one 15 (.one 16 (.one 17 .nil)))))))))))))))))) (by kernel_rfl) ?_ | refine AW.plan (id := 28) hm (.one 0 (.one 1 (.one 3 (.one 9 (.one 11 (.imm 2 (.one 4 (.one 5 (.imm 6 (.one 7 (.one 8 (.one 10 (.one 12 (.one 13 (.one 14 (.one 15 (.one 16 (.one 17 (.one 18 (.one 19 .nil)))))))))))))))))))) (by kernel_rfl) ?_); conv => whnf))
      exact hfalse
    | true =>
    have hb := hb rfl
    conv => whnf
    repeat (first | refine ru ?_ | ((first | refine AW.plan (id := 24) hm (.one 0 (.one 1 (.one 3 (.one 8 (.one 10 (.imm 2 (.one 4 (.one 5 (.imm 6 (.one 7 (.one 9 (.one 11 (.one 12 (.one 13 (.one 14 (.one 15 (.one 16 (.one 17 .nil)))))))))))))))))) (by kernel_rfl) ?_ | refine AW.plan (id := 28) hm (.one 0 (.one 1 (.one 3 (.one 9 (.one 11 (.imm 2 (.one 4 (.one 5 (.imm 6 (.one 7 (.one 8 (.one 10 (.one 12 (.one 13 (.one 14 (.one 15 (.one 16 (.one 17 (.one 18 (.one 19 .nil)))))))))))))))))))) (by kernel_rfl) ?_); conv => whnf))
    refine ALoop.mk (fun n E H => ∃ (k : Nat) (m : Int), n = s.orders[i].ls.length - k ∧ k ≤ s.orders[i].ls.length ∧
        E = pad [stA s, .ptr 0 0, bV false, nV m, nV i, nV k] 213 ∧ H = [.ice 44 (stC s)]) (n := s.orders[i].ls.length) _ _
      ⟨0, m, rfl, Nat.zero_le _, rfl, rfl⟩ (Conv.fit (by repeat' (first | exact Fit.nil | refine Fit.any ?_ | refine Fit.same ?_))) ?_
    rintro _ _ _ ⟨k, m, rfl, hk, rfl, rfl⟩
    conv => whnf
    repeat (first | refine go ?_ | ((first | refine AW.plan (id := 24) hm (.one 0 (.one 1 (.one 3 (.one 8 (.one 10 (.imm 2 (.one 4 (.one 5 (.imm 6 (.one 7 (.one 9 (.one 11 (.one 12 (.one 13 (.one 14 (.one 15 (.one 16 (.one 17 .nil)))))))))))))))))) (by kernel_rfl) ?_ | refine AW.plan (id := 28) hm (.one 0 (.one 1 (.one 3 (.one 9 (.one 11 (.imm 2 (.one 4 (.one 5 (.imm 6 (.one 7 (.one 8 (.one 10 (.one 12 (.one 13 (.one 14 (.one 15 (.one 16 (.one 17 (.one 18 (.one 19 .nil)))))))))))))))))))) (by kernel_rfl) ?_ | refine AReq.mk (by omega) ?_ | refine AIdx.flat (enc := odC) odC_len (xs := s.orders) (i := i) hil ?_); conv => whnf))
    refine ACond.dec (fun h4 => ?_) (fun h4 => ?_)
    · have hkl : k < s.orders[i].ls.length := by omega
      have w2 : IntKind.wrap .i64 ((k : Int) + 1) = ((k + 1 : Nat) : Int) := by rw [wrap_i64 _ (by omega) (by omega)]; omega
      conv => whnf
      repeat (first | refine go ?_ | ((first | refine AW.plan (id := 24) hm (.one 0 (.one 1 (.one 3 (.one 8 (.one 10 (.imm 2 (.one 4 (.one 5 (.imm 6 (.one 7 (.one 9 (.one 11 (.one 12 (.one 13 (.one 14 (.one 15 (.one 16 (.one 17 .nil)))))))))))))))))) (by kernel_rfl) ?_ | refine AW.plan (id := 28) hm (.one 0 (.one 1 (.one 3 (.one 9 (.one 11 (.imm 2 (.one 4 (.one 5 (.imm 6 (.one 7 (.one 8 (.one 10 (.one 12 (.one 13 (.one 14 (.one 15 (.one 16 (.one 17 (.one 18 (.one 19 .nil)))))))))))))))))))) (by kernel_rfl) ?_ | refine AReq.mk (by omega) ?_ | refine AIdx.flat (enc := odC) odC_len (xs := s.orders) (i := i) hil ?_ | refine AIdx.flat (enc := lnC) lnC_len (xs := s.orders[i].ls) (i := k) hkl ?_); conv => whnf))
      rw [w2]
      exact AHead.mk (s.orders[i].ls.length - (k + 1)) _ _ (by omega) ⟨k + 1, _, rfl, by omega, rfl, rfl⟩ (Conv.fit (by repeat' (first | exact Fit.nil | refine Fit.any ?_ | refine Fit.same ?_)))
    · conv => whnf
      repeat (first | refine go ?_ | ((first | refine AW.plan (id := 24) hm (.one 0 (.one 1 (.one 3 (.one 8 (.one 10 (.imm 2 (.one 4 (.one 5 (.imm 6 (.one 7 (.one 9 (.one 11 (.one 12 (.one 13 (.one 14 (.one 15 (.one 16 (.one 17 .nil)))))))))))))))))) (by kernel_rfl) ?_ | refine AW.plan (id := 28) hm (.one 0 (.one 1 (.one 3 (.one 9 (.one 11 (.imm 2 (.one 4 (.one 5 (.imm 6 (.one 7 (.one 8 (.one 10 (.one 12 (.one 13 (.one 14 (.one 15 (.one 16 (.one 17 (.one 18 (.one 19 .nil)))))))))))))))))))) (by kernel_rfl) ?_ | refine AReq.mk (by omega) ?_ | refine AIdx.flat (enc := odC) odC_len (xs := s.orders) (i := i) hil ?_ | refine AIdx.flat (enc := lnC) lnC_len (xs := s.orders[i].ls) (i := k) hkl ?_); conv => whnf))
      refine AOut.stay ?_
      conv => whnf
      repeat (first | refine go ?_ | ((first | refine AW.plan (id := 24) hm (.one 0 (.one 1 (.one 3 (.one 8 (.one 10 (.imm 2 (.one 4 (.one 5 (.imm 6 (.one 7 (.one 9 (.one 11 (.one 12 (.one 13 (.one 14 (.one 15 (.one 16 (.one 17 .nil)))))))))))))))))) (by kernel_rfl) ?_ | refine AW.plan (id := 28) hm (.one 0 (.one 1 (.one 3 (.one 9 (.one 11 (.imm 2 (.one 4 (.one 5 (.imm 6 (.one 7 (.one 8 (.one 10 (.one 12 (.one 13 (.one 14 (.one 15 (.one 16 (.one 17 (.one 18 (.one 19 .nil)))))))))))))))))))) (by kernel_rfl) ?_ | refine AReq.mk (by omega) ?_ | refine AIdx.flat (enc := odC) odC_len (xs := s.orders) (i := i) hil ?_ | refine AIdx.flat (enc := lnC) lnC_len (xs := s.orders[i].ls) (i := k) hkl ?_); conv => whnf))
      rw [w1]
      refine AHead.mk (s.orders.length - (i + 1)) _ _ (by omega) ⟨i + 1, m, rfl, by omega, ?_, rfl, rfl⟩ (Conv.fit (by repeat' (first | exact Fit.nil | refine Fit.any ?_ | refine Fit.same ?_)))
      intro j hj hji
      rcases Nat.lt_or_ge j i with g | g
      · exact hI j hj g
      · obtain rfl : j = i := by omega
        exact hb
  have hlines : ∀ o ∈ s.orders, o.ls.length ≤ 20 ∧ ∀ x ∈ o.ls, lnFew x := fun o ho => by
    obtain ⟨k, hk, rfl⟩ := List.mem_iff_getElem.1 ho
    exact hI k hk (by omega)
  have hfew : FewOk s := ⟨by omega, by omega, by omega, by omega, by omega, by omega, by omega, by omega, by omega, by omega, by omega, by omega, by omega, hlines⟩
  conv => whnf
  repeat (first | refine go ?_ | ((first | refine AW.plan (id := 24) hm (.one 0 (.one 1 (.one 3 (.one 8 (.one 10 (.imm 2 (.one 4 (.one 5 (.imm 6 (.one 7 (.one 9 (.one 11 (.one 12 (.one 13 (.one 14 (.one 15 (.one 16 (.one 17 .nil)))))))))))))))))) (by kernel_rfl) ?_ | refine AW.plan (id := 28) hm (.one 0 (.one 1 (.one 3 (.one 9 (.one 11 (.imm 2 (.one 4 (.one 5 (.imm 6 (.one 7 (.one 8 (.one 10 (.one 12 (.one 13 (.one 14 (.one 15 (.one 16 (.one 17 (.one 18 (.one 19 .nil)))))))))))))))))))) (by kernel_rfl) ?_); conv => whnf))
  refine AOut.stay ?_
  conv => whnf
  repeat (first | refine go ?_ | ((first | refine AW.plan (id := 24) hm (.one 0 (.one 1 (.one 3 (.one 8 (.one 10 (.imm 2 (.one 4 (.one 5 (.imm 6 (.one 7 (.one 9 (.one 11 (.one 12 (.one 13 (.one 14 (.one 15 (.one 16 (.one 17 .nil)))))))))))))))))) (by kernel_rfl) ?_ | refine AW.plan (id := 28) hm (.one 0 (.one 1 (.one 3 (.one 9 (.one 11 (.imm 2 (.one 4 (.one 5 (.imm 6 (.one 7 (.one 8 (.one 10 (.one 12 (.one 13 (.one 14 (.one 15 (.one 16 (.one 17 (.one 18 (.one 19 .nil)))))))))))))))))))) (by kernel_rfl) ?_); conv => whnf))
  refine ALoop.mk (fun n E H => ∃ (i : Nat) (m : Int), n = s.rmas.length - i ∧ i ≤ s.rmas.length ∧
      E = pad [stA s, .ptr 0 0, bV false, nV m, .any, .any, nV i] 213 ∧ H = [.ice 44 (stC s)]) (n := s.rmas.length) _ _
    ⟨0, m, rfl, Nat.zero_le _, rfl, rfl⟩ (Conv.fit (by repeat' (first | exact Fit.nil | refine Fit.any ?_ | refine Fit.same ?_))) ?_
  rintro _ _ _ ⟨i, m, rfl, hi, rfl, rfl⟩
  conv => whnf
  repeat (first | refine go ?_ | ((first | refine AW.plan (id := 24) hm (.one 0 (.one 1 (.one 3 (.one 8 (.one 10 (.imm 2 (.one 4 (.one 5 (.imm 6 (.one 7 (.one 9 (.one 11 (.one 12 (.one 13 (.one 14 (.one 15 (.one 16 (.one 17 .nil)))))))))))))))))) (by kernel_rfl) ?_ | refine AW.plan (id := 28) hm (.one 0 (.one 1 (.one 3 (.one 9 (.one 11 (.imm 2 (.one 4 (.one 5 (.imm 6 (.one 7 (.one 8 (.one 10 (.one 12 (.one 13 (.one 14 (.one 15 (.one 16 (.one 17 (.one 18 (.one 19 .nil)))))))))))))))))))) (by kernel_rfl) ?_); conv => whnf))
  refine ACond.dec (fun h2 => ?_) (fun h2 => ?_)
  · have hil : i < s.rmas.length := by omega
    have w1 : IntKind.wrap .i64 ((i : Int) + 1) = ((i + 1 : Nat) : Int) := by rw [wrap_i64 _ (by omega) (by omega)]; omega
    conv => whnf
    repeat (first | refine go ?_ | ((first | refine AW.plan (id := 24) hm (.one 0 (.one 1 (.one 3 (.one 8 (.one 10 (.imm 2 (.one 4 (.one 5 (.imm 6 (.one 7 (.one 9 (.one 11 (.one 12 (.one 13 (.one 14 (.one 15 (.one 16 (.one 17 .nil)))))))))))))))))) (by kernel_rfl) ?_ | refine AW.plan (id := 28) hm (.one 0 (.one 1 (.one 3 (.one 9 (.one 11 (.imm 2 (.one 4 (.one 5 (.imm 6 (.one 7 (.one 8 (.one 10 (.one 12 (.one 13 (.one 14 (.one 15 (.one 16 (.one 17 (.one 18 (.one 19 .nil)))))))))))))))))))) (by kernel_rfl) ?_ | refine AReq.mk (by first | omega | decide) ?_ | refine AIdx.flat (enc := rmC) rmC_len (xs := s.rmas) (i := i) hil ?_); conv => whnf))
    rw [w1]
    exact AHead.mk (s.rmas.length - (i + 1)) _ _ (by omega) ⟨i + 1, _, rfl, by omega, rfl, rfl⟩ (Conv.fit (by repeat' (first | exact Fit.nil | refine Fit.any ?_ | refine Fit.same ?_)))
  conv => whnf
  repeat (first | refine go ?_ | ((first | refine AW.plan (id := 24) hm (.one 0 (.one 1 (.one 3 (.one 8 (.one 10 (.imm 2 (.one 4 (.one 5 (.imm 6 (.one 7 (.one 9 (.one 11 (.one 12 (.one 13 (.one 14 (.one 15 (.one 16 (.one 17 .nil)))))))))))))))))) (by kernel_rfl) ?_ | refine AW.plan (id := 28) hm (.one 0 (.one 1 (.one 3 (.one 9 (.one 11 (.imm 2 (.one 4 (.one 5 (.imm 6 (.one 7 (.one 8 (.one 10 (.one 12 (.one 13 (.one 14 (.one 15 (.one 16 (.one 17 (.one 18 (.one 19 .nil)))))))))))))))))))) (by kernel_rfl) ?_); conv => whnf))
  refine AOut.stay ?_
  conv => whnf
  repeat (first | refine go ?_ | ((first | refine AW.plan (id := 24) hm (.one 0 (.one 1 (.one 3 (.one 8 (.one 10 (.imm 2 (.one 4 (.one 5 (.imm 6 (.one 7 (.one 9 (.one 11 (.one 12 (.one 13 (.one 14 (.one 15 (.one 16 (.one 17 .nil)))))))))))))))))) (by kernel_rfl) ?_ | refine AW.plan (id := 28) hm (.one 0 (.one 1 (.one 3 (.one 9 (.one 11 (.imm 2 (.one 4 (.one 5 (.imm 6 (.one 7 (.one 8 (.one 10 (.one 12 (.one 13 (.one 14 (.one 15 (.one 16 (.one 17 (.one 18 (.one 19 .nil)))))))))))))))))))) (by kernel_rfl) ?_); conv => whnf))
  refine ALoop.mk (fun n E H => ∃ (i : Nat) (m : Int), n = s.claims.length - i ∧ i ≤ s.claims.length ∧
      E = pad [stA s, .ptr 0 0, bV false, nV m, .any, .any, .any, nV i] 213 ∧ H = [.ice 44 (stC s)]) (n := s.claims.length) _ _
    ⟨0, m, rfl, Nat.zero_le _, rfl, rfl⟩ (Conv.fit (by repeat' (first | exact Fit.nil | refine Fit.any ?_ | refine Fit.same ?_))) ?_
  rintro _ _ _ ⟨i, m, rfl, hi, rfl, rfl⟩
  conv => whnf
  repeat (first | refine go ?_ | ((first | refine AW.plan (id := 24) hm (.one 0 (.one 1 (.one 3 (.one 8 (.one 10 (.imm 2 (.one 4 (.one 5 (.imm 6 (.one 7 (.one 9 (.one 11 (.one 12 (.one 13 (.one 14 (.one 15 (.one 16 (.one 17 .nil)))))))))))))))))) (by kernel_rfl) ?_ | refine AW.plan (id := 28) hm (.one 0 (.one 1 (.one 3 (.one 9 (.one 11 (.imm 2 (.one 4 (.one 5 (.imm 6 (.one 7 (.one 8 (.one 10 (.one 12 (.one 13 (.one 14 (.one 15 (.one 16 (.one 17 (.one 18 (.one 19 .nil)))))))))))))))))))) (by kernel_rfl) ?_); conv => whnf))
  refine ACond.dec (fun h2 => ?_) (fun h2 => ?_)
  · have hil : i < s.claims.length := by omega
    have w1 : IntKind.wrap .i64 ((i : Int) + 1) = ((i + 1 : Nat) : Int) := by rw [wrap_i64 _ (by omega) (by omega)]; omega
    conv => whnf
    repeat (first | refine go ?_ | ((first | refine AW.plan (id := 24) hm (.one 0 (.one 1 (.one 3 (.one 8 (.one 10 (.imm 2 (.one 4 (.one 5 (.imm 6 (.one 7 (.one 9 (.one 11 (.one 12 (.one 13 (.one 14 (.one 15 (.one 16 (.one 17 .nil)))))))))))))))))) (by kernel_rfl) ?_ | refine AW.plan (id := 28) hm (.one 0 (.one 1 (.one 3 (.one 9 (.one 11 (.imm 2 (.one 4 (.one 5 (.imm 6 (.one 7 (.one 8 (.one 10 (.one 12 (.one 13 (.one 14 (.one 15 (.one 16 (.one 17 (.one 18 (.one 19 .nil)))))))))))))))))))) (by kernel_rfl) ?_ | refine AReq.mk (by first | omega | decide) ?_ | refine AIdx.flat (enc := clC) clC_len (xs := s.claims) (i := i) hil ?_); conv => whnf))
    rw [w1]
    exact AHead.mk (s.claims.length - (i + 1)) _ _ (by omega) ⟨i + 1, _, rfl, by omega, rfl, rfl⟩ (Conv.fit (by repeat' (first | exact Fit.nil | refine Fit.any ?_ | refine Fit.same ?_)))
  conv => whnf
  repeat (first | refine go ?_ | ((first | refine AW.plan (id := 24) hm (.one 0 (.one 1 (.one 3 (.one 8 (.one 10 (.imm 2 (.one 4 (.one 5 (.imm 6 (.one 7 (.one 9 (.one 11 (.one 12 (.one 13 (.one 14 (.one 15 (.one 16 (.one 17 .nil)))))))))))))))))) (by kernel_rfl) ?_ | refine AW.plan (id := 28) hm (.one 0 (.one 1 (.one 3 (.one 9 (.one 11 (.imm 2 (.one 4 (.one 5 (.imm 6 (.one 7 (.one 8 (.one 10 (.one 12 (.one 13 (.one 14 (.one 15 (.one 16 (.one 17 (.one 18 (.one 19 .nil)))))))))))))))))))) (by kernel_rfl) ?_); conv => whnf))
  refine AOut.stay ?_
  conv => whnf
  repeat (first | refine go ?_ | ((first | refine AW.plan (id := 24) hm (.one 0 (.one 1 (.one 3 (.one 8 (.one 10 (.imm 2 (.one 4 (.one 5 (.imm 6 (.one 7 (.one 9 (.one 11 (.one 12 (.one 13 (.one 14 (.one 15 (.one 16 (.one 17 .nil)))))))))))))))))) (by kernel_rfl) ?_ | refine AW.plan (id := 28) hm (.one 0 (.one 1 (.one 3 (.one 9 (.one 11 (.imm 2 (.one 4 (.one 5 (.imm 6 (.one 7 (.one 8 (.one 10 (.one 12 (.one 13 (.one 14 (.one 15 (.one 16 (.one 17 (.one 18 (.one 19 .nil)))))))))))))))))))) (by kernel_rfl) ?_); conv => whnf))
  refine ALoop.mk (fun n E H => ∃ (i : Nat) (m : Int), n = s.memos.length - i ∧ i ≤ s.memos.length ∧
      E = pad [stA s, .ptr 0 0, bV false, nV m, .any, .any, .any, .any, nV i] 213 ∧ H = [.ice 44 (stC s)]) (n := s.memos.length) _ _
    ⟨0, m, rfl, Nat.zero_le _, rfl, rfl⟩ (Conv.fit (by repeat' (first | exact Fit.nil | refine Fit.any ?_ | refine Fit.same ?_))) ?_
  rintro _ _ _ ⟨i, m, rfl, hi, rfl, rfl⟩
  conv => whnf
  repeat (first | refine go ?_ | ((first | refine AW.plan (id := 24) hm (.one 0 (.one 1 (.one 3 (.one 8 (.one 10 (.imm 2 (.one 4 (.one 5 (.imm 6 (.one 7 (.one 9 (.one 11 (.one 12 (.one 13 (.one 14 (.one 15 (.one 16 (.one 17 .nil)))))))))))))))))) (by kernel_rfl) ?_ | refine AW.plan (id := 28) hm (.one 0 (.one 1 (.one 3 (.one 9 (.one 11 (.imm 2 (.one 4 (.one 5 (.imm 6 (.one 7 (.one 8 (.one 10 (.one 12 (.one 13 (.one 14 (.one 15 (.one 16 (.one 17 (.one 18 (.one 19 .nil)))))))))))))))))))) (by kernel_rfl) ?_); conv => whnf))
  refine ACond.dec (fun h2 => ?_) (fun h2 => ?_)
  · have hil : i < s.memos.length := by omega
    have w1 : IntKind.wrap .i64 ((i : Int) + 1) = ((i + 1 : Nat) : Int) := by rw [wrap_i64 _ (by omega) (by omega)]; omega
    conv => whnf
    repeat (first | refine go ?_ | ((first | refine AW.plan (id := 24) hm (.one 0 (.one 1 (.one 3 (.one 8 (.one 10 (.imm 2 (.one 4 (.one 5 (.imm 6 (.one 7 (.one 9 (.one 11 (.one 12 (.one 13 (.one 14 (.one 15 (.one 16 (.one 17 .nil)))))))))))))))))) (by kernel_rfl) ?_ | refine AW.plan (id := 28) hm (.one 0 (.one 1 (.one 3 (.one 9 (.one 11 (.imm 2 (.one 4 (.one 5 (.imm 6 (.one 7 (.one 8 (.one 10 (.one 12 (.one 13 (.one 14 (.one 15 (.one 16 (.one 17 (.one 18 (.one 19 .nil)))))))))))))))))))) (by kernel_rfl) ?_ | refine AReq.mk (by first | omega | decide) ?_ | refine AIdx.flat (enc := moC) moC_len (xs := s.memos) (i := i) hil ?_); conv => whnf))
    rw [w1]
    exact AHead.mk (s.memos.length - (i + 1)) _ _ (by omega) ⟨i + 1, _, rfl, by omega, rfl, rfl⟩ (Conv.fit (by repeat' (first | exact Fit.nil | refine Fit.any ?_ | refine Fit.same ?_)))
  conv => whnf
  repeat (first | refine go ?_ | ((first | refine AW.plan (id := 24) hm (.one 0 (.one 1 (.one 3 (.one 8 (.one 10 (.imm 2 (.one 4 (.one 5 (.imm 6 (.one 7 (.one 9 (.one 11 (.one 12 (.one 13 (.one 14 (.one 15 (.one 16 (.one 17 .nil)))))))))))))))))) (by kernel_rfl) ?_ | refine AW.plan (id := 28) hm (.one 0 (.one 1 (.one 3 (.one 9 (.one 11 (.imm 2 (.one 4 (.one 5 (.imm 6 (.one 7 (.one 8 (.one 10 (.one 12 (.one 13 (.one 14 (.one 15 (.one 16 (.one 17 (.one 18 (.one 19 .nil)))))))))))))))))))) (by kernel_rfl) ?_); conv => whnf))
  refine AOut.stay ?_
  conv => whnf
  repeat (first | refine go ?_ | ((first | refine AW.plan (id := 24) hm (.one 0 (.one 1 (.one 3 (.one 8 (.one 10 (.imm 2 (.one 4 (.one 5 (.imm 6 (.one 7 (.one 9 (.one 11 (.one 12 (.one 13 (.one 14 (.one 15 (.one 16 (.one 17 .nil)))))))))))))))))) (by kernel_rfl) ?_ | refine AW.plan (id := 28) hm (.one 0 (.one 1 (.one 3 (.one 9 (.one 11 (.imm 2 (.one 4 (.one 5 (.imm 6 (.one 7 (.one 8 (.one 10 (.one 12 (.one 13 (.one 14 (.one 15 (.one 16 (.one 17 (.one 18 (.one 19 .nil)))))))))))))))))))) (by kernel_rfl) ?_); conv => whnf))
  refine ALoop.mk (fun n E H => ∃ (i : Nat) (m : Int), n = s.keys.length - i ∧ i ≤ s.keys.length ∧
      E = pad [stA s, .ptr 0 0, bV false, nV m, .any, .any, .any, .any, .any, nV i] 213 ∧ H = [.ice 44 (stC s)]) (n := s.keys.length) _ _
    ⟨0, m, rfl, Nat.zero_le _, rfl, rfl⟩ (Conv.fit (by repeat' (first | exact Fit.nil | refine Fit.any ?_ | refine Fit.same ?_))) ?_
  rintro _ _ _ ⟨i, m, rfl, hi, rfl, rfl⟩
  conv => whnf
  repeat (first | refine go ?_ | ((first | refine AW.plan (id := 24) hm (.one 0 (.one 1 (.one 3 (.one 8 (.one 10 (.imm 2 (.one 4 (.one 5 (.imm 6 (.one 7 (.one 9 (.one 11 (.one 12 (.one 13 (.one 14 (.one 15 (.one 16 (.one 17 .nil)))))))))))))))))) (by kernel_rfl) ?_ | refine AW.plan (id := 28) hm (.one 0 (.one 1 (.one 3 (.one 9 (.one 11 (.imm 2 (.one 4 (.one 5 (.imm 6 (.one 7 (.one 8 (.one 10 (.one 12 (.one 13 (.one 14 (.one 15 (.one 16 (.one 17 (.one 18 (.one 19 .nil)))))))))))))))))))) (by kernel_rfl) ?_); conv => whnf))
  refine ACond.dec (fun h2 => ?_) (fun h2 => ?_)
  · have hil : i < s.keys.length := by omega
    have w1 : IntKind.wrap .i64 ((i : Int) + 1) = ((i + 1 : Nat) : Int) := by rw [wrap_i64 _ (by omega) (by omega)]; omega
    conv => whnf
    repeat (first | refine go ?_ | ((first | refine AW.plan (id := 24) hm (.one 0 (.one 1 (.one 3 (.one 8 (.one 10 (.imm 2 (.one 4 (.one 5 (.imm 6 (.one 7 (.one 9 (.one 11 (.one 12 (.one 13 (.one 14 (.one 15 (.one 16 (.one 17 .nil)))))))))))))))))) (by kernel_rfl) ?_ | refine AW.plan (id := 28) hm (.one 0 (.one 1 (.one 3 (.one 9 (.one 11 (.imm 2 (.one 4 (.one 5 (.imm 6 (.one 7 (.one 8 (.one 10 (.one 12 (.one 13 (.one 14 (.one 15 (.one 16 (.one 17 (.one 18 (.one 19 .nil)))))))))))))))))))) (by kernel_rfl) ?_ | refine AReq.mk (by first | omega | decide) ?_ | refine AIdx.flat (enc := dnC) dnC_len (xs := s.keys) (i := i) hil ?_); conv => whnf))
    rw [w1]
    exact AHead.mk (s.keys.length - (i + 1)) _ _ (by omega) ⟨i + 1, _, rfl, by omega, rfl, rfl⟩ (Conv.fit (by repeat' (first | exact Fit.nil | refine Fit.any ?_ | refine Fit.same ?_)))
  conv => whnf
  repeat (first | refine go ?_ | ((first | refine AW.plan (id := 24) hm (.one 0 (.one 1 (.one 3 (.one 8 (.one 10 (.imm 2 (.one 4 (.one 5 (.imm 6 (.one 7 (.one 9 (.one 11 (.one 12 (.one 13 (.one 14 (.one 15 (.one 16 (.one 17 .nil)))))))))))))))))) (by kernel_rfl) ?_ | refine AW.plan (id := 28) hm (.one 0 (.one 1 (.one 3 (.one 9 (.one 11 (.imm 2 (.one 4 (.one 5 (.imm 6 (.one 7 (.one 8 (.one 10 (.one 12 (.one 13 (.one 14 (.one 15 (.one 16 (.one 17 (.one 18 (.one 19 .nil)))))))))))))))))))) (by kernel_rfl) ?_); conv => whnf))
  refine AOut.stay ?_
  conv => whnf
  repeat (first | refine go ?_ | ((first | refine AW.plan (id := 24) hm (.one 0 (.one 1 (.one 3 (.one 8 (.one 10 (.imm 2 (.one 4 (.one 5 (.imm 6 (.one 7 (.one 9 (.one 11 (.one 12 (.one 13 (.one 14 (.one 15 (.one 16 (.one 17 .nil)))))))))))))))))) (by kernel_rfl) ?_ | refine AW.plan (id := 28) hm (.one 0 (.one 1 (.one 3 (.one 9 (.one 11 (.imm 2 (.one 4 (.one 5 (.imm 6 (.one 7 (.one 8 (.one 10 (.one 12 (.one 13 (.one 14 (.one 15 (.one 16 (.one 17 (.one 18 (.one 19 .nil)))))))))))))))))))) (by kernel_rfl) ?_); conv => whnf))
  exact AFin.val rfl ⟨⟨_, rfl, fun _ => hfew⟩, rfl⟩
end Go.Aw.U1

set_option linter.unusedSimpArgs false
set_option linter.unusedVariables false
set_option maxHeartbeats 4000000
set_option maxRecDepth 30000
namespace Go.Aw.U1
open Go Go.Proofs

theorem sumOf_ge {l : List UR.Mv} (h : ∀ k, UR.okAt l k) (p : Bool) (i : Int) : ∀ k, k ≤ l.length → 0 ≤ UR.sumOf (l.take k) p i
  | 0, _ => by simp [UR.sumOf]
  | k + 1, hk => by
    have hkl : k < l.length := by omega
    have ih := sumOf_ge h p i k (by omega)
    rw [UR.take_snoc l k hkl, UR.sumOf_snoc]
    split
    · rename_i hm
      have h1 := (h k hkl).2.1
      simp only [UR.mat, Bool.and_eq_true, beq_iff_eq, decide_eq_true_eq] at hm
      rw [UR.take_snoc l k hkl, UR.sumOf_snoc] at h1
      rw [if_pos (by simp [UR.mat])] at h1
      rw [hm.1, hm.2] at h1
      exact h1
    · exact ih
theorem StockOk.same {s : Sta} {d d' : List UR.Hd} (h : StockOk s d) (h' : UR.AllOf (mvL s) d') : ∀ x ∈ d', 0 ≤ x.2.2 ∧ (x.1 = false → x.2.2 = cntS s x.2.1 s.units) := fun x hx => by
  have hm := (h'.mem x).1 hx
  refine ⟨?_, fun hp => h.cnt x ((h.all.mem x).2 hm) hp⟩
  rw [hm.2]
  have := sumOf_ge h.good.2 x.1 x.2.1 (mvL s).length (Nat.le_refl _)
  rwa [List.take_length] at this
theorem all_len {s : Sta} {d : List UR.Hd} (hall : UR.AllOf (mvL s) d) (hm : s.moves.length ≤ 300) : d.length ≤ 300 := by
  have h1 : (d.map fun x => (x.1, x.2.1)).Nodup := by
    rw [List.Nodup, List.pairwise_map]
    refine hall.lt.imp fun {x y} hxy he => ?_
    simp only [Prod.mk.injEq] at he
    simp only [UR.hdLt, decide_eq_true_eq] at hxy
    rcases hxy with ⟨_, h3⟩ | ⟨h3, h4⟩
    · omega
    · rw [he.1] at h3; rw [h3] at h4; cases h4
  have h2 := nodup_le h1 (l' := (mvL s).map fun m => (m.p, m.i)) (fun y hy => by
    obtain ⟨x, hx, rfl⟩ := List.mem_map.1 hy
    obtain ⟨m, hm1, hm2, hm3⟩ := ((hall.mem x).1 hx).1
    exact List.mem_map.2 ⟨m, hm1, by rw [hm2, hm3]⟩)
  simp only [List.length_map, mvL] at h2
  omega
/-- what the walk asks of a state -/
structure Wf (s : Sta) : Prop where
  ids : idsOk s
  ords : ∀ o ∈ s.orders, ∀ x ∈ o.ls, ∀ y ∈ x.ss, sOk y
  rmas : ∀ r ∈ s.rmas, rmOk r
  units : ∀ u ∈ s.units, sOk u.s
  works : ∀ u ∈ s.works, sOk u.s
  claims : ∀ u ∈ s.claims, ssOk u.ss
  memos : ∀ u ∈ s.memos, ssOk u.ss ∧ u.am.length ≤ 9223372036854775807
theorem Wf.sta {s : Sta} (h : Wf s) (f : FewOk s) : StaOk s where
  items := by have := f.items; omega
  orders := ⟨by have := f.orders; omega, fun o ho => ⟨by have := (f.lines o ho).1; omega, fun x hx => ⟨⟨by have := ((f.lines o ho).2 x hx).1; omega, fun y hy => h.ords o ho x hx y hy⟩, by have := ((f.lines o ho).2 x hx).1; omega⟩⟩⟩
  rmas := ⟨by have := f.rmas; omega, h.rmas⟩
  units := ⟨by have := f.units; omega, h.units⟩
  works := ⟨by have := f.works; omega, h.works⟩
  claims := ⟨by have := f.claims; omega, h.claims⟩
  memos := ⟨by have := f.memos; omega, h.memos⟩
  moves := f.moves
  asks := by have := f.asks; omega
  cuts := by have := f.cuts; omega
  fees := by have := f.fees; omega
  rows := by have := f.rows; omega
  keys := by have := f.keys; omega
end Go.Aw.U1

