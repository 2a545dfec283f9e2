/-
  The statement StateBounds: of a state that may be, of no line more is authorised, received or paid back than was shipped and paid, without any condition.
-/
import Derived.Test.YtnfbiphfhkfnaaaGreatUgF
set_option linter.unusedSimpArgs false
set_option linter.unusedVariables false
set_option linter.unusedSimpArgs false
set_option linter.unusedVariables false
set_option maxHeartbeats 4000000
namespace Go.Aw.U1
open Go Go.Proofs

def rng (n : Nat) : List Int := (List.range n).map fun i : Nat => (i : Int)
theorem rng_len (n : Nat) : (rng n).length = n := by simp [rng]
theorem rng_get {n i : Nat} (h : i < (rng n).length) : (rng n)[i] = (i : Int) := by simp [rng]
def alike (l : List Int) : Prop := ∀ i j (hi : i < l.length) (hj : j < l.length), l[i] = l[j]
theorem f237 (l : List Int) (n a b : Nat) (hl : l.length = n) (hn : n ≤ 20) (hal : alike l) (hab : a ≤ b) (hb : b ≤ n) :
    Spec P 237 [.ms 1 0 0 n, nV a, nV b, cmp1 l] [.cells 3 ((rng n).flatMap iC)] (fun r H => r = .tup [] ∧ H = [.cells 3 ((rng n).flatMap iC)]) := by
  refine spec_of hT (f := 237) (fn := Go.Proofs.Tryz.f237) (c := body Go.Proofs.Tryz.f237) (by kernel_rfl) (by kernel_rfl) ?_
  have hr := rng_len n
  have w0 : IntKind.wrap .i64 ((a : Int) + 1) = ((a + 1 : Nat) : Int) := by rw [wrap_i64 _ (by omega) (by omega)]; omega
  conv => whnf
  repeat (first | refine go ?_ | ((first | refine AW.plan (id := 4) hm (.one 0 (.one 1 (.one 2 (.one 3 (.one 4 (.one 5 (.one 6 (.one 7 (.one 9 (.one 10 (.one 11 (.one 12 (.one 8 (.one 13 (.one 14 (.one 15 (.one 16 .nil))))))))))))))))) (by kernel_rfl) ?_ | refine AW.plan (id := 6) hm (.one 0 (.one 1 (.one 2 (.one 3 (.one 4 (.one 5 (.one 6 (.one 7 (.one 8 (.one 10 (.one 11 (.one 12 (.one 9 (.one 13 (.one 14 (.one 15 (.one 16 (.one 17 .nil)))))))))))))))))) (by kernel_rfl) ?_); conv => whnf))
  rw [w0]
  refine ALoop.mk (fun m E H => ∃ i : Nat, m = n + 2 - i ∧ a + 1 ≤ i ∧ i ≤ n + 1 ∧
      E = pad [.ms 1 0 0 n, nV a, nV b, cmp1 l, .any, .any, .any, .any, nV i] 53 ∧ H = [.cells 3 ((rng n).flatMap iC)]) (n := n + 1 - a) _ _
    ⟨a + 1, by omega, Nat.le_refl _, by omega, rfl, rfl⟩ (Conv.fit (by repeat' (first | exact Fit.nil | refine Fit.any ?_ | refine Fit.same ?_))) ?_
  rintro _ _ _ ⟨i, rfl, hi, hi2, rfl, rfl⟩
  conv => whnf
  repeat (first | refine go ?_ | ((first | refine AW.plan (id := 4) hm (.one 0 (.one 1 (.one 2 (.one 3 (.one 4 (.one 5 (.one 6 (.one 7 (.one 9 (.one 10 (.one 11 (.one 12 (.one 8 (.one 13 (.one 14 (.one 15 (.one 16 .nil))))))))))))))))) (by kernel_rfl) ?_ | refine AW.plan (id := 6) hm (.one 0 (.one 1 (.one 2 (.one 3 (.one 4 (.one 5 (.one 6 (.one 7 (.one 8 (.one 10 (.one 11 (.one 12 (.one 9 (.one 13 (.one 14 (.one 15 (.one 16 (.one 17 .nil)))))))))))))))))) (by kernel_rfl) ?_); conv => whnf))
  refine ACond.dec (fun h => ?_) (fun h => ?_)
  · have hil : i < n := by omega
    have w1 : IntKind.wrap .i64 ((i : Int) + 1) = ((i + 1 : Nat) : Int) := by rw [wrap_i64 _ (by omega) (by omega)]; omega
    have w2 : IntKind.wrap .i64 ((i : Int) - 1) = ((i - 1 : Nat) : Int) := by rw [wrap_i64 _ (by omega) (by omega)]; omega
    have hcmp := f217 l i (i - 1) (by omega) (by omega) (hal _ _ _ _)
    conv => whnf
    repeat (first | refine go ?_ | ((first | refine AW.plan (id := 4) hm (.one 0 (.one 1 (.one 2 (.one 3 (.one 4 (.one 5 (.one 6 (.one 7 (.one 9 (.one 10 (.one 11 (.one 12 (.one 8 (.one 13 (.one 14 (.one 15 (.one 16 .nil))))))))))))))))) (by kernel_rfl) ?_ | refine AW.plan (id := 6) hm (.one 0 (.one 1 (.one 2 (.one 3 (.one 4 (.one 5 (.one 6 (.one 7 (.one 8 (.one 10 (.one 11 (.one 12 (.one 9 (.one 13 (.one 14 (.one 15 (.one 16 (.one 17 .nil)))))))))))))))))) (by kernel_rfl) ?_); conv => whnf))
    refine ALoop.mk (fun m E H => m = 0 ∧
        E = pad [.ms 1 0 0 n, nV a, nV b, cmp1 l, .any, .any, .any, .any, nV i, nV i] 53 ∧ H = [.cells 3 ((rng n).flatMap iC)]) (n := 0) _ _
      ⟨rfl, rfl, rfl⟩ (Conv.fit (by repeat' (first | exact Fit.nil | refine Fit.any ?_ | refine Fit.same ?_))) ?_
    rintro _ _ _ ⟨rfl, rfl, rfl⟩
    conv => whnf
    repeat (first | refine go ?_ | ((first | refine AW.plan (id := 4) hm (.one 0 (.one 1 (.one 2 (.one 3 (.one 4 (.one 5 (.one 6 (.one 7 (.one 9 (.one 10 (.one 11 (.one 12 (.one 8 (.one 13 (.one 14 (.one 15 (.one 16 .nil))))))))))))))))) (by kernel_rfl) ?_ | refine AW.plan (id := 6) hm (.one 0 (.one 1 (.one 2 (.one 3 (.one 4 (.one 5 (.one 6 (.one 7 (.one 8 (.one 10 (.one 11 (.one 12 (.one 9 (.one 13 (.one 14 (.one 15 (.one 16 (.one 17 .nil)))))))))))))))))) (by kernel_rfl) ?_ | refine AReq.mk (by omega) ?_); conv => whnf))
    refine ASplit.yes (decide_eq_true (by omega)) ?_
    conv => whnf
    repeat (first | refine ru ?_ | ((first | refine AW.plan (id := 4) hm (.one 0 (.one 1 (.one 2 (.one 3 (.one 4 (.one 5 (.one 6 (.one 7 (.one 9 (.one 10 (.one 11 (.one 12 (.one 8 (.one 13 (.one 14 (.one 15 (.one 16 .nil))))))))))))))))) (by kernel_rfl) ?_ | refine AW.plan (id := 6) hm (.one 0 (.one 1 (.one 2 (.one 3 (.one 4 (.one 5 (.one 6 (.one 7 (.one 8 (.one 10 (.one 11 (.one 12 (.one 9 (.one 13 (.one 14 (.one 15 (.one 16 (.one 17 .nil)))))))))))))))))) (by kernel_rfl) ?_ | refine AReq.mk (by omega) ?_); conv => whnf))
    refine AIdx.flat (enc := iC) iC_len (xs := rng n) (i := i) (by omega) ?_
    conv => whnf
    repeat (first | refine ru ?_ | ((first | refine AW.plan (id := 4) hm (.one 0 (.one 1 (.one 2 (.one 3 (.one 4 (.one 5 (.one 6 (.one 7 (.one 9 (.one 10 (.one 11 (.one 12 (.one 8 (.one 13 (.one 14 (.one 15 (.one 16 .nil))))))))))))))))) (by kernel_rfl) ?_ | refine AW.plan (id := 6) hm (.one 0 (.one 1 (.one 2 (.one 3 (.one 4 (.one 5 (.one 6 (.one 7 (.one 8 (.one 10 (.one 11 (.one 12 (.one 9 (.one 13 (.one 14 (.one 15 (.one 16 (.one 17 .nil)))))))))))))))))) (by kernel_rfl) ?_ | refine AReq.mk (by omega) ?_); conv => whnf))
    rw [w2]
    conv => whnf
    repeat (first | refine ru ?_ | ((first | refine AW.plan (id := 4) hm (.one 0 (.one 1 (.one 2 (.one 3 (.one 4 (.one 5 (.one 6 (.one 7 (.one 9 (.one 10 (.one 11 (.one 12 (.one 8 (.one 13 (.one 14 (.one 15 (.one 16 .nil))))))))))))))))) (by kernel_rfl) ?_ | refine AW.plan (id := 6) hm (.one 0 (.one 1 (.one 2 (.one 3 (.one 4 (.one 5 (.one 6 (.one 7 (.one 8 (.one 10 (.one 11 (.one 12 (.one 9 (.one 13 (.one 14 (.one 15 (.one 16 (.one 17 .nil)))))))))))))))))) (by kernel_rfl) ?_ | refine AReq.mk (by omega) ?_); conv => whnf))
    refine AIdx.flat (enc := iC) iC_len (xs := rng n) (i := i - 1) (by omega) ?_
    conv => whnf
    repeat (first | refine ru ?_ | ((first | refine AW.plan (id := 4) hm (.one 0 (.one 1 (.one 2 (.one 3 (.one 4 (.one 5 (.one 6 (.one 7 (.one 9 (.one 10 (.one 11 (.one 12 (.one 8 (.one 13 (.one 14 (.one 15 (.one 16 .nil))))))))))))))))) (by kernel_rfl) ?_ | refine AW.plan (id := 6) hm (.one 0 (.one 1 (.one 2 (.one 3 (.one 4 (.one 5 (.one 6 (.one 7 (.one 8 (.one 10 (.one 11 (.one 12 (.one 9 (.one 13 (.one 14 (.one 15 (.one 16 (.one 17 .nil)))))))))))))))))) (by kernel_rfl) ?_ | refine AReq.mk (by omega) ?_); conv => whnf))
    rw [rng_get, rng_get]
    refine ACall.val (args := [nV i, nV (i - 1 : Nat), .ip [key1 l]]) (by kernel_rfl) hcmp (by simp only [renL, AV.ren, key1_ren]) rfl ?_
    conv => whnf
    repeat (first | refine ru ?_ | ((first | refine AW.plan (id := 4) hm (.one 0 (.one 1 (.one 2 (.one 3 (.one 4 (.one 5 (.one 6 (.one 7 (.one 9 (.one 10 (.one 11 (.one 12 (.one 8 (.one 13 (.one 14 (.one 15 (.one 16 .nil))))))))))))))))) (by kernel_rfl) ?_ | refine AW.plan (id := 6) hm (.one 0 (.one 1 (.one 2 (.one 3 (.one 4 (.one 5 (.one 6 (.one 7 (.one 8 (.one 10 (.one 11 (.one 12 (.one 9 (.one 13 (.one 14 (.one 15 (.one 16 (.one 17 .nil)))))))))))))))))) (by kernel_rfl) ?_ | refine AReq.mk (by omega) ?_); conv => whnf))
    refine AOut.stay ?_
    conv => whnf
    repeat (first | refine ru ?_ | ((first | refine AW.plan (id := 4) hm (.one 0 (.one 1 (.one 2 (.one 3 (.one 4 (.one 5 (.one 6 (.one 7 (.one 9 (.one 10 (.one 11 (.one 12 (.one 8 (.one 13 (.one 14 (.one 15 (.one 16 .nil))))))))))))))))) (by kernel_rfl) ?_ | refine AW.plan (id := 6) hm (.one 0 (.one 1 (.one 2 (.one 3 (.one 4 (.one 5 (.one 6 (.one 7 (.one 8 (.one 10 (.one 11 (.one 12 (.one 9 (.one 13 (.one 14 (.one 15 (.one 16 (.one 17 .nil)))))))))))))))))) (by kernel_rfl) ?_ | refine AReq.mk (by omega) ?_); conv => whnf))
    rw [w1]
    exact AHead.mk (n + 2 - (i + 1)) _ _ (by omega) ⟨i + 1, rfl, by omega, by omega, rfl, rfl⟩ (Conv.fit (by repeat' (first | exact Fit.nil | refine Fit.any ?_ | refine Fit.same ?_)))
  · conv => whnf
    repeat (first | refine go ?_ | ((first | refine AW.plan (id := 4) hm (.one 0 (.one 1 (.one 2 (.one 3 (.one 4 (.one 5 (.one 6 (.one 7 (.one 9 (.one 10 (.one 11 (.one 12 (.one 8 (.one 13 (.one 14 (.one 15 (.one 16 .nil))))))))))))))))) (by kernel_rfl) ?_ | refine AW.plan (id := 6) hm (.one 0 (.one 1 (.one 2 (.one 3 (.one 4 (.one 5 (.one 6 (.one 7 (.one 8 (.one 10 (.one 11 (.one 12 (.one 9 (.one 13 (.one 14 (.one 15 (.one 16 (.one 17 .nil)))))))))))))))))) (by kernel_rfl) ?_); conv => whnf))
    refine AOut.stay ?_
    conv => whnf
    repeat (first | refine go ?_ | ((first | refine AW.plan (id := 4) hm (.one 0 (.one 1 (.one 2 (.one 3 (.one 4 (.one 5 (.one 6 (.one 7 (.one 9 (.one 10 (.one 11 (.one 12 (.one 8 (.one 13 (.one 14 (.one 15 (.one 16 .nil))))))))))))))))) (by kernel_rfl) ?_ | refine AW.plan (id := 6) hm (.one 0 (.one 1 (.one 2 (.one 3 (.one 4 (.one 5 (.one 6 (.one 7 (.one 8 (.one 10 (.one 11 (.one 12 (.one 9 (.one 13 (.one 14 (.one 15 (.one 16 (.one 17 .nil)))))))))))))))))) (by kernel_rfl) ?_); conv => whnf))
    exact AFin.mk ⟨rfl, rfl⟩
end Go.Aw.U1

set_option linter.unusedSimpArgs false
set_option linter.unusedVariables false
set_option maxHeartbeats 4000000
namespace Go.Aw.U1
open Go Go.Proofs

theorem f225 (l : List Int) (n : Nat) (hl : l.length = n) (hn : n ≤ 20) (hal : alike l) :
    Spec P 225 [.ms 1 0 0 n, nV n, cmp1 l] [.cells 3 ((rng n).flatMap iC)] (fun r H => r = .tup [] ∧ H = [.cells 3 ((rng n).flatMap iC)]) := by
  refine spec_of hT (f := 225) (fn := Go.Proofs.Tryz.f225) (c := body Go.Proofs.Tryz.f225) (by kernel_rfl) (by kernel_rfl) ?_
  conv => whnf
  repeat refine go ?_
  refine ALoop.mk (fun m E H => ∃ i : Nat, m = 1 - i ∧ (i = 0 ∨ i = 1 ∧ n = 20) ∧
      E = pad [.ms 1 0 0 n, nV n, cmp1 l, .any, .any, .any, nV 20, nV (20 * i : Nat), nV (20 * i + 20 : Nat)] 63 ∧ H = [.cells 3 ((rng n).flatMap iC)]) (n := 1) _ _
    ⟨0, rfl, .inl rfl, rfl, rfl⟩ (Conv.fit (by repeat' (first | exact Fit.nil | refine Fit.any ?_ | refine Fit.same ?_))) ?_
  rintro _ _ _ ⟨i, rfl, hi, rfl, rfl⟩
  conv => whnf
  repeat refine go ?_
  refine ACond.dec (fun h => ?_) (fun h => ?_)
  · obtain ⟨rfl, rfl⟩ : i = 0 ∧ n = 20 := by omega
    conv => whnf
    repeat refine go ?_
    refine ACall.all (args := [.ms 1 0 0 20, nV 0, nV 20, cmp1 l]) (by kernel_rfl) (f237 l 20 0 20 hl (by decide) hal (by decide) (by decide)) ?_
    rintro _ _ ⟨rfl, rfl⟩
    conv => whnf
    repeat refine ru ?_
    exact AHead.mk 0 _ _ (by decide) ⟨1, rfl, .inr ⟨rfl, rfl⟩, rfl, rfl⟩ (Conv.fit (by repeat' (first | exact Fit.nil | refine Fit.any ?_ | refine Fit.same ?_)))
  · conv => whnf
    repeat refine go ?_
    refine AOut.stay ?_
    conv => whnf
    repeat refine ru ?_
    refine ACall.all (args := [.ms 1 0 0 n, nV (20 * i : Nat), nV n, cmp1 l]) (by kernel_rfl) (f237 l n (20 * i) n hl hn hal (by omega) (Nat.le_refl _)) ?_
    rintro _ _ ⟨rfl, rfl⟩
    conv => whnf
    repeat refine ru ?_
    refine ALoop.mk (fun m E H => m = 0 ∧
        E = pad [.ms 1 0 0 n, nV n, cmp1 l, .any, .any, .any, nV 20] 63 ∧ H = [.cells 3 ((rng n).flatMap iC)]) (n := 0) _ _
      ⟨rfl, rfl, rfl⟩ (Conv.fit (by repeat' (first | exact Fit.nil | refine Fit.any ?_ | refine Fit.same ?_))) ?_
    rintro _ _ _ ⟨rfl, rfl, rfl⟩
    conv => whnf
    repeat refine go ?_
    refine ACond.no (decide_eq_false (by omega)) ?_
    conv => whnf
    repeat refine ru ?_
    refine AOut.stay ?_
    conv => whnf
    repeat refine ru ?_
    exact AFin.mk ⟨rfl, rfl⟩
theorem f216 (l : List Int) (n : Nat) (hl : l.length = n) (hn : n ≤ 20) (hal : alike l) :
    Spec P 216 [.ms 1 0 0 n, cmp1 l] [.cells 3 ((rng n).flatMap iC)] (fun r H => r = .tup [] ∧ H = [.cells 3 ((rng n).flatMap iC)]) := by
  refine spec_of hT (f := 216) (fn := Go.Proofs.Tryz.f216) (c := body Go.Proofs.Tryz.f216) (by kernel_rfl) (by kernel_rfl) ?_
  conv => whnf
  repeat refine go ?_
  refine ACall.all (args := [.ms 1 0 0 n, nV n, cmp1 l]) (by kernel_rfl) (f225 l n hl hn hal) ?_
  rintro _ _ ⟨rfl, rfl⟩
  conv => whnf
  repeat refine ru ?_
  exact AFin.mk ⟨rfl, rfl⟩
theorem f203 (l : List Int) (n : Nat) (hl : l.length = n) (hn : n ≤ 20) (hal : alike l) : Fun P 203 [nV n, key1 l] (isV (rng n)) := by
  refine spec_of hT (f := 203) (fn := Go.Proofs.Tryz.f203) (c := body Go.Proofs.Tryz.f203) (by kernel_rfl) (by kernel_rfl) ?_
  have hr := rng_len n
  have hb3 : (T 3).bytes = 8 := by kernel_rfl
  have hml : (rng n).length = (List.replicate n (0 : Int)).length := by simp [rng]
  conv => whnf
  repeat (first | refine go ?_ | (refine AReq.mk (by rw [hb3]; omega) ?_; conv => whnf))
  refine ALoop.mk (fun m E H => ∃ i : Nat, m = n - i ∧ i ≤ n ∧
      E = pad [nV n, .any, .any, .ptr 0 0, .any, .ms 1 1 0 n, .any, .any, .any, .any, nV n, nV i] 23 ∧ H = [.cells 134 [key1 l], .cells 3 ((mix (rng n) (List.replicate n (0 : Int)) i).flatMap iC)]) (n := n) _ _
    ⟨0, rfl, Nat.zero_le _, rfl, ?_⟩ (Conv.fit (by repeat' (first | exact Fit.nil | refine Fit.any ?_ | refine Fit.same ?_))) ?_
  · rw [mix_zero, ← rep_flat]; rfl
  rintro _ _ _ ⟨i, rfl, hi, rfl, rfl⟩
  conv => whnf
  repeat refine go ?_
  refine ACond.dec (fun h => ?_) (fun h => ?_)
  · have hil : i < n := by omega
    have w1 : IntKind.wrap .i64 ((i : Int) + 1) = ((i + 1 : Nat) : Int) := by rw [wrap_i64 _ (by omega) (by omega)]; omega
    have hmx : (mix (rng n) (List.replicate n (0 : Int)) i).length = n := by rw [mix_len hml]; simp
    have hst := mix_set hml (i := i) (by simpa using hil)
    rw [rng_get] at hst
    conv => whnf
    repeat (first | refine go ?_ | (refine AReq.mk (by omega) ?_; conv => whnf))
    refine AReq.mk rfl ?_
    refine AUpd.flat iC_len i (i : Int) ?_ (by rw [hmx]; exact hil) rfl ?_
    · simp
    rw [hst]
    conv => whnf
    repeat (first | refine go ?_ | (refine AReq.mk (by omega) ?_; conv => whnf))
    rw [w1]
    exact AHead.mk (n - (i + 1)) _ _ (by omega) ⟨i + 1, rfl, by omega, rfl, rfl⟩ (Conv.fit (by repeat' (first | exact Fit.nil | refine Fit.any ?_ | refine Fit.same ?_)))
  · obtain rfl : i = n := by omega
    rw [mix_all (by simp [rng]) (by simp)]
    conv => whnf
    repeat refine go ?_
    refine AOut.stay ?_
    conv => whnf
    repeat refine go ?_
    refine ACall.ice (l := 0) rfl ?_
    refine ACall.see (args' := [.ms 1 1 0 i, cmp1 l]) (.cons (.it _) (.cons (.fn .nil (.cons (Lend.sip rfl) .nil)) .nil)) ?_
    refine ACall.of (args0 := [.ms 1 0 0 i, cmp1 l]) (by kernel_rfl) (f216 l i hl hn hal) [1] [] (by simp) (.same (by simp only [ABlk.ren, fr_i]; rfl) .nil) (by simp) (by simp) ?_ (.inl rfl) ?_
    · have := LendL.same (H := [ABlk.ice 134 [key1 l], .cells 3 ((rng i).flatMap iC)]) (B := []) (ρ := nm [1] 2) [.ms 1 0 0 i, cmp1 l]
      simp only [renL, cmp1_ren, AV.ren] at this
      exact this
    rintro _ _ ⟨rfl, rfl⟩
    simp only [mergeH, ABlk.ren, fr_i]
    conv => whnf
    repeat refine ru ?_
    exact AFin.to (isV (rng i)) [] (Conv.out (.sm' rfl (by rw [flat_len iC_len]) rfl (by simp [rng])) (fun ρ => by (first | rfl | (simp only [renL, AV.ren, List.nil_append, List.cons_append, rens]; try rfl)))) ⟨rfl, rfl⟩
end Go.Aw.U1

set_option linter.unusedSimpArgs false
set_option linter.unusedVariables false
set_option maxHeartbeats 4000000
namespace Go.Aw.U1
open Go Go.Proofs

theorem rep_snoc (i : Nat) (q : Int) : List.replicate (i + 1) q = List.replicate i q ++ [q] := List.replicate_succ'
theorem f202 (t n : Nat) (ht : t ≤ 1000000000000) (h1 : 1 ≤ n) (hn : n ≤ 20) :
    Spec P 202 [nV t, nV n, isV (ones n)] [] (fun r H => r = .tup [.ms 1 0 0 n, isV (List.replicate n ((t * 1 % n : Nat) : Int)), nV ((t : Int) - n * (t * 1 / n : Nat)), nV 0] ∧ H = [.cells 3 ((List.replicate n ((t * 1 / n : Nat) : Int)).flatMap iC)]) := by
  refine spec_of hT (f := 202) (fn := Go.Proofs.Tryz.f202) (c := body Go.Proofs.Tryz.f202) (by kernel_rfl) (by kernel_rfl) ?_
  have hl := ones_len n
  have hd : DivOk t 1 n := ⟨ht, h1, by omega, h1⟩
  have hq := hd.ab.2.2.1
  have hfl := f214 t 1 n hd
  have hre := f215 t 1 n hd
  have hnq : (n : Int) * ((t * 1 / n : Nat) : Int) ≤ t := by
    have h0 := Nat.div_mul_le_self (t * 1) n
    have : n * (t * 1 / n) ≤ t := by rw [Nat.mul_comm]; omega
    exact_mod_cast this
  generalize t * 1 / n = q at hq hfl hnq ⊢
  generalize t * 1 % n = r at hre ⊢
  have hb3 : (T 3).bytes = 8 := by kernel_rfl
  conv => whnf
  repeat refine go ?_
  refine ALoop.mk (fun m E H => ∃ (i : Nat), m = n - i ∧ i ≤ n ∧
      E = pad [nV t, nV n, isV (ones n), .any, .any, .any, .ms 1 0 0 i, .ms 1 1 0 i, nV ((t : Int) - i * q), nV 0, .any, .any, .any, .any, .any, .any, isV (ones n), nV (ones n).length, nV i] 57 ∧ H = [.cells 3 ((List.replicate i (q : Int)).flatMap iC), .cells 3 ((List.replicate i (r : Int)).flatMap iC)]) (n := n) _ _
    ⟨0, rfl, Nat.zero_le _, rfl, rfl⟩ (Conv.trans (Conv.own (sz := 1) (xs' := pad [nV t, nV n, isV (ones n), .any, .any, .any, .ms 1 0 0 0, .v (.slice none 0 0), nV t, nV 0, .any, .any, .any, .any, .any, .any, isV (ones n), nV (ones n).length, nV 0] 57) 3 (by repeat' (first | exact FitN.nil | refine FitN.any ?_ | refine FitN.same ?_ | refine FitN.own ?_))) (Conv.trans (Conv.own (sz := 1) (xs' := pad [nV t, nV n, isV (ones n), .any, .any, .any, .ms 1 0 0 0, .ms 1 1 0 0, nV t, nV 0, .any, .any, .any, .any, .any, .any, isV (ones n), nV (ones n).length, nV 0] 57) 3 (by repeat' (first | exact FitN.nil | refine FitN.any ?_ | refine FitN.same ?_ | refine FitN.own ?_))) (Conv.fit ?_))) ?_
  · rw [show ((t : Int) - ((0 : Nat) : Int) * (q : Int)) = t by simp]
    repeat' (first | exact Fit.nil | refine Fit.any ?_ | refine Fit.same ?_)
  rintro _ _ _ ⟨i, rfl, hi, rfl, rfl⟩
  conv => whnf
  repeat refine go ?_
  refine ACond.dec (fun h => ?_) (fun h => ?_)
  · have hil : i < (ones n).length := by omega
    have w1 : IntKind.wrap .i64 ((i : Int) + 1) = ((i + 1 : Nat) : Int) := by rw [wrap_i64 _ (by omega) (by omega)]; omega
    have hiq : (i : Int) * q ≤ (n : Int) * q := Int.mul_le_mul_of_nonneg_right (by omega) (by omega)
    have hiq0 : 0 ≤ (i : Int) * q := Int.mul_nonneg (by omega) (by omega)
    have w2 : IntKind.wrap .i64 ((t : Int) - i * q - q) = (t : Int) - ((i + 1 : Nat) : Int) * q := by
      rw [wrap_i64 _ (by omega) (by omega)]
      rw [show ((i + 1 : Nat) : Int) = (i : Int) + 1 by omega, Int.add_mul]; omega
    conv => whnf
    repeat (first | refine go ?_ | ((first | refine AReq.mk (by omega) ?_ | refine AIdx.flat (enc := iC) iC_len (xs := ones n) (i := i) hil ?_ | refine AReq.mk (by rw [hb3]; simp [flat_len iC_len]; omega) ?_); conv => whnf))
    rw [ones_get]
    refine ACall.val (args := [nV t, nV 1, nV n]) (by kernel_rfl) hfl (by (first | rfl | (simp only [renL, AV.ren, List.nil_append, List.cons_append, rens]; try rfl))) rfl ?_
    conv => whnf
    repeat (first | refine ru ?_ | ((first | refine AReq.mk (by omega) ?_ | refine AIdx.flat (enc := iC) iC_len (xs := ones n) (i := i) hil ?_ | refine AReq.mk (by rw [hb3]; simp [flat_len iC_len]; omega) ?_); conv => whnf))
    refine ACall.val (args := [nV t, nV 1, nV n]) (by kernel_rfl) hre (by (first | rfl | (simp only [renL, AV.ren, List.nil_append, List.cons_append, rens]; try rfl))) rfl ?_
    conv => whnf
    repeat (first | refine ru ?_ | ((first | refine AReq.mk (by omega) ?_ | refine AIdx.flat (enc := iC) iC_len (xs := ones n) (i := i) hil ?_ | refine AReq.mk (by rw [hb3]; simp [flat_len iC_len]; omega) ?_); conv => whnf))
    rw [w1, w2]
    refine AHead.mk (n - (i + 1)) _ _ (by omega) ⟨i + 1, rfl, by omega, rfl, rfl⟩ ?_
    rw [rep_snoc, rep_snoc, List.flatMap_append, List.flatMap_append]
    exact Conv.ren [2, 3] _ (by simp) (by decide) (by simp only [pad, renL, AV.ren, rens]; repeat' (first | exact Fit.nil | refine Fit.any ?_ | refine Fit.same ?_)) (.same (by simp only [ABlk.ren, renL_append, fr_i]; rfl) (.same (by simp only [ABlk.ren, renL_append, fr_i]; rfl) .nil))
  · obtain rfl : i = n := by omega
    conv => whnf
    repeat refine go ?_
    refine AOut.stay ?_
    conv => whnf
    repeat refine go ?_
    refine AFin.to (.tup [.ms 1 0 0 i, isV (List.replicate i (r : Int)), nV ((t : Int) - i * q), nV 0]) [.cells 3 ((List.replicate i (q : Int)).flatMap iC)] ?_ ⟨rfl, rfl⟩
    refine Conv.trans (Conv.freeze 1 rfl) (Conv.trans (Conv.see (.cons (.tup (.cons (.it _) (.cons (.sm' rfl (by rw [flat_len iC_len]) rfl (by simp)) (.cons (.it _) (.cons (.it _) .nil))))) .nil)) (Conv.ren [0] _ (by simp) (by simp) ?_ (.same (by simp only [ABlk.ren, fr_i]; rfl) .nil)))
    simp only [renL, AV.ren, isV_ren, fr_i]
    exact Fit.refl _
end Go.Aw.U1

set_option linter.unusedSimpArgs false
set_option linter.unusedVariables false
set_option maxHeartbeats 4000000
namespace Go.Aw.U1
open Go Go.Proofs

def shN (t n i : Nat) : Nat := t / n + if i < t % n then 1 else 0
def shareL (t n : Nat) : List Int := (List.range n).map fun i => ((shN t n i : Nat) : Int)
theorem share_mix (t n : Nat) (h : 0 < n) : mix (List.replicate n (((t / n : Nat) : Int) + 1)) (List.replicate n ((t / n : Nat) : Int)) (t % n) = shareL t n := by
  have hlt := Nat.mod_lt t h
  apply List.ext_getElem
  · rw [mix_len (by simp)]; simp [shareL]
  intro i h1 h2
  have hi : i < n := by simpa [shareL] using h2
  simp only [mix, List.getElem_append, shareL, List.getElem_map, List.getElem_range, shN]
  split
  · rename_i h3
    simp at h3
    rw [List.getElem_take]
    have h4 : i < t % n := by omega
    simp [h4]
  · rename_i h3
    simp at h3
    have : ¬ i < t % n := by omega
    simp [this]
theorem mulmod (t n : Nat) (h : 0 < n) : (t : Int) - n * (t / n : Nat) = ((t % n : Nat) : Int) := by
  have h0 := Nat.div_add_mod t n
  have : (t : Int) = ((n * (t / n) + t % n : Nat) : Int) := by rw [h0]
  rw [Int.natCast_add, Int.natCast_mul] at this
  omega
theorem alike_rep (n : Nat) (x : Int) : alike (List.replicate n x) := fun i j hi hj => by simp
theorem flat_iC (l : List Int) : l.flatMap iC = l.map nV := by
  induction l with
  | nil => rfl
  | cons a l ih => rw [List.flatMap_cons, List.map_cons, ← ih]; rfl
theorem rng_cut {n r : Nat} (h : r ≤ n) : (((rng n).flatMap iC).drop (0 * 1)).take (((r : Int).toNat - 0) * 1) = (rng r).flatMap iC := by
  rw [flat_iC, flat_iC, Nat.zero_mul, List.drop_zero, ← List.map_take]
  congr 1
  simp [rng, ← List.map_take, List.take_range, Nat.min_eq_left h]
theorem f185 (t n : Nat) (ht : t ≤ 1000000000000) (h1 : 1 ≤ n) (hn : n ≤ 20) : Fun P 185 [nV t, isV (ones n)] (.tup [isV (shareL t n), nV 0]) := by
  refine spec_of hT (f := 185) (fn := Go.Proofs.Tryz.f185) (c := body Go.Proofs.Tryz.f185) (by kernel_rfl) (by kernel_rfl) ?_
  have hl := ones_len n
  have hin := f159 t
  rw [(inB_iff (n := (t : Int))).2 ⟨by omega, by omega⟩] at hin
  have hp := f202 t n ht h1 hn
  rw [Nat.mul_one, mulmod t n (by omega)] at hp
  have hby := f203 (List.replicate n ((t % n : Nat) : Int)) n (by simp) hn (alike_rep _ _)
  have hlt := Nat.mod_lt t (show 0 < n by omega)
  have hsm := share_mix t n (by omega)
  have hq : t / n ≤ 1000000000000 := Nat.le_trans (Nat.div_le_self _ _) ht
  generalize t % n = r at hp hby hlt hsm
  generalize t / n = q at hp hsm hq
  have hml : (List.replicate n ((q : Int) + 1)).length = (List.replicate n (q : Int)).length := by simp
  have hr := rng_len n
  conv => whnf
  repeat (first | refine ru ?_ | ((first | refine ACall.val (args := [isV (ones n)]) (by kernel_rfl) (f200 n h1 (by omega)) (by (first | rfl | (simp only [renL, AV.ren, List.nil_append, List.cons_append, rens]; try rfl))) rfl ?_ | refine ACall.val (args := [nV t]) (by kernel_rfl) hin (by (first | rfl | (simp only [renL, AV.ren, List.nil_append, List.cons_append, rens]; try rfl))) rfl ?_ | refine ACall.val (args := [isV (ones n)]) (by kernel_rfl) (f201 n h1 (by omega)) (by (first | rfl | (simp only [renL, AV.ren, List.nil_append, List.cons_append, rens]; try rfl))) rfl ?_); conv => whnf))
  refine ACall.spec (args := [nV t, nV n, isV (ones n)]) (by kernel_rfl) hp (by (first | rfl | (simp only [renL, AV.ren, List.nil_append, List.cons_append, rens]; try rfl))) ?_
  rintro _ _ ⟨rfl, rfl⟩
  conv => whnf
  repeat refine ru ?_
  refine ACall.ice (l := 1) (t := 30) (xs := [isV (List.replicate n (r : Int))]) ?_ ?_
  · simp only [renL, AV.ren, isV_ren, fr_i]; rfl
  refine ACall.see (args' := [nV n, key1 (List.replicate n (r : Int))]) ?_ ?_
  · exact .cons (.it _) (.cons (.fn .nil (.cons (Lend.sip rfl) .nil)) .nil)
  refine ACall.val (by kernel_rfl) hby (by simp only [renL, key1_ren, AV.ren]) (by (first | rfl | (simp only [renL, AV.ren, List.nil_append, List.cons_append, rens]; try rfl))) ?_
  conv => whnf
  repeat refine ru ?_
  refine AReq.mk ⟨by omega, by omega⟩ ?_
  conv => whnf
  repeat refine ru ?_
  refine ACut.iff.2 ⟨by rw [flat_len iC_len]; omega, ?_⟩
  rw [rng_cut (Nat.le_of_lt hlt)]
  conv => whnf
  repeat refine ru ?_
  have hrr := rng_len r
  refine ALoop.mk (fun m E H => ∃ i : Nat, m = r - i ∧ i ≤ r ∧
      E = pad [.any, .any, .any, .any, .any, nV 0, .any, .any, .ms 1 0 0 n, .any, .any, .any, .any, .any, .any, .any, .any, .any, .any, .any, .any, .any, .any, .any, .any, .any, .any, .any, .any, .any, .any, .any, .any, .any, .any, .any, .any, .any, .any, .any, .any, .any, .any, .any, .any, .any, .any, .any, .any, .any, .any, .vs 1 r ((rng r).flatMap iC), nV r, nV i] 65 ∧ H = [.cells 3 ((mix (List.replicate n ((q : Int) + 1)) (List.replicate n (q : Int)) i).flatMap iC)]) (n := r) _ _
    ⟨0, rfl, Nat.zero_le _, rfl, rfl⟩ ?_ ?_
  · rw [mix_zero]
    exact Conv.ren [0] _ (by simp) (by simp) (by simp only [pad, renL, AV.ren, rens]; repeat' (first | exact Fit.nil | refine Fit.any ?_ | refine Fit.same ?_)) (.same (by simp only [ABlk.ren, fr_i]; rfl) .nil)
  rintro _ _ _ ⟨i, rfl, hi, rfl, rfl⟩
  conv => whnf
  repeat refine go ?_
  refine ACond.dec (fun h => ?_) (fun h => ?_)
  · have hil : i < (rng r).length := by omega
    have w1 : IntKind.wrap .i64 ((i : Int) + 1) = ((i + 1 : Nat) : Int) := by rw [wrap_i64 _ (by omega) (by omega)]; omega
    have w2 : IntKind.wrap .i64 ((q : Int) + 1) = (q : Int) + 1 := by rw [wrap_i64 _ (by omega) (by omega)]
    have hmx : (mix (List.replicate n ((q : Int) + 1)) (List.replicate n (q : Int)) i).length = n := by rw [mix_len hml]; simp
    have hst := mix_set hml (i := i) (by simp; omega)
    have hgt : (mix (List.replicate n ((q : Int) + 1)) (List.replicate n (q : Int)) i)[i]'(by omega) = (q : Int) := by
      have := mix_get hml (i := i) (by simp; omega)
      rw [List.getElem?_eq_getElem (by omega)] at this
      simpa using this
    rw [List.getElem_replicate] at hst
    conv => whnf
    repeat (first | refine go ?_ | (refine AReq.mk (by omega) ?_; conv => whnf))
    refine AIdx.flat (enc := iC) iC_len (xs := rng r) (i := i) hil ?_
    conv => whnf
    repeat (first | refine go ?_ | (refine AReq.mk (by omega) ?_; conv => whnf))
    rw [rng_get]
    conv => whnf
    repeat (first | refine go ?_ | (refine AReq.mk (by omega) ?_; conv => whnf))
    refine AIdx.flat (enc := iC) iC_len (xs := mix (List.replicate n ((q : Int) + 1)) (List.replicate n (q : Int)) i) (i := i) (by omega) ?_
    conv => whnf
    repeat (first | refine go ?_ | (refine AReq.mk (by omega) ?_; conv => whnf))
    rw [hgt, w2]
    refine AReq.mk rfl ?_
    refine AUpd.flat iC_len i ((q : Int) + 1) ?_ (by omega) rfl ?_
    · simp
    rw [hst]
    conv => whnf
    repeat (first | refine go ?_ | (refine AReq.mk (by omega) ?_; conv => whnf))
    rw [w1]
    exact AHead.mk (r - (i + 1)) _ _ (by omega) ⟨i + 1, rfl, by omega, rfl, rfl⟩ (Conv.fit (by repeat' (first | exact Fit.nil | refine Fit.any ?_ | refine Fit.same ?_)))
  · obtain rfl : i = r := by omega
    conv => whnf
    repeat refine go ?_
    refine AOut.stay ?_
    conv => whnf
    repeat refine go ?_
    rw [hsm]
    exact AFin.to (.tup [isV (shareL t n), nV 0]) [] (Conv.out (.tup (.cons (.sm' rfl (by rw [flat_len iC_len]) rfl (by simp [shareL])) (.cons (.it _) .nil))) (fun ρ => by (first | rfl | (simp only [renL, AV.ren, List.nil_append, List.cons_append, rens]; try rfl)))) ⟨rfl, rfl⟩
end Go.Aw.U1

set_option linter.unusedSimpArgs false
set_option linter.unusedVariables false
set_option maxHeartbeats 4000000
namespace Go.Aw.U1
open Go Go.Proofs

theorem f161 (t n : Nat) (ht : t ≤ 1000000000000) (h1 : 1 ≤ n) (hn : n ≤ 20) : Fun P 161 [nV t, nV n] (.tup [isV (shareL t n), nV 0]) := by
  refine spec_of hT (f := 161) (fn := Go.Proofs.Tryz.f161) (c := body Go.Proofs.Tryz.f161) (by kernel_rfl) (by kernel_rfl) ?_
  conv => whnf
  repeat (first | refine go ?_ | ((first | refine ACall.val (args := [nV n]) (by kernel_rfl) (f186 n (by omega)) (by (first | rfl | (simp only [renL, AV.ren, List.nil_append, List.cons_append, rens]; try rfl))) (by (first | rfl | (simp only [renL, AV.ren, List.nil_append, List.cons_append, rens]; try rfl))) ?_ | refine ACall.val (args := [nV t, isV (ones n)]) (by kernel_rfl) (f185 t n ht h1 hn) (by (first | rfl | (simp only [renL, AV.ren, List.nil_append, List.cons_append, rens]; try rfl))) (by (first | rfl | (simp only [renL, AV.ren, List.nil_append, List.cons_append, rens]; try rfl))) ?_); conv => whnf))
  refine ASplit.no (decide_eq_false (by omega)) ?_
  conv => whnf
  repeat (first | refine go ?_ | ((first | refine ACall.val (args := [nV n]) (by kernel_rfl) (f186 n (by omega)) (by (first | rfl | (simp only [renL, AV.ren, List.nil_append, List.cons_append, rens]; try rfl))) (by (first | rfl | (simp only [renL, AV.ren, List.nil_append, List.cons_append, rens]; try rfl))) ?_ | refine ACall.val (args := [nV t, isV (ones n)]) (by kernel_rfl) (f185 t n ht h1 hn) (by (first | rfl | (simp only [renL, AV.ren, List.nil_append, List.cons_append, rens]; try rfl))) (by (first | rfl | (simp only [renL, AV.ren, List.nil_append, List.cons_append, rens]; try rfl))) ?_); conv => whnf))
  refine ACond.no (decide_eq_false (by omega)) ?_
  conv => whnf
  repeat (first | refine go ?_ | ((first | refine ACall.val (args := [nV n]) (by kernel_rfl) (f186 n (by omega)) (by (first | rfl | (simp only [renL, AV.ren, List.nil_append, List.cons_append, rens]; try rfl))) (by (first | rfl | (simp only [renL, AV.ren, List.nil_append, List.cons_append, rens]; try rfl))) ?_ | refine ACall.val (args := [nV t, isV (ones n)]) (by kernel_rfl) (f185 t n ht h1 hn) (by (first | rfl | (simp only [renL, AV.ren, List.nil_append, List.cons_append, rens]; try rfl))) (by (first | rfl | (simp only [renL, AV.ren, List.nil_append, List.cons_append, rens]; try rfl))) ?_); conv => whnf))
  exact AFin.val (by (first | rfl | (simp only [renL, AV.ren, List.nil_append, List.cons_append, rens]; try rfl))) ⟨rfl, rfl⟩
theorem share_len (t n : Nat) : (shareL t n).length = n := by simp [shareL]
theorem share_get {t n i : Nat} (h : i < (shareL t n).length) : (shareL t n)[i] = ((shN t n i : Nat) : Int) := by simp [shareL]
theorem f160 (t n i : Nat) (ht : t ≤ 1000000000000) (h1 : 1 ≤ n) (hn : n ≤ 20) (hi : i < n) : Fun P 160 [nV t, .ip [nV n], .any, .ip [nV i]] (nV (shN t n i : Nat)) := by
  refine spec_of hT (f := 160) (fn := Go.Proofs.Tryz.f160) (c := body Go.Proofs.Tryz.f160) (by kernel_rfl) (by kernel_rfl) ?_
  have hl := share_len t n
  conv => whnf
  repeat (first | refine ru ?_ | (refine ACall.val (args := [nV t, nV n]) (by kernel_rfl) (f161 t n ht h1 hn) (by (first | rfl | (simp only [renL, AV.ren, List.nil_append, List.cons_append, rens]; try rfl))) (by (first | rfl | (simp only [renL, AV.ren, List.nil_append, List.cons_append, rens]; try rfl))) ?_; conv => whnf))
  refine AReq.mk (by omega) ?_
  conv => whnf
  repeat (first | refine ru ?_ | (refine ACall.val (args := [nV t, nV n]) (by kernel_rfl) (f161 t n ht h1 hn) (by (first | rfl | (simp only [renL, AV.ren, List.nil_append, List.cons_append, rens]; try rfl))) (by (first | rfl | (simp only [renL, AV.ren, List.nil_append, List.cons_append, rens]; try rfl))) ?_; conv => whnf))
  refine AIdx.flat (enc := iC) iC_len (xs := shareL t n) (i := i) (by omega) ?_
  conv => whnf
  repeat (first | refine ru ?_ | (refine ACall.val (args := [nV t, nV n]) (by kernel_rfl) (f161 t n ht h1 hn) (by (first | rfl | (simp only [renL, AV.ren, List.nil_append, List.cons_append, rens]; try rfl))) (by (first | rfl | (simp only [renL, AV.ren, List.nil_append, List.cons_append, rens]; try rfl))) ?_; conv => whnf))
  rw [share_get]
  exact AFin.val rfl ⟨rfl, rfl⟩
theorem lineC_ok {l : Ln} (h : lineC l = 0) : 1 ≤ l.item ∧ l.item ≤ 999999 ∧ 0 ≤ l.net ∧ l.net ≤ 1000000000000 ∧ 0 ≤ l.tax ∧ l.tax ≤ 1000000000000 ∧ l.net + l.tax ≤ 1000000000000 ∧ 1 ≤ l.ss.length ∧ l.ss.length ≤ 20 ∧ rowF l.ss = 0 := by
  unfold lineC at h
  split at h
  · omega
  split at h
  · rename_i hm
    simp only [mayB, Bool.and_eq_true, paidB_iff, decide_eq_true_eq, inB_iff] at hm
    split at h
    · omega
    · rename_i h3
      by_cases h4 : rowF l.ss = 0
      · exact ⟨by omega, by omega, by omega, by omega, by omega, by omega, by omega, by omega, by omega, h4⟩
      · exact absurd (.inr (.inr h4)) h3
  · omega
structure Tri where
  n : Int
  t : Int
  e : Int
def triA (x : Tri) : AV := .tup [nV x.n, nV x.t, nV x.e]
def unitF (l : Ln) (i : Int) : Tri :=
  if lineC l = 0 then if i < 0 ∨ (l.ss.length : Int) ≤ i then ⟨0, 0, 2⟩ else ⟨(shN l.net.toNat l.ss.length i.toNat : Nat), (shN l.tax.toNat l.ss.length i.toNat : Nat), 0⟩ else ⟨0, 0, lineC l⟩
theorem f123 (l : Ln) (i : Int) (hl : lnOk l) : Fun P 123 [lnA l, nV i] (triA (unitF l i)) := by
  refine spec_of hT (f := 123) (fn := Go.Proofs.Tryz.f123) (c := body Go.Proofs.Tryz.f123) (by kernel_rfl) (by kernel_rfl) ?_
  generalize hR : unitF l i = R
  unfold unitF at hR
  conv => whnf
  repeat (first | refine go ?_ | ((first | refine AW.plan (id := 8) hm (.one 0 (.one 1 (.one 4 (.one 5 (.one 2 (.imm 6 (.one 3 (.one 7 (.one 8 (.one 9 .nil)))))))))) (by kernel_rfl) ?_ | refine AW.plan (id := 9) hm (.one 0 (.one 1 (.one 3 (.one 4 (.one 2 (.one 5 .nil)))))) (by kernel_rfl) ?_ | refine ACall.val (args := [lnA l]) (by kernel_rfl) (f41 l hl) (by (first | rfl | (simp only [renL, AV.ren, List.nil_append, List.cons_append, rens]; try rfl))) (by (first | rfl | (simp only [renL, AV.ren, List.nil_append, List.cons_append, rens]; try rfl))) ?_); conv => whnf))
  refine ACond.ndec (fun h1 => ?_) (fun h1 => ?_)
  · rw [if_neg h1] at hR
    conv => whnf
    repeat (first | refine ru ?_ | ((first | refine AW.plan (id := 8) hm (.one 0 (.one 1 (.one 4 (.one 5 (.one 2 (.imm 6 (.one 3 (.one 7 (.one 8 (.one 9 .nil)))))))))) (by kernel_rfl) ?_ | refine AW.plan (id := 9) hm (.one 0 (.one 1 (.one 3 (.one 4 (.one 2 (.one 5 .nil)))))) (by kernel_rfl) ?_); conv => whnf))
    exact AFin.val rfl ⟨congrArg triA hR, rfl⟩
  rw [if_pos h1] at hR
  obtain ⟨o1, o2, o3, o4, o5, o6, o7, o8, o9, o10⟩ := lineC_ok h1
  conv => whnf
  repeat (first | refine ru ?_ | ((first | refine AW.plan (id := 8) hm (.one 0 (.one 1 (.one 4 (.one 5 (.one 2 (.imm 6 (.one 3 (.one 7 (.one 8 (.one 9 .nil)))))))))) (by kernel_rfl) ?_ | refine AW.plan (id := 9) hm (.one 0 (.one 1 (.one 3 (.one 4 (.one 2 (.one 5 .nil)))))) (by kernel_rfl) ?_); conv => whnf))
  refine ASplit.dec (fun h2 => ?_) (fun h2 => ?_)
  · rw [if_pos (.inl h2)] at hR
    conv => whnf
    repeat (first | refine ru ?_ | ((first | refine AW.plan (id := 8) hm (.one 0 (.one 1 (.one 4 (.one 5 (.one 2 (.imm 6 (.one 3 (.one 7 (.one 8 (.one 9 .nil)))))))))) (by kernel_rfl) ?_ | refine AW.plan (id := 9) hm (.one 0 (.one 1 (.one 3 (.one 4 (.one 2 (.one 5 .nil)))))) (by kernel_rfl) ?_); conv => whnf))
    exact AFin.val rfl ⟨congrArg triA hR, rfl⟩
  conv => whnf
  repeat (first | refine ru ?_ | ((first | refine AW.plan (id := 8) hm (.one 0 (.one 1 (.one 4 (.one 5 (.one 2 (.imm 6 (.one 3 (.one 7 (.one 8 (.one 9 .nil)))))))))) (by kernel_rfl) ?_ | refine AW.plan (id := 9) hm (.one 0 (.one 1 (.one 3 (.one 4 (.one 2 (.one 5 .nil)))))) (by kernel_rfl) ?_); conv => whnf))
  refine ACond.dec (fun h3 => ?_) (fun h3 => ?_)
  · rw [if_pos (.inr h3)] at hR
    conv => whnf
    repeat (first | refine ru ?_ | ((first | refine AW.plan (id := 8) hm (.one 0 (.one 1 (.one 4 (.one 5 (.one 2 (.imm 6 (.one 3 (.one 7 (.one 8 (.one 9 .nil)))))))))) (by kernel_rfl) ?_ | refine AW.plan (id := 9) hm (.one 0 (.one 1 (.one 3 (.one 4 (.one 2 (.one 5 .nil)))))) (by kernel_rfl) ?_); conv => whnf))
    exact AFin.val rfl ⟨congrArg triA hR, rfl⟩
  rw [if_neg (by omega)] at hR
  refine AW.conv _ _ (Conv.freeze 0 rfl) ?_
  refine AW.conv _ _ (Conv.freeze 1 rfl) ?_
  refine AW.conv _ _ (Conv.freeze 3 rfl) ?_
  have c1 := f160 l.net.toNat l.ss.length i.toNat (by omega) o8 o9 (by omega)
  have c2 := f160 l.tax.toNat l.ss.length i.toNat (by omega) o8 o9 (by omega)
  rw [Int.toNat_of_nonneg (by omega), Int.toNat_of_nonneg (by omega)] at c1 c2
  conv => whnf
  repeat (first | refine ru ?_ | ((first | refine AW.plan (id := 8) hm (.one 0 (.one 1 (.one 4 (.one 5 (.one 2 (.imm 6 (.one 3 (.one 7 (.one 8 (.one 9 .nil)))))))))) (by kernel_rfl) ?_ | refine AW.plan (id := 9) hm (.one 0 (.one 1 (.one 3 (.one 4 (.one 2 (.one 5 .nil)))))) (by kernel_rfl) ?_); conv => whnf))
  refine ACall.see (args' := [nV l.net, .ip [nV l.ss.length], .any, .ip [nV i]]) (.cons (.it _) (.cons (Lend.sip rfl) (.cons .any (.cons (Lend.sip rfl) .nil)))) ?_
  refine ACall.val (by kernel_rfl) c1 rfl rfl ?_
  conv => whnf
  repeat (first | refine ru ?_ | ((first | refine AW.plan (id := 8) hm (.one 0 (.one 1 (.one 4 (.one 5 (.one 2 (.imm 6 (.one 3 (.one 7 (.one 8 (.one 9 .nil)))))))))) (by kernel_rfl) ?_ | refine AW.plan (id := 9) hm (.one 0 (.one 1 (.one 3 (.one 4 (.one 2 (.one 5 .nil)))))) (by kernel_rfl) ?_); conv => whnf))
  refine ACall.see (args' := [nV l.tax, .ip [nV l.ss.length], .any, .ip [nV i]]) (.cons (.it _) (.cons (Lend.sip rfl) (.cons .any (.cons (Lend.sip rfl) .nil)))) ?_
  refine ACall.val (by kernel_rfl) c2 rfl rfl ?_
  conv => whnf
  repeat (first | refine ru ?_ | ((first | refine AW.plan (id := 8) hm (.one 0 (.one 1 (.one 4 (.one 5 (.one 2 (.imm 6 (.one 3 (.one 7 (.one 8 (.one 9 .nil)))))))))) (by kernel_rfl) ?_ | refine AW.plan (id := 9) hm (.one 0 (.one 1 (.one 3 (.one 4 (.one 2 (.one 5 .nil)))))) (by kernel_rfl) ?_); conv => whnf))
  exact AFin.val rfl ⟨congrArg triA hR, rfl⟩
def fullF (l : Ln) (i : Int) : Int × Int :=
  if (unitF l i).e = 0 then addT [(unitF l i).n, (unitF l i).t] 0 else (0, (unitF l i).e)
theorem f44 (l : Ln) (i : Int) (hl : lnOk l) : Fun P 44 [lnA l, nV i] (numE (fullF l i)) := by
  refine spec_of hT (f := 44) (fn := Go.Proofs.Tryz.f44) (c := body Go.Proofs.Tryz.f44) (by kernel_rfl) (by kernel_rfl) ?_
  generalize hR : fullF l i = R
  unfold fullF at hR
  have hu := f123 l i hl
  generalize unitF l i = x at hu hR
  conv => whnf
  repeat (first | refine go ?_ | (refine ACall.val (args := [lnA l, nV i]) (by kernel_rfl) hu (by (first | rfl | (simp only [renL, AV.ren, List.nil_append, List.cons_append, rens]; try rfl))) (by (first | rfl | (simp only [renL, AV.ren, List.nil_append, List.cons_append, rens]; try rfl))) ?_; conv => whnf))
  refine ACond.ndec (fun h1 => ?_) (fun h1 => ?_)
  · rw [if_neg h1] at hR
    conv => whnf
    repeat refine ru ?_
    exact AFin.val rfl ⟨congrArg numE hR, rfl⟩
  rw [if_pos h1] at hR
  conv => whnf
  repeat (first | refine ru ?_ | (refine ACall.fun (args0 := [isV [x.n, x.t]]) (by kernel_rfl) (f122 [x.n, x.t] (by simp)) [] (by simp) (.cons (.vx rfl) .nil) (.inl rfl) rfl ?_; conv => whnf))
  exact AFin.val rfl ⟨congrArg numE hR, rfl⟩
theorem addT_in : ∀ {l : List Int} {s : Int}, inB s = true → inB (addT l s).1 = true
  | [], s, h => h
  | n :: l, s, h => by
    rw [addT]
    split
    · split
      · rename_i h2; exact addT_in h2
      · rfl
    · rfl
theorem full_bd (l : Ln) (i : Int) : 0 ≤ (fullF l i).1 ∧ (fullF l i).1 ≤ 1000000000000 := by
  unfold fullF
  split
  · have h1 := addT_in (l := [(unitF l i).n, (unitF l i).t]) (s := 0) rfl
    have h2 := inB_iff.1 h1
    refine ⟨?_, h2.2⟩
    have hn : 0 ≤ (unitF l i).n ∧ 0 ≤ (unitF l i).t := by
      unfold unitF
      split
      · split
        · exact ⟨Int.le_refl _, Int.le_refl _⟩
        · exact ⟨Int.natCast_nonneg _, Int.natCast_nonneg _⟩
      · exact ⟨Int.le_refl _, Int.le_refl _⟩
    simp only [addT]
    split
    · split
      · split
        · split
          · show 0 ≤ 0 + (unitF l i).n + (unitF l i).t
            omega
          · exact Int.le_refl _
        · exact Int.le_refl _
      · exact Int.le_refl _
    · exact Int.le_refl _
  · exact ⟨Int.le_refl _, (by show (0 : Int) ≤ 1000000000000; decide)⟩
def valF (l : Ln) (i : Int) (fees : List Int) (g : Int) : Int × Int :=
  if (fullF l i).2 = 0 then gradeF (fullF l i).1 fees g else (0, (fullF l i).2)
theorem f45 (a : Int) (fees : List Int) (g : Int) (ha : 0 ≤ a) (ha2 : a ≤ 1000000000000) : Fun P 45 [isV fees, nV a, nV g] (numE (gradeF a fees g)) := by
  refine spec_of hT (f := 45) (fn := Go.Proofs.Tryz.f45) (c := body Go.Proofs.Tryz.f45) (by kernel_rfl) (by kernel_rfl) ?_
  conv => whnf
  repeat (first | refine go ?_ | (refine ACall.val (args := [nV a, isV fees, nV g]) (by kernel_rfl) (f124 a fees g ha ha2) (by (first | rfl | (simp only [renL, AV.ren, List.nil_append, List.cons_append, rens]; try rfl))) (by (first | rfl | (simp only [renL, AV.ren, List.nil_append, List.cons_append, rens]; try rfl))) ?_; conv => whnf))
  exact AFin.val rfl ⟨rfl, rfl⟩
theorem f12 (l : Ln) (i : Int) (fees : List Int) (g : Int) (hl : lnOk l) : Fun P 12 [lnA l, nV i, isV fees, nV g] (numE (valF l i fees g)) := by
  refine spec_of hT (f := 12) (fn := Go.Proofs.Tryz.f12) (c := body Go.Proofs.Tryz.f12) (by kernel_rfl) (by kernel_rfl) ?_
  generalize hR : valF l i fees g = R
  unfold valF at hR
  have hu := f44 l i hl
  have hb := full_bd l i
  generalize fullF l i = x at hu hR hb
  conv => whnf
  repeat (first | refine go ?_ | (refine ACall.val (args := [lnA l, nV i]) (by kernel_rfl) hu (by (first | rfl | (simp only [renL, AV.ren, List.nil_append, List.cons_append, rens]; try rfl))) (by (first | rfl | (simp only [renL, AV.ren, List.nil_append, List.cons_append, rens]; try rfl))) ?_; conv => whnf))
  refine ACond.ndec (fun h1 => ?_) (fun h1 => ?_)
  · rw [if_neg h1] at hR
    conv => whnf
    repeat refine ru ?_
    exact AFin.val rfl ⟨congrArg numE hR, rfl⟩
  rw [if_pos h1] at hR
  conv => whnf
  repeat (first | refine ru ?_ | (refine ACall.val (args := [isV fees, nV x.1, nV g]) (by kernel_rfl) (f45 x.1 fees g hb.1 hb.2) (by (first | rfl | (simp only [renL, AV.ren, List.nil_append, List.cons_append, rens]; try rfl))) (by (first | rfl | (simp only [renL, AV.ren, List.nil_append, List.cons_append, rens]; try rfl))) ?_; conv => whnf))
  exact AFin.val rfl ⟨congrArg numE hR, rfl⟩
end Go.Aw.U1

