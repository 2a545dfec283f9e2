/-
  The statement TotalLives: a row that is not dead decides on some facts, without any condition.
-/
import Derived.Test.YthmbmefnohoifaaTtD
import Derived.Test.YthmbmefnohoifaaAwG
set_option linter.unusedSimpArgs false
set_option linter.unusedVariables false
set_option linter.unusedSimpArgs false
set_option linter.unusedVariables false
set_option maxHeartbeats 1000000
namespace Go.Aw.T1
open Go Go.Proofs

def hitB (l : List Ro) (k : Nat) (r : Ro) (c : Nat) (a : Int) : Bool := matB r (fcOf c a) && !anyF (l.take k) (fcOf c a)
def liveA (l : List Ro) (k : Nat) (r : Ro) (c : Nat) : List Int → Bool → Bool
  | [], b => b
  | a :: m, b => liveA l k r c m (b || hitB l k r c a)
def liveC (l : List Ro) (k : Nat) (r : Ro) : List Nat → Bool → Bool
  | [], b => b
  | c :: cs, b => liveC l k r cs (liveA l k r c (amtF l) b)
def rliveB (l : List Ro) (k : Nat) : Bool := match l[k]? with | some r => liveC l k r (List.range 8) false | none => false
def rdeadG (l : List Ro) (n : Nat) : List Int := ((List.range n).filter fun i => !rliveB l i).map fun i : Nat => (i : Int)
def rdeadF (l : List Ro) : List Int := if tabB l then rdeadG l l.length else []
theorem rdeadG_step (l : List Ro) (i : Nat) : rdeadG l (i + 1) = if rliveB l i = true then rdeadG l i else rdeadG l i ++ [(i : Int)] := by
  unfold rdeadG
  rw [List.range_succ, List.filter_append, List.filter_cons]
  cases rliveB l i <;> simp
theorem rdeadG_le (l : List Ro) (n : Nat) : (rdeadG l n).length ≤ n := by
  unfold rdeadG
  rw [List.length_map]
  have := List.length_filter_le (fun i => !rliveB l i) (List.range n)
  rw [List.length_range] at this
  exact this
theorem f15 (l : List Ro) (hl : l.length ≤ 9223372036854775807) : Fun P 15 [roV l] (iVs (rdeadF l)) := by
  refine spec_of hT (f := 15) (fn := Go.Proofs.Try.f15) (c := body Go.Proofs.Try.f15) (by kernel_rfl) (by kernel_rfl) ?_
  unfold rdeadF
  conv => whnf
  repeat ((first | refine AW.plan (id := 16) hm (.one 0 (.one 1 (.one 2 (.one 3 (.one 4 (.one 5 (.one 6 (.one 7 (.one 8 (.one 9 (.one 10 (.one 11 (.one 12 (.one 13 (.one 14 (.one 15 (.one 16 (.one 17 .nil)))))))))))))))))) (by kernel_rfl) ?_ | refine AO.cons hT ?_ | refine AO.nil ?_ | refine AW.seq ?_ | refine AW.region ?_ | refine AW.cond ?_ | refine AW.block ?_ | refine AW.loop ?_ | refine AW.skip ?_ | refine AW.exit ?_ | refine AW.ret ?_ | refine AW.label ?_ | refine AW.scope ?_ | refine AF.one hT rfl ?_ | refine AF.nil ?_ | refine AF.imm hT rfl rfl rfl ?_ | refine AH.of hT rfl ?_ | refine AD.cons hT rfl ?_ | refine AD.nil ?_ | refine AQ.cons hT rfl ?_ | refine AQ.nil ?_); conv => whnf)
  refine ACall.val (by kernel_rfl) (f25 l hl) (roV1 _ _) rfl ?_
  rcases Bool.eq_false_or_eq_true (tabB l) with g | g <;> simp only [g, Bool.false_eq_true, if_false, if_true]
  case inr =>
    conv => whnf
    repeat (first | (refine AW.plan (id := 16) hm (.one 0 (.one 1 (.one 2 (.one 3 (.one 4 (.one 5 (.one 6 (.one 7 (.one 8 (.one 9 (.one 10 (.one 11 (.one 12 (.one 13 (.one 14 (.one 15 (.one 16 (.one 17 .nil)))))))))))))))))) (by kernel_rfl) ?_; conv => whnf) | (refine AW.label ?_; conv => whnf) | (refine AW.scope ?_; conv => whnf) | (refine AO.cons hT ?_; conv => whnf) | (refine AO.nil ?_; conv => whnf) | (refine AW.seq ?_; conv => whnf) | (refine AW.region ?_; conv => whnf) | (refine AW.cond ?_; conv => whnf) | (refine AW.block ?_; conv => whnf) | (refine AW.loop ?_; conv => whnf) | (refine AW.skip ?_; conv => whnf) | (refine AW.exit ?_; conv => whnf) | (refine AW.ret ?_; conv => whnf) | (refine AF.one hT rfl ?_; conv => whnf) | (refine AF.nil ?_; conv => whnf) | (refine AF.imm hT rfl rfl rfl ?_; conv => whnf) | (refine AH.of hT rfl ?_; conv => whnf) | (refine ASplit.yes rfl ?_; conv => whnf) | (refine ACond.yes rfl ?_; conv => whnf) | (refine ASplit.no rfl ?_; conv => whnf) | (refine ACond.no rfl ?_; conv => whnf) | (refine ASplit.yes (by decide) ?_; conv => whnf) | (refine ACond.yes (by decide) ?_; conv => whnf) | (refine AReq.mk (by decide) ?_; conv => whnf) | (refine AIdx.iff.2 ⟨by decide, ?_⟩; conv => whnf))
    exact AFin.to (iVs []) [] (Conv.out .nil (fun ρ => iVs_ren ρ _)) ⟨rfl, rfl⟩
  obtain ⟨t1, t2, t3⟩ := tabB_row g
  conv => whnf
  repeat (first | (refine AW.plan (id := 16) hm (.one 0 (.one 1 (.one 2 (.one 3 (.one 4 (.one 5 (.one 6 (.one 7 (.one 8 (.one 9 (.one 10 (.one 11 (.one 12 (.one 13 (.one 14 (.one 15 (.one 16 (.one 17 .nil)))))))))))))))))) (by kernel_rfl) ?_; conv => whnf) | (refine AW.label ?_; conv => whnf) | (refine AW.scope ?_; conv => whnf) | (refine AO.cons hT ?_; conv => whnf) | (refine AO.nil ?_; conv => whnf) | (refine AW.seq ?_; conv => whnf) | (refine AW.region ?_; conv => whnf) | (refine AW.cond ?_; conv => whnf) | (refine AW.block ?_; conv => whnf) | (refine AW.loop ?_; conv => whnf) | (refine AW.skip ?_; conv => whnf) | (refine AW.exit ?_; conv => whnf) | (refine AW.ret ?_; conv => whnf) | (refine AF.one hT rfl ?_; conv => whnf) | (refine AF.nil ?_; conv => whnf) | (refine AF.imm hT rfl rfl rfl ?_; conv => whnf) | (refine AH.of hT rfl ?_; conv => whnf) | (refine ASplit.yes rfl ?_; conv => whnf) | (refine ACond.yes rfl ?_; conv => whnf) | (refine ASplit.no rfl ?_; conv => whnf) | (refine ACond.no rfl ?_; conv => whnf) | (refine ASplit.yes (by decide) ?_; conv => whnf) | (refine ACond.yes (by decide) ?_; conv => whnf) | (refine AReq.mk (by decide) ?_; conv => whnf) | (refine AIdx.iff.2 ⟨by decide, ?_⟩; conv => whnf))
  refine ACall.val (by kernel_rfl) (f21 l (by omega)) (roV1 _ _) (iVs_ren _ _) ?_
  have hal := amt_len t1
  conv => whnf
  repeat ((first | refine AW.plan (id := 16) hm (.one 0 (.one 1 (.one 2 (.one 3 (.one 4 (.one 5 (.one 6 (.one 7 (.one 8 (.one 9 (.one 10 (.one 11 (.one 12 (.one 13 (.one 14 (.one 15 (.one 16 (.one 17 .nil)))))))))))))))))) (by kernel_rfl) ?_ | refine AO.cons hT ?_ | refine AO.nil ?_ | refine AW.seq ?_ | refine AW.region ?_ | refine AW.cond ?_ | refine AW.block ?_ | refine AW.loop ?_ | refine AW.skip ?_ | refine AW.exit ?_ | refine AW.ret ?_ | refine AW.label ?_ | refine AW.scope ?_ | refine AF.one hT rfl ?_ | refine AF.nil ?_ | refine AF.imm hT rfl rfl rfl ?_ | refine AH.of hT rfl ?_ | refine AD.cons hT rfl ?_ | refine AD.nil ?_ | refine AQ.cons hT rfl ?_ | refine AQ.nil ?_); conv => whnf)
  refine ALoop.mk (fun j E H => ∃ (k : Nat), j + k = l.length ∧ E = pad [roV l, .any, .any, .ms 1 0 0 (rdeadG l k).length, iVs (amtF l), nV k] 62 ∧ H = [.cells 3 ((rdeadG l k).map nV)])
    (n := l.length) _ _ ⟨0, rfl, rfl, rfl⟩ (Conv.trans (Conv.fit (xs' := pad [roV l, .any, .any, nilV, iVs (amtF l), nV 0] 62) (by repeat' (first | exact Fit.nil | refine Fit.any ?_ | refine Fit.same ?_))) (Conv.own (sz := 1) 3 (by repeat' (first | exact FitN.nil | refine FitN.any ?_ | refine FitN.own ?_ | refine FitN.same ?_)))) ?_
  rintro j _ _ ⟨k, hj, rfl, rfl⟩
  conv => whnf
  repeat ((first | refine AW.plan (id := 16) hm (.one 0 (.one 1 (.one 2 (.one 3 (.one 4 (.one 5 (.one 6 (.one 7 (.one 8 (.one 9 (.one 10 (.one 11 (.one 12 (.one 13 (.one 14 (.one 15 (.one 16 (.one 17 .nil)))))))))))))))))) (by kernel_rfl) ?_ | refine AO.cons hT ?_ | refine AO.nil ?_ | refine AW.seq ?_ | refine AW.region ?_ | refine AW.cond ?_ | refine AW.block ?_ | refine AW.loop ?_ | refine AW.skip ?_ | refine AW.exit ?_ | refine AW.ret ?_ | refine AW.label ?_ | refine AW.scope ?_ | refine AF.one hT rfl ?_ | refine AF.nil ?_ | refine AF.imm hT rfl rfl rfl ?_ | refine AH.of hT rfl ?_ | refine AD.cons hT rfl ?_ | refine AD.nil ?_ | refine AQ.cons hT rfl ?_ | refine AQ.nil ?_); conv => whnf)
  refine ACond.dec (fun h1 => ?_) (fun h1 => ?_)
  · have hkl : k < l.length := by omega
    have wk : IntKind.wrap .i64 ((k : Int) + 1) = ((k + 1 : Nat) : Int) := by rw [wrap_i64 _ (by omega) (by omega)]; omega
    have hst := rdeadG_step l k
    have hle := rdeadG_le l k
    have hlv : rliveB l k = liveC l k l[k] (List.range 8) false := by unfold rliveB; rw [List.getElem?_eq_getElem hkl]
    have hroV : AV.vs 5 (k - 0) (((l.flatMap roC).drop (0 * 5)).take ((k - 0) * 5)) = roV (l.take k) := by
      unfold roV
      rw [List.length_take, Nat.min_eq_left (by omega), Nat.zero_mul, List.drop_zero, Nat.sub_zero, flat_takeG roC_len]
    conv => whnf
    repeat ((first | refine AW.plan (id := 16) hm (.one 0 (.one 1 (.one 2 (.one 3 (.one 4 (.one 5 (.one 6 (.one 7 (.one 8 (.one 9 (.one 10 (.one 11 (.one 12 (.one 13 (.one 14 (.one 15 (.one 16 (.one 17 .nil)))))))))))))))))) (by kernel_rfl) ?_ | refine AO.cons hT ?_ | refine AO.nil ?_ | refine AW.seq ?_ | refine AW.region ?_ | refine AW.cond ?_ | refine AW.block ?_ | refine AW.loop ?_ | refine AW.skip ?_ | refine AW.exit ?_ | refine AW.ret ?_ | refine AW.label ?_ | refine AW.scope ?_ | refine AF.one hT rfl ?_ | refine AF.nil ?_ | refine AF.imm hT rfl rfl rfl ?_ | refine AH.of hT rfl ?_ | refine AD.cons hT rfl ?_ | refine AD.nil ?_ | refine AQ.cons hT rfl ?_ | refine AQ.nil ?_); conv => whnf)
    refine ALoop.mk (fun n E H => ∃ (c : Nat) (b : Bool), n + c = 8 ∧ liveC l k l[k] ((List.range 8).drop c) b = rliveB l k ∧ E = pad [roV l, .any, .any, .ms 1 0 0 (rdeadG l k).length, iVs (amtF l), nV k, bV b, nV c] 62 ∧ H = [.cells 3 ((rdeadG l k).map nV)])
      (n := 8) _ _ ⟨0, false, rfl, hlv.symm, rfl, rfl⟩ (Conv.fit (by repeat' (first | exact Fit.nil | refine Fit.any ?_ | refine Fit.same ?_))) ?_
    rintro n _ _ ⟨c, b, hn, hb, rfl, rfl⟩
    conv => whnf
    repeat ((first | refine AW.plan (id := 16) hm (.one 0 (.one 1 (.one 2 (.one 3 (.one 4 (.one 5 (.one 6 (.one 7 (.one 8 (.one 9 (.one 10 (.one 11 (.one 12 (.one 13 (.one 14 (.one 15 (.one 16 (.one 17 .nil)))))))))))))))))) (by kernel_rfl) ?_ | refine AO.cons hT ?_ | refine AO.nil ?_ | refine AW.seq ?_ | refine AW.region ?_ | refine AW.cond ?_ | refine AW.block ?_ | refine AW.loop ?_ | refine AW.skip ?_ | refine AW.exit ?_ | refine AW.ret ?_ | refine AW.label ?_ | refine AW.scope ?_ | refine AF.one hT rfl ?_ | refine AF.nil ?_ | refine AF.imm hT rfl rfl rfl ?_ | refine AH.of hT rfl ?_ | refine AD.cons hT rfl ?_ | refine AD.nil ?_ | refine AQ.cons hT rfl ?_ | refine AQ.nil ?_); conv => whnf)
    refine ACond.dec (fun h2 => ?_) (fun h2 => ?_)
    · have hc8 : c < 8 := by omega
      have w0 : IntKind.wrap .i64 ((c : Int) + 1) = ((c + 1 : Nat) : Int) := by rw [wrap_i64 _ (by omega) (by omega)]; omega
      have hdr : (List.range 8).drop c = c :: (List.range 8).drop (c + 1) := by
        rw [List.drop_eq_getElem_cons (by simpa using hc8), List.getElem_range]
      rw [hdr, liveC] at hb
      conv => whnf
      repeat ((first | refine AW.plan (id := 16) hm (.one 0 (.one 1 (.one 2 (.one 3 (.one 4 (.one 5 (.one 6 (.one 7 (.one 8 (.one 9 (.one 10 (.one 11 (.one 12 (.one 13 (.one 14 (.one 15 (.one 16 (.one 17 .nil)))))))))))))))))) (by kernel_rfl) ?_ | refine AO.cons hT ?_ | refine AO.nil ?_ | refine AW.seq ?_ | refine AW.region ?_ | refine AW.cond ?_ | refine AW.block ?_ | refine AW.loop ?_ | refine AW.skip ?_ | refine AW.exit ?_ | refine AW.ret ?_ | refine AW.label ?_ | refine AW.scope ?_ | refine AF.one hT rfl ?_ | refine AF.nil ?_ | refine AF.imm hT rfl rfl rfl ?_ | refine AH.of hT rfl ?_ | refine AD.cons hT rfl ?_ | refine AD.nil ?_ | refine AQ.cons hT rfl ?_ | refine AQ.nil ?_); conv => whnf)
      refine ALoop.mk (fun n E H => ∃ (i : Nat) (b' : Bool), n + i = (amtF l).length ∧ liveA l k l[k] c ((amtF l).drop i) b' = liveA l k l[k] c (amtF l) b ∧ E = pad [roV l, .any, .any, .ms 1 0 0 (rdeadG l k).length, iVs (amtF l), nV k, bV b', nV c, nV i] 62 ∧ H = [.cells 3 ((rdeadG l k).map nV)])
        (n := (amtF l).length) _ _ ⟨0, b, rfl, rfl, rfl, rfl⟩ (Conv.fit (by repeat' (first | exact Fit.nil | refine Fit.any ?_ | refine Fit.same ?_))) ?_
      rintro n' _ _ ⟨i, b', hn', hb', rfl, rfl⟩
      conv => whnf
      repeat ((first | refine AW.plan (id := 16) hm (.one 0 (.one 1 (.one 2 (.one 3 (.one 4 (.one 5 (.one 6 (.one 7 (.one 8 (.one 9 (.one 10 (.one 11 (.one 12 (.one 13 (.one 14 (.one 15 (.one 16 (.one 17 .nil)))))))))))))))))) (by kernel_rfl) ?_ | refine AO.cons hT ?_ | refine AO.nil ?_ | refine AW.seq ?_ | refine AW.region ?_ | refine AW.cond ?_ | refine AW.block ?_ | refine AW.loop ?_ | refine AW.skip ?_ | refine AW.exit ?_ | refine AW.ret ?_ | refine AW.label ?_ | refine AW.scope ?_ | refine AF.one hT rfl ?_ | refine AF.nil ?_ | refine AF.imm hT rfl rfl rfl ?_ | refine AH.of hT rfl ?_ | refine AD.cons hT rfl ?_ | refine AD.nil ?_ | refine AQ.cons hT rfl ?_ | refine AQ.nil ?_); conv => whnf)
      refine ACond.dec (fun h3 => ?_) (fun h3 => ?_)
      · have hil : i < (amtF l).length := by omega
        have w1 : IntKind.wrap .i64 ((i : Int) + 1) = ((i + 1 : Nat) : Int) := by rw [wrap_i64 _ (by omega) (by omega)]; omega
        rw [List.drop_eq_getElem_cons hil, liveA] at hb'
        have hnx : ∀ {b2 : Bool} {E : List AV} {x : List AV}, (b' || hitB l k l[k] c (amtF l)[i]) = b2 → Fit E (pad [roV l, .any, .any, .ms 1 0 0 (rdeadG l k).length, iVs (amtF l), nV k, bV b2, nV c, nV ((i + 1 : Nat) : Int)] 62) → AHead 0 (fun n E H => ∃ (i : Nat) (b' : Bool), n + i = (amtF l).length ∧ liveA l k l[k] c ((amtF l).drop i) b' = liveA l k l[k] c (amtF l) b ∧ E = pad [roV l, .any, .any, .ms 1 0 0 (rdeadG l k).length, iVs (amtF l), nV k, bV b', nV c, nV i] 62 ∧ H = [.cells 3 ((rdeadG l k).map nV)]) n' E [.cells 3 ((rdeadG l k).map nV), .cells 31 x] := by
          intro b2 E x he hf
          rw [he] at hb'
          refine AHead.mk (n' - 1) _ _ (by omega) ⟨i + 1, b2, by omega, hb', rfl, rfl⟩ (Conv.trans (Conv.fit hf) (Conv.ren [0] _ (fun _ h => absurd h (Nat.not_lt_zero _)) (by decide) ?_ (.same (by rw [ABlk.ren, nVs_ren]; rfl) .nil)))
          repeat' (first | exact Fit.nil | refine Fit.any ?_ | refine Fit.same ?_ | refine Fit.eq (roV_ren _ _) ?_ | refine Fit.eq (iVs_ren _ _) ?_)
        conv => whnf
        repeat ((first | refine AW.plan (id := 16) hm (.one 0 (.one 1 (.one 2 (.one 3 (.one 4 (.one 5 (.one 6 (.one 7 (.one 8 (.one 9 (.one 10 (.one 11 (.one 12 (.one 13 (.one 14 (.one 15 (.one 16 (.one 17 .nil)))))))))))))))))) (by kernel_rfl) ?_ | refine AO.cons hT ?_ | refine AO.nil ?_ | refine AW.seq ?_ | refine AW.region ?_ | refine AW.cond ?_ | refine AW.block ?_ | refine AW.loop ?_ | refine AW.skip ?_ | refine AW.exit ?_ | refine AW.ret ?_ | refine AW.label ?_ | refine AW.scope ?_ | refine AF.one hT rfl ?_ | refine AF.nil ?_ | refine AF.imm hT rfl rfl rfl ?_ | refine AH.of hT rfl ?_ | refine AD.cons hT rfl ?_ | refine AD.nil ?_ | refine AQ.cons hT rfl ?_ | refine AQ.nil ?_ | (refine AReq.mk (by omega) ?_) | (refine AIdx.map1 (f := nV) (xs := amtF l) (i := i) hil ?_) | (refine AIdx.flat (enc := roC) roC_len (xs := l) (i := k) hkl ?_) | (refine ACall.val (by kernel_rfl) (f27 c (amtF l)[i] hc8) rfl rfl ?_) | (refine ACall.val (by kernel_rfl) (f28 l[k] (fcOf c (amtF l)[i])) rfl rfl ?_)); conv => whnf)
        refine ASplit.mk (fun h4 => ?_) (fun h4 => ?_)
        · conv => whnf
          repeat (first | (refine AW.plan (id := 16) hm (.one 0 (.one 1 (.one 2 (.one 3 (.one 4 (.one 5 (.one 6 (.one 7 (.one 8 (.one 9 (.one 10 (.one 11 (.one 12 (.one 13 (.one 14 (.one 15 (.one 16 (.one 17 .nil)))))))))))))))))) (by kernel_rfl) ?_; conv => whnf) | (refine AW.label ?_; conv => whnf) | (refine AW.scope ?_; conv => whnf) | (refine AO.cons hT ?_; conv => whnf) | (refine AO.nil ?_; conv => whnf) | (refine AW.seq ?_; conv => whnf) | (refine AW.region ?_; conv => whnf) | (refine AW.cond ?_; conv => whnf) | (refine AW.block ?_; conv => whnf) | (refine AW.loop ?_; conv => whnf) | (refine AW.skip ?_; conv => whnf) | (refine AW.exit ?_; conv => whnf) | (refine AW.ret ?_; conv => whnf) | (refine AF.one hT rfl ?_; conv => whnf) | (refine AF.nil ?_; conv => whnf) | (refine AF.imm hT rfl rfl rfl ?_; conv => whnf) | (refine AH.of hT rfl ?_; conv => whnf) | (refine ASplit.yes rfl ?_; conv => whnf) | (refine ACond.yes rfl ?_; conv => whnf) | (refine ASplit.no rfl ?_; conv => whnf) | (refine ACond.no rfl ?_; conv => whnf) | (refine ASplit.yes (by decide) ?_; conv => whnf) | (refine ACond.yes (by decide) ?_; conv => whnf) | (refine AReq.mk (by decide) ?_; conv => whnf) | (refine AIdx.iff.2 ⟨by decide, ?_⟩; conv => whnf) | (refine AReq.mk (by omega) ?_; conv => whnf) | (refine AIdx.map1 (f := nV) (xs := amtF l) (i := i) hil ?_; conv => whnf) | (refine AIdx.flat (enc := roC) roC_len (xs := l) (i := k) hkl ?_; conv => whnf) | (refine ACall.val (by kernel_rfl) (f27 c (amtF l)[i] hc8) rfl rfl ?_; conv => whnf) | (refine ACall.val (by kernel_rfl) (f28 l[k] (fcOf c (amtF l)[i])) rfl rfl ?_; conv => whnf))
          rw [w1]
          exact hnx (by rw [h4, Bool.true_or]) (by repeat' (first | exact Fit.nil | refine Fit.any ?_ | refine Fit.same ?_))
        conv => whnf
        repeat ((first | refine AW.plan (id := 16) hm (.one 0 (.one 1 (.one 2 (.one 3 (.one 4 (.one 5 (.one 6 (.one 7 (.one 8 (.one 9 (.one 10 (.one 11 (.one 12 (.one 13 (.one 14 (.one 15 (.one 16 (.one 17 .nil)))))))))))))))))) (by kernel_rfl) ?_ | refine AO.cons hT ?_ | refine AO.nil ?_ | refine AW.seq ?_ | refine AW.region ?_ | refine AW.cond ?_ | refine AW.block ?_ | refine AW.loop ?_ | refine AW.skip ?_ | refine AW.exit ?_ | refine AW.ret ?_ | refine AW.label ?_ | refine AW.scope ?_ | refine AF.one hT rfl ?_ | refine AF.nil ?_ | refine AF.imm hT rfl rfl rfl ?_ | refine AH.of hT rfl ?_ | refine AD.cons hT rfl ?_ | refine AD.nil ?_ | refine AQ.cons hT rfl ?_ | refine AQ.nil ?_ | (refine AReq.mk (by omega) ?_) | (refine AIdx.map1 (f := nV) (xs := amtF l) (i := i) hil ?_) | (refine AIdx.flat (enc := roC) roC_len (xs := l) (i := k) hkl ?_) | (refine ACall.val (by kernel_rfl) (f27 c (amtF l)[i] hc8) rfl rfl ?_) | (refine ACall.val (by kernel_rfl) (f28 l[k] (fcOf c (amtF l)[i])) rfl rfl ?_)); conv => whnf)
        refine ASplit.mk (fun h5 => ?_) (fun h5 => ?_)
        · conv => whnf
          repeat ((first | refine AW.plan (id := 16) hm (.one 0 (.one 1 (.one 2 (.one 3 (.one 4 (.one 5 (.one 6 (.one 7 (.one 8 (.one 9 (.one 10 (.one 11 (.one 12 (.one 13 (.one 14 (.one 15 (.one 16 (.one 17 .nil)))))))))))))))))) (by kernel_rfl) ?_ | refine AO.cons hT ?_ | refine AO.nil ?_ | refine AW.seq ?_ | refine AW.region ?_ | refine AW.cond ?_ | refine AW.block ?_ | refine AW.loop ?_ | refine AW.skip ?_ | refine AW.exit ?_ | refine AW.ret ?_ | refine AW.label ?_ | refine AW.scope ?_ | refine AF.one hT rfl ?_ | refine AF.nil ?_ | refine AF.imm hT rfl rfl rfl ?_ | refine AH.of hT rfl ?_ | refine AD.cons hT rfl ?_ | refine AD.nil ?_ | refine AQ.cons hT rfl ?_ | refine AQ.nil ?_ | (refine AReq.mk (by omega) ?_) | (refine AIdx.map1 (f := nV) (xs := amtF l) (i := i) hil ?_) | (refine AIdx.flat (enc := roC) roC_len (xs := l) (i := k) hkl ?_) | (refine ACall.val (by kernel_rfl) (f27 c (amtF l)[i] hc8) rfl rfl ?_) | (refine ACall.val (by kernel_rfl) (f28 l[k] (fcOf c (amtF l)[i])) rfl rfl ?_)); conv => whnf)
          refine ACut.iff.2 ⟨by rw [flat_length roC_len]; show 0 * 5 + (Int.toNat (k : Int) - 0) * 5 ≤ _; omega, ?_⟩
          rw [Int.toNat_natCast, hroV]
          conv => whnf
          repeat ((first | refine AW.plan (id := 16) hm (.one 0 (.one 1 (.one 2 (.one 3 (.one 4 (.one 5 (.one 6 (.one 7 (.one 8 (.one 9 (.one 10 (.one 11 (.one 12 (.one 13 (.one 14 (.one 15 (.one 16 (.one 17 .nil)))))))))))))))))) (by kernel_rfl) ?_ | refine AO.cons hT ?_ | refine AO.nil ?_ | refine AW.seq ?_ | refine AW.region ?_ | refine AW.cond ?_ | refine AW.block ?_ | refine AW.loop ?_ | refine AW.skip ?_ | refine AW.exit ?_ | refine AW.ret ?_ | refine AW.label ?_ | refine AW.scope ?_ | refine AF.one hT rfl ?_ | refine AF.nil ?_ | refine AF.imm hT rfl rfl rfl ?_ | refine AH.of hT rfl ?_ | refine AD.cons hT rfl ?_ | refine AD.nil ?_ | refine AQ.cons hT rfl ?_ | refine AQ.nil ?_ | (refine AReq.mk (by omega) ?_) | (refine AIdx.map1 (f := nV) (xs := amtF l) (i := i) hil ?_) | (refine AIdx.flat (enc := roC) roC_len (xs := l) (i := k) hkl ?_) | (refine ACall.val (by kernel_rfl) (f27 c (amtF l)[i] hc8) rfl rfl ?_) | (refine ACall.val (by kernel_rfl) (f28 l[k] (fcOf c (amtF l)[i])) rfl rfl ?_)); conv => whnf)
          refine ACall.val (by kernel_rfl) (f26 (l.take k) (fcOf c (amtF l)[i]) (by rw [List.length_take]; omega)) (show [(roV (l.take k)).ren _, _] = _ by rw [roV_ren]; rfl) rfl ?_
          conv => whnf
          repeat ((first | refine AW.plan (id := 16) hm (.one 0 (.one 1 (.one 2 (.one 3 (.one 4 (.one 5 (.one 6 (.one 7 (.one 8 (.one 9 (.one 10 (.one 11 (.one 12 (.one 13 (.one 14 (.one 15 (.one 16 (.one 17 .nil)))))))))))))))))) (by kernel_rfl) ?_ | refine AO.cons hT ?_ | refine AO.nil ?_ | refine AW.seq ?_ | refine AW.region ?_ | refine AW.cond ?_ | refine AW.block ?_ | refine AW.loop ?_ | refine AW.skip ?_ | refine AW.exit ?_ | refine AW.ret ?_ | refine AW.label ?_ | refine AW.scope ?_ | refine AF.one hT rfl ?_ | refine AF.nil ?_ | refine AF.imm hT rfl rfl rfl ?_ | refine AH.of hT rfl ?_ | refine AD.cons hT rfl ?_ | refine AD.nil ?_ | refine AQ.cons hT rfl ?_ | refine AQ.nil ?_ | (refine AReq.mk (by omega) ?_) | (refine AIdx.map1 (f := nV) (xs := amtF l) (i := i) hil ?_) | (refine AIdx.flat (enc := roC) roC_len (xs := l) (i := k) hkl ?_) | (refine ACall.val (by kernel_rfl) (f27 c (amtF l)[i] hc8) rfl rfl ?_) | (refine ACall.val (by kernel_rfl) (f28 l[k] (fcOf c (amtF l)[i])) rfl rfl ?_)); conv => whnf)
          rw [w1]
          exact hnx (by unfold hitB; rw [h4, h5, Bool.false_or, Bool.true_and]) (by repeat' (first | exact Fit.nil | refine Fit.any ?_ | refine Fit.same ?_))
        · conv => whnf
          repeat (first | (refine AW.plan (id := 16) hm (.one 0 (.one 1 (.one 2 (.one 3 (.one 4 (.one 5 (.one 6 (.one 7 (.one 8 (.one 9 (.one 10 (.one 11 (.one 12 (.one 13 (.one 14 (.one 15 (.one 16 (.one 17 .nil)))))))))))))))))) (by kernel_rfl) ?_; conv => whnf) | (refine AW.label ?_; conv => whnf) | (refine AW.scope ?_; conv => whnf) | (refine AO.cons hT ?_; conv => whnf) | (refine AO.nil ?_; conv => whnf) | (refine AW.seq ?_; conv => whnf) | (refine AW.region ?_; conv => whnf) | (refine AW.cond ?_; conv => whnf) | (refine AW.block ?_; conv => whnf) | (refine AW.loop ?_; conv => whnf) | (refine AW.skip ?_; conv => whnf) | (refine AW.exit ?_; conv => whnf) | (refine AW.ret ?_; conv => whnf) | (refine AF.one hT rfl ?_; conv => whnf) | (refine AF.nil ?_; conv => whnf) | (refine AF.imm hT rfl rfl rfl ?_; conv => whnf) | (refine AH.of hT rfl ?_; conv => whnf) | (refine ASplit.yes rfl ?_; conv => whnf) | (refine ACond.yes rfl ?_; conv => whnf) | (refine ASplit.no rfl ?_; conv => whnf) | (refine ACond.no rfl ?_; conv => whnf) | (refine ASplit.yes (by decide) ?_; conv => whnf) | (refine ACond.yes (by decide) ?_; conv => whnf) | (refine AReq.mk (by decide) ?_; conv => whnf) | (refine AIdx.iff.2 ⟨by decide, ?_⟩; conv => whnf) | (refine AReq.mk (by omega) ?_; conv => whnf) | (refine AIdx.map1 (f := nV) (xs := amtF l) (i := i) hil ?_; conv => whnf) | (refine AIdx.flat (enc := roC) roC_len (xs := l) (i := k) hkl ?_; conv => whnf) | (refine ACall.val (by kernel_rfl) (f27 c (amtF l)[i] hc8) rfl rfl ?_; conv => whnf) | (refine ACall.val (by kernel_rfl) (f28 l[k] (fcOf c (amtF l)[i])) rfl rfl ?_; conv => whnf))
          rw [w1]
          exact hnx (by unfold hitB; rw [h4, h5, Bool.false_or, Bool.false_and]) (by repeat' (first | exact Fit.nil | refine Fit.any ?_ | refine Fit.same ?_))
      · rw [List.drop_eq_nil_of_le (by omega), liveA] at hb'
        subst hb'
        conv => whnf
        repeat ((first | refine AW.plan (id := 16) hm (.one 0 (.one 1 (.one 2 (.one 3 (.one 4 (.one 5 (.one 6 (.one 7 (.one 8 (.one 9 (.one 10 (.one 11 (.one 12 (.one 13 (.one 14 (.one 15 (.one 16 (.one 17 .nil)))))))))))))))))) (by kernel_rfl) ?_ | refine AO.cons hT ?_ | refine AO.nil ?_ | refine AW.seq ?_ | refine AW.region ?_ | refine AW.cond ?_ | refine AW.block ?_ | refine AW.loop ?_ | refine AW.skip ?_ | refine AW.exit ?_ | refine AW.ret ?_ | refine AW.label ?_ | refine AW.scope ?_ | refine AF.one hT rfl ?_ | refine AF.nil ?_ | refine AF.imm hT rfl rfl rfl ?_ | refine AH.of hT rfl ?_ | refine AD.cons hT rfl ?_ | refine AD.nil ?_ | refine AQ.cons hT rfl ?_ | refine AQ.nil ?_); conv => whnf)
        refine AOut.stay ?_
        conv => whnf
        repeat ((first | refine AW.plan (id := 16) hm (.one 0 (.one 1 (.one 2 (.one 3 (.one 4 (.one 5 (.one 6 (.one 7 (.one 8 (.one 9 (.one 10 (.one 11 (.one 12 (.one 13 (.one 14 (.one 15 (.one 16 (.one 17 .nil)))))))))))))))))) (by kernel_rfl) ?_ | refine AO.cons hT ?_ | refine AO.nil ?_ | refine AW.seq ?_ | refine AW.region ?_ | refine AW.cond ?_ | refine AW.block ?_ | refine AW.loop ?_ | refine AW.skip ?_ | refine AW.exit ?_ | refine AW.ret ?_ | refine AW.label ?_ | refine AW.scope ?_ | refine AF.one hT rfl ?_ | refine AF.nil ?_ | refine AF.imm hT rfl rfl rfl ?_ | refine AH.of hT rfl ?_ | refine AD.cons hT rfl ?_ | refine AD.nil ?_ | refine AQ.cons hT rfl ?_ | refine AQ.nil ?_); conv => whnf)
        rw [w0]
        exact AHead.mk (n - 1) _ _ (by omega) ⟨c + 1, _, by omega, hb, rfl, rfl⟩ (Conv.fit (by repeat' (first | exact Fit.nil | refine Fit.any ?_ | refine Fit.same ?_)))
    · obtain rfl : c = 8 := by omega
      have hb : liveC l k l[k] [] b = rliveB l k := hb
      rw [liveC] at hb
      subst hb
      conv => whnf
      repeat ((first | refine AW.plan (id := 16) hm (.one 0 (.one 1 (.one 2 (.one 3 (.one 4 (.one 5 (.one 6 (.one 7 (.one 8 (.one 9 (.one 10 (.one 11 (.one 12 (.one 13 (.one 14 (.one 15 (.one 16 (.one 17 .nil)))))))))))))))))) (by kernel_rfl) ?_ | refine AO.cons hT ?_ | refine AO.nil ?_ | refine AW.seq ?_ | refine AW.region ?_ | refine AW.cond ?_ | refine AW.block ?_ | refine AW.loop ?_ | refine AW.skip ?_ | refine AW.exit ?_ | refine AW.ret ?_ | refine AW.label ?_ | refine AW.scope ?_ | refine AF.one hT rfl ?_ | refine AF.nil ?_ | refine AF.imm hT rfl rfl rfl ?_ | refine AH.of hT rfl ?_ | refine AD.cons hT rfl ?_ | refine AD.nil ?_ | refine AQ.cons hT rfl ?_ | refine AQ.nil ?_); conv => whnf)
      refine AOut.stay ?_
      conv => whnf
      repeat ((first | refine AW.plan (id := 16) hm (.one 0 (.one 1 (.one 2 (.one 3 (.one 4 (.one 5 (.one 6 (.one 7 (.one 8 (.one 9 (.one 10 (.one 11 (.one 12 (.one 13 (.one 14 (.one 15 (.one 16 (.one 17 .nil)))))))))))))))))) (by kernel_rfl) ?_ | refine AO.cons hT ?_ | refine AO.nil ?_ | refine AW.seq ?_ | refine AW.region ?_ | refine AW.cond ?_ | refine AW.block ?_ | refine AW.loop ?_ | refine AW.skip ?_ | refine AW.exit ?_ | refine AW.ret ?_ | refine AW.label ?_ | refine AW.scope ?_ | refine AF.one hT rfl ?_ | refine AF.nil ?_ | refine AF.imm hT rfl rfl rfl ?_ | refine AH.of hT rfl ?_ | refine AD.cons hT rfl ?_ | refine AD.nil ?_ | refine AQ.cons hT rfl ?_ | refine AQ.nil ?_); conv => whnf)
      refine ACond.mk (fun h4 => ?_) (fun h4 => ?_)
      · rw [if_neg (by rw [nb1 h4]; simp)] at hst
        conv => whnf
        repeat ((first | refine AW.plan (id := 16) hm (.one 0 (.one 1 (.one 2 (.one 3 (.one 4 (.one 5 (.one 6 (.one 7 (.one 8 (.one 9 (.one 10 (.one 11 (.one 12 (.one 13 (.one 14 (.one 15 (.one 16 (.one 17 .nil)))))))))))))))))) (by kernel_rfl) ?_ | refine AO.cons hT ?_ | refine AO.nil ?_ | refine AW.seq ?_ | refine AW.region ?_ | refine AW.cond ?_ | refine AW.block ?_ | refine AW.loop ?_ | refine AW.skip ?_ | refine AW.exit ?_ | refine AW.ret ?_ | refine AW.label ?_ | refine AW.scope ?_ | refine AF.one hT rfl ?_ | refine AF.nil ?_ | refine AF.imm hT rfl rfl rfl ?_ | refine AH.of hT rfl ?_ | refine AD.cons hT rfl ?_ | refine AD.nil ?_ | refine AQ.cons hT rfl ?_ | refine AQ.nil ?_); conv => whnf)
        refine AReq.mk ⟨by rw [List.length_map, Nat.mul_one], by show (_ + 1) * 8 ≤ _; omega⟩ ?_
        conv => whnf
        repeat ((first | refine AW.plan (id := 16) hm (.one 0 (.one 1 (.one 2 (.one 3 (.one 4 (.one 5 (.one 6 (.one 7 (.one 8 (.one 9 (.one 10 (.one 11 (.one 12 (.one 13 (.one 14 (.one 15 (.one 16 (.one 17 .nil)))))))))))))))))) (by kernel_rfl) ?_ | refine AO.cons hT ?_ | refine AO.nil ?_ | refine AW.seq ?_ | refine AW.region ?_ | refine AW.cond ?_ | refine AW.block ?_ | refine AW.loop ?_ | refine AW.skip ?_ | refine AW.exit ?_ | refine AW.ret ?_ | refine AW.label ?_ | refine AW.scope ?_ | refine AF.one hT rfl ?_ | refine AF.nil ?_ | refine AF.imm hT rfl rfl rfl ?_ | refine AH.of hT rfl ?_ | refine AD.cons hT rfl ?_ | refine AD.nil ?_ | refine AQ.cons hT rfl ?_ | refine AQ.nil ?_); conv => whnf)
        rw [wk]
        refine AHead.mk (j - 1) (pad [roV l, .any, .any, .ms 1 0 0 (rdeadG l (k + 1)).length, iVs (amtF l), nV ((k + 1 : Nat) : Int)] 62) [.cells 3 ((rdeadG l (k + 1)).map nV)] (by omega) ⟨k + 1, by omega, rfl, rfl⟩ ?_
        rw [hst, List.length_append, List.map_append]
        refine Conv.ren [1] _ (fun _ h => absurd h (Nat.not_lt_zero _)) (by decide) ?_ (.same (by rw [ABlk.ren, renL_append, nVs_ren]; rfl) .nil)
        repeat' (first | exact Fit.nil | refine Fit.any ?_ | refine Fit.same ?_ | refine Fit.eq (roV_ren _ _) ?_ | refine Fit.eq (iVs_ren _ _) ?_)
      · rw [if_pos (nb0 h4)] at hst
        conv => whnf
        repeat ((first | refine AW.plan (id := 16) hm (.one 0 (.one 1 (.one 2 (.one 3 (.one 4 (.one 5 (.one 6 (.one 7 (.one 8 (.one 9 (.one 10 (.one 11 (.one 12 (.one 13 (.one 14 (.one 15 (.one 16 (.one 17 .nil)))))))))))))))))) (by kernel_rfl) ?_ | refine AO.cons hT ?_ | refine AO.nil ?_ | refine AW.seq ?_ | refine AW.region ?_ | refine AW.cond ?_ | refine AW.block ?_ | refine AW.loop ?_ | refine AW.skip ?_ | refine AW.exit ?_ | refine AW.ret ?_ | refine AW.label ?_ | refine AW.scope ?_ | refine AF.one hT rfl ?_ | refine AF.nil ?_ | refine AF.imm hT rfl rfl rfl ?_ | refine AH.of hT rfl ?_ | refine AD.cons hT rfl ?_ | refine AD.nil ?_ | refine AQ.cons hT rfl ?_ | refine AQ.nil ?_); conv => whnf)
        rw [wk]
        exact AHead.mk (j - 1) _ _ (by omega) ⟨k + 1, by omega, by rw [hst], by rw [hst]⟩ (Conv.fit (by repeat' (first | exact Fit.nil | refine Fit.any ?_ | refine Fit.same ?_)))
  · obtain rfl : k = l.length := by omega
    conv => whnf
    repeat ((first | refine AW.plan (id := 16) hm (.one 0 (.one 1 (.one 2 (.one 3 (.one 4 (.one 5 (.one 6 (.one 7 (.one 8 (.one 9 (.one 10 (.one 11 (.one 12 (.one 13 (.one 14 (.one 15 (.one 16 (.one 17 .nil)))))))))))))))))) (by kernel_rfl) ?_ | refine AO.cons hT ?_ | refine AO.nil ?_ | refine AW.seq ?_ | refine AW.region ?_ | refine AW.cond ?_ | refine AW.block ?_ | refine AW.loop ?_ | refine AW.skip ?_ | refine AW.exit ?_ | refine AW.ret ?_ | refine AW.label ?_ | refine AW.scope ?_ | refine AF.one hT rfl ?_ | refine AF.nil ?_ | refine AF.imm hT rfl rfl rfl ?_ | refine AH.of hT rfl ?_ | refine AD.cons hT rfl ?_ | refine AD.nil ?_ | refine AQ.cons hT rfl ?_ | refine AQ.nil ?_); conv => whnf)
    refine AOut.stay ?_
    conv => whnf
    repeat ((first | refine AW.plan (id := 16) hm (.one 0 (.one 1 (.one 2 (.one 3 (.one 4 (.one 5 (.one 6 (.one 7 (.one 8 (.one 9 (.one 10 (.one 11 (.one 12 (.one 13 (.one 14 (.one 15 (.one 16 (.one 17 .nil)))))))))))))))))) (by kernel_rfl) ?_ | refine AO.cons hT ?_ | refine AO.nil ?_ | refine AW.seq ?_ | refine AW.region ?_ | refine AW.cond ?_ | refine AW.block ?_ | refine AW.loop ?_ | refine AW.skip ?_ | refine AW.exit ?_ | refine AW.ret ?_ | refine AW.label ?_ | refine AW.scope ?_ | refine AF.one hT rfl ?_ | refine AF.nil ?_ | refine AF.imm hT rfl rfl rfl ?_ | refine AH.of hT rfl ?_ | refine AD.cons hT rfl ?_ | refine AD.nil ?_ | refine AQ.cons hT rfl ?_ | refine AQ.nil ?_); conv => whnf)
    exact AFin.to (iVs (rdeadG l l.length)) [] (Conv.out (.sm rfl (by rw [List.length_map, Nat.mul_one])) (fun ρ => iVs_ren ρ _)) ⟨rfl, rfl⟩
theorem mat_in {r : Ro} (hr : rowB r = true) {c : Nat} (hc : c < 8) {a : Int} (ha : 0 ≤ a) (ha2 : a ≤ 1000000000000) : matB r (fcOf c a) = (inB r c && decide (r.lo ≤ a) && decide (a ≤ r.hi)) := by
  unfold matB fitB inB
  have hf : factB (fcOf c a) = true := factB_iff.2 ⟨by show (0 : Int) ≤ ((c / 2 : Nat) : Int); omega, by show ((c / 2 : Nat) : Int) ≤ 3; omega, ha, ha2⟩
  rw [hr, hf, Bool.true_and, Bool.true_and]
  show (bitI r.g (Int.toNat ((c / 2 : Nat) : Int)) && bitI r.w (if decide (c % 2 = 1) = true then 1 else 0) && decide (r.lo ≤ a) && decide (a ≤ r.hi)) = _
  rw [Int.toNat_natCast]
  have e : (if decide (c % 2 = 1) = true then 1 else 0) = c % 2 := by
    have : c % 2 = 0 ∨ c % 2 = 1 := by omega
    rcases this with h | h <;> rw [h] <;> rfl
  rw [e]
theorem f11 (l : List Ro) (hl : l.length ≤ 9223372036854775807) : Fun P 11 [roV l] (.tup [.agg ((cellsF l).1.map nV), nV (cellsF l).2]) := by
  refine spec_of hT (f := 11) (fn := Go.Proofs.Try.f11) (c := body Go.Proofs.Try.f11) (by kernel_rfl) (by kernel_rfl) ?_
  unfold cellsF
  have hcut : ∀ {xs : List Int} {K : List AV → Prop}, xs.length = 8 → K (xs.map nV) → ACut (drp (xs.map nV) 0) 0 (T 34).size K := fun h q => by
    rw [drp_zero]; exact ACut.all (by rw [List.length_map, h]; rfl) q
  have hcut' : ∀ {xs : List Int} {K : List AV → Prop}, xs.length = 8 → K (xs.map nV) → ACut (xs.map nV) 0 (T 34).size K := fun h q => ACut.all (by rw [List.length_map, h]; rfl) q
  have hupd : ∀ {xs ys : List Int} {K : List AV → Prop}, xs.length = 8 → ys.length = 8 → K (ys.map nV) → AUpd (xs.map nV) 0 (ys.map nV) K := fun h h2 q =>
    AUpd.to _ (by rw [List.length_map, List.length_map]; omega) (by unfold spl; rw [List.take_zero, List.nil_append, List.drop_eq_nil_of_le (by rw [List.length_map, List.length_map]; omega), List.append_nil]) q
  have hfin : ∀ (ys : List Int) (e : Int) {H : List ABlk}, AFin 0 (.tup [.agg (ys.map nV), nV e]) H (fun r' H' => r' = .tup [.agg (ys.map nV), nV e] ∧ H' = []) := fun ys e H =>
    AFin.val (by show AV.tup [.agg (renL _ (ys.map nV)), _] = _; rw [nVs_ren]; rfl) ⟨rfl, rfl⟩
  conv => whnf
  repeat ((first | refine AW.plan (id := 10) hm (.one 0 (.one 1 (.one 2 (.one 4 (.one 5 (.one 6 (.one 7 (.one 8 (.one 9 (.imm 3 (.one 10 (.one 11 .nil)))))))))))) (by kernel_rfl) ?_ | refine AO.cons hT ?_ | refine AO.nil ?_ | refine AW.seq ?_ | refine AW.region ?_ | refine AW.cond ?_ | refine AW.block ?_ | refine AW.loop ?_ | refine AW.skip ?_ | refine AW.exit ?_ | refine AW.ret ?_ | refine AW.label ?_ | refine AW.scope ?_ | refine AF.one hT rfl ?_ | refine AF.nil ?_ | refine AF.imm hT rfl rfl rfl ?_ | refine AH.of hT rfl ?_ | refine AD.cons hT rfl ?_ | refine AD.nil ?_ | refine AQ.cons hT rfl ?_ | refine AQ.nil ?_); conv => whnf)
  refine ACall.val (by kernel_rfl) (f25 l hl) (roV1 _ _) rfl ?_
  rcases Bool.eq_false_or_eq_true (tabB l) with g | g <;> simp only [g, Bool.false_eq_true, if_false, if_true]
  case inr =>
    conv => whnf
    repeat (first | (refine AW.plan (id := 10) hm (.one 0 (.one 1 (.one 2 (.one 4 (.one 5 (.one 6 (.one 7 (.one 8 (.one 9 (.imm 3 (.one 10 (.one 11 .nil)))))))))))) (by kernel_rfl) ?_; conv => whnf) | (refine AW.label ?_; conv => whnf) | (refine AW.scope ?_; conv => whnf) | (refine AO.cons hT ?_; conv => whnf) | (refine AO.nil ?_; conv => whnf) | (refine AW.seq ?_; conv => whnf) | (refine AW.region ?_; conv => whnf) | (refine AW.cond ?_; conv => whnf) | (refine AW.block ?_; conv => whnf) | (refine AW.loop ?_; conv => whnf) | (refine AW.skip ?_; conv => whnf) | (refine AW.exit ?_; conv => whnf) | (refine AW.ret ?_; conv => whnf) | (refine AF.one hT rfl ?_; conv => whnf) | (refine AF.nil ?_; conv => whnf) | (refine AF.imm hT rfl rfl rfl ?_; conv => whnf) | (refine AH.of hT rfl ?_; conv => whnf) | (refine ASplit.yes rfl ?_; conv => whnf) | (refine ACond.yes rfl ?_; conv => whnf) | (refine ASplit.no rfl ?_; conv => whnf) | (refine ACond.no rfl ?_; conv => whnf) | (refine ASplit.yes (by decide) ?_; conv => whnf) | (refine ACond.yes (by decide) ?_; conv => whnf) | (refine AReq.mk (by decide) ?_; conv => whnf) | (refine AIdx.iff.2 ⟨by decide, ?_⟩; conv => whnf) | (refine hcut (xs := zer8) rfl ?_; conv => whnf) | (refine hcut' (xs := zer8) rfl ?_; conv => whnf) | (refine AReq.mk rfl ?_; conv => whnf) | (refine hupd (xs := zer8) (ys := zer8) rfl rfl ?_; conv => whnf))
    exact hfin zer8 36
  obtain ⟨t1, t2, t3⟩ := tabB_row g
  have hcl := cnt_len l
  conv => whnf
  repeat (first | (refine AW.plan (id := 10) hm (.one 0 (.one 1 (.one 2 (.one 4 (.one 5 (.one 6 (.one 7 (.one 8 (.one 9 (.imm 3 (.one 10 (.one 11 .nil)))))))))))) (by kernel_rfl) ?_; conv => whnf) | (refine AW.label ?_; conv => whnf) | (refine AW.scope ?_; conv => whnf) | (refine AO.cons hT ?_; conv => whnf) | (refine AO.nil ?_; conv => whnf) | (refine AW.seq ?_; conv => whnf) | (refine AW.region ?_; conv => whnf) | (refine AW.cond ?_; conv => whnf) | (refine AW.block ?_; conv => whnf) | (refine AW.loop ?_; conv => whnf) | (refine AW.skip ?_; conv => whnf) | (refine AW.exit ?_; conv => whnf) | (refine AW.ret ?_; conv => whnf) | (refine AF.one hT rfl ?_; conv => whnf) | (refine AF.nil ?_; conv => whnf) | (refine AF.imm hT rfl rfl rfl ?_; conv => whnf) | (refine AH.of hT rfl ?_; conv => whnf) | (refine ASplit.yes rfl ?_; conv => whnf) | (refine ACond.yes rfl ?_; conv => whnf) | (refine ASplit.no rfl ?_; conv => whnf) | (refine ACond.no rfl ?_; conv => whnf) | (refine ASplit.yes (by decide) ?_; conv => whnf) | (refine ACond.yes (by decide) ?_; conv => whnf) | (refine AReq.mk (by decide) ?_; conv => whnf) | (refine AIdx.iff.2 ⟨by decide, ?_⟩; conv => whnf))
  refine ALoop.mk (fun j E H => ∃ (c : Nat), j + c = 8 ∧ E = pad [roV l, .any, .ptr 0 0, nV 0, .ptr 1 0, nV c] 39 ∧ H = [.cells 34 (zer8.map nV), .cells 34 (((cntF l).take c).map nV ++ List.replicate (8 - c) (nV 0))])
    (n := 8) _ _ ⟨0, rfl, rfl, rfl⟩ (Conv.fit (by repeat' (first | exact Fit.nil | refine Fit.any ?_ | refine Fit.same ?_))) ?_
  rintro j _ _ ⟨c, hj, rfl, rfl⟩
  conv => whnf
  repeat ((first | refine AW.plan (id := 10) hm (.one 0 (.one 1 (.one 2 (.one 4 (.one 5 (.one 6 (.one 7 (.one 8 (.one 9 (.imm 3 (.one 10 (.one 11 .nil)))))))))))) (by kernel_rfl) ?_ | refine AO.cons hT ?_ | refine AO.nil ?_ | refine AW.seq ?_ | refine AW.region ?_ | refine AW.cond ?_ | refine AW.block ?_ | refine AW.loop ?_ | refine AW.skip ?_ | refine AW.exit ?_ | refine AW.ret ?_ | refine AW.label ?_ | refine AW.scope ?_ | refine AF.one hT rfl ?_ | refine AF.nil ?_ | refine AF.imm hT rfl rfl rfl ?_ | refine AH.of hT rfl ?_ | refine AD.cons hT rfl ?_ | refine AD.nil ?_ | refine AQ.cons hT rfl ?_ | refine AQ.nil ?_); conv => whnf)
  refine ACond.dec (fun h1 => ?_) (fun h1 => ?_)
  · have hc8 : c < 8 := by omega
    have w0 : IntKind.wrap .i64 ((c : Int) + 1) = ((c + 1 : Nat) : Int) := by rw [wrap_i64 _ (by omega) (by omega)]; omega
    obtain ⟨m, hm8⟩ : ∃ m, 8 - c = m + 1 := ⟨7 - c, by omega⟩
    rw [hm8, List.replicate_succ]
    have htk : (cntF l).take (c + 1) = (cntF l).take c ++ [((spc l c).length : Int)] := by
      rw [List.take_add_one, List.getElem?_eq_getElem (by omega)]
      congr 1
      unfold cntF
      rw [List.getElem_map, List.getElem_range]; rfl
    have hpl : (((cntF l).take c).map nV).length = c := by rw [List.length_map, List.length_take, hcl]; omega
    conv => whnf
    repeat ((first | refine AW.plan (id := 10) hm (.one 0 (.one 1 (.one 2 (.one 4 (.one 5 (.one 6 (.one 7 (.one 8 (.one 9 (.imm 3 (.one 10 (.one 11 .nil)))))))))))) (by kernel_rfl) ?_ | refine AO.cons hT ?_ | refine AO.nil ?_ | refine AW.seq ?_ | refine AW.region ?_ | refine AW.cond ?_ | refine AW.block ?_ | refine AW.loop ?_ | refine AW.skip ?_ | refine AW.exit ?_ | refine AW.ret ?_ | refine AW.label ?_ | refine AW.scope ?_ | refine AF.one hT rfl ?_ | refine AF.nil ?_ | refine AF.imm hT rfl rfl rfl ?_ | refine AH.of hT rfl ?_ | refine AD.cons hT rfl ?_ | refine AD.nil ?_ | refine AQ.cons hT rfl ?_ | refine AQ.nil ?_); conv => whnf)
    refine ALoop.mk (fun n E H => ∃ i : Nat, n + i = l.length ∧ E = pad [roV l, .any, .ptr 0 0, nV 0, .ptr 1 0, nV c, nV i] 39 ∧ H = [.cells 34 (zer8.map nV), .cells 34 (((cntF l).take c).map nV ++ nV ((spc (l.take i) c).length : Nat) :: List.replicate m (nV 0))])
      (n := l.length) _ _ ⟨0, rfl, rfl, rfl⟩ (Conv.fit (by repeat' (first | exact Fit.nil | refine Fit.any ?_ | refine Fit.same ?_))) ?_
    rintro n _ _ ⟨i, hn, rfl, rfl⟩
    conv => whnf
    repeat ((first | refine AW.plan (id := 10) hm (.one 0 (.one 1 (.one 2 (.one 4 (.one 5 (.one 6 (.one 7 (.one 8 (.one 9 (.imm 3 (.one 10 (.one 11 .nil)))))))))))) (by kernel_rfl) ?_ | refine AO.cons hT ?_ | refine AO.nil ?_ | refine AW.seq ?_ | refine AW.region ?_ | refine AW.cond ?_ | refine AW.block ?_ | refine AW.loop ?_ | refine AW.skip ?_ | refine AW.exit ?_ | refine AW.ret ?_ | refine AW.label ?_ | refine AW.scope ?_ | refine AF.one hT rfl ?_ | refine AF.nil ?_ | refine AF.imm hT rfl rfl rfl ?_ | refine AH.of hT rfl ?_ | refine AD.cons hT rfl ?_ | refine AD.nil ?_ | refine AQ.cons hT rfl ?_ | refine AQ.nil ?_); conv => whnf)
    refine ACond.dec (fun h2 => ?_) (fun h2 => ?_)
    · have hil : i < l.length := by omega
      have w1 : IntKind.wrap .i64 ((i : Int) + 1) = ((i + 1 : Nat) : Int) := by rw [wrap_i64 _ (by omega) (by omega)]; omega
      have hri := t3 _ (List.getElem_mem hil)
      obtain ⟨a1, a2, a3, a4, a5, a6, a7, a8, a9⟩ := rowB_iff.1 hri
      have hmt := mat_in hri hc8 (a := l[i].lo) a5 (by omega)
      rw [decide_eq_true (Int.le_refl _), decide_eq_true a6, Bool.and_true, Bool.and_true] at hmt
      have h28 := f28 l[i] (fcOf c l[i].lo)
      rw [hmt] at h28
      have hst := spc_step l c i hil
      have hle := spc_le (l.take i) c
      rw [List.length_take] at hle
      have w2 : IntKind.wrap .i64 (((spc (l.take i) c).length : Int) + 1) = (((spc (l.take i) c).length + 1 : Nat) : Int) := by rw [wrap_i64 _ (by omega) (by omega)]; omega
      conv => whnf
      repeat ((first | refine AW.plan (id := 10) hm (.one 0 (.one 1 (.one 2 (.one 4 (.one 5 (.one 6 (.one 7 (.one 8 (.one 9 (.imm 3 (.one 10 (.one 11 .nil)))))))))))) (by kernel_rfl) ?_ | refine AO.cons hT ?_ | refine AO.nil ?_ | refine AW.seq ?_ | refine AW.region ?_ | refine AW.cond ?_ | refine AW.block ?_ | refine AW.loop ?_ | refine AW.skip ?_ | refine AW.exit ?_ | refine AW.ret ?_ | refine AW.label ?_ | refine AW.scope ?_ | refine AF.one hT rfl ?_ | refine AF.nil ?_ | refine AF.imm hT rfl rfl rfl ?_ | refine AH.of hT rfl ?_ | refine AD.cons hT rfl ?_ | refine AD.nil ?_ | refine AQ.cons hT rfl ?_ | refine AQ.nil ?_ | (refine AReq.mk (by omega) ?_) | (refine AIdx.flat (enc := roC) roC_len (xs := l) (i := i) hil ?_) | (refine ACall.val (by kernel_rfl) (f27 c l[i].lo hc8) rfl rfl ?_) | (refine ACall.val (by kernel_rfl) h28 rfl rfl ?_)); conv => whnf)
      refine ACond.mk (fun h3 => ?_) (fun h3 => ?_)
      · rw [if_pos h3] at hst
        conv => whnf
        repeat ((first | refine AW.plan (id := 10) hm (.one 0 (.one 1 (.one 2 (.one 4 (.one 5 (.one 6 (.one 7 (.one 8 (.one 9 (.imm 3 (.one 10 (.one 11 .nil)))))))))))) (by kernel_rfl) ?_ | refine AO.cons hT ?_ | refine AO.nil ?_ | refine AW.seq ?_ | refine AW.region ?_ | refine AW.cond ?_ | refine AW.block ?_ | refine AW.loop ?_ | refine AW.skip ?_ | refine AW.exit ?_ | refine AW.ret ?_ | refine AW.label ?_ | refine AW.scope ?_ | refine AF.one hT rfl ?_ | refine AF.nil ?_ | refine AF.imm hT rfl rfl rfl ?_ | refine AH.of hT rfl ?_ | refine AD.cons hT rfl ?_ | refine AD.nil ?_ | refine AQ.cons hT rfl ?_ | refine AQ.nil ?_ | (refine AReq.mk (by omega) ?_) | (refine AIdx.flat (enc := roC) roC_len (xs := l) (i := i) hil ?_) | (refine ACall.val (by kernel_rfl) (f27 c l[i].lo hc8) rfl rfl ?_) | (refine ACall.val (by kernel_rfl) h28 rfl rfl ?_) | (refine AIdx.mid (by rw [hpl]; omega) ?_) | (refine AReq.mk rfl ?_) | (refine AUpd.mid (by rw [hpl]; show 0 + Int.toNat (c : Int) * 1 + 0 = c; omega) ?_)); conv => whnf)
        rw [w1, w2]
        refine AHead.mk (n - 1) _ _ (by omega) ⟨i + 1, by omega, rfl, rfl⟩ ?_
        rw [hst, List.length_append]
        exact Conv.fit (by repeat' (first | exact Fit.nil | refine Fit.any ?_ | refine Fit.same ?_))
      · rw [if_neg (by rw [h3]; simp)] at hst
        conv => whnf
        repeat ((first | refine AW.plan (id := 10) hm (.one 0 (.one 1 (.one 2 (.one 4 (.one 5 (.one 6 (.one 7 (.one 8 (.one 9 (.imm 3 (.one 10 (.one 11 .nil)))))))))))) (by kernel_rfl) ?_ | refine AO.cons hT ?_ | refine AO.nil ?_ | refine AW.seq ?_ | refine AW.region ?_ | refine AW.cond ?_ | refine AW.block ?_ | refine AW.loop ?_ | refine AW.skip ?_ | refine AW.exit ?_ | refine AW.ret ?_ | refine AW.label ?_ | refine AW.scope ?_ | refine AF.one hT rfl ?_ | refine AF.nil ?_ | refine AF.imm hT rfl rfl rfl ?_ | refine AH.of hT rfl ?_ | refine AD.cons hT rfl ?_ | refine AD.nil ?_ | refine AQ.cons hT rfl ?_ | refine AQ.nil ?_ | (refine AReq.mk (by omega) ?_) | (refine AIdx.flat (enc := roC) roC_len (xs := l) (i := i) hil ?_) | (refine ACall.val (by kernel_rfl) (f27 c l[i].lo hc8) rfl rfl ?_) | (refine ACall.val (by kernel_rfl) h28 rfl rfl ?_) | (refine AIdx.mid (by rw [hpl]; omega) ?_) | (refine AReq.mk rfl ?_) | (refine AUpd.mid (by rw [hpl]; show 0 + Int.toNat (c : Int) * 1 + 0 = c; omega) ?_)); conv => whnf)
        rw [w1]
        refine AHead.mk (n - 1) _ _ (by omega) ⟨i + 1, by omega, rfl, rfl⟩ ?_
        rw [hst]
        exact Conv.fit (by repeat' (first | exact Fit.nil | refine Fit.any ?_ | refine Fit.same ?_))
    · obtain rfl : i = l.length := by omega
      rw [List.take_length]
      conv => whnf
      repeat ((first | refine AW.plan (id := 10) hm (.one 0 (.one 1 (.one 2 (.one 4 (.one 5 (.one 6 (.one 7 (.one 8 (.one 9 (.imm 3 (.one 10 (.one 11 .nil)))))))))))) (by kernel_rfl) ?_ | refine AO.cons hT ?_ | refine AO.nil ?_ | refine AW.seq ?_ | refine AW.region ?_ | refine AW.cond ?_ | refine AW.block ?_ | refine AW.loop ?_ | refine AW.skip ?_ | refine AW.exit ?_ | refine AW.ret ?_ | refine AW.label ?_ | refine AW.scope ?_ | refine AF.one hT rfl ?_ | refine AF.nil ?_ | refine AF.imm hT rfl rfl rfl ?_ | refine AH.of hT rfl ?_ | refine AD.cons hT rfl ?_ | refine AD.nil ?_ | refine AQ.cons hT rfl ?_ | refine AQ.nil ?_); conv => whnf)
      refine AOut.stay ?_
      conv => whnf
      repeat ((first | refine AW.plan (id := 10) hm (.one 0 (.one 1 (.one 2 (.one 4 (.one 5 (.one 6 (.one 7 (.one 8 (.one 9 (.imm 3 (.one 10 (.one 11 .nil)))))))))))) (by kernel_rfl) ?_ | refine AO.cons hT ?_ | refine AO.nil ?_ | refine AW.seq ?_ | refine AW.region ?_ | refine AW.cond ?_ | refine AW.block ?_ | refine AW.loop ?_ | refine AW.skip ?_ | refine AW.exit ?_ | refine AW.ret ?_ | refine AW.label ?_ | refine AW.scope ?_ | refine AF.one hT rfl ?_ | refine AF.nil ?_ | refine AF.imm hT rfl rfl rfl ?_ | refine AH.of hT rfl ?_ | refine AD.cons hT rfl ?_ | refine AD.nil ?_ | refine AQ.cons hT rfl ?_ | refine AQ.nil ?_); conv => whnf)
      rw [w0]
      refine AHead.mk (j - 1) _ _ (by omega) ⟨c + 1, by omega, rfl, rfl⟩ ?_
      rw [htk, show 8 - (c + 1) = m by omega, List.map_append, List.append_assoc]
      exact Conv.fit (by repeat' (first | exact Fit.nil | refine Fit.any ?_ | refine Fit.same ?_))
  · obtain rfl : c = 8 := by omega
    rw [List.take_of_length_le (by omega), Nat.sub_self, List.replicate_zero, List.append_nil]
    conv => whnf
    repeat ((first | refine AW.plan (id := 10) hm (.one 0 (.one 1 (.one 2 (.one 4 (.one 5 (.one 6 (.one 7 (.one 8 (.one 9 (.imm 3 (.one 10 (.one 11 .nil)))))))))))) (by kernel_rfl) ?_ | refine AO.cons hT ?_ | refine AO.nil ?_ | refine AW.seq ?_ | refine AW.region ?_ | refine AW.cond ?_ | refine AW.block ?_ | refine AW.loop ?_ | refine AW.skip ?_ | refine AW.exit ?_ | refine AW.ret ?_ | refine AW.label ?_ | refine AW.scope ?_ | refine AF.one hT rfl ?_ | refine AF.nil ?_ | refine AF.imm hT rfl rfl rfl ?_ | refine AH.of hT rfl ?_ | refine AD.cons hT rfl ?_ | refine AD.nil ?_ | refine AQ.cons hT rfl ?_ | refine AQ.nil ?_ | (refine hcut (xs := cntF l) hcl ?_) | (refine hcut' (xs := cntF l) hcl ?_) | (refine AReq.mk (by rw [List.length_map, hcl]; rfl) ?_) | (refine hupd (xs := zer8) (ys := cntF l) rfl hcl ?_)); conv => whnf)
    refine AOut.stay ?_
    conv => whnf
    repeat ((first | refine AW.plan (id := 10) hm (.one 0 (.one 1 (.one 2 (.one 4 (.one 5 (.one 6 (.one 7 (.one 8 (.one 9 (.imm 3 (.one 10 (.one 11 .nil)))))))))))) (by kernel_rfl) ?_ | refine AO.cons hT ?_ | refine AO.nil ?_ | refine AW.seq ?_ | refine AW.region ?_ | refine AW.cond ?_ | refine AW.block ?_ | refine AW.loop ?_ | refine AW.skip ?_ | refine AW.exit ?_ | refine AW.ret ?_ | refine AW.label ?_ | refine AW.scope ?_ | refine AF.one hT rfl ?_ | refine AF.nil ?_ | refine AF.imm hT rfl rfl rfl ?_ | refine AH.of hT rfl ?_ | refine AD.cons hT rfl ?_ | refine AD.nil ?_ | refine AQ.cons hT rfl ?_ | refine AQ.nil ?_ | (refine hcut (xs := cntF l) hcl ?_) | (refine hcut' (xs := cntF l) hcl ?_) | (refine AReq.mk (by rw [List.length_map, hcl]; rfl) ?_) | (refine hupd (xs := zer8) (ys := cntF l) rfl hcl ?_)); conv => whnf)
    exact hfin (cntF l) 0
end Go.Aw.T1

set_option linter.unusedSimpArgs false
set_option linter.unusedVariables false
namespace Go.Aw.T1
open Go Go.Proofs

def okL (l : List Ro) : Prop := ∀ r ∈ l, rowB r = true
theorem okL.take {l : List Ro} (h : okL l) (k : Nat) : okL (l.take k) := fun r hr => h r (List.mem_of_mem_take hr)
theorem cov_iff {l : List Ro} {c : Nat} {a : Int} : covS (spc l c) a ↔ ∃ r ∈ l, inB r c = true ∧ r.lo ≤ a ∧ a ≤ r.hi := by
  constructor
  · rintro ⟨s, hs, h1, h2⟩
    obtain ⟨r, hr, hi, rfl⟩ := spc_mem hs
    exact ⟨r, hr, hi, h1, h2⟩
  · rintro ⟨r, hr, hi, h1, h2⟩
    refine ⟨(r.lo, r.hi), ?_, h1, h2⟩
    unfold spc
    exact List.mem_map.2 ⟨r, List.mem_filter.2 ⟨hr, hi⟩, rfl⟩
theorem any_cov {l : List Ro} (h : okL l) {c : Nat} (hc : c < 8) {a : Int} (ha : 0 ≤ a) (ha2 : a ≤ 1000000000000) : anyF l (fcOf c a) = true ↔ covS (spc l c) a := by
  unfold anyF
  rw [List.any_eq_true, cov_iff]
  constructor
  · rintro ⟨r, hr, hm⟩
    rw [mat_in (h r hr) hc ha ha2] at hm
    simp only [Bool.and_eq_true, decide_eq_true_eq] at hm
    exact ⟨r, hr, hm.1.1, hm.1.2, hm.2⟩
  · rintro ⟨r, hr, h1, h2, h3⟩
    refine ⟨r, hr, ?_⟩
    rw [mat_in (h r hr) hc ha ha2]
    simp only [Bool.and_eq_true, decide_eq_true_eq]
    exact ⟨⟨h1, h2⟩, h3⟩
theorem holC_spec {l : List Ro} (h : okL l) (c : Nat) (n : Int) : n ≤ holC l c n ∧ ¬ covS (spc l c) (holC l c n) ∧ ∀ m, n ≤ m → m < holC l c n → covS (spc l c) m := by
  obtain ⟨h3, h4⟩ := srt_ok (spc l c)
  obtain ⟨a1, a2, a3⟩ := hol_spec (srt (spc l c)) n h4 (fun s hs => (spc_ok h (h3.mem_iff.1 hs)).1)
  have hc : ∀ m, covS (srt (spc l c)) m ↔ covS (spc l c) m := fun m => ⟨fun ⟨s, hs, h1⟩ => ⟨s, h3.mem_iff.1 hs, h1⟩, fun ⟨s, hs, h1⟩ => ⟨s, h3.mem_iff.2 hs, h1⟩⟩
  exact ⟨a1, fun g => a2 ((hc _).2 g), fun m h1 h2 => (hc _).1 (a3 m h1 h2)⟩
theorem amt_lo {l : List Ro} {r : Ro} (h : r ∈ l) : r.lo ∈ amtF l := by
  unfold amtF
  refine List.mem_cons_of_mem _ (List.mem_flatMap.2 ⟨r, h, ?_⟩)
  unfold amtR; simp
theorem amt_hi {l : List Ro} {r : Ro} (h : r ∈ l) (hr : rowB r = true) (h2 : r.hi < 1000000000000) : r.hi + 1 ∈ amtF l := by
  have := rowB_iff.1 hr
  unfold amtF
  refine List.mem_cons_of_mem _ (List.mem_flatMap.2 ⟨r, h, ?_⟩)
  unfold amtR
  rw [if_pos h2, wrap_i64 _ (by omega) (by omega)]; simp
theorem amt_ok {l : List Ro} (h : okL l) {a : Int} (ha : a ∈ amtF l) : 0 ≤ a ∧ a ≤ 1000000000000 := by
  unfold amtF at ha
  rcases List.mem_cons.1 ha with rfl | ha
  · omega
  · obtain ⟨r, hr, h1⟩ := List.mem_flatMap.1 ha
    have := rowB_iff.1 (h r hr)
    unfold amtR at h1
    rcases List.mem_cons.1 h1 with rfl | h1
    · omega
    · split at h1
      · rw [wrap_i64 _ (by omega) (by omega)] at h1
        simp at h1; omega
      · simp at h1
/-- the first amount that nobody has is one at which something changes -/
theorem hol_amt {l l2 : List Ro} (h : okL l) (hsub : ∀ r ∈ l, r ∈ l2) (h2 : okL l2) {c : Nat} {n : Int} (hn : n ∈ amtF l2) (hle : holC l c n ≤ 1000000000000) : holC l c n ∈ amtF l2 := by
  obtain ⟨a1, a2, a3⟩ := holC_spec h c n
  have hn0 := amt_ok h2 hn
  rcases Int.lt_or_eq_of_le a1 with hlt | heq
  · obtain ⟨r, hr, hi, h3, h4⟩ := cov_iff.1 (a3 (holC l c n - 1) (by omega) (by omega))
    have h5 : ¬ (r.lo ≤ holC l c n ∧ holC l c n ≤ r.hi) := fun g => a2 (cov_iff.2 ⟨r, hr, hi, g⟩)
    have h6 : r.hi + 1 = holC l c n := by omega
    rw [← h6]
    exact amt_hi (hsub r hr) (h r hr) (by omega)
  · rw [← heq]; exact hn
theorem best_stay (l : List Ro) (c : Nat) : ∀ (m : List Int) (b : Int), (∀ a ∈ m, anyF l (fcOf c a) = true) → bestG l c m b = b
  | [], b, _ => rfl
  | a :: m, b, h => by
    rw [bestG, if_neg (fun g => by have := h a (by simp); rw [this] at g; simp at g)]
    exact best_stay l c m b (fun x hx => h x (by simp [hx]))
theorem best_min (l : List Ro) (c : Nat) (n0 : Int) (h0 : 0 ≤ n0) : ∀ (m : List Int) (b : Int), (∀ a ∈ m, anyF l (fcOf c a) = false → n0 ≤ a) → anyF l (fcOf c n0) = false → (b = n0 ∨ (n0 ∈ m ∧ (b < 0 ∨ n0 ≤ b))) → bestG l c m b = n0
  | [], b, _, _, h => by
    rcases h with h | h
    · exact h
    · simp at h
  | a :: m, b, h1, h2, h3 => by
    have hm := fun x hx => h1 x (List.mem_cons_of_mem a hx)
    have ha := h1 a (by simp)
    rw [bestG]
    split
    · rename_i g
      have ha := ha g.1
      refine best_min l c n0 h0 m a hm h2 ?_
      rcases h3 with h3 | ⟨h3, h4⟩
      · omega
      · rcases List.mem_cons.1 h3 with h3 | h3
        · exact .inl h3.symm
        · exact .inr ⟨h3, .inr ha⟩
    · rename_i g
      refine best_min l c n0 h0 m b hm h2 ?_
      rcases h3 with h3 | ⟨h3, h4⟩
      · exact .inl h3
      · rcases List.mem_cons.1 h3 with h3 | h3
        · subst h3
          left
          rcases h4 with h4 | h4
          · exact absurd ⟨h2, .inl h4⟩ g
          · by_cases hb : n0 < b
            · exact absurd ⟨h2, .inr hb⟩ g
            · omega
        · exact .inr ⟨h3, h4⟩
theorem best_eq {l : List Ro} (h : okL l) {c : Nat} (hc : c < 8) : bestF l c = if holC l c 0 ≤ 1000000000000 then holC l c 0 else -1 := by
  obtain ⟨a1, a2, a3⟩ := holC_spec h c 0
  have hmin : ∀ a ∈ amtF l, anyF l (fcOf c a) = false → holC l c 0 ≤ a := by
    intro a ha hf
    have hao := amt_ok h ha
    refine Int.not_lt.1 fun hlt => ?_
    have := (any_cov h hc hao.1 hao.2).2 (a3 a hao.1 hlt)
    rw [this] at hf; cases hf
  unfold bestF
  split
  · rename_i hle
    refine best_min l c _ a1 (amtF l) (-1) hmin ?_ (.inr ⟨hol_amt h (fun _ h => h) h (by unfold amtF; simp) hle, .inl (by omega)⟩)
    have : ¬ anyF l (fcOf c (holC l c 0)) = true := fun g => a2 ((any_cov h hc a1 hle).1 g)
    simpa using this
  · rename_i hle
    refine best_stay l c (amtF l) (-1) (fun a ha => ?_)
    have hao := amt_ok h ha
    cases hf : anyF l (fcOf c a) with
    | true => rfl
    | false => have := hmin a ha hf; omega
theorem gap_eq (l : List Ro) : rgapF l = gapF l := by
  unfold rgapF gapF
  split
  · rename_i g
    have h : okL l := (tabB_row g).2.2
    have key : ∀ cs : List Nat, (∀ c ∈ cs, c < 8) → rgapG l cs = gapG l cs := by
      intro cs
      induction cs with
      | nil => intro _; rfl
      | cons c cs ih =>
        intro hcs
        have hc := hcs c (by simp)
        have hb := best_eq h hc
        have h0 := (holC_spec h c 0).1
        rw [rgapG, gapG, hb]
        by_cases hle : holC l c 0 ≤ 1000000000000
        · rw [if_pos hle, if_pos h0, if_pos hle]
        · rw [if_neg hle, if_neg (by omega), if_neg hle]
          exact ih (fun x hx => hcs x (by simp [hx]))
    exact key _ (fun c hc => by simpa using hc)
  · rfl
theorem liveG_iff (l : List Ro) (r : Ro) : ∀ cs : List Nat, liveG l r cs = true ↔ ∃ c ∈ cs, holC l c r.lo ≤ r.hi ∧ inB r c = true
  | [] => by simp [liveG]
  | c :: cs => by
    rw [liveG]
    have ih := liveG_iff l r cs
    split
    · rename_i h
      exact ⟨fun _ => ⟨c, by simp, h⟩, fun _ => rfl⟩
    · rename_i h
      rw [ih]
      constructor
      · rintro ⟨x, hx, h2⟩; exact ⟨x, by simp [hx], h2⟩
      · rintro ⟨x, hx, h2⟩
        rcases List.mem_cons.1 hx with rfl | hx
        · exact absurd h2 h
        · exact ⟨x, hx, h2⟩
theorem liveB_iff {l : List Ro} {k : Nat} (hk : k < l.length) : liveB l k = true ↔ ∃ c < 8, holC (l.take k) c l[k].lo ≤ l[k].hi ∧ inB l[k] c = true := by
  unfold liveB
  rw [List.getElem?_eq_getElem hk]
  simp only [liveG_iff, List.mem_range]
theorem live_of {l : List Ro} (h : okL l) {k : Nat} (hk : k < l.length) {c : Nat} (hc : c < 8) {a : Int} (h1 : inB l[k] c = true) (h2 : l[k].lo ≤ a) (h3 : a ≤ l[k].hi) (h4 : ¬ covS (spc (l.take k) c) a) : liveB l k = true := by
  rw [liveB_iff hk]
  refine ⟨c, hc, ?_, h1⟩
  obtain ⟨a1, a2, a3⟩ := holC_spec (h.take k) c l[k].lo
  refine Int.not_lt.1 fun hlt => ?_
  exact h4 (a3 a h2 (by omega))
theorem live_hit {l : List Ro} (h : okL l) {k : Nat} (hk : k < l.length) : liveB l k = true ↔ ∃ c < 8, ∃ a ∈ amtF l, hitB l k l[k] c a = true := by
  have hrk := rowB_iff.1 (h _ (List.getElem_mem hk))
  constructor
  · intro hl
    obtain ⟨c, hc, h1, h2⟩ := (liveB_iff hk).1 hl
    obtain ⟨a1, a2, a3⟩ := holC_spec (h.take k) c l[k].lo
    have hmem := hol_amt (h.take k) (fun r hr => List.mem_of_mem_take hr) h (amt_lo (List.getElem_mem hk)) (c := c) (by omega)
    have hao := amt_ok h hmem
    refine ⟨c, hc, _, hmem, ?_⟩
    unfold hitB
    rw [mat_in (h _ (List.getElem_mem hk)) hc hao.1 hao.2, h2, decide_eq_true a1, decide_eq_true h1]
    have : ¬ anyF (l.take k) (fcOf c (holC (l.take k) c l[k].lo)) = true := fun g => a2 ((any_cov (h.take k) hc hao.1 hao.2).1 g)
    simp only [Bool.not_eq_true] at this
    rw [this]; rfl
  · rintro ⟨c, hc, a, ha, hh⟩
    have hao := amt_ok h ha
    unfold hitB at hh
    rw [mat_in (h _ (List.getElem_mem hk)) hc hao.1 hao.2] at hh
    simp only [Bool.and_eq_true, decide_eq_true_eq, Bool.not_eq_true'] at hh
    obtain ⟨⟨⟨h1, h2⟩, h3⟩, h4⟩ := hh
    refine live_of h hk hc h1 h2 h3 (fun g => ?_)
    rw [(any_cov (h.take k) hc hao.1 hao.2).2 g] at h4; cases h4
theorem liveA_eq (l : List Ro) (k : Nat) (r : Ro) (c : Nat) : ∀ (m : List Int) (b : Bool), liveA l k r c m b = (b || m.any fun a => hitB l k r c a)
  | [], b => by simp [liveA]
  | a :: m, b => by rw [liveA, liveA_eq l k r c m, List.any_cons, Bool.or_assoc]
theorem liveC_eq (l : List Ro) (k : Nat) (r : Ro) : ∀ (cs : List Nat) (b : Bool), liveC l k r cs b = (b || cs.any fun c => (amtF l).any fun a => hitB l k r c a)
  | [], b => by simp [liveC]
  | c :: cs, b => by rw [liveC, liveC_eq l k r cs, liveA_eq, List.any_cons, Bool.or_assoc]
theorem live_eq {l : List Ro} (h : okL l) {k : Nat} (hk : k < l.length) : rliveB l k = liveB l k := by
  rw [Bool.eq_iff_iff, live_hit h hk]
  unfold rliveB
  rw [List.getElem?_eq_getElem hk]
  simp only [liveC_eq, Bool.false_or, List.any_eq_true, List.mem_range]
theorem dead_eq (l : List Ro) : rdeadF l = deadF l := by
  unfold rdeadF deadF
  split
  · rename_i g
    have h : okL l := (tabB_row g).2.2
    unfold rdeadG deadG
    congr 1
    refine List.filter_congr (fun i hi => ?_)
    rw [live_eq h (by simpa using hi)]
  · rfl
theorem check_eq (r : Ru) : rcheckB r = checkB r := by unfold rcheckB checkB; rw [gap_eq]
end Go.Aw.T1

set_option linter.unusedSimpArgs false
set_option linter.unusedVariables false
set_option maxHeartbeats 1000000
namespace Go.Aw.T1
open Go Go.Proofs

theorem f13 (a b : List Int) (hl : a.length ≤ 9223372036854775807) (hl2 : b.length ≤ 9223372036854775807) : Fun P 13 [iVs a, iVs b] (.v (.bool (decide (a = b)))) := by
  refine spec_of hT (f := 13) (fn := Go.Proofs.Try.f13) (c := body Go.Proofs.Try.f13) (by kernel_rfl) (by kernel_rfl) ?_
  conv => whnf
  repeat ((first | refine AW.plan (id := 6) hm (.one 0 (.one 1 (.one 2 (.one 4 (.one 5 (.one 6 (.one 3 (.one 7 (.one 8 .nil))))))))) (by kernel_rfl) ?_ | refine AO.cons hT ?_ | refine AO.nil ?_ | refine AW.seq ?_ | refine AW.region ?_ | refine AW.cond ?_ | refine AW.block ?_ | refine AW.loop ?_ | refine AW.skip ?_ | refine AW.exit ?_ | refine AW.ret ?_ | refine AW.label ?_ | refine AW.scope ?_ | refine AF.one hT rfl ?_ | refine AF.nil ?_ | refine AF.imm hT rfl rfl rfl ?_ | refine AH.of hT rfl ?_ | refine AD.cons hT rfl ?_ | refine AD.nil ?_ | refine AQ.cons hT rfl ?_ | refine AQ.nil ?_); conv => whnf)
  refine ACond.ndec (fun h => ?_) (fun h => ?_)
  · conv => whnf
    repeat ((first | refine AW.plan (id := 6) hm (.one 0 (.one 1 (.one 2 (.one 4 (.one 5 (.one 6 (.one 3 (.one 7 (.one 8 .nil))))))))) (by kernel_rfl) ?_ | refine AO.cons hT ?_ | refine AO.nil ?_ | refine AW.seq ?_ | refine AW.region ?_ | refine AW.cond ?_ | refine AW.block ?_ | refine AW.loop ?_ | refine AW.skip ?_ | refine AW.exit ?_ | refine AW.ret ?_ | refine AW.label ?_ | refine AW.scope ?_ | refine AF.one hT rfl ?_ | refine AF.nil ?_ | refine AF.imm hT rfl rfl rfl ?_ | refine AH.of hT rfl ?_ | refine AD.cons hT rfl ?_ | refine AD.nil ?_ | refine AQ.cons hT rfl ?_ | refine AQ.nil ?_); conv => whnf)
    refine AFin.val rfl ⟨?_, rfl⟩
    rw [decide_eq_false (fun e => h (by rw [e]))]
  have hlen : a.length = b.length := by omega
  conv => whnf
  repeat ((first | refine AW.plan (id := 6) hm (.one 0 (.one 1 (.one 2 (.one 4 (.one 5 (.one 6 (.one 3 (.one 7 (.one 8 .nil))))))))) (by kernel_rfl) ?_ | refine AO.cons hT ?_ | refine AO.nil ?_ | refine AW.seq ?_ | refine AW.region ?_ | refine AW.cond ?_ | refine AW.block ?_ | refine AW.loop ?_ | refine AW.skip ?_ | refine AW.exit ?_ | refine AW.ret ?_ | refine AW.label ?_ | refine AW.scope ?_ | refine AF.one hT rfl ?_ | refine AF.nil ?_ | refine AF.imm hT rfl rfl rfl ?_ | refine AH.of hT rfl ?_ | refine AD.cons hT rfl ?_ | refine AD.nil ?_ | refine AQ.cons hT rfl ?_ | refine AQ.nil ?_); conv => whnf)
  refine ALoop.mk (fun n E H => ∃ i : Nat, i ≤ a.length ∧ (∀ k, k < i → a[k]? = b[k]?) ∧ n = a.length - i ∧ E = pad [iVs a, iVs b, .any, .any, .v (.bool false), .v (.int .i64 i)] 26 ∧ H = [])
    (n := a.length) _ _ ⟨0, by omega, by omega, rfl, rfl, rfl⟩ (Conv.fit ?_) ?_
  · repeat' (first | exact Fit.nil | refine Fit.any ?_ | refine Fit.same ?_)
  rintro _ _ _ ⟨i, hi, hok, rfl, rfl, rfl⟩
  conv => whnf
  repeat ((first | refine AW.plan (id := 6) hm (.one 0 (.one 1 (.one 2 (.one 4 (.one 5 (.one 6 (.one 3 (.one 7 (.one 8 .nil))))))))) (by kernel_rfl) ?_ | refine AO.cons hT ?_ | refine AO.nil ?_ | refine AW.seq ?_ | refine AW.region ?_ | refine AW.cond ?_ | refine AW.block ?_ | refine AW.loop ?_ | refine AW.skip ?_ | refine AW.exit ?_ | refine AW.ret ?_ | refine AW.label ?_ | refine AW.scope ?_ | refine AF.one hT rfl ?_ | refine AF.nil ?_ | refine AF.imm hT rfl rfl rfl ?_ | refine AH.of hT rfl ?_ | refine AD.cons hT rfl ?_ | refine AD.nil ?_ | refine AQ.cons hT rfl ?_ | refine AQ.nil ?_); conv => whnf)
  refine ACond.dec (fun h => ?_) (fun h => ?_)
  · have hil : i < a.length := by omega
    have hil2 : i < b.length := by omega
    conv => whnf
    repeat ((first | refine AW.plan (id := 6) hm (.one 0 (.one 1 (.one 2 (.one 4 (.one 5 (.one 6 (.one 3 (.one 7 (.one 8 .nil))))))))) (by kernel_rfl) ?_ | refine AO.cons hT ?_ | refine AO.nil ?_ | refine AW.seq ?_ | refine AW.region ?_ | refine AW.cond ?_ | refine AW.block ?_ | refine AW.loop ?_ | refine AW.skip ?_ | refine AW.exit ?_ | refine AW.ret ?_ | refine AW.label ?_ | refine AW.scope ?_ | refine AF.one hT rfl ?_ | refine AF.nil ?_ | refine AF.imm hT rfl rfl rfl ?_ | refine AH.of hT rfl ?_ | refine AD.cons hT rfl ?_ | refine AD.nil ?_ | refine AQ.cons hT rfl ?_ | refine AQ.nil ?_); conv => whnf)
    refine AReq.mk (by omega) ?_
    conv => whnf
    repeat ((first | refine AW.plan (id := 6) hm (.one 0 (.one 1 (.one 2 (.one 4 (.one 5 (.one 6 (.one 3 (.one 7 (.one 8 .nil))))))))) (by kernel_rfl) ?_ | refine AO.cons hT ?_ | refine AO.nil ?_ | refine AW.seq ?_ | refine AW.region ?_ | refine AW.cond ?_ | refine AW.block ?_ | refine AW.loop ?_ | refine AW.skip ?_ | refine AW.exit ?_ | refine AW.ret ?_ | refine AW.label ?_ | refine AW.scope ?_ | refine AF.one hT rfl ?_ | refine AF.nil ?_ | refine AF.imm hT rfl rfl rfl ?_ | refine AH.of hT rfl ?_ | refine AD.cons hT rfl ?_ | refine AD.nil ?_ | refine AQ.cons hT rfl ?_ | refine AQ.nil ?_); conv => whnf)
    refine AIdx.map1 (f := nV) (xs := a) (i := i) hil ?_
    conv => whnf
    repeat ((first | refine AW.plan (id := 6) hm (.one 0 (.one 1 (.one 2 (.one 4 (.one 5 (.one 6 (.one 3 (.one 7 (.one 8 .nil))))))))) (by kernel_rfl) ?_ | refine AO.cons hT ?_ | refine AO.nil ?_ | refine AW.seq ?_ | refine AW.region ?_ | refine AW.cond ?_ | refine AW.block ?_ | refine AW.loop ?_ | refine AW.skip ?_ | refine AW.exit ?_ | refine AW.ret ?_ | refine AW.label ?_ | refine AW.scope ?_ | refine AF.one hT rfl ?_ | refine AF.nil ?_ | refine AF.imm hT rfl rfl rfl ?_ | refine AH.of hT rfl ?_ | refine AD.cons hT rfl ?_ | refine AD.nil ?_ | refine AQ.cons hT rfl ?_ | refine AQ.nil ?_); conv => whnf)
    refine AReq.mk (by omega) ?_
    conv => whnf
    repeat ((first | refine AW.plan (id := 6) hm (.one 0 (.one 1 (.one 2 (.one 4 (.one 5 (.one 6 (.one 3 (.one 7 (.one 8 .nil))))))))) (by kernel_rfl) ?_ | refine AO.cons hT ?_ | refine AO.nil ?_ | refine AW.seq ?_ | refine AW.region ?_ | refine AW.cond ?_ | refine AW.block ?_ | refine AW.loop ?_ | refine AW.skip ?_ | refine AW.exit ?_ | refine AW.ret ?_ | refine AW.label ?_ | refine AW.scope ?_ | refine AF.one hT rfl ?_ | refine AF.nil ?_ | refine AF.imm hT rfl rfl rfl ?_ | refine AH.of hT rfl ?_ | refine AD.cons hT rfl ?_ | refine AD.nil ?_ | refine AQ.cons hT rfl ?_ | refine AQ.nil ?_); conv => whnf)
    refine AIdx.map1 (f := nV) (xs := b) (i := i) hil2 ?_
    conv => whnf
    repeat ((first | refine AW.plan (id := 6) hm (.one 0 (.one 1 (.one 2 (.one 4 (.one 5 (.one 6 (.one 3 (.one 7 (.one 8 .nil))))))))) (by kernel_rfl) ?_ | refine AO.cons hT ?_ | refine AO.nil ?_ | refine AW.seq ?_ | refine AW.region ?_ | refine AW.cond ?_ | refine AW.block ?_ | refine AW.loop ?_ | refine AW.skip ?_ | refine AW.exit ?_ | refine AW.ret ?_ | refine AW.label ?_ | refine AW.scope ?_ | refine AF.one hT rfl ?_ | refine AF.nil ?_ | refine AF.imm hT rfl rfl rfl ?_ | refine AH.of hT rfl ?_ | refine AD.cons hT rfl ?_ | refine AD.nil ?_ | refine AQ.cons hT rfl ?_ | refine AQ.nil ?_); conv => whnf)
    refine ACond.ndec (fun he => ?_) (fun he => ?_)
    · conv => whnf
      repeat ((first | refine AW.plan (id := 6) hm (.one 0 (.one 1 (.one 2 (.one 4 (.one 5 (.one 6 (.one 3 (.one 7 (.one 8 .nil))))))))) (by kernel_rfl) ?_ | refine AO.cons hT ?_ | refine AO.nil ?_ | refine AW.seq ?_ | refine AW.region ?_ | refine AW.cond ?_ | refine AW.block ?_ | refine AW.loop ?_ | refine AW.skip ?_ | refine AW.exit ?_ | refine AW.ret ?_ | refine AW.label ?_ | refine AW.scope ?_ | refine AF.one hT rfl ?_ | refine AF.nil ?_ | refine AF.imm hT rfl rfl rfl ?_ | refine AH.of hT rfl ?_ | refine AD.cons hT rfl ?_ | refine AD.nil ?_ | refine AQ.cons hT rfl ?_ | refine AQ.nil ?_); conv => whnf)
      refine AOut.stay ?_
      refine AFin.val rfl ⟨?_, rfl⟩
      rw [decide_eq_false (fun e => he (by subst e; rfl))]
    · conv => whnf
      repeat ((first | refine AW.plan (id := 6) hm (.one 0 (.one 1 (.one 2 (.one 4 (.one 5 (.one 6 (.one 3 (.one 7 (.one 8 .nil))))))))) (by kernel_rfl) ?_ | refine AO.cons hT ?_ | refine AO.nil ?_ | refine AW.seq ?_ | refine AW.region ?_ | refine AW.cond ?_ | refine AW.block ?_ | refine AW.loop ?_ | refine AW.skip ?_ | refine AW.exit ?_ | refine AW.ret ?_ | refine AW.label ?_ | refine AW.scope ?_ | refine AF.one hT rfl ?_ | refine AF.nil ?_ | refine AF.imm hT rfl rfl rfl ?_ | refine AH.of hT rfl ?_ | refine AD.cons hT rfl ?_ | refine AD.nil ?_ | refine AQ.cons hT rfl ?_ | refine AQ.nil ?_); conv => whnf)
      rw [wrap_i64 ((i : Int) + 1) (by omega) (by omega)]
      refine AHead.mk (a.length - (i + 1)) _ _ (by omega) ⟨i + 1, by omega, ?_, rfl, rfl, rfl⟩ (Conv.fit ?_)
      · intro k hk
        rcases Nat.lt_or_ge k i with h1 | h1
        · exact hok k h1
        · obtain rfl : k = i := by omega
          rw [List.getElem?_eq_getElem hil, List.getElem?_eq_getElem hil2]
          exact congrArg some he
      · repeat' (first | exact Fit.nil | refine Fit.any ?_ | refine Fit.same ?_)
  · obtain rfl : i = a.length := by omega
    conv => whnf
    repeat ((first | refine AW.plan (id := 6) hm (.one 0 (.one 1 (.one 2 (.one 4 (.one 5 (.one 6 (.one 3 (.one 7 (.one 8 .nil))))))))) (by kernel_rfl) ?_ | refine AO.cons hT ?_ | refine AO.nil ?_ | refine AW.seq ?_ | refine AW.region ?_ | refine AW.cond ?_ | refine AW.block ?_ | refine AW.loop ?_ | refine AW.skip ?_ | refine AW.exit ?_ | refine AW.ret ?_ | refine AW.label ?_ | refine AW.scope ?_ | refine AF.one hT rfl ?_ | refine AF.nil ?_ | refine AF.imm hT rfl rfl rfl ?_ | refine AH.of hT rfl ?_ | refine AD.cons hT rfl ?_ | refine AD.nil ?_ | refine AQ.cons hT rfl ?_ | refine AQ.nil ?_); conv => whnf)
    refine AOut.stay ?_
    conv => whnf
    repeat ((first | refine AW.plan (id := 6) hm (.one 0 (.one 1 (.one 2 (.one 4 (.one 5 (.one 6 (.one 3 (.one 7 (.one 8 .nil))))))))) (by kernel_rfl) ?_ | refine AO.cons hT ?_ | refine AO.nil ?_ | refine AW.seq ?_ | refine AW.region ?_ | refine AW.cond ?_ | refine AW.block ?_ | refine AW.loop ?_ | refine AW.skip ?_ | refine AW.exit ?_ | refine AW.ret ?_ | refine AW.label ?_ | refine AW.scope ?_ | refine AF.one hT rfl ?_ | refine AF.nil ?_ | refine AF.imm hT rfl rfl rfl ?_ | refine AH.of hT rfl ?_ | refine AD.cons hT rfl ?_ | refine AD.nil ?_ | refine AQ.cons hT rfl ?_ | refine AQ.nil ?_); conv => whnf)
    refine AFin.val rfl ⟨?_, rfl⟩
    rw [decide_eq_true]
    apply List.ext_getElem?
    intro k
    rcases Nat.lt_or_ge k a.length with h1 | h1
    · exact hok k h1
    · rw [List.getElem?_eq_none h1, List.getElem?_eq_none (by omega)]
def th0 : Ro := ⟨1, 3, 0, 1000000000000, 1⟩
def th4 : Ro := ⟨15, 3, 0, 1000000000000, 4⟩
def theRows : List Ro := [th0, ⟨2, 3, 0, 1000000000000, 2⟩, ⟨4, 2, 0, 1000000000000, 3⟩, ⟨8, 3, 0, 1000000000000, 5⟩, th4]
def theRu : Ru := ⟨[5, 3], [0, 3, 5], [0, 1000, 2000, 10000], theRows⟩
theorem f22 : Fun P 22 [] (.agg (ruC theRu)) := by
  refine spec_of hT (f := 22) (fn := Go.Proofs.Try.f22) (c := body Go.Proofs.Try.f22) (by kernel_rfl) (by kernel_rfl) ?_
  conv => whnf
  repeat ((first | refine AO.cons hT ?_ | refine AO.nil ?_ | refine AW.seq ?_ | refine AW.region ?_ | refine AW.cond ?_ | refine AW.block ?_ | refine AW.loop ?_ | refine AW.skip ?_ | refine AW.exit ?_ | refine AW.ret ?_ | refine AW.label ?_ | refine AW.scope ?_ | refine AF.one hT rfl ?_ | refine AF.nil ?_ | refine AF.imm hT rfl rfl rfl ?_ | refine AH.of hT rfl ?_ | refine AD.cons hT rfl ?_ | refine AD.nil ?_ | refine AQ.cons hT rfl ?_ | refine AQ.nil ?_); conv => whnf)
  exact AFin.to (.agg (ruC theRu)) [] (Conv.out (.agg (.cons (.vx rfl) (.cons (.vx rfl) (.cons (.vx rfl) (.cons (.vx rfl) .nil))))) (fun ρ => by show AV.agg (renL ρ (ruC theRu)) = _; rw [ruC_ren])) ⟨rfl, rfl⟩
theorem aw1 : gapF [⟨15, 3, 0, 99, 1⟩] = (⟨0, false, 100⟩, true) := by rw [← gap_eq]; kernel_rfl
theorem aw2 : gapF theRows = (⟨0, false, 0⟩, false) := by rw [← gap_eq]; kernel_rfl
theorem aw3 : cellsF theRows = ([2, 2, 2, 2, 1, 2, 2, 2], 0) := by kernel_rfl
theorem aw4 : deadF [th4, th0] = [1] := by rw [← dead_eq]; kernel_rfl
theorem aw5 : checkB theRu = true := by rw [← check_eq]; kernel_rfl
theorem aw6 : checkB ⟨[], [], [], []⟩ = false := by kernel_rfl
theorem f7 : Fun P 7 [] (bV true) := by
  refine spec_of hT (f := 7) (fn := Go.Proofs.Try.f7) (c := body Go.Proofs.Try.f7) (by kernel_rfl) (by kernel_rfl) ?_
  have h8 := f8 [⟨15, 3, 0, 99, 1⟩]
  rw [aw1] at h8
  have h8b := f8 theRows
  rw [aw2] at h8b
  have h10 := f10 theRows
  rw [aw3] at h10
  have h14 := f14 [th4, th0]
  rw [aw4] at h14
  have h12 := f12 theRows
  rw [aw2] at h12
  have h16 := f16 theRu
  rw [aw5] at h16
  have h16b := f16 ⟨[], [], [], []⟩
  rw [aw6] at h16b
  have h13 := f13 [1] [1] (by simp) (by simp)
  rw [decide_eq_true rfl] at h13
  conv => whnf
  repeat ((first | refine AW.plan (id := 4) hm (.one 0 (.one 1 (.one 2 (.imm 3 (.one 4 (.one 5 (.one 6 (.one 7 (.one 8 (.one 9 (.one 10 .nil))))))))))) (by kernel_rfl) ?_ | refine AO.cons hT ?_ | refine AO.nil ?_ | refine AW.seq ?_ | refine AW.region ?_ | refine AW.cond ?_ | refine AW.block ?_ | refine AW.loop ?_ | refine AW.skip ?_ | refine AW.exit ?_ | refine AW.ret ?_ | refine AW.label ?_ | refine AW.scope ?_ | refine AF.one hT rfl ?_ | refine AF.nil ?_ | refine AF.imm hT rfl rfl rfl ?_ | refine AH.of hT rfl ?_ | refine AD.cons hT rfl ?_ | refine AD.nil ?_ | refine AQ.cons hT rfl ?_ | refine AQ.nil ?_ | (refine ACall.val (by kernel_rfl) f22 rfl rfl ?_) | (refine ACall.val (by kernel_rfl) h8b rfl rfl ?_) | (refine ACall.val (by kernel_rfl) h10 rfl rfl ?_) | (refine ACall.fun (by kernel_rfl) h8 [] (by simp) (.cons (.vx rfl) .nil) (.inl rfl) rfl ?_) | (refine ACall.fun (by kernel_rfl) h14 [] (by simp) (.cons (.vx rfl) .nil) (.inl rfl) rfl ?_) | (refine ACall.fun (by kernel_rfl) h13 [] (by simp) (.cons (.same rfl) (.cons (.vx rfl) .nil)) (.inl rfl) rfl ?_) | (refine ACall.val (by kernel_rfl) h12 rfl rfl ?_) | (refine ACall.val (by kernel_rfl) h16 rfl rfl ?_) | (refine ACall.fun (by kernel_rfl) h16b [] (by simp) (.cons (.agg (.cons .nil (.cons .nil (.cons .nil (.cons .nil .nil))))) .nil) (.inl rfl) rfl ?_) | (refine AReq.mk (of_decide_eq_true rfl) ?_) | (refine AIdx.sp rfl ?_) | (refine ASplit.yes rfl ?_) | (refine AUpd.sp ?_) | (refine ACut.all rfl ?_) | (refine AEqs.eql (ks := [.int .i64, .bool, .int .i64]) (vx := [.int .i64 0, .bool false, .int .i64 100]) (vy := [.int .i64 0, .bool false, .int .i64 100]) (by kernel_rfl) (by kernel_rfl) rfl rfl rfl rfl ?_) | (refine AEqs.arr (n := 8) (e := 3) (k := .int .i64) (vx := [2, 2, 2, 2, 1, 2, 2, 2].map (Value.int .i64)) (vy := [2, 2, 2, 2, 1, 2, 2, 2].map (Value.int .i64)) (.inl rfl) Try.underlying34 (by kernel_rfl) (by kernel_rfl) (by kernel_rfl) (by kernel_rfl) rfl rfl (by simp [EK.fits]) (by simp [EK.fits]) rfl rfl ?_)); conv => whnf)
  exact AFin.val rfl ⟨rfl, rfl⟩
end Go.Aw.T1

