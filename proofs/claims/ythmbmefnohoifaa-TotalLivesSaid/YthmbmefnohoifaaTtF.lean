/-
  The statement TotalLives: a row that is not dead decides on some facts, without any condition.
-/
import Derived.Test.YthmbmefnohoifaaTtE
set_option linter.unusedSimpArgs false
set_option linter.unusedVariables false
set_option linter.unusedSimpArgs false
set_option linter.unusedVariables false
set_option maxHeartbeats 1000000
set_option maxRecDepth 20000
namespace Go.Aw.T1
open Go Go.Proofs

theorem vals_map : ∀ l : List Int, valsOf (l.map nV) = some (l.map (Value.int .i64))
  | [] => rfl
  | a :: l => by rw [List.map_cons, valsOf, vals_map l]; rfl
theorem eqL_refl : ∀ l : List Int, eqL (l.map (Value.int .i64)) (l.map (Value.int .i64)) = true
  | [] => rfl
  | a :: l => by
    rw [List.map_cons, eqL, eqL_refl l]
    simp [eqv]
theorem arr_same {l : List Int} (h : l.length = 8) {K : AV → Prop} (k : K (bV true)) : AEqs P .eql 34 (.agg (l.map nV)) (.agg (l.map nV)) K := by
  refine AEqs.arr (n := 8) (e := 3) (k := .int .i64) (.inl rfl) Try.underlying34 (by kernel_rfl) (by kernel_rfl) (by kernel_rfl) (by kernel_rfl) (vals_map l) (vals_map l) ?_ ?_ (by rw [List.length_map]; exact h) (by rw [List.length_map]; exact h) ?_
  · intro v hv
    obtain ⟨n, _, rfl⟩ := List.mem_map.1 hv
    rfl
  · intro v hv
    obtain ⟨n, _, rfl⟩ := List.mem_map.1 hv
    rfl
  · rw [if_pos rfl, eqL_refl]; exact k
theorem cells_len (l : List Ro) : (cellsF l).1.length = 8 := by
  unfold cellsF
  split
  · exact cnt_len l
  · rfl
theorem dead_le (l : List Ro) : (deadF l).length ≤ l.length := by
  unfold deadF
  split
  · exact deadG_le l l.length
  · simp
theorem ruV1 (ρ : Nat → Nat) (r : Ru) : renL ρ [.agg (ruC r)] = [.agg (ruC r)] := by show [AV.agg (renL ρ (ruC r))] = _; rw [ruC_ren]
theorem f3 (r : Ru) : Fun P 3 [.agg (ruC r)] (bV true) := by
  refine spec_of hT (f := 3) (fn := Go.Proofs.Try.f3) (c := body Go.Proofs.Try.f3) (by kernel_rfl) (by kernel_rfl) ?_
  conv => whnf
  repeat ((first | refine AW.plan (id := 7) hm (.one 0 (.one 2 (.one 1 (.one 3 (.one 4 (.one 5 (.one 6 (.one 8 (.one 7 (.one 9 (.one 10 (.one 11 (.one 12 (.one 13 (.one 15 (.one 14 (.one 16 (.one 17 (.one 18 (.one 19 (.one 20 (.one 21 (.one 22 (.one 23 (.one 24 (.one 25 (.one 28 (.one 29 (.one 26 (.one 27 (.one 30 (.one 31 (.one 32 (.one 33 (.one 36 (.one 34 (.imm 37 (.one 35 (.one 38 (.one 39 (.one 40 (.one 41 (.one 42 (.one 43 (.one 44 (.one 45 (.one 46 (.one 47 (.one 48 (.one 49 (.one 50 (.one 51 (.one 52 (.imm 54 (.one 53 (.one 55 (.one 56 (.one 57 (.one 58 (.one 59 (.one 60 (.one 61 .nil)))))))))))))))))))))))))))))))))))))))))))))))))))))))))))))) (by kernel_rfl) ?_ | refine AO.cons hT ?_ | refine AO.nil ?_ | refine AW.cond ?_ | refine AW.block ?_ | refine AW.loop ?_ | refine AW.skip ?_ | refine AW.exit ?_ | refine AW.ret ?_ | refine AW.label ?_ | refine AW.scope ?_ | refine AF.one hT rfl ?_ | refine AF.nil ?_ | refine AF.imm hT rfl rfl rfl ?_ | refine AH.of hT rfl ?_ | refine AD.cons hT rfl ?_ | refine AD.nil ?_ | refine AQ.cons hT rfl ?_ | refine AQ.nil ?_); conv => whnf)
  refine AW.seq ?_
  conv => whnf
  refine AW.region ?_
  conv => whnf
  repeat ((first | refine AW.plan (id := 7) hm (.one 0 (.one 2 (.one 1 (.one 3 (.one 4 (.one 5 (.one 6 (.one 8 (.one 7 (.one 9 (.one 10 (.one 11 (.one 12 (.one 13 (.one 15 (.one 14 (.one 16 (.one 17 (.one 18 (.one 19 (.one 20 (.one 21 (.one 22 (.one 23 (.one 24 (.one 25 (.one 28 (.one 29 (.one 26 (.one 27 (.one 30 (.one 31 (.one 32 (.one 33 (.one 36 (.one 34 (.imm 37 (.one 35 (.one 38 (.one 39 (.one 40 (.one 41 (.one 42 (.one 43 (.one 44 (.one 45 (.one 46 (.one 47 (.one 48 (.one 49 (.one 50 (.one 51 (.one 52 (.imm 54 (.one 53 (.one 55 (.one 56 (.one 57 (.one 58 (.one 59 (.one 60 (.one 61 .nil)))))))))))))))))))))))))))))))))))))))))))))))))))))))))))))) (by kernel_rfl) ?_ | refine AO.cons hT ?_ | refine AO.nil ?_ | refine AW.cond ?_ | refine AW.block ?_ | refine AW.loop ?_ | refine AW.skip ?_ | refine AW.exit ?_ | refine AW.ret ?_ | refine AW.label ?_ | refine AW.scope ?_ | refine AF.one hT rfl ?_ | refine AF.nil ?_ | refine AF.imm hT rfl rfl rfl ?_ | refine AH.of hT rfl ?_ | refine AD.cons hT rfl ?_ | refine AD.nil ?_ | refine AQ.cons hT rfl ?_ | refine AQ.nil ?_); conv => whnf)
  refine AW.conv _ _ (Conv.freeze 0 (t := 25) (cs := ruC r) rfl) ?_
  have h7 : ∀ {H : List ABlk}, AFin 0 (bV true) H (fun r' H' => r' = bV true ∧ H' = []) := AFin.val rfl ⟨rfl, rfl⟩
  conv => whnf
  repeat ((first | refine AW.plan (id := 7) hm (.one 0 (.one 2 (.one 1 (.one 3 (.one 4 (.one 5 (.one 6 (.one 8 (.one 7 (.one 9 (.one 10 (.one 11 (.one 12 (.one 13 (.one 15 (.one 14 (.one 16 (.one 17 (.one 18 (.one 19 (.one 20 (.one 21 (.one 22 (.one 23 (.one 24 (.one 25 (.one 28 (.one 29 (.one 26 (.one 27 (.one 30 (.one 31 (.one 32 (.one 33 (.one 36 (.one 34 (.imm 37 (.one 35 (.one 38 (.one 39 (.one 40 (.one 41 (.one 42 (.one 43 (.one 44 (.one 45 (.one 46 (.one 47 (.one 48 (.one 49 (.one 50 (.one 51 (.one 52 (.imm 54 (.one 53 (.one 55 (.one 56 (.one 57 (.one 58 (.one 59 (.one 60 (.one 61 .nil)))))))))))))))))))))))))))))))))))))))))))))))))))))))))))))) (by kernel_rfl) ?_ | refine AO.cons hT ?_ | refine AO.nil ?_ | refine AW.seq ?_ | refine AW.region ?_ | refine AW.cond ?_ | refine AW.block ?_ | refine AW.loop ?_ | refine AW.skip ?_ | refine AW.exit ?_ | refine AW.ret ?_ | refine AW.label ?_ | refine AW.scope ?_ | refine AF.one hT rfl ?_ | refine AF.nil ?_ | refine AF.imm hT rfl rfl rfl ?_ | refine AH.of hT rfl ?_ | refine AD.cons hT rfl ?_ | refine AD.nil ?_ | refine AQ.cons hT rfl ?_ | refine AQ.nil ?_ | (refine ACall.val (by kernel_rfl) f7 rfl rfl ?_)); conv => whnf)
  refine ASplit.dec (fun h1 => ?_) (fun h1 => ?_)
  · conv => whnf
    repeat (first | (refine AW.plan (id := 7) hm (.one 0 (.one 2 (.one 1 (.one 3 (.one 4 (.one 5 (.one 6 (.one 8 (.one 7 (.one 9 (.one 10 (.one 11 (.one 12 (.one 13 (.one 15 (.one 14 (.one 16 (.one 17 (.one 18 (.one 19 (.one 20 (.one 21 (.one 22 (.one 23 (.one 24 (.one 25 (.one 28 (.one 29 (.one 26 (.one 27 (.one 30 (.one 31 (.one 32 (.one 33 (.one 36 (.one 34 (.imm 37 (.one 35 (.one 38 (.one 39 (.one 40 (.one 41 (.one 42 (.one 43 (.one 44 (.one 45 (.one 46 (.one 47 (.one 48 (.one 49 (.one 50 (.one 51 (.one 52 (.imm 54 (.one 53 (.one 55 (.one 56 (.one 57 (.one 58 (.one 59 (.one 60 (.one 61 .nil)))))))))))))))))))))))))))))))))))))))))))))))))))))))))))))) (by kernel_rfl) ?_; conv => whnf) | (refine AW.label ?_; conv => whnf) | (refine AW.scope ?_; conv => whnf) | (refine AO.cons hT ?_; conv => whnf) | (refine AO.nil ?_; conv => whnf) | (refine AW.seq ?_; conv => whnf) | (refine AW.region ?_; conv => whnf) | (refine AW.cond ?_; conv => whnf) | (refine AW.block ?_; conv => whnf) | (refine AW.loop ?_; conv => whnf) | (refine AW.skip ?_; conv => whnf) | (refine AW.exit ?_; conv => whnf) | (refine AW.ret ?_; conv => whnf) | (refine AF.one hT rfl ?_; conv => whnf) | (refine AF.nil ?_; conv => whnf) | (refine AF.imm hT rfl rfl rfl ?_; conv => whnf) | (refine AH.of hT rfl ?_; conv => whnf) | (refine ASplit.yes rfl ?_; conv => whnf) | (refine ACond.yes rfl ?_; conv => whnf) | (refine ASplit.no rfl ?_; conv => whnf) | (refine ACond.no rfl ?_; conv => whnf) | (refine ASplit.yes (by decide) ?_; conv => whnf) | (refine ACond.yes (by decide) ?_; conv => whnf) | (refine AReq.mk (by decide) ?_; conv => whnf) | (refine AIdx.iff.2 ⟨by decide, ?_⟩; conv => whnf) | (refine ACall.val (by kernel_rfl) f7 rfl rfl ?_; conv => whnf))
    exact h7
  conv => whnf
  repeat ((first | refine AW.plan (id := 7) hm (.one 0 (.one 2 (.one 1 (.one 3 (.one 4 (.one 5 (.one 6 (.one 8 (.one 7 (.one 9 (.one 10 (.one 11 (.one 12 (.one 13 (.one 15 (.one 14 (.one 16 (.one 17 (.one 18 (.one 19 (.one 20 (.one 21 (.one 22 (.one 23 (.one 24 (.one 25 (.one 28 (.one 29 (.one 26 (.one 27 (.one 30 (.one 31 (.one 32 (.one 33 (.one 36 (.one 34 (.imm 37 (.one 35 (.one 38 (.one 39 (.one 40 (.one 41 (.one 42 (.one 43 (.one 44 (.one 45 (.one 46 (.one 47 (.one 48 (.one 49 (.one 50 (.one 51 (.one 52 (.imm 54 (.one 53 (.one 55 (.one 56 (.one 57 (.one 58 (.one 59 (.one 60 (.one 61 .nil)))))))))))))))))))))))))))))))))))))))))))))))))))))))))))))) (by kernel_rfl) ?_ | refine AO.cons hT ?_ | refine AO.nil ?_ | refine AW.seq ?_ | refine AW.region ?_ | refine AW.cond ?_ | refine AW.block ?_ | refine AW.loop ?_ | refine AW.skip ?_ | refine AW.exit ?_ | refine AW.ret ?_ | refine AW.label ?_ | refine AW.scope ?_ | refine AF.one hT rfl ?_ | refine AF.nil ?_ | refine AF.imm hT rfl rfl rfl ?_ | refine AH.of hT rfl ?_ | refine AD.cons hT rfl ?_ | refine AD.nil ?_ | refine AQ.cons hT rfl ?_ | refine AQ.nil ?_ | (refine ACall.val (by kernel_rfl) f7 rfl rfl ?_)); conv => whnf)
  refine ASplit.dec (fun h2 => ?_) (fun h2 => ?_)
  · conv => whnf
    repeat (first | (refine AW.plan (id := 7) hm (.one 0 (.one 2 (.one 1 (.one 3 (.one 4 (.one 5 (.one 6 (.one 8 (.one 7 (.one 9 (.one 10 (.one 11 (.one 12 (.one 13 (.one 15 (.one 14 (.one 16 (.one 17 (.one 18 (.one 19 (.one 20 (.one 21 (.one 22 (.one 23 (.one 24 (.one 25 (.one 28 (.one 29 (.one 26 (.one 27 (.one 30 (.one 31 (.one 32 (.one 33 (.one 36 (.one 34 (.imm 37 (.one 35 (.one 38 (.one 39 (.one 40 (.one 41 (.one 42 (.one 43 (.one 44 (.one 45 (.one 46 (.one 47 (.one 48 (.one 49 (.one 50 (.one 51 (.one 52 (.imm 54 (.one 53 (.one 55 (.one 56 (.one 57 (.one 58 (.one 59 (.one 60 (.one 61 .nil)))))))))))))))))))))))))))))))))))))))))))))))))))))))))))))) (by kernel_rfl) ?_; conv => whnf) | (refine AW.label ?_; conv => whnf) | (refine AW.scope ?_; conv => whnf) | (refine AO.cons hT ?_; conv => whnf) | (refine AO.nil ?_; conv => whnf) | (refine AW.seq ?_; conv => whnf) | (refine AW.region ?_; conv => whnf) | (refine AW.cond ?_; conv => whnf) | (refine AW.block ?_; conv => whnf) | (refine AW.loop ?_; conv => whnf) | (refine AW.skip ?_; conv => whnf) | (refine AW.exit ?_; conv => whnf) | (refine AW.ret ?_; conv => whnf) | (refine AF.one hT rfl ?_; conv => whnf) | (refine AF.nil ?_; conv => whnf) | (refine AF.imm hT rfl rfl rfl ?_; conv => whnf) | (refine AH.of hT rfl ?_; conv => whnf) | (refine ASplit.yes rfl ?_; conv => whnf) | (refine ACond.yes rfl ?_; conv => whnf) | (refine ASplit.no rfl ?_; conv => whnf) | (refine ACond.no rfl ?_; conv => whnf) | (refine ASplit.yes (by decide) ?_; conv => whnf) | (refine ACond.yes (by decide) ?_; conv => whnf) | (refine AReq.mk (by decide) ?_; conv => whnf) | (refine AIdx.iff.2 ⟨by decide, ?_⟩; conv => whnf) | (refine ACall.val (by kernel_rfl) f7 rfl rfl ?_; conv => whnf))
    exact h7
  conv => whnf
  repeat ((first | refine AW.plan (id := 7) hm (.one 0 (.one 2 (.one 1 (.one 3 (.one 4 (.one 5 (.one 6 (.one 8 (.one 7 (.one 9 (.one 10 (.one 11 (.one 12 (.one 13 (.one 15 (.one 14 (.one 16 (.one 17 (.one 18 (.one 19 (.one 20 (.one 21 (.one 22 (.one 23 (.one 24 (.one 25 (.one 28 (.one 29 (.one 26 (.one 27 (.one 30 (.one 31 (.one 32 (.one 33 (.one 36 (.one 34 (.imm 37 (.one 35 (.one 38 (.one 39 (.one 40 (.one 41 (.one 42 (.one 43 (.one 44 (.one 45 (.one 46 (.one 47 (.one 48 (.one 49 (.one 50 (.one 51 (.one 52 (.imm 54 (.one 53 (.one 55 (.one 56 (.one 57 (.one 58 (.one 59 (.one 60 (.one 61 .nil)))))))))))))))))))))))))))))))))))))))))))))))))))))))))))))) (by kernel_rfl) ?_ | refine AO.cons hT ?_ | refine AO.nil ?_ | refine AW.seq ?_ | refine AW.region ?_ | refine AW.cond ?_ | refine AW.block ?_ | refine AW.loop ?_ | refine AW.skip ?_ | refine AW.exit ?_ | refine AW.ret ?_ | refine AW.label ?_ | refine AW.scope ?_ | refine AF.one hT rfl ?_ | refine AF.nil ?_ | refine AF.imm hT rfl rfl rfl ?_ | refine AH.of hT rfl ?_ | refine AD.cons hT rfl ?_ | refine AD.nil ?_ | refine AQ.cons hT rfl ?_ | refine AQ.nil ?_ | (refine ACall.val (by kernel_rfl) f7 rfl rfl ?_)); conv => whnf)
  refine ASplit.dec (fun h3 => ?_) (fun h3 => ?_)
  · conv => whnf
    repeat (first | (refine AW.plan (id := 7) hm (.one 0 (.one 2 (.one 1 (.one 3 (.one 4 (.one 5 (.one 6 (.one 8 (.one 7 (.one 9 (.one 10 (.one 11 (.one 12 (.one 13 (.one 15 (.one 14 (.one 16 (.one 17 (.one 18 (.one 19 (.one 20 (.one 21 (.one 22 (.one 23 (.one 24 (.one 25 (.one 28 (.one 29 (.one 26 (.one 27 (.one 30 (.one 31 (.one 32 (.one 33 (.one 36 (.one 34 (.imm 37 (.one 35 (.one 38 (.one 39 (.one 40 (.one 41 (.one 42 (.one 43 (.one 44 (.one 45 (.one 46 (.one 47 (.one 48 (.one 49 (.one 50 (.one 51 (.one 52 (.imm 54 (.one 53 (.one 55 (.one 56 (.one 57 (.one 58 (.one 59 (.one 60 (.one 61 .nil)))))))))))))))))))))))))))))))))))))))))))))))))))))))))))))) (by kernel_rfl) ?_; conv => whnf) | (refine AW.label ?_; conv => whnf) | (refine AW.scope ?_; conv => whnf) | (refine AO.cons hT ?_; conv => whnf) | (refine AO.nil ?_; conv => whnf) | (refine AW.seq ?_; conv => whnf) | (refine AW.region ?_; conv => whnf) | (refine AW.cond ?_; conv => whnf) | (refine AW.block ?_; conv => whnf) | (refine AW.loop ?_; conv => whnf) | (refine AW.skip ?_; conv => whnf) | (refine AW.exit ?_; conv => whnf) | (refine AW.ret ?_; conv => whnf) | (refine AF.one hT rfl ?_; conv => whnf) | (refine AF.nil ?_; conv => whnf) | (refine AF.imm hT rfl rfl rfl ?_; conv => whnf) | (refine AH.of hT rfl ?_; conv => whnf) | (refine ASplit.yes rfl ?_; conv => whnf) | (refine ACond.yes rfl ?_; conv => whnf) | (refine ASplit.no rfl ?_; conv => whnf) | (refine ACond.no rfl ?_; conv => whnf) | (refine ASplit.yes (by decide) ?_; conv => whnf) | (refine ACond.yes (by decide) ?_; conv => whnf) | (refine AReq.mk (by decide) ?_; conv => whnf) | (refine AIdx.iff.2 ⟨by decide, ?_⟩; conv => whnf) | (refine ACall.val (by kernel_rfl) f7 rfl rfl ?_; conv => whnf))
    exact h7
  conv => whnf
  repeat ((first | refine AW.plan (id := 7) hm (.one 0 (.one 2 (.one 1 (.one 3 (.one 4 (.one 5 (.one 6 (.one 8 (.one 7 (.one 9 (.one 10 (.one 11 (.one 12 (.one 13 (.one 15 (.one 14 (.one 16 (.one 17 (.one 18 (.one 19 (.one 20 (.one 21 (.one 22 (.one 23 (.one 24 (.one 25 (.one 28 (.one 29 (.one 26 (.one 27 (.one 30 (.one 31 (.one 32 (.one 33 (.one 36 (.one 34 (.imm 37 (.one 35 (.one 38 (.one 39 (.one 40 (.one 41 (.one 42 (.one 43 (.one 44 (.one 45 (.one 46 (.one 47 (.one 48 (.one 49 (.one 50 (.one 51 (.one 52 (.imm 54 (.one 53 (.one 55 (.one 56 (.one 57 (.one 58 (.one 59 (.one 60 (.one 61 .nil)))))))))))))))))))))))))))))))))))))))))))))))))))))))))))))) (by kernel_rfl) ?_ | refine AO.cons hT ?_ | refine AO.nil ?_ | refine AW.seq ?_ | refine AW.region ?_ | refine AW.cond ?_ | refine AW.block ?_ | refine AW.loop ?_ | refine AW.skip ?_ | refine AW.exit ?_ | refine AW.ret ?_ | refine AW.label ?_ | refine AW.scope ?_ | refine AF.one hT rfl ?_ | refine AF.nil ?_ | refine AF.imm hT rfl rfl rfl ?_ | refine AH.of hT rfl ?_ | refine AD.cons hT rfl ?_ | refine AD.nil ?_ | refine AQ.cons hT rfl ?_ | refine AQ.nil ?_ | (refine ACall.val (by kernel_rfl) f7 rfl rfl ?_)); conv => whnf)
  refine ACond.dec (fun h4 => ?_) (fun h4 => ?_)
  · conv => whnf
    repeat (first | (refine AW.plan (id := 7) hm (.one 0 (.one 2 (.one 1 (.one 3 (.one 4 (.one 5 (.one 6 (.one 8 (.one 7 (.one 9 (.one 10 (.one 11 (.one 12 (.one 13 (.one 15 (.one 14 (.one 16 (.one 17 (.one 18 (.one 19 (.one 20 (.one 21 (.one 22 (.one 23 (.one 24 (.one 25 (.one 28 (.one 29 (.one 26 (.one 27 (.one 30 (.one 31 (.one 32 (.one 33 (.one 36 (.one 34 (.imm 37 (.one 35 (.one 38 (.one 39 (.one 40 (.one 41 (.one 42 (.one 43 (.one 44 (.one 45 (.one 46 (.one 47 (.one 48 (.one 49 (.one 50 (.one 51 (.one 52 (.imm 54 (.one 53 (.one 55 (.one 56 (.one 57 (.one 58 (.one 59 (.one 60 (.one 61 .nil)))))))))))))))))))))))))))))))))))))))))))))))))))))))))))))) (by kernel_rfl) ?_; conv => whnf) | (refine AW.label ?_; conv => whnf) | (refine AW.scope ?_; conv => whnf) | (refine AO.cons hT ?_; conv => whnf) | (refine AO.nil ?_; conv => whnf) | (refine AW.seq ?_; conv => whnf) | (refine AW.region ?_; conv => whnf) | (refine AW.cond ?_; conv => whnf) | (refine AW.block ?_; conv => whnf) | (refine AW.loop ?_; conv => whnf) | (refine AW.skip ?_; conv => whnf) | (refine AW.exit ?_; conv => whnf) | (refine AW.ret ?_; conv => whnf) | (refine AF.one hT rfl ?_; conv => whnf) | (refine AF.nil ?_; conv => whnf) | (refine AF.imm hT rfl rfl rfl ?_; conv => whnf) | (refine AH.of hT rfl ?_; conv => whnf) | (refine ASplit.yes rfl ?_; conv => whnf) | (refine ACond.yes rfl ?_; conv => whnf) | (refine ASplit.no rfl ?_; conv => whnf) | (refine ACond.no rfl ?_; conv => whnf) | (refine ASplit.yes (by decide) ?_; conv => whnf) | (refine ACond.yes (by decide) ?_; conv => whnf) | (refine AReq.mk (by decide) ?_; conv => whnf) | (refine AIdx.iff.2 ⟨by decide, ?_⟩; conv => whnf) | (refine ACall.val (by kernel_rfl) f7 rfl rfl ?_; conv => whnf))
    exact h7
  have hl : r.rows.length ≤ 60 := by omega
  have ha : r.asks.length ≤ 60 := by omega
  have h9 := f9 r.rows (by omega)
  rw [gap_eq] at h9
  have h15 := f15 r.rows (by omega)
  rw [dead_eq] at h15
  have h17 := f17 r (by omega) (by omega)
  rw [check_eq] at h17
  have hdl := dead_le r.rows
  have h13 := f13 (deadF r.rows) (deadF r.rows) (by omega) (by omega)
  rw [decide_eq_true rfl] at h13
  have hcl := cells_len r.rows
  have hcr : ∀ {ρ : Nat → Nat}, (AV.tup [.agg ((cellsF r.rows).1.map nV), nV (cellsF r.rows).2]).ren ρ = .tup [.agg ((cellsF r.rows).1.map nV), nV (cellsF r.rows).2] := by
    intro ρ
    show AV.tup [.agg (renL ρ ((cellsF r.rows).1.map nV)), _] = _
    rw [nVs_ren]; rfl
  have hcut : ∀ {xs : List Int} {K : List AV → Prop}, xs.length = 8 → K (xs.map nV) → ACut (drp (xs.map nV) 0) 0 (T 34).size K := fun h q => by
    rw [drp_zero]; exact ACut.all (by rw [List.length_map, h]; rfl) q
  have hz : (List.replicate 8 (AV.v (.int .i64 0))) = zer8.map nV := rfl
  have hupd : ∀ {ys : List Int} {K : List AV → Prop}, ys.length = 8 → K (ys.map nV) → AUpd (List.replicate 8 (AV.v (.int .i64 0))) 0 (ys.map nV) K := fun h2 q =>
    AUpd.to _ (by rw [List.length_map, h2]; decide) (by unfold spl; rw [List.take_zero, List.nil_append, List.drop_eq_nil_of_le (by rw [List.length_map, h2]; decide), List.append_nil]) q
  conv => whnf
  repeat ((first | refine AW.plan (id := 7) hm (.one 0 (.one 2 (.one 1 (.one 3 (.one 4 (.one 5 (.one 6 (.one 8 (.one 7 (.one 9 (.one 10 (.one 11 (.one 12 (.one 13 (.one 15 (.one 14 (.one 16 (.one 17 (.one 18 (.one 19 (.one 20 (.one 21 (.one 22 (.one 23 (.one 24 (.one 25 (.one 28 (.one 29 (.one 26 (.one 27 (.one 30 (.one 31 (.one 32 (.one 33 (.one 36 (.one 34 (.imm 37 (.one 35 (.one 38 (.one 39 (.one 40 (.one 41 (.one 42 (.one 43 (.one 44 (.one 45 (.one 46 (.one 47 (.one 48 (.one 49 (.one 50 (.one 51 (.one 52 (.imm 54 (.one 53 (.one 55 (.one 56 (.one 57 (.one 58 (.one 59 (.one 60 (.one 61 .nil)))))))))))))))))))))))))))))))))))))))))))))))))))))))))))))) (by kernel_rfl) ?_ | refine AO.cons hT ?_ | refine AO.nil ?_ | refine AW.seq ?_ | refine AW.region ?_ | refine AW.cond ?_ | refine AW.block ?_ | refine AW.loop ?_ | refine AW.skip ?_ | refine AW.exit ?_ | refine AW.ret ?_ | refine AW.label ?_ | refine AW.scope ?_ | refine AF.one hT rfl ?_ | refine AF.nil ?_ | refine AF.imm hT rfl rfl rfl ?_ | refine AH.of hT rfl ?_ | refine AD.cons hT rfl ?_ | refine AD.nil ?_ | refine AQ.cons hT rfl ?_ | refine AQ.nil ?_ | (refine ACall.val (by kernel_rfl) f7 rfl rfl ?_) | (refine ACall.val (by kernel_rfl) (f8 r.rows) (roV1 _ _) rfl ?_) | (refine ACall.val (by kernel_rfl) h9 (roV1 _ _) rfl ?_) | (refine ACall.val (by kernel_rfl) (f10 r.rows) (roV1 _ _) hcr ?_) | (refine ACall.val (by kernel_rfl) (f11 r.rows (by omega)) (roV1 _ _) hcr ?_) | (refine AReq.mk (by rw [List.length_map, hcl]; rfl) ?_) | (refine hupd hcl ?_) | (refine hcut hcl ?_) | (refine ACall.val (by kernel_rfl) (f12 r.rows) (roV1 _ _) rfl ?_) | (refine ACall.val (by kernel_rfl) (f14 r.rows) (roV1 _ _) (iVs_ren _ _) ?_) | (refine ACall.val (by kernel_rfl) h15 (roV1 _ _) (iVs_ren _ _) ?_) | (refine ACall.val (by kernel_rfl) h13 (show [(iVs _).ren _, (iVs _).ren _] = _ by rw [iVs_ren]; rfl) rfl ?_) | (refine ACall.val (by kernel_rfl) (f16 r) (ruV1 _ _) rfl ?_) | (refine ACall.val (by kernel_rfl) h17 (ruV1 _ _) rfl ?_) | (refine ASplit.yes (decide_eq_true rfl) ?_) | (refine ASplit.yes rfl ?_) | (refine AF.immG hT rfl rfl rfl rfl ?_) | (refine arr_same hcl ?_)); conv => whnf)
  exact h7
end Go.Aw.T1

set_option linter.unusedSimpArgs false
set_option linter.unusedVariables false
namespace Go.Aw.T1
open Go Go.Proofs

def cellOf (f : Fc) : Nat := 2 * f.g.toNat + if f.w then 1 else 0
theorem fcOf_cell {f : Fc} (h : factB f = true) : fcOf (cellOf f) f.a = f ∧ cellOf f < 8 := by
  obtain ⟨g, w, a⟩ := f
  obtain ⟨h1, h2, h3, h4⟩ := factB_iff.1 h
  unfold fcOf cellOf
  have h1 : 0 ≤ g := h1
  have h2 : g ≤ 3 := h2
  dsimp only
  cases w with
  | true =>
    refine ⟨?_, by simp; omega⟩
    simp only [if_true]
    rw [show (2 * g.toNat + 1) / 2 = g.toNat by omega, show (2 * g.toNat + 1) % 2 = 1 by omega, Int.toNat_of_nonneg h1]; rfl
  | false =>
    refine ⟨?_, by simp; omega⟩
    simp only [Bool.false_eq_true, if_false]
    rw [show (2 * g.toNat + 0) / 2 = g.toNat by omega, show (2 * g.toNat + 0) % 2 = 0 by omega, Int.toNat_of_nonneg h1]; rfl
theorem fcOf_fact {c : Nat} (hc : c < 8) {a : Int} (h1 : 0 ≤ a) (h2 : a ≤ 1000000000000) : factB (fcOf c a) = true :=
  factB_iff.2 ⟨by show (0 : Int) ≤ ((c / 2 : Nat) : Int); omega, by show ((c / 2 : Nat) : Int) ≤ 3; omega, h1, h2⟩
theorem fit_in {r : Ro} (hr : rowB r = true) {c : Nat} (hc : c < 8) {a : Int} (ha : 0 ≤ a) (ha2 : a ≤ 1000000000000) : fitB r (fcOf c a) = (inB r c && decide (r.lo ≤ a) && decide (a ≤ r.hi)) := by
  rw [← mat_in hr hc ha ha2]
  unfold matB
  rw [hr, fcOf_fact hc ha ha2]; rfl
theorem fit_true {r : Ro} (hr : rowB r = true) {c : Nat} (hc : c < 8) {a : Int} (ha : 0 ≤ a) (ha2 : a ≤ 1000000000000) : fitB r (fcOf c a) = true ↔ inB r c = true ∧ r.lo ≤ a ∧ a ≤ r.hi := by
  rw [fit_in hr hc ha ha2]
  simp only [Bool.and_eq_true, decide_eq_true_eq]
  exact ⟨fun h => ⟨h.1.1, h.1.2, h.2⟩, fun h => ⟨⟨h.1, h.2.1⟩, h.2.2⟩⟩
theorem dec_none (f : Fc) : ∀ (l : List Ro) (i : Nat), (∀ r ∈ l, fitB r f = false) → decG f l i = (0, 0, 36)
  | [], _, _ => rfl
  | r :: l, i, h => by
    rw [decG, h r (by simp)]
    exact dec_none f l (i + 1) (fun x hx => h x (by simp [hx]))
theorem dec_some (f : Fc) : ∀ (l : List Ro) (i k : Nat) (hk : k < l.length), fitB l[k] f = true → (∀ j (hj : j < l.length), j < k → fitB l[j] f = false) → decG f l i = (l[k].way, ((i + k : Nat) : Int), 0)
  | r :: l, i, 0, _, h, _ => by
    have h : fitB r f = true := h
    rw [decG, if_pos h]; rfl
  | r :: l, i, k + 1, hk, h, h2 => by
    have hr := h2 0 (by simp) (by omega)
    have hr : fitB r f = false := hr
    rw [decG, hr]
    simp only [Bool.false_eq_true, if_false]
    have := dec_some f l (i + 1) k (by simpa using hk) (by simpa using h) (fun j hj hjk => by
      have := h2 (j + 1) (by simpa using hj) (by omega)
      simpa using this)
    rw [this, show i + 1 + k = i + (k + 1) by omega]; rfl
theorem dec_cases (f : Fc) (l : List Ro) : (∀ r ∈ l, fitB r f = false) ∨ ∃ k, ∃ hk : k < l.length, fitB l[k] f = true ∧ ∀ j (hj : j < l.length), j < k → fitB l[j] f = false := by
  induction l with
  | nil => exact .inl (by simp)
  | cons r l ih =>
    rcases Bool.eq_false_or_eq_true (fitB r f) with h | h
    · exact .inr ⟨0, by simp, h, fun j _ hj => by omega⟩
    · rcases ih with h2 | ⟨k, hk, h3, h4⟩
      · left
        intro x hx
        rcases List.mem_cons.1 hx with rfl | hx
        · exact h
        · exact h2 x hx
      · refine .inr ⟨k + 1, by simpa using hk, by simpa using h3, fun j hj hjk => ?_⟩
        cases j with
        | zero => exact h
        | succ j => simpa using h4 j (by simpa using hj) (by omega)
theorem decF_ok {l : List Ro} (h : tabB l = true) {f : Fc} (hf : factB f = true) : decF l f = decG f l 0 := by unfold decF; rw [if_pos h, if_pos hf]
/-! ### the gap -/
theorem gapG_true {l : List Ro} : ∀ cs : List Nat, (gapG l cs).2 = true → ∃ c ∈ cs, holC l c 0 ≤ 1000000000000 ∧ (gapG l cs).1 = fcOf c (holC l c 0)
  | [], h => by cases h
  | c :: cs, h => by
    rw [gapG] at h ⊢
    by_cases hle : holC l c 0 ≤ 1000000000000
    · rw [if_pos hle]; exact ⟨c, by simp, hle, rfl⟩
    · rw [if_neg hle] at h ⊢
      obtain ⟨x, hx, h2⟩ := gapG_true cs h
      exact ⟨x, by simp [hx], h2⟩
theorem gapG_false {l : List Ro} : ∀ cs : List Nat, (gapG l cs).2 = false → ∀ c ∈ cs, ¬ holC l c 0 ≤ 1000000000000
  | [], _, c, hc => by simp at hc
  | c :: cs, h, x, hx => by
    rw [gapG] at h
    by_cases hle : holC l c 0 ≤ 1000000000000
    · rw [if_pos hle] at h; cases h
    · rw [if_neg hle] at h
      rcases List.mem_cons.1 hx with rfl | hx
      · exact hle
      · exact gapG_false cs h x hx
theorem gap_yes {l : List Ro} (h : tabB l = true) (hg : (gapF l).2 = true) : factB (gapF l).1 = true ∧ decF l (gapF l).1 = (0, 0, 36) := by
  have hok : okL l := (tabB_row h).2.2
  unfold gapF at hg ⊢
  rw [if_pos h] at hg ⊢
  obtain ⟨c, hc, hle, he⟩ := gapG_true _ hg
  have hc : c < 8 := by simpa using hc
  obtain ⟨a1, a2, a3⟩ := holC_spec hok c 0
  rw [he]
  have hf := fcOf_fact hc a1 hle
  refine ⟨hf, ?_⟩
  rw [decF_ok h hf]
  refine dec_none _ l 0 (fun r hr => ?_)
  cases hfb : fitB r (fcOf c (holC l c 0)) with
  | false => rfl
  | true => exact absurd (cov_iff.2 ⟨r, hr, (fit_true (hok r hr) hc a1 hle).1 hfb⟩) a2
theorem gap_no {l : List Ro} (h : tabB l = true) (hg : (gapF l).2 = false) {f : Fc} (hf : factB f = true) : (decF l f).2.2 = 0 := by
  have hok : okL l := (tabB_row h).2.2
  unfold gapF at hg
  rw [if_pos h] at hg
  obtain ⟨e, hc⟩ := fcOf_cell hf
  obtain ⟨_, _, f3, f4⟩ := factB_iff.1 hf
  have hno := gapG_false _ hg (cellOf f) (by simpa using hc)
  obtain ⟨a1, a2, a3⟩ := holC_spec hok (cellOf f) 0
  obtain ⟨r, hr, h1⟩ := cov_iff.1 (a3 f.a f3 (by omega))
  have hfit : fitB r f = true := by
    rw [← e]
    exact (fit_true (hok r hr) hc f3 f4).2 h1
  rw [decF_ok h hf]
  rcases dec_cases f l with h2 | ⟨k, hk, h2, h3⟩
  · rw [h2 r hr] at hfit; cases hfit
  · rw [dec_some f l 0 k hk h2 h3]
/-! ### dead rows -/
theorem first_live {l : List Ro} (hok : okL l) {f : Fc} (hf : factB f = true) {k : Nat} (hk : k < l.length) (h1 : fitB l[k] f = true) (h2 : ∀ j (hj : j < l.length), j < k → fitB l[j] f = false) : liveB l k = true := by
  obtain ⟨e, hc⟩ := fcOf_cell hf
  obtain ⟨_, _, f3, f4⟩ := factB_iff.1 hf
  rw [← e] at h1
  obtain ⟨g1, g2, g3⟩ := (fit_true (hok _ (List.getElem_mem hk)) hc f3 f4).1 h1
  refine live_of hok hk hc g1 g2 g3 (fun hcov => ?_)
  obtain ⟨r, hr, h3⟩ := cov_iff.1 hcov
  obtain ⟨j, hj, rfl⟩ := List.mem_iff_getElem.1 hr
  rw [List.getElem_take] at h3
  rw [List.length_take] at hj
  have h4 := h2 j (by omega) (by omega)
  rw [← e, (fit_true (hok _ (List.getElem_mem (show j < l.length by omega))) hc f3 f4).2 h3] at h4
  cases h4
def lessG (l : List Ro) (n : Nat) : List Ro := (List.range n).filterMap fun j => if liveB l j then l[j]? else none
theorem less_step {l : List Ro} {i : Nat} (h : i < l.length) : lessG l (i + 1) = if liveB l i = true then lessG l i ++ [l[i]] else lessG l i := by
  unfold lessG
  rw [List.range_succ, List.filterMap_append]
  cases hb : liveB l i with
  | true => simp [hb, List.getElem?_eq_getElem h]
  | false => simp [hb]
theorem less_le (l : List Ro) : ∀ n, n ≤ l.length → (lessG l n).length ≤ n
  | 0, _ => by simp [lessG]
  | n + 1, h => by
    have := less_le l n (by omega)
    rw [less_step (by omega)]
    split
    · rw [List.length_append]; simp; omega
    · omega
theorem less_mem {l : List Ro} {n : Nat} {r : Ro} (h : r ∈ lessG l n) : r ∈ l := by
  unfold lessG at h
  obtain ⟨j, _, hj⟩ := List.mem_filterMap.1 h
  split at hj
  · exact List.mem_of_getElem? hj
  · cases hj
theorem inB_some {r : Ro} (h : rowB r = true) : ∃ c < 8, inB r c = true := by
  obtain ⟨a1, a2, a3, a4, _⟩ := rowB_iff.1 h
  have hg : ∃ k < 4, bitI r.g k = true := by
    have : r.g = 1 ∨ r.g = 2 ∨ r.g = 3 ∨ r.g = 4 ∨ r.g = 5 ∨ r.g = 6 ∨ r.g = 7 ∨ r.g = 8 ∨ r.g = 9 ∨ r.g = 10 ∨ r.g = 11 ∨ r.g = 12 ∨ r.g = 13 ∨ r.g = 14 ∨ r.g = 15 := by omega
    rcases this with h | h | h | h | h | h | h | h | h | h | h | h | h | h | h <;> rw [h] <;> decide +kernel
  have hw : ∃ k < 2, bitI r.w k = true := by
    have : r.w = 1 ∨ r.w = 2 ∨ r.w = 3 := by omega
    rcases this with h | h | h <;> rw [h] <;> decide +kernel
  obtain ⟨k, hk, h1⟩ := hg
  obtain ⟨m, hm, h2⟩ := hw
  refine ⟨2 * k + m, by omega, ?_⟩
  unfold inB
  rw [show (2 * k + m) / 2 = k by omega, show (2 * k + m) % 2 = m by omega, h1, h2]; rfl
theorem live_zero {l : List Ro} (hok : okL l) (h : 0 < l.length) : liveB l 0 = true := by
  have hr := hok _ (List.getElem_mem h)
  obtain ⟨c, hc, h1⟩ := inB_some hr
  have := rowB_iff.1 hr
  refine live_of hok h hc h1 (Int.le_refl _) this.2.2.2.2.2.1 ?_
  rw [List.take_zero]
  rintro ⟨s, hs, _⟩
  simp [spc] at hs
theorem less_tab {l : List Ro} (h : tabB l = true) : tabB (lessG l l.length) = true := by
  obtain ⟨t1, t2, t3⟩ := tabB_row h
  have hlen := less_le l l.length (Nat.le_refl _)
  have hne : 0 < (lessG l l.length).length := by
    have : l[0]'(by omega) ∈ lessG l l.length := by
      unfold lessG
      refine List.mem_filterMap.2 ⟨0, by simp; omega, ?_⟩
      rw [live_zero t3 (by omega), List.getElem?_eq_getElem (by omega)]; rfl
    exact List.length_pos_of_mem this
  unfold tabB
  rw [decide_eq_true (by omega), decide_eq_true (by omega), List.all_eq_true.2 (fun r hr => t3 r (less_mem hr))]
  rfl
/-- among the live ones the first one that fits is the same -/
theorem less_dec {l : List Ro} (hok : okL l) {f : Fc} (hf : factB f = true) : ∀ n, n ≤ l.length → (decG f (lessG l n) 0).1 = (decG f (l.take n) 0).1 ∧ (decG f (lessG l n) 0).2.2 = (decG f (l.take n) 0).2.2 := by
  intro n hn
  rcases dec_cases f (l.take n) with h1 | ⟨k, hk, h1, h2⟩
  · rw [dec_none f _ 0 h1]
    have : ∀ r ∈ lessG l n, fitB r f = false := by
      intro r hr
      unfold lessG at hr
      obtain ⟨j, hj, hj2⟩ := List.mem_filterMap.1 hr
      split at hj2
      · refine h1 r ?_
        have hjn : j < n := by simpa using hj
        refine List.mem_of_getElem? (i := j) ?_
        rw [List.getElem?_take_of_lt hjn]; exact hj2
      · cases hj2
    rw [dec_none f _ 0 this]
    exact ⟨rfl, rfl⟩
  · rw [List.length_take] at hk
    have hkl : k < l.length := by omega
    rw [List.getElem_take] at h1
    have h2' : ∀ j (hj : j < l.length), j < k → fitB l[j] f = false := fun j hj hjk => by
      have := h2 j (by rw [List.length_take]; omega) hjk
      rwa [List.getElem_take] at this
    have hlive := first_live hok hf hkl h1 h2'
    have e1 := dec_some f (l.take n) 0 k (by rw [List.length_take]; omega) (by rw [List.getElem_take]; exact h1) h2
    rw [e1, List.getElem_take]
    -- its place among the live ones
    have hsplit : lessG l n = lessG l k ++ (l[k] :: (List.range' (k + 1) (n - (k + 1))).filterMap fun j => if liveB l j then l[j]? else none) := by
      unfold lessG
      rw [List.range_eq_range', show n = k + (n - k) by omega, ← List.range'_append_1 (s := 0) (m := k) (n := n - k), List.filterMap_append, Nat.zero_add, ← List.range_eq_range']
      congr 1
      rw [show n - k = (n - (k + 1)) + 1 by omega, List.range'_succ, List.filterMap_cons, hlive, List.getElem?_eq_getElem hkl]
      have : k + (n - (k + 1) + 1) - (k + 1) = n - (k + 1) := by omega
      simp [this]
    have hbefore : ∀ r ∈ lessG l k, fitB r f = false := by
      intro r hr
      unfold lessG at hr
      obtain ⟨j, hj, hj2⟩ := List.mem_filterMap.1 hr
      split at hj2
      · have hjk : j < k := by simpa using hj
        rw [List.getElem?_eq_getElem (by omega)] at hj2
        cases hj2
        exact h2' j (by omega) hjk
      · cases hj2
    have hlt : (lessG l k).length < (lessG l n).length := by rw [hsplit, List.length_append, List.length_cons]; omega
    have hat : (lessG l n)[(lessG l k).length] = l[k] := by
      have : (lessG l n)[(lessG l k).length]? = some l[k] := by
        rw [hsplit, List.getElem?_append_right (Nat.le_refl _), Nat.sub_self]; rfl
      rw [List.getElem?_eq_getElem hlt] at this
      exact Option.some.inj this
    have e2 := dec_some f (lessG l n) 0 (lessG l k).length hlt (by rw [hat]; exact h1) (fun j hj hjk => by
      refine hbefore _ (List.mem_of_getElem? (i := j) ?_)
      have : (lessG l n)[j]? = (lessG l k)[j]? := by rw [hsplit, List.getElem?_append_left hjk]
      rw [← this, List.getElem?_eq_getElem hj])
    rw [e2, hat]
    exact ⟨rfl, rfl⟩
/-- where the next dead row is told -/
theorem dead_next (l : List Ro) {i n : Nat} (h : i < n) : ∃ t, deadG l n = deadG l i ++ t ∧ (liveB l i = false → t[0]? = some (i : Int)) ∧ (liveB l i = true → ∀ x, t[0]? = some x → x ≠ (i : Int)) := by
  unfold deadG
  refine ⟨((List.range' i (n - i)).filter fun i => !liveB l i).map fun i : Nat => (i : Int), ?_, ?_, ?_⟩
  · rw [List.range_eq_range', show n = i + (n - i) by omega, ← List.range'_append_1 (s := 0) (m := i) (n := n - i), List.filter_append, List.map_append, Nat.zero_add, ← List.range_eq_range', show i + (n - i) - i = n - i by omega]
  · intro hb
    rw [show n - i = (n - (i + 1)) + 1 by omega, List.range'_succ, List.filter_cons, hb]
    rfl
  · intro hb x hx
    rw [show n - i = (n - (i + 1)) + 1 by omega, List.range'_succ, List.filter_cons, hb] at hx
    have hx : ((List.map (fun i : Nat => (i : Int)) (List.filter (fun i => !liveB l i) (List.range' (i + 1) (n - (i + 1))))))[0]? = some x := hx
    obtain ⟨j, hj, rfl⟩ := List.mem_map.1 (List.mem_of_getElem? hx)
    have := (List.mem_filter.1 hj).1
    rw [List.mem_range'_1] at this
    omega
end Go.Aw.T1

