/-
  The statement SectorPlays: any calls of a device, and of its copies, are answered as the document says, without any condition.
-/
import Derived.Test.YtmppkjcldeljbaaSeG
import Derived.Test.YtmppkjcldeljbaaAwG
set_option linter.unusedSimpArgs false
set_option linter.unusedVariables false
set_option linter.unusedSimpArgs false
set_option linter.unusedVariables false
set_option maxHeartbeats 2000000
namespace Go.Aw.E1
open Go Go.Proofs

/-- what is left of a sector, of the document -/
def leftF (c : Ch) (k : Nat) (x : Rc) : ByteArray :=
  if (k : Int) = c.torn then x.now.extract 0 (clampN c.cut) ++ x.safe.extract (clampN c.cut) x.safe.size else if c.keep.getD k false then x.now else x.safe
def rbL (c : Ch) : List Rc → Nat → List Rc
  | [], _ => []
  | x :: xs, k => if x.loose then ⟨leftF c k x, leftF c k x, false⟩ :: rbL c xs (k + 1) else x :: rbL c xs k
theorem rbL_len (c : Ch) : ∀ (xs : List Rc) (k : Nat), (rbL c xs k).length = xs.length
  | [], _ => rfl
  | x :: xs, k => by
    rw [rbL]
    split <;> simp [rbL_len c xs]
theorem rbL_get (c : Ch) : ∀ (xs : List Rc) (k i : Nat) (h : i < xs.length), (rbL c xs k)[i]'(by rw [rbL_len]; exact h) = if xs[i].loose then ⟨leftF c (k + (xs.take i).countP (·.loose)) xs[i], leftF c (k + (xs.take i).countP (·.loose)) xs[i], false⟩ else xs[i]
  | x :: xs, k, 0, h => by
    simp only [rbL]
    split
    · rename_i g; simp [g]
    · rename_i g; simp [g]
  | x :: xs, k, i + 1, h => by
    have h' : i < xs.length := by simpa using h
    simp only [rbL]
    split
    · rename_i g
      have := rbL_get c xs (k + 1) i h'
      simp only [List.getElem_cons_succ, this, List.take_succ_cons, List.countP_cons, g, if_true]
      rw [show k + 1 + List.countP (·.loose) (List.take i xs) = k + (List.countP (·.loose) (List.take i xs) + 1) by omega]
    · rename_i g
      have := rbL_get c xs k i h'
      simp only [List.getElem_cons_succ, this, List.take_succ_cons, List.countP_cons, g, if_false]
      simp
def rbootF (d : Rd) (c : Ch) : Rd := { cells := rbL c d.cells 0, ops := d.ops, armed := 0, dead := false }
theorem rcs_plain (cs : List Rc) : plainL (cs.flatMap rcC) := by
  rw [plainL_iff]
  intro x hx
  obtain ⟨r, _, hr⟩ := List.mem_flatMap.1 hx
  simp only [rcC, List.mem_cons, List.not_mem_nil, or_false] at hr
  rcases hr with rfl | rfl | rfl <;> trivial
theorem f39 (d : Rd) (c : Ch) (hd : d.cells ≠ []) (hl : d.cells.length ≤ 2000) (hk : c.keep.length ≤ 4611686018427387904) (h64 : ∀ x ∈ d.cells, x.now.size = 64 ∧ x.safe.size = 64) :
    Fun P 39 [rdV d, .agg (chC c)] (rdV (rbootF d c)) := by
  refine spec_of hT (f := 39) (fn := Go.Proofs.Try.f39) (c := body Go.Proofs.Try.f39) (by kernel_rfl) (by kernel_rfl) ?_
  conv => whnf
  repeat ((first | refine AW.plan (id := 99) hm (.one 0 .nil) (by kernel_rfl) ?_ | refine AO.cons hT ?_ | refine AO.nil ?_ | refine AW.cond ?_ | refine AW.block ?_ | refine AW.loop ?_ | refine AW.skip ?_ | refine AW.exit ?_ | refine AW.ret ?_ | refine AW.label ?_ | refine AW.scope ?_ | refine AF.one hT rfl ?_ | refine AF.nil ?_ | refine AF.imm hT rfl rfl rfl ?_ | refine AH.of hT rfl ?_ | refine AD.cons hT rfl ?_ | refine AD.nil ?_ | refine AQ.cons hT rfl ?_ | refine AQ.nil ?_); conv => whnf)
  refine AW.seq ?_
  conv => whnf
  refine AW.region ?_
  conv => whnf
  repeat ((first | refine AW.plan (id := 99) hm (.one 0 .nil) (by kernel_rfl) ?_ | refine AO.cons hT ?_ | refine AO.nil ?_ | refine AW.cond ?_ | refine AW.block ?_ | refine AW.loop ?_ | refine AW.skip ?_ | refine AW.exit ?_ | refine AW.ret ?_ | refine AW.label ?_ | refine AW.scope ?_ | refine AF.one hT rfl ?_ | refine AF.nil ?_ | refine AF.imm hT rfl rfl rfl ?_ | refine AH.of hT rfl ?_ | refine AD.cons hT rfl ?_ | refine AD.nil ?_ | refine AQ.cons hT rfl ?_ | refine AQ.nil ?_); conv => whnf)
  refine AW.conv _ _ (Conv.freeze 1 (t := 24) (cs := chC c) rfl) ?_
  conv => whnf
  repeat ((first | refine AW.plan (id := 99) hm (.one 0 .nil) (by kernel_rfl) ?_ | refine AO.cons hT ?_ | refine AO.nil ?_ | refine AW.seq ?_ | refine AW.region ?_ | refine AW.cond ?_ | refine AW.block ?_ | refine AW.loop ?_ | refine AW.skip ?_ | refine AW.exit ?_ | refine AW.ret ?_ | refine AW.label ?_ | refine AW.scope ?_ | refine AF.one hT rfl ?_ | refine AF.nil ?_ | refine AF.imm hT rfl rfl rfl ?_ | refine AH.of hT rfl ?_ | refine AD.cons hT rfl ?_ | refine AD.nil ?_ | refine AQ.cons hT rfl ?_ | refine AQ.nil ?_); conv => whnf)
  refine ACall.spec (by kernel_rfl) (f46 d hd hl) (rdV1 _ _) ?_
  rintro _ _ ⟨rfl, rfl⟩
  simp only [List.map_cons, List.map_nil, cells_ren, rcs_ren]
  conv => whnf
  repeat ((first | refine AW.plan (id := 99) hm (.one 0 .nil) (by kernel_rfl) ?_ | refine AO.cons hT ?_ | refine AO.nil ?_ | refine AW.seq ?_ | refine AW.region ?_ | refine AW.cond ?_ | refine AW.block ?_ | refine AW.loop ?_ | refine AW.skip ?_ | refine AW.exit ?_ | refine AW.ret ?_ | refine AW.label ?_ | refine AW.scope ?_ | refine AF.one hT rfl ?_ | refine AF.nil ?_ | refine AF.imm hT rfl rfl rfl ?_ | refine AH.of hT rfl ?_ | refine AD.cons hT rfl ?_ | refine AD.nil ?_ | refine AQ.cons hT rfl ?_ | refine AQ.nil ?_); conv => whnf)
  refine ALoop.mk (fun j E H => ∃ (i : Nat), j + i = d.cells.length ∧ E = pad [.any, .any, .ptr 0 0, .ptr 1 0, .ptr 2 0, nV ((d.cells.take i).countP (·.loose) : Nat), nV i] 88 ∧
      H = [.cells 44 [.ms 3 3 0 d.cells.length, nV d.ops, nV d.armed, bV d.dead], .ice 24 (chC c), .cells 44 [.v (.slice none 0 0), nV 0, nV 0, bV false], .cells 74 ((mix (rbL c d.cells 0) d.cells i).flatMap rcC)])
    (n := d.cells.length) _ _ ⟨0, rfl, rfl, rfl⟩ (Conv.fit (by repeat' (first | exact Fit.nil | refine Fit.any ?_ | refine Fit.same ?_))) ?_
  rintro j _ _ ⟨i, hj, rfl, rfl⟩
  conv => whnf
  repeat ((first | refine AW.plan (id := 99) hm (.one 0 .nil) (by kernel_rfl) ?_ | refine AO.cons hT ?_ | refine AO.nil ?_ | refine AW.seq ?_ | refine AW.region ?_ | refine AW.cond ?_ | refine AW.block ?_ | refine AW.loop ?_ | refine AW.skip ?_ | refine AW.exit ?_ | refine AW.ret ?_ | refine AW.label ?_ | refine AW.scope ?_ | refine AF.one hT rfl ?_ | refine AF.nil ?_ | refine AF.imm hT rfl rfl rfl ?_ | refine AH.of hT rfl ?_ | refine AD.cons hT rfl ?_ | refine AD.nil ?_ | refine AQ.cons hT rfl ?_ | refine AQ.nil ?_); conv => whnf)
  refine ACond.dec (fun h2 => ?_) (fun h2 => ?_)
  · have hil : i < d.cells.length := by omega
    have w1 : IntKind.wrap .i64 ((i : Int) + 1) = ((i + 1 : Nat) : Int) := by rw [wrap_i64 _ (by omega) (by omega)]; omega
    have hml := rbL_len c d.cells 0
    have hci := mix_get hml hil
    have hcl := mix_len (i := i) hml
    have hst := mix_set hml hil
    rw [rbL_get c d.cells 0 i hil, Nat.zero_add] at hst
    have h64i := h64 _ (List.getElem_mem hil)
    have hcp : (d.cells.take (i + 1)).countP (·.loose) = (d.cells.take i).countP (·.loose) + if d.cells[i].loose then 1 else 0 := by
      rw [List.take_add_one, List.getElem?_eq_getElem hil, List.countP_append]
      simp [List.countP_cons]
    have hkk : (d.cells.take i).countP (·.loose) ≤ i := by
      have := List.countP_le_length (p := fun x : Rc => x.loose) (l := d.cells.take i)
      rw [List.length_take] at this; omega
    generalize mix (rbL c d.cells 0) d.cells i = cs at *
    obtain ⟨hic, hci⟩ := List.getElem?_eq_some_iff.1 hci
    rw [← hci] at hst h64i hcp
    generalize hK : (d.cells.take i).countP (·.loose) = k at *
    conv => whnf
    repeat ((first | refine AW.plan (id := 99) hm (.one 0 .nil) (by kernel_rfl) ?_ | refine AO.cons hT ?_ | refine AO.nil ?_ | refine AW.seq ?_ | refine AW.region ?_ | refine AW.cond ?_ | refine AW.block ?_ | refine AW.loop ?_ | refine AW.skip ?_ | refine AW.exit ?_ | refine AW.ret ?_ | refine AW.label ?_ | refine AW.scope ?_ | refine AF.one hT rfl ?_ | refine AF.nil ?_ | refine AF.imm hT rfl rfl rfl ?_ | refine AH.of hT rfl ?_ | refine AD.cons hT rfl ?_ | refine AD.nil ?_ | refine AQ.cons hT rfl ?_ | refine AQ.nil ?_ | (refine AReq.mk (by omega) ?_) | (refine AIdx.atZ rcC_len i (by omega) hic ?_)); conv => whnf)
    refine ACond.mk (fun h3 => ?_) (fun h3 => ?_)
    · have hlo : cs[i].loose = false := by simpa using h3
      rw [hlo] at hst hcp
      simp only [Bool.false_eq_true, if_false, Nat.add_zero] at hst hcp
      rw [List.set_getElem_self] at hst
      conv => whnf
      repeat ((first | refine AW.plan (id := 99) hm (.one 0 .nil) (by kernel_rfl) ?_ | refine AO.cons hT ?_ | refine AO.nil ?_ | refine AW.seq ?_ | refine AW.region ?_ | refine AW.cond ?_ | refine AW.block ?_ | refine AW.loop ?_ | refine AW.skip ?_ | refine AW.exit ?_ | refine AW.ret ?_ | refine AW.label ?_ | refine AW.scope ?_ | refine AF.one hT rfl ?_ | refine AF.nil ?_ | refine AF.imm hT rfl rfl rfl ?_ | refine AH.of hT rfl ?_ | refine AD.cons hT rfl ?_ | refine AD.nil ?_ | refine AQ.cons hT rfl ?_ | refine AQ.nil ?_ | (refine AReq.mk (by omega) ?_) | (refine AIdx.atZ rcC_len i (by omega) hic ?_)); conv => whnf)
      rw [w1]
      refine AHead.mk (j - 1) _ _ (by omega) ⟨i + 1, by omega, rfl, rfl⟩ ?_
      rw [← hst, hcp]
      exact Conv.fit (by repeat' (first | exact Fit.nil | refine Fit.any ?_ | refine Fit.same ?_))
    have hlo : cs[i].loose = true := by simpa using h3
    rw [hlo] at hst hcp
    simp only [if_true] at hst hcp
    refine AW.skip ?_
    conv => whnf
    refine AW.seq ?_
    conv => whnf
    refine AW.region ?_
    conv => whnf
    repeat ((first | refine AW.plan (id := 99) hm (.one 0 .nil) (by kernel_rfl) ?_ | refine AO.cons hT ?_ | refine AO.nil ?_ | refine AW.cond ?_ | refine AW.block ?_ | refine AW.loop ?_ | refine AW.skip ?_ | refine AW.exit ?_ | refine AW.ret ?_ | refine AW.label ?_ | refine AW.scope ?_ | refine AF.one hT rfl ?_ | refine AF.nil ?_ | refine AF.imm hT rfl rfl rfl ?_ | refine AH.of hT rfl ?_ | refine AD.cons hT rfl ?_ | refine AD.nil ?_ | refine AQ.cons hT rfl ?_ | refine AQ.nil ?_ | (refine AReq.mk (by omega) ?_) | (refine AIdx.atZ rcC_len i (by omega) hic ?_)); conv => whnf)
    refine AW.seqJ (fun E H => E = pad [.any, .any, .ptr 0 0, .ptr 1 0, .ptr 2 0, nV k, nV i, sV (if c.keep.getD k false then cs[i].now else cs[i].safe)] 88 ∧
      H = [.cells 44 [.ms 3 3 0 d.cells.length, nV d.ops, nV d.armed, bV d.dead], .ice 24 (chC c), .cells 44 [.v (.slice none 0 0), nV 0, nV 0, bV false], .cells 74 (cs.flatMap rcC)]) ?_ ?_
    · conv => whnf
      repeat ((first | refine AW.plan (id := 99) hm (.one 0 .nil) (by kernel_rfl) ?_ | refine AO.cons hT ?_ | refine AO.nil ?_ | refine AW.seq ?_ | refine AW.region ?_ | refine AW.cond ?_ | refine AW.block ?_ | refine AW.loop ?_ | refine AW.skip ?_ | refine AW.exit ?_ | refine AW.ret ?_ | refine AW.label ?_ | refine AW.scope ?_ | refine AF.one hT rfl ?_ | refine AF.nil ?_ | refine AF.imm hT rfl rfl rfl ?_ | refine AH.of hT rfl ?_ | refine AD.cons hT rfl ?_ | refine AD.nil ?_ | refine AQ.cons hT rfl ?_ | refine AQ.nil ?_ | (refine AReq.mk (by omega) ?_) | (refine AIdx.atZ rcC_len i (by omega) hic ?_)); conv => whnf)
      refine ASplit.dec (fun h4 => ?_) (fun h4 => ?_)
      · have hkl : k < c.keep.length := by omega
        have hge : c.keep.getD k false = c.keep[k] := by rw [List.getD_eq_getElem?_getD, List.getElem?_eq_getElem hkl]; rfl
        conv => whnf
        repeat ((first | refine AW.plan (id := 99) hm (.one 0 .nil) (by kernel_rfl) ?_ | refine AO.cons hT ?_ | refine AO.nil ?_ | refine AW.seq ?_ | refine AW.region ?_ | refine AW.cond ?_ | refine AW.block ?_ | refine AW.loop ?_ | refine AW.skip ?_ | refine AW.exit ?_ | refine AW.ret ?_ | refine AW.label ?_ | refine AW.scope ?_ | refine AF.one hT rfl ?_ | refine AF.nil ?_ | refine AF.imm hT rfl rfl rfl ?_ | refine AH.of hT rfl ?_ | refine AD.cons hT rfl ?_ | refine AD.nil ?_ | refine AQ.cons hT rfl ?_ | refine AQ.nil ?_ | (refine AReq.mk (by omega) ?_) | (refine AIdx.atZ rcC_len i (by omega) hic ?_) | (refine AIdx.map1 (f := bV) (xs := c.keep) (i := k) hkl ?_)); conv => whnf)
        refine ACond.mk (fun h5 => ?_) (fun h5 => ?_)
        · rw [if_pos (by rw [hge]; exact h5)]
          conv => whnf
          repeat ((first | refine AW.plan (id := 99) hm (.one 0 .nil) (by kernel_rfl) ?_ | refine AO.cons hT ?_ | refine AO.nil ?_ | refine AW.seq ?_ | refine AW.region ?_ | refine AW.cond ?_ | refine AW.block ?_ | refine AW.loop ?_ | refine AW.skip ?_ | refine AW.exit ?_ | refine AW.ret ?_ | refine AW.label ?_ | refine AW.scope ?_ | refine AF.one hT rfl ?_ | refine AF.nil ?_ | refine AF.imm hT rfl rfl rfl ?_ | refine AH.of hT rfl ?_ | refine AD.cons hT rfl ?_ | refine AD.nil ?_ | refine AQ.cons hT rfl ?_ | refine AQ.nil ?_ | (refine AReq.mk (by omega) ?_) | (refine AIdx.atZ rcC_len i (by omega) hic ?_) | (refine AIdx.map1 (f := bV) (xs := c.keep) (i := k) hkl ?_)); conv => whnf)
          exact AOut.to _ _ (Conv.fit (by repeat' (first | exact Fit.nil | refine Fit.any ?_ | refine Fit.same ?_))) ⟨rfl, rfl⟩
        · rw [if_neg (by rw [hge, h5]; simp)]
          conv => whnf
          repeat ((first | refine AW.plan (id := 99) hm (.one 0 .nil) (by kernel_rfl) ?_ | refine AO.cons hT ?_ | refine AO.nil ?_ | refine AW.seq ?_ | refine AW.region ?_ | refine AW.cond ?_ | refine AW.block ?_ | refine AW.loop ?_ | refine AW.skip ?_ | refine AW.exit ?_ | refine AW.ret ?_ | refine AW.label ?_ | refine AW.scope ?_ | refine AF.one hT rfl ?_ | refine AF.nil ?_ | refine AF.imm hT rfl rfl rfl ?_ | refine AH.of hT rfl ?_ | refine AD.cons hT rfl ?_ | refine AD.nil ?_ | refine AQ.cons hT rfl ?_ | refine AQ.nil ?_ | (refine AReq.mk (by omega) ?_) | (refine AIdx.atZ rcC_len i (by omega) hic ?_) | (refine AIdx.map1 (f := bV) (xs := c.keep) (i := k) hkl ?_)); conv => whnf)
          exact AOut.to _ _ (Conv.fit (by repeat' (first | exact Fit.nil | refine Fit.any ?_ | refine Fit.same ?_))) ⟨rfl, rfl⟩
      · have hge : c.keep.getD k false = false := by rw [List.getD_eq_getElem?_getD, List.getElem?_eq_none (by omega)]; rfl
        rw [if_neg (by rw [hge]; simp)]
        conv => whnf
        repeat ((first | refine AW.plan (id := 99) hm (.one 0 .nil) (by kernel_rfl) ?_ | refine AO.cons hT ?_ | refine AO.nil ?_ | refine AW.seq ?_ | refine AW.region ?_ | refine AW.cond ?_ | refine AW.block ?_ | refine AW.loop ?_ | refine AW.skip ?_ | refine AW.exit ?_ | refine AW.ret ?_ | refine AW.label ?_ | refine AW.scope ?_ | refine AF.one hT rfl ?_ | refine AF.nil ?_ | refine AF.imm hT rfl rfl rfl ?_ | refine AH.of hT rfl ?_ | refine AD.cons hT rfl ?_ | refine AD.nil ?_ | refine AQ.cons hT rfl ?_ | refine AQ.nil ?_ | (refine AReq.mk (by omega) ?_) | (refine AIdx.atZ rcC_len i (by omega) hic ?_) | (refine AIdx.map1 (f := bV) (xs := c.keep) (i := k) hkl ?_)); conv => whnf)
        refine ACond.no rfl ?_
        conv => whnf
        repeat ((first | refine AW.plan (id := 99) hm (.one 0 .nil) (by kernel_rfl) ?_ | refine AO.cons hT ?_ | refine AO.nil ?_ | refine AW.seq ?_ | refine AW.region ?_ | refine AW.cond ?_ | refine AW.block ?_ | refine AW.loop ?_ | refine AW.skip ?_ | refine AW.exit ?_ | refine AW.ret ?_ | refine AW.label ?_ | refine AW.scope ?_ | refine AF.one hT rfl ?_ | refine AF.nil ?_ | refine AF.imm hT rfl rfl rfl ?_ | refine AH.of hT rfl ?_ | refine AD.cons hT rfl ?_ | refine AD.nil ?_ | refine AQ.cons hT rfl ?_ | refine AQ.nil ?_ | (refine AReq.mk (by omega) ?_) | (refine AIdx.atZ rcC_len i (by omega) hic ?_) | (refine AIdx.map1 (f := bV) (xs := c.keep) (i := k) hkl ?_)); conv => whnf)
        exact AOut.to _ _ (Conv.fit (by repeat' (first | exact Fit.nil | refine Fit.any ?_ | refine Fit.same ?_))) ⟨rfl, rfl⟩
    rintro _ _ ⟨rfl, rfl⟩
    refine AW.seqJ (fun E H => E = pad [.any, .any, .ptr 0 0, .ptr 1 0, .ptr 2 0, nV k, nV i, sV (leftF c k cs[i])] 88 ∧
      H = [.cells 44 [.ms 3 3 0 d.cells.length, nV d.ops, nV d.armed, bV d.dead], .ice 24 (chC c), .cells 44 [.v (.slice none 0 0), nV 0, nV 0, bV false], .cells 74 (cs.flatMap rcC)]) ?_ ?_
    · conv => whnf
      repeat ((first | refine AW.plan (id := 99) hm (.one 0 .nil) (by kernel_rfl) ?_ | refine AO.cons hT ?_ | refine AO.nil ?_ | refine AW.seq ?_ | refine AW.region ?_ | refine AW.cond ?_ | refine AW.block ?_ | refine AW.loop ?_ | refine AW.skip ?_ | refine AW.exit ?_ | refine AW.ret ?_ | refine AW.label ?_ | refine AW.scope ?_ | refine AF.one hT rfl ?_ | refine AF.nil ?_ | refine AF.imm hT rfl rfl rfl ?_ | refine AH.of hT rfl ?_ | refine AD.cons hT rfl ?_ | refine AD.nil ?_ | refine AQ.cons hT rfl ?_ | refine AQ.nil ?_ | (refine AReq.mk (by omega) ?_) | (refine AIdx.atZ rcC_len i (by omega) hic ?_) | (refine AIdx.map1 (f := bV) (xs := c.keep) (i := k) hkl ?_)); conv => whnf)
      unfold leftF
      refine ACond.dec (fun h4 => ?_) (fun h4 => ?_)
      · rw [if_pos h4]
        have hcl := clampN_le c.cut
        refine AW.seq ?_
        conv => whnf
        refine AW.region ?_
        conv => whnf
        repeat ((first | refine AW.plan (id := 99) hm (.one 0 .nil) (by kernel_rfl) ?_ | refine AO.cons hT ?_ | refine AO.nil ?_ | refine AW.cond ?_ | refine AW.block ?_ | refine AW.loop ?_ | refine AW.skip ?_ | refine AW.exit ?_ | refine AW.ret ?_ | refine AW.label ?_ | refine AW.scope ?_ | refine AF.one hT rfl ?_ | refine AF.nil ?_ | refine AF.imm hT rfl rfl rfl ?_ | refine AH.of hT rfl ?_ | refine AD.cons hT rfl ?_ | refine AD.nil ?_ | refine AQ.cons hT rfl ?_ | refine AQ.nil ?_ | (refine AReq.mk (by omega) ?_) | (refine AIdx.atZ rcC_len i (by omega) hic ?_) | (refine AIdx.map1 (f := bV) (xs := c.keep) (i := k) hkl ?_)); conv => whnf)
        refine AW.seqJ (fun E H => E = pad [.any, .any, .ptr 0 0, .ptr 1 0, .ptr 2 0, nV k, nV i, .any, nV (if c.cut < 0 then 0 else c.cut)] 88 ∧
          H = [.cells 44 [.ms 3 3 0 d.cells.length, nV d.ops, nV d.armed, bV d.dead], .ice 24 (chC c), .cells 44 [.v (.slice none 0 0), nV 0, nV 0, bV false], .cells 74 (cs.flatMap rcC)]) ?_ ?_
        · conv => whnf
          repeat ((first | refine AW.plan (id := 99) hm (.one 0 .nil) (by kernel_rfl) ?_ | refine AO.cons hT ?_ | refine AO.nil ?_ | refine AW.seq ?_ | refine AW.region ?_ | refine AW.cond ?_ | refine AW.block ?_ | refine AW.loop ?_ | refine AW.skip ?_ | refine AW.exit ?_ | refine AW.ret ?_ | refine AW.label ?_ | refine AW.scope ?_ | refine AF.one hT rfl ?_ | refine AF.nil ?_ | refine AF.imm hT rfl rfl rfl ?_ | refine AH.of hT rfl ?_ | refine AD.cons hT rfl ?_ | refine AD.nil ?_ | refine AQ.cons hT rfl ?_ | refine AQ.nil ?_ | (refine AReq.mk (by omega) ?_) | (refine AIdx.atZ rcC_len i (by omega) hic ?_) | (refine AIdx.map1 (f := bV) (xs := c.keep) (i := k) hkl ?_)); conv => whnf)
          refine ACond.dec (fun h5 => ?_) (fun h5 => ?_)
          · rw [if_pos h5]
            conv => whnf
            repeat ((first | refine AW.plan (id := 99) hm (.one 0 .nil) (by kernel_rfl) ?_ | refine AO.cons hT ?_ | refine AO.nil ?_ | refine AW.seq ?_ | refine AW.region ?_ | refine AW.cond ?_ | refine AW.block ?_ | refine AW.loop ?_ | refine AW.skip ?_ | refine AW.exit ?_ | refine AW.ret ?_ | refine AW.label ?_ | refine AW.scope ?_ | refine AF.one hT rfl ?_ | refine AF.nil ?_ | refine AF.imm hT rfl rfl rfl ?_ | refine AH.of hT rfl ?_ | refine AD.cons hT rfl ?_ | refine AD.nil ?_ | refine AQ.cons hT rfl ?_ | refine AQ.nil ?_ | (refine AReq.mk (by omega) ?_) | (refine AIdx.atZ rcC_len i (by omega) hic ?_) | (refine AIdx.map1 (f := bV) (xs := c.keep) (i := k) hkl ?_)); conv => whnf)
            exact AOut.to _ _ (Conv.fit (by repeat' (first | exact Fit.nil | refine Fit.any ?_ | refine Fit.same ?_))) ⟨rfl, rfl⟩
          · rw [if_neg h5]
            conv => whnf
            repeat ((first | refine AW.plan (id := 99) hm (.one 0 .nil) (by kernel_rfl) ?_ | refine AO.cons hT ?_ | refine AO.nil ?_ | refine AW.seq ?_ | refine AW.region ?_ | refine AW.cond ?_ | refine AW.block ?_ | refine AW.loop ?_ | refine AW.skip ?_ | refine AW.exit ?_ | refine AW.ret ?_ | refine AW.label ?_ | refine AW.scope ?_ | refine AF.one hT rfl ?_ | refine AF.nil ?_ | refine AF.imm hT rfl rfl rfl ?_ | refine AH.of hT rfl ?_ | refine AD.cons hT rfl ?_ | refine AD.nil ?_ | refine AQ.cons hT rfl ?_ | refine AQ.nil ?_ | (refine AReq.mk (by omega) ?_) | (refine AIdx.atZ rcC_len i (by omega) hic ?_) | (refine AIdx.map1 (f := bV) (xs := c.keep) (i := k) hkl ?_)); conv => whnf)
            exact AOut.to _ _ (Conv.fit (by repeat' (first | exact Fit.nil | refine Fit.any ?_ | refine Fit.same ?_))) ⟨rfl, rfl⟩
        rintro _ _ ⟨rfl, rfl⟩
        refine AW.seqJ (fun E H => E = pad [.any, .any, .ptr 0 0, .ptr 1 0, .ptr 2 0, nV k, nV i, .any, nV (clampN c.cut)] 88 ∧
          H = [.cells 44 [.ms 3 3 0 d.cells.length, nV d.ops, nV d.armed, bV d.dead], .ice 24 (chC c), .cells 44 [.v (.slice none 0 0), nV 0, nV 0, bV false], .cells 74 (cs.flatMap rcC)]) ?_ ?_
        · conv => whnf
          repeat ((first | refine AW.plan (id := 99) hm (.one 0 .nil) (by kernel_rfl) ?_ | refine AO.cons hT ?_ | refine AO.nil ?_ | refine AW.seq ?_ | refine AW.region ?_ | refine AW.cond ?_ | refine AW.block ?_ | refine AW.loop ?_ | refine AW.skip ?_ | refine AW.exit ?_ | refine AW.ret ?_ | refine AW.label ?_ | refine AW.scope ?_ | refine AF.one hT rfl ?_ | refine AF.nil ?_ | refine AF.imm hT rfl rfl rfl ?_ | refine AH.of hT rfl ?_ | refine AD.cons hT rfl ?_ | refine AD.nil ?_ | refine AQ.cons hT rfl ?_ | refine AQ.nil ?_ | (refine AReq.mk (by omega) ?_) | (refine AIdx.atZ rcC_len i (by omega) hic ?_) | (refine AIdx.map1 (f := bV) (xs := c.keep) (i := k) hkl ?_)); conv => whnf)
          refine ACond.dec (fun h5 => ?_) (fun h5 => ?_)
          · have : (clampN c.cut : Int) = 64 := by
              unfold clampN
              split at h5 <;> omega
            rw [this]
            conv => whnf
            repeat ((first | refine AW.plan (id := 99) hm (.one 0 .nil) (by kernel_rfl) ?_ | refine AO.cons hT ?_ | refine AO.nil ?_ | refine AW.seq ?_ | refine AW.region ?_ | refine AW.cond ?_ | refine AW.block ?_ | refine AW.loop ?_ | refine AW.skip ?_ | refine AW.exit ?_ | refine AW.ret ?_ | refine AW.label ?_ | refine AW.scope ?_ | refine AF.one hT rfl ?_ | refine AF.nil ?_ | refine AF.imm hT rfl rfl rfl ?_ | refine AH.of hT rfl ?_ | refine AD.cons hT rfl ?_ | refine AD.nil ?_ | refine AQ.cons hT rfl ?_ | refine AQ.nil ?_ | (refine AReq.mk (by omega) ?_) | (refine AIdx.atZ rcC_len i (by omega) hic ?_) | (refine AIdx.map1 (f := bV) (xs := c.keep) (i := k) hkl ?_)); conv => whnf)
            exact AOut.to _ _ (Conv.fit (by repeat' (first | exact Fit.nil | refine Fit.any ?_ | refine Fit.same ?_))) ⟨rfl, rfl⟩
          · have : (clampN c.cut : Int) = if c.cut < 0 then 0 else c.cut := by
              unfold clampN
              split at h5 <;> omega
            rw [this]
            conv => whnf
            repeat ((first | refine AW.plan (id := 99) hm (.one 0 .nil) (by kernel_rfl) ?_ | refine AO.cons hT ?_ | refine AO.nil ?_ | refine AW.seq ?_ | refine AW.region ?_ | refine AW.cond ?_ | refine AW.block ?_ | refine AW.loop ?_ | refine AW.skip ?_ | refine AW.exit ?_ | refine AW.ret ?_ | refine AW.label ?_ | refine AW.scope ?_ | refine AF.one hT rfl ?_ | refine AF.nil ?_ | refine AF.imm hT rfl rfl rfl ?_ | refine AH.of hT rfl ?_ | refine AD.cons hT rfl ?_ | refine AD.nil ?_ | refine AQ.cons hT rfl ?_ | refine AQ.nil ?_ | (refine AReq.mk (by omega) ?_) | (refine AIdx.atZ rcC_len i (by omega) hic ?_) | (refine AIdx.map1 (f := bV) (xs := c.keep) (i := k) hkl ?_)); conv => whnf)
            exact AOut.to _ _ (Conv.fit (by repeat' (first | exact Fit.nil | refine Fit.any ?_ | refine Fit.same ?_))) ⟨rfl, rfl⟩
        rintro _ _ ⟨rfl, rfl⟩
        refine AW.still (l := 0) rfl (pad [.any, .any, .ptr 0 0, .ptr 1 0, .ptr 2 0, nV k, nV i, sV (cs[i].now.extract 0 (clampN c.cut) ++ cs[i].safe.extract (clampN c.cut) cs[i].safe.size)] 88) (by simp [pad, plainL, AV.plain]) ?_ ?_ ?_
        · intro b hb hv
          simp only [List.mem_cons, List.not_mem_nil, or_false] at hb
          rcases hb with rfl | rfl | rfl | rfl
          · simp [ABlk.plain, plainL, AV.plain, bV]
          · exact hv.elim
          · simp [ABlk.plain, plainL, AV.plain, bV]
          · exact rcs_plain cs
        · refine AW.still (l := 3) rfl (pad [.any, .any, .ptr 0 0, .ptr 1 0, .ptr 2 0, nV k, nV i, sV (cs[i].now.extract 0 (clampN c.cut) ++ cs[i].safe.extract (clampN c.cut) cs[i].safe.size)] 88) (by simp [pad, plainL, AV.plain]) ?_ ?_ ?_
          · intro b hb hv
            simp only [List.set_cons_zero, List.mem_cons, List.not_mem_nil, or_false] at hb
            rcases hb with rfl | rfl | rfl | rfl
            · exact hv.elim
            · exact hv.elim
            · simp [ABlk.plain, plainL, AV.plain, bV]
            · exact rcs_plain cs
          · refine AW.plan hm (.one 0 (.one 2 (.one 6 (.one 8 (.one 10 (.one 14 (.imm 1 (.one 3 (.one 4 (.imm 5 (.one 7 (.one 9 (.one 11 (.one 12 (.one 13 (.one 15 (.one 16 (.one 17 .nil)))))))))))))))))) (by kernel_rfl) ?_
            conv => whnf
            repeat ((first | refine AW.plan (id := 99) hm (.one 0 .nil) (by kernel_rfl) ?_ | refine AO.cons hT ?_ | refine AO.nil ?_ | refine AW.seq ?_ | refine AW.region ?_ | refine AW.cond ?_ | refine AW.block ?_ | refine AW.loop ?_ | refine AW.skip ?_ | refine AW.exit ?_ | refine AW.ret ?_ | refine AW.label ?_ | refine AW.scope ?_ | refine AF.one hT rfl ?_ | refine AF.nil ?_ | refine AF.imm hT rfl rfl rfl ?_ | refine AH.of hT rfl ?_ | refine AD.cons hT rfl ?_ | refine AD.nil ?_ | refine AQ.cons hT rfl ?_ | refine AQ.nil ?_ | (refine AReq.mk (by omega) ?_) | (refine AIdx.atZ rcC_len i (by omega) hic ?_) | (refine AIdx.map1 (f := bV) (xs := c.keep) (i := k) hkl ?_)); conv => whnf)
            rw [Int.toNat_natCast]
            refine AReq.mk (by rw [ByteArray.size_extract, ByteArray.size_extract]; omega) ?_
            conv => whnf
            repeat ((first | refine AW.plan (id := 99) hm (.one 0 .nil) (by kernel_rfl) ?_ | refine AO.cons hT ?_ | refine AO.nil ?_ | refine AW.seq ?_ | refine AW.region ?_ | refine AW.cond ?_ | refine AW.block ?_ | refine AW.loop ?_ | refine AW.skip ?_ | refine AW.exit ?_ | refine AW.ret ?_ | refine AW.label ?_ | refine AW.scope ?_ | refine AF.one hT rfl ?_ | refine AF.nil ?_ | refine AF.imm hT rfl rfl rfl ?_ | refine AH.of hT rfl ?_ | refine AD.cons hT rfl ?_ | refine AD.nil ?_ | refine AQ.cons hT rfl ?_ | refine AQ.nil ?_ | (refine AReq.mk (by omega) ?_) | (refine AIdx.atZ rcC_len i (by omega) hic ?_) | (refine AIdx.map1 (f := bV) (xs := c.keep) (i := k) hkl ?_)); conv => whnf)
            exact AOut.to _ _ (Conv.fit (by repeat' (first | exact Fit.nil | refine Fit.any ?_ | refine Fit.same ?_))) ⟨rfl, rfl⟩
          · exact AOut.stay ⟨rfl, rfl⟩
        · exact AOut.stay ⟨rfl, rfl⟩
      · rw [if_neg h4]
        conv => whnf
        repeat ((first | refine AW.plan (id := 99) hm (.one 0 .nil) (by kernel_rfl) ?_ | refine AO.cons hT ?_ | refine AO.nil ?_ | refine AW.seq ?_ | refine AW.region ?_ | refine AW.cond ?_ | refine AW.block ?_ | refine AW.loop ?_ | refine AW.skip ?_ | refine AW.exit ?_ | refine AW.ret ?_ | refine AW.label ?_ | refine AW.scope ?_ | refine AF.one hT rfl ?_ | refine AF.nil ?_ | refine AF.imm hT rfl rfl rfl ?_ | refine AH.of hT rfl ?_ | refine AD.cons hT rfl ?_ | refine AD.nil ?_ | refine AQ.cons hT rfl ?_ | refine AQ.nil ?_ | (refine AReq.mk (by omega) ?_) | (refine AIdx.atZ rcC_len i (by omega) hic ?_) | (refine AIdx.map1 (f := bV) (xs := c.keep) (i := k) hkl ?_)); conv => whnf)
        exact AOut.to _ _ (Conv.fit (by repeat' (first | exact Fit.nil | refine Fit.any ?_ | refine Fit.same ?_))) ⟨rfl, rfl⟩
    rintro _ _ ⟨rfl, rfl⟩
    conv => whnf
    repeat ((first | refine AW.plan (id := 99) hm (.one 0 .nil) (by kernel_rfl) ?_ | refine AO.cons hT ?_ | refine AO.nil ?_ | refine AW.seq ?_ | refine AW.region ?_ | refine AW.cond ?_ | refine AW.block ?_ | refine AW.loop ?_ | refine AW.skip ?_ | refine AW.exit ?_ | refine AW.ret ?_ | refine AW.label ?_ | refine AW.scope ?_ | refine AF.one hT rfl ?_ | refine AF.nil ?_ | refine AF.imm hT rfl rfl rfl ?_ | refine AH.of hT rfl ?_ | refine AD.cons hT rfl ?_ | refine AD.nil ?_ | refine AQ.cons hT rfl ?_ | refine AQ.nil ?_ | (refine AReq.mk (by omega) ?_) | (refine AIdx.atZ rcC_len i (by omega) hic ?_) | (refine AIdx.map1 (f := bV) (xs := c.keep) (i := k) hkl ?_)); conv => whnf)
    refine AReq.mk rfl ?_
    refine AUpd.flat rcC_len i ⟨leftF c k cs[i], leftF c k cs[i], false⟩ (show 0 + Int.toNat (i : Int) * 3 + 0 = i * 3 by omega) hic rfl ?_
    conv => whnf
    repeat ((first | refine AW.plan (id := 99) hm (.one 0 .nil) (by kernel_rfl) ?_ | refine AO.cons hT ?_ | refine AO.nil ?_ | refine AW.seq ?_ | refine AW.region ?_ | refine AW.cond ?_ | refine AW.block ?_ | refine AW.loop ?_ | refine AW.skip ?_ | refine AW.exit ?_ | refine AW.ret ?_ | refine AW.label ?_ | refine AW.scope ?_ | refine AF.one hT rfl ?_ | refine AF.nil ?_ | refine AF.imm hT rfl rfl rfl ?_ | refine AH.of hT rfl ?_ | refine AD.cons hT rfl ?_ | refine AD.nil ?_ | refine AQ.cons hT rfl ?_ | refine AQ.nil ?_ | (refine AReq.mk (by omega) ?_) | (refine AIdx.atZ rcC_len i (by omega) hic ?_) | (refine AIdx.map1 (f := bV) (xs := c.keep) (i := k) hkl ?_)); conv => whnf)
    rw [w1, wrap_i64 ((k : Int) + 1) (by omega) (by omega)]
    refine AHead.mk (j - 1) _ _ (by omega) ⟨i + 1, by omega, rfl, rfl⟩ ?_
    rw [← hst, hcp]
    exact Conv.fit (by repeat' (first | exact Fit.nil | refine Fit.any ?_ | refine Fit.same ?_))
  · obtain rfl : j = 0 := by omega
    obtain rfl : i = d.cells.length := by omega
    conv => whnf
    repeat ((first | refine AW.plan (id := 99) hm (.one 0 .nil) (by kernel_rfl) ?_ | refine AO.cons hT ?_ | refine AO.nil ?_ | refine AW.seq ?_ | refine AW.region ?_ | refine AW.cond ?_ | refine AW.block ?_ | refine AW.loop ?_ | refine AW.skip ?_ | refine AW.exit ?_ | refine AW.ret ?_ | refine AW.label ?_ | refine AW.scope ?_ | refine AF.one hT rfl ?_ | refine AF.nil ?_ | refine AF.imm hT rfl rfl rfl ?_ | refine AH.of hT rfl ?_ | refine AD.cons hT rfl ?_ | refine AD.nil ?_ | refine AQ.cons hT rfl ?_ | refine AQ.nil ?_ | (refine AReq.mk (by omega) ?_) | (refine AIdx.atZ rcC_len i (by omega) hic ?_) | (refine AIdx.map1 (f := bV) (xs := c.keep) (i := k) hkl ?_)); conv => whnf)
    refine AOut.stay ?_
    conv => whnf
    repeat ((first | refine AW.plan (id := 99) hm (.one 0 .nil) (by kernel_rfl) ?_ | refine AO.cons hT ?_ | refine AO.nil ?_ | refine AW.seq ?_ | refine AW.region ?_ | refine AW.cond ?_ | refine AW.block ?_ | refine AW.loop ?_ | refine AW.skip ?_ | refine AW.exit ?_ | refine AW.ret ?_ | refine AW.label ?_ | refine AW.scope ?_ | refine AF.one hT rfl ?_ | refine AF.nil ?_ | refine AF.imm hT rfl rfl rfl ?_ | refine AH.of hT rfl ?_ | refine AD.cons hT rfl ?_ | refine AD.nil ?_ | refine AQ.cons hT rfl ?_ | refine AQ.nil ?_ | (refine AReq.mk (by omega) ?_) | (refine AIdx.atZ rcC_len i (by omega) hic ?_) | (refine AIdx.map1 (f := bV) (xs := c.keep) (i := k) hkl ?_)); conv => whnf)
    exact AFin.to (rdV (rbootF d c)) [] (Conv.out (.agg (.cons (.sm' rfl (by rw [flat_length rcC_len]) (by rw [mix_all (rbL_len c d.cells 0) rfl]; rfl) (rbL_len c d.cells 0).symm) (LendL.it _))) (fun ρ => rdV_ren ρ _)) ⟨rfl, rfl⟩
end Go.Aw.E1

set_option linter.unusedSimpArgs false
set_option linter.unusedVariables false
namespace Go.Aw.E1
open Go Go.Proofs

/-- a device, and the document's -/
structure RelD (x : Dd) (d : Rd) : Prop where
  len : d.cells.length = x.n
  ops : d.ops = x.o
  armed : d.armed = x.a
  pos : 0 ≤ x.a
  le : x.a ≤ 9223372036854775807
  dead : d.dead = x.f
  cell : ∀ (j : Nat) (c : Rc), d.cells[j]? = some c → c.now.data.toList = nowOf x j ∧ c.loose = (safeOf x j).isSome ∧ c.safe.data.toList = (safeOf x j).getD (nowOf x j)

theorem now_len {x : Dd} (hx : Dok x) {j : Nat} (h : j < x.n) : (nowOf x j).length = 64 := cellOf_len (by have := hx.len; omega)
theorem RelD.size {x : Dd} {d : Rd} (h : RelD x d) (hx : Dok x) : ∀ c ∈ d.cells, c.now.size = 64 ∧ c.safe.size = 64 := by
  intro c hc
  obtain ⟨j, hj⟩ := List.getElem?_of_mem hc
  have hjn : j < x.n := by rw [← h.len]; exact (List.getElem?_eq_some_iff.1 hj).1
  obtain ⟨h1, h2, h3⟩ := h.cell j c hj
  have hn := now_len hx hjn
  refine ⟨by rw [← size_list, h1, hn], ?_⟩
  rw [← size_list, h3]
  cases hs : safeOf x j with
  | none => exact hn
  | some s => exact (look_len hx hs).1
theorem RelD.ne {x : Dd} {d : Rd} (h : RelD x d) (hx : Dok x) : d.cells ≠ [] := by
  intro e
  have := h.len; have := hx.pos
  rw [e] at *; simp at *; omega

theorem rel_cnt {x : Dd} {d : Rd} (h : RelD x d) (hf : x.f = false) : RelD (lastD x) (cntF d) ∧ lastB x = decide (d.armed = 1) ∧ (lastD x).f = lastB x := by
  have hp := h.pos
  have hle := h.le
  have ha := h.armed
  have hcell : ∀ (j : Nat) (c : Rc), (cntF d).cells[j]? = some c → c.now.data.toList = nowOf (lastD x) j ∧ c.loose = (safeOf (lastD x) j).isSome ∧ c.safe.data.toList = (safeOf (lastD x) j).getD (nowOf (lastD x) j) := by
    intro j c hc
    rw [last_now, last_safe]
    exact h.cell j c hc
  by_cases h0 : x.a = 0
  · obtain ⟨l1, l2⟩ := last0 h0
    refine ⟨⟨by rw [l2]; exact h.len, ?_, ?_, ?_, ?_, ?_, hcell⟩, ?_, ?_⟩
    · rw [l2]; show IntKind.wrap .i64 (d.ops + 1) = _; rw [h.ops]
    · rw [l2]; show (if d.armed > 0 then _ else _) = x.a; rw [if_neg (by omega)]; exact ha
    · rw [l2]; exact hp
    · rw [l2]; exact hle
    · rw [l2]; show (if d.armed = 1 then _ else _) = x.f; rw [if_neg (by omega)]; exact h.dead
    · rw [l1, decide_eq_false (by omega)]
    · rw [l1, l2]; exact hf
  · have w : IntKind.wrap .i64 (x.a - 1) = x.a - 1 := wrap_i64 _ (by omega) (by omega)
    have l1 : lastB x = decide (x.a - 1 = 0) := by unfold lastB; rw [if_neg h0, w]
    have l2 : lastD x = { x with o := IntKind.wrap .i64 (x.o + 1), a := x.a - 1, f := decide (x.a - 1 = 0) } := by unfold lastD; rw [if_neg h0, w]
    refine ⟨⟨by rw [l2]; exact h.len, ?_, ?_, ?_, ?_, ?_, hcell⟩, ?_, ?_⟩
    · rw [l2]; show IntKind.wrap .i64 (d.ops + 1) = _; rw [h.ops]
    · rw [l2]; show (if d.armed > 0 then IntKind.wrap .i64 (d.armed - 1) else _) = x.a - 1; rw [if_pos (by omega), ha, w]
    · rw [l2]; show 0 ≤ x.a - 1; omega
    · rw [l2]; show x.a - 1 ≤ _; omega
    · rw [l2]; show (if d.armed = 1 then true else d.dead) = decide (x.a - 1 = 0)
      by_cases h1 : x.a = 1
      · rw [if_pos (by omega), decide_eq_true (by omega)]
      · rw [if_neg (by omega), decide_eq_false (by omega), h.dead, hf]
    · rw [l1, ha]; congr 1; exact propext ⟨fun _ => by omega, fun _ => by omega⟩
    · rw [l1, l2]
theorem rel_put {x : Dd} {d : Rd} (hx : Dok x) (h : RelD x d) {k : Nat} (hk : k < x.n) (t : ByteArray) (ht : t.size = 64) : RelD (putD x k t.data.toList) (rputF d k t) := by
  have hl := h.len
  have ht' : t.data.toList.length = 64 := by rw [size_list]; exact ht
  refine ⟨?_, h.ops, h.armed, h.pos, h.le, h.dead, ?_⟩
  · show (d.cells.set _ _).length = x.n
    rw [List.length_set]; exact hl
  · intro j c hc
    have hc : (d.cells.set k ⟨t, (d.cells.getD k rz).safe, true⟩)[j]? = some c := hc
    rw [now_put hx ht' hk, safe_put]
    by_cases e : j = k
    · subst e
      rw [List.getElem?_set_self (by omega)] at hc
      cases hc
      rw [if_pos rfl, if_pos rfl]
      have hjl : j < d.cells.length := by omega
      have := h.cell j d.cells[j] (List.getElem?_eq_getElem hjl)
      have hge : d.cells.getD j rz = d.cells[j] := by rw [List.getD_eq_getElem?_getD, List.getElem?_eq_getElem hjl]; rfl
      refine ⟨rfl, rfl, ?_⟩
      show (d.cells.getD j rz).safe.data.toList = _
      rw [hge, this.2.2]; rfl
    · rw [List.getElem?_set_ne (fun g => e g.symm)] at hc
      rw [if_neg e, if_neg e]
      exact h.cell j c hc
theorem rel_wr (s : ByteArray) (a : Nat) : ∀ (m i : Nat) (x : Dd) (d : Rd), Dok x → RelD x d → x.f = false → a + i + m ≤ x.n → 64 * (i + m) ≤ s.size →
    RelD (wrF m x (a + i) (s.data.toList.drop (64 * i))).1 (rwrF m d a s i).1 ∧ (wrF m x (a + i) (s.data.toList.drop (64 * i))).2 = (rwrF m d a s i).2
  | 0, i, x, d, hx, h, hf, _, _ => by rw [wrF, rwrF]; exact ⟨h, rfl⟩
  | m + 1, i, x, d, hx, h, hf, h1, h2 => by
    obtain ⟨r1, r2, r3⟩ := rel_cnt h hf
    have hsz : (s.extract (64 * i) (64 * i + 64)).size = 64 := by rw [ByteArray.size_extract]; omega
    have hxs : (s.extract (64 * i) (64 * i + 64)).data.toList = (s.data.toList.drop (64 * i)).take 64 := by rw [ext_list, show 64 * i + 64 - 64 * i = 64 by omega]
    have hk : a + i < (lastD x).n := by rw [lastD_n]; omega
    have r4 := rel_put hx.last r1 hk _ hsz
    have r5 := hx.last.put (t := (s.data.toList.drop (64 * i)).take 64) hk (by rw [← hxs, size_list, hsz])
    rw [hxs] at r4
    rw [wrF, rwrF, r2]
    by_cases g : d.armed = 1
    · rw [if_pos (decide_eq_true g), if_pos g]
      exact ⟨r4, rfl⟩
    · rw [if_neg (by simpa using g), if_neg g]
      have := rel_wr s a m (i + 1) _ _ r5 r4 (by show (lastD x).f = false; rw [r3, r2]; exact decide_eq_false g) (by show a + (i + 1) + m ≤ (lastD x).n; rw [lastD_n]; omega) (by omega)
      rw [List.drop_drop, show 64 * i + 64 = 64 * (i + 1) by omega]
      exact this
theorem rel_write {x : Dd} {d : Rd} (hx : Dok x) (h : RelD x d) (at_ : Int) (s : ByteArray) : RelD (writeF x at_ s).1 (rwriteF d at_ s).1 ∧ (writeF x at_ s).2 = (rwriteF d at_ s).2 := by
  have hs := size_list s
  have hl := h.len
  unfold writeF rwriteF
  rw [h.dead]
  rcases Bool.eq_false_or_eq_true x.f with hf | hf
  · simp only [hf, if_true]; exact ⟨h, trivial⟩
  simp only [hf, Bool.false_eq_true, if_false]
  by_cases g : s.size / 64 = 0 ∨ s.size % 64 ≠ 0
  · rw [if_pos g, if_pos (show (s.size = 0 ∨ s.size % 64 ≠ 0) by omega)]; exact ⟨h, rfl⟩
  rw [if_neg g, if_neg (show ¬ (s.size = 0 ∨ s.size % 64 ≠ 0) by omega)]
  by_cases g2 : 0 ≤ at_ ∧ at_ < x.n ∧ ((s.size / 64 : Nat) : Int) ≤ x.n - at_
  · rw [if_pos g2, if_neg (show ¬ (at_ < 0 ∨ at_ > d.cells.length ∨ ((s.size / 64 : Nat) : Int) > d.cells.length - at_) by omega)]
    have := rel_wr s at_.toNat (s.size / 64) 0 x d hx h hf (by omega) (by omega)
    rw [Nat.add_zero, Nat.mul_zero, List.drop_zero] at this
    exact this
  · rw [if_neg g2, if_pos (show (at_ < 0 ∨ at_ > d.cells.length ∨ ((s.size / 64 : Nat) : Int) > d.cells.length - at_) by omega)]; exact ⟨h, rfl⟩
theorem rel_flush {x : Dd} {d : Rd} (hx : Dok x) (h : RelD x d) : RelD (flushD x) (rflushF d).1 ∧ flushE x = (rflushF d).2 := by
  unfold flushD flushE rflushF
  rw [h.dead]
  rcases Bool.eq_false_or_eq_true x.f with hf | hf
  · simp only [hf, if_true]; exact ⟨h, trivial⟩
  simp only [hf, Bool.false_eq_true, if_false]
  obtain ⟨r1, r2, r3⟩ := rel_cnt h hf
  rw [r2]
  by_cases g : d.armed = 1
  · rw [if_pos (decide_eq_true g), if_pos g]
    exact ⟨r1, by rw [if_pos (decide_eq_true g)]⟩
  · rw [if_neg (by simpa using g), if_neg g, if_neg (by simpa using g)]
    refine ⟨⟨?_, r1.ops, r1.armed, r1.pos, r1.le, r1.dead, ?_⟩, rfl⟩
    · show (d.cells.map rfl1).length = (lastD x).n
      rw [List.length_map]; exact r1.len
    · intro j c hc
      have hc : (d.cells.map rfl1)[j]? = some c := hc
      rw [List.getElem?_map, Option.map_eq_some_iff] at hc
      obtain ⟨c0, h0, rfl⟩ := hc
      have := r1.cell j c0 h0
      exact ⟨this.1, rfl, this.1⟩
theorem loose_keys {x : Dd} {d : Rd} (hx : Dok x) (h : RelD x d) : kS x.L = rlooseF d.cells d.cells.length := by
  have hsub : (rlooseF d.cells d.cells.length).Pairwise (fun x y => x < y) := by
    unfold rlooseF
    rw [List.pairwise_map]
    have := (List.pairwise_lt_range (n := d.cells.length)).filter (fun j => (d.cells.getD j ⟨e0, e0, false⟩).loose)
    exact this.imp (fun h => by omega)
  refine kS_of hx.nd hsub (fun k => ?_)
  unfold rlooseF
  constructor
  · intro hk
    obtain ⟨p, hp, rfl⟩ := List.mem_map.1 hk
    have hr := hx.keys p hp
    obtain ⟨j, hj⟩ : ∃ j : Nat, p.1 = j := ⟨p.1.toNat, by omega⟩
    have hjl : j < d.cells.length := by rw [h.len]; omega
    refine List.mem_map.2 ⟨j, ?_, hj.symm⟩
    rw [List.mem_filter, List.mem_range]
    refine ⟨hjl, ?_⟩
    rw [List.getD_eq_getElem?_getD, List.getElem?_eq_getElem hjl]
    show d.cells[j].loose = true
    rw [(h.cell j _ (List.getElem?_eq_getElem hjl)).2.1]
    exact look_mem.2 (by rw [← hj]; exact hk)
  · intro hk
    obtain ⟨j, hj, rfl⟩ := List.mem_map.1 hk
    rw [List.mem_filter, List.mem_range] at hj
    obtain ⟨hjl, hj⟩ := hj
    rw [List.getD_eq_getElem?_getD, List.getElem?_eq_getElem hjl] at hj
    have hj : d.cells[j].loose = true := hj
    rw [(h.cell j _ (List.getElem?_eq_getElem hjl)).2.1] at hj
    exact look_mem.1 hj
theorem rloose_idx (cs : List Rc) : ∀ (n j : Nat) (hn : n ≤ cs.length) (hj : j < n), (cs[j]'(by omega)).loose = true → (rlooseF cs n).idxOf (j : Int) = (cs.take j).countP (·.loose)
  | 0, j, _, hj, _ => by omega
  | n + 1, j, hn, hj, hl => by
    have hst := rloose_step cs n (by omega)
    have hlen : ∀ m, m ≤ cs.length → (rlooseF cs m).length = (cs.take m).countP (·.loose) := by
      intro m
      induction m with
      | zero => intro _; rfl
      | succ m ih =>
        intro hm
        have h1 := rloose_step cs m (by omega)
        rw [List.take_add_one, List.getElem?_eq_getElem (by omega), List.countP_append, ← ih (by omega), h1]
        by_cases g : (cs[m]'(by omega)).loose = true
        · rw [if_pos g, List.length_append]; simp [g]
        · rw [if_neg g]; simp [g]
    have hnot : ∀ m, (m : Int) ∉ rlooseF cs m := by
      intro m hm
      unfold rlooseF at hm
      obtain ⟨i, hi, he⟩ := List.mem_map.1 hm
      rw [List.mem_filter, List.mem_range] at hi
      omega
    by_cases e : j = n
    · subst e
      rw [hst, if_pos hl, List.idxOf_append, if_neg (hnot j)]
      simp [hlen j (by omega)]
    · have ih := rloose_idx cs n j (by omega) (by omega) hl
      have hmem : (j : Int) ∈ rlooseF cs n := by
        unfold rlooseF
        rw [List.mem_map]
        refine ⟨j, ?_, rfl⟩
        rw [List.mem_filter, List.mem_range]
        refine ⟨by omega, ?_⟩
        rw [List.getD_eq_getElem?_getD, List.getElem?_eq_getElem (by omega)]
        exact hl
      rw [hst]
      split
      · rw [List.idxOf_append, if_pos hmem]; exact ih
      · exact ih
theorem left_list {c : Ch} {k : Nat} {x : Rc} (hn : x.now.size = 64) (hs : x.safe.size = 64) : (leftF c k x).data.toList = bootW c k x.now.data.toList x.safe.data.toList := by
  have := size_list x.safe
  unfold leftF bootW
  split
  · rw [ByteArray.data_append, Array.toList_append, ext_list, ext_list, List.drop_zero, Nat.sub_zero]
    congr 1
    rw [List.take_of_length_le]
    rw [List.length_drop]; omega
  · split <;> rfl
theorem rel_boot {x : Dd} {d : Rd} (hx : Dok x) (h : RelD x d) (c : Ch) : RelD (bootD c x) (rbootF d c) := by
  obtain ⟨o1, o2, o3⟩ := boot_ok hx c
  refine ⟨?_, ?_, rfl, by show (0 : Int) ≤ 0; omega, by show (0 : Int) ≤ _; omega, rfl, ?_⟩
  · show (rbL c d.cells 0).length = _
    rw [rbL_len, o2]; exact h.len
  · show d.ops = (bootL c 0 (kS x.L) x).o
    have : ∀ (S : List Int) (i : Nat) (y : Dd), (bootL c i S y).o = y.o := by
      intro S
      induction S with
      | nil => intro i y; rfl
      | cons k S ih => intro i y; rw [bootL, ih]; rfl
    rw [this]; exact h.ops
  · intro j r hr
    have hr : (rbL c d.cells 0)[j]? = some r := hr
    obtain ⟨hjl, hr⟩ := List.getElem?_eq_some_iff.1 hr
    have hj : j < d.cells.length := by rw [rbL_len] at hjl; exact hjl
    rw [rbL_get c d.cells 0 j hj, Nat.zero_add] at hr
    obtain ⟨c1, c2, c3⟩ := h.cell j _ (List.getElem?_eq_getElem hj)
    have hsz := h.size hx _ (List.getElem_mem hj)
    rw [safe_boot hx, now_boot hx]
    by_cases hlo : d.cells[j].loose = true
    · rw [if_pos hlo] at hr
      subst hr
      rw [hlo] at c2
      obtain ⟨s, hs⟩ := Option.isSome_iff_exists.1 c2.symm
      rw [hs] at c3 ⊢
      have hidx := rloose_idx d.cells d.cells.length j (Nat.le_refl _) hj hlo
      rw [loose_keys hx h, hidx]
      have hw := left_list (c := c) (k := (d.cells.take j).countP (·.loose)) hsz.1 hsz.2
      rw [c1, c3] at hw
      exact ⟨hw, rfl, hw⟩
    · rw [if_neg hlo] at hr
      subst hr
      have hf : d.cells[j].loose = false := by simpa using hlo
      rw [hf] at c2
      have hs : safeOf x j = none := Option.isSome_eq_false_iff.1 c2.symm |> Option.isNone_iff_eq_none.1
      rw [hs] at c3 ⊢
      exact ⟨c1, hf, c3⟩
theorem rel_new {n : Nat} (h0 : 0 < n) (h : n ≤ 2000) : RelD (newD n) (newR n) := by
  refine ⟨by simp [newR, newD], rfl, rfl, Int.le_refl _, by show (0 : Int) ≤ _; omega, rfl, ?_⟩
  intro j c hc
  have hc : (List.replicate n rz)[j]? = some c := hc
  rw [List.getElem?_replicate] at hc
  split at hc
  · rename_i hj
    cases hc
    have e : nowOf (newD n) j = List.replicate 64 0 := by
      unfold nowOf cellOf newD
      show (List.drop (64 * j) (List.replicate (64 * n) 0)).take 64 = _
      rw [List.drop_replicate, List.take_replicate]
      congr 1; omega
    have e2 : safeOf (newD n) j = none := rfl
    rw [e2, e]
    exact ⟨rfl, rfl, rfl⟩
  · cases hc
theorem cat_list {x : Dd} {d : Rd} (hx : Dok x) (h : RelD x d) (a : Nat) : ∀ m, a + m ≤ x.n → (((d.cells.drop a).take m).flatMap fun c => c.now.data.toList) = (x.cs.drop (64 * a)).take (64 * m)
  | 0, _ => by simp
  | m + 1, hm => by
    have hl := h.len
    have ih := cat_list hx h a m (by omega)
    have hj : a + m < d.cells.length := by omega
    have hc := (h.cell (a + m) _ (List.getElem?_eq_getElem hj)).1
    rw [List.take_add_one, List.getElem?_drop, List.getElem?_eq_getElem hj, List.flatMap_append, ih, show 64 * (m + 1) = 64 * m + 64 by omega, List.take_add, List.drop_drop]
    congr 1
    show List.flatMap _ [d.cells[a + m]] = _
    rw [List.flatMap_cons, List.flatMap_nil, List.append_nil, hc]
    unfold nowOf cellOf
    rw [show 64 * (a + m) = 64 * a + 64 * m by omega]
theorem rel_read {x : Dd} {d : Rd} (hx : Dok x) (h : RelD x d) (at_ n : Int) : readF x at_ n = rreadF d at_ n := by
  have hl := h.len
  unfold readF rreadF
  rw [h.dead]
  rcases Bool.eq_false_or_eq_true x.f with hf | hf
  · simp only [hf, if_true]
  simp only [hf, Bool.false_eq_true, if_false]
  by_cases g : n < 1
  · rw [if_pos g, if_pos g]
  rw [if_neg g, if_neg g]
  by_cases g2 : 0 ≤ at_ ∧ at_ < x.n ∧ n ≤ x.n - at_
  · rw [if_pos g2, if_neg (show ¬ (at_ < 0 ∨ at_ > d.cells.length ∨ n > d.cells.length - at_) by omega)]
    unfold catF
    rw [cat_list hx h at_.toNat n.toNat (by omega)]
  · rw [if_neg g2, if_pos (show (at_ < 0 ∨ at_ > d.cells.length ∨ n > d.cells.length - at_) by omega)]

def rarmF (d : Rd) (n : Int) : Rd × Int := (if d.dead then d else if n < 1 then d else { d with armed := n }, if d.dead then 20 else if n < 1 then 2 else 0)
def rdoF (d : Rd) (a : Ac) : Rd × Int :=
  if a.kind = 0 then rwriteF d a.at_ (acT a) else if a.kind = 1 then rflushF d else
  if a.kind = 2 then rarmF d a.n else
  if a.kind = 3 then ({ d with dead := true, armed := 0 }, 0) else if a.kind = 4 then (rbootF d a.ch, 0) else (d, 0)
theorem rel_do {x : Dd} {d : Rd} (hx : Dok x) (h : RelD x d) (a : Ac) (ha : a.n ≤ 9223372036854775807) : RelD (doF x a).1 (rdoF d a).1 ∧ (doF x a).2 = (rdoF d a).2 := by
  unfold doF rdoF
  split
  · exact rel_write hx h _ _
  split
  · exact rel_flush hx h
  split
  · unfold rarmF
    rw [h.dead]
    dsimp only
    split
    · exact ⟨h, rfl⟩
    · split
      · exact ⟨h, rfl⟩
      · refine ⟨⟨h.len, h.ops, rfl, ?_, ha, ?_, h.cell⟩, rfl⟩
        · show 0 ≤ a.n; omega
        · first | exact h.dead | rfl
  split
  · exact ⟨⟨h.len, h.ops, rfl, by show (0 : Int) ≤ 0; omega, by show (0 : Int) ≤ _; omega, rfl, h.cell⟩, rfl⟩
  split
  · exact ⟨rel_boot hx h _, rfl⟩
  · exact ⟨h, rfl⟩
end Go.Aw.E1

set_option linter.unusedSimpArgs false
set_option linter.unusedVariables false
set_option maxHeartbeats 1000000
namespace Go.Aw.E1
open Go Go.Proofs

theorem f19 (d : Rd) (a : Ac) (hd : d.cells ≠ []) (hl : d.cells.length ≤ 2000) (h64 : ∀ x ∈ d.cells, x.now.size = 64 ∧ x.safe.size = 64) (ha : acWf a) (hn : a.n ≤ 100) (hk : a.ch.keep.length ≤ 3000) :
    Fun P 19 [rdV d, .agg (acC a)] (.tup [rdV (rdoF d a).1, nV (rdoF d a).2]) := by
  obtain ⟨kd, at_, n, b, ch⟩ := a
  have hn : n ≤ 100 := hn
  have hk : ch.keep.length ≤ 3000 := hk
  have h35 := f35 ⟨kd, at_, n, b, ch⟩ (by show n ≤ 1000000; omega)
  have hts := acT_le ⟨kd, at_, n, b, ch⟩ hn
  have hr : ∀ {N e} (d : Rd), (AV.tup [rdV d, nV e]).ren (nm [] N) = AV.tup [rdV d, nV e] := fun d => tupN _ _ _
  have hke : kd = 0 ∨ kd = 1 ∨ kd = 2 ∨ kd = 3 ∨ kd = 4 ∨ (kd ≠ 0 ∧ kd ≠ 1 ∧ kd ≠ 2 ∧ kd ≠ 3 ∧ kd ≠ 4) := by omega
  refine spec_of hT (f := 19) (fn := Go.Proofs.Try.f19) (c := body Go.Proofs.Try.f19) (by kernel_rfl) (by kernel_rfl) ?_
  rcases hke with rfl | rfl | rfl | rfl | rfl | ⟨k0, k1, k2, k3, k4⟩
  · conv => whnf
    repeat ((first | refine AW.plan (id := 3) hm (.one 1 (.one 3 (.imm 0 (.imm 2 (.one 4 (.one 5 (.one 6 (.one 7 (.one 8 (.one 9 .nil)))))))))) (by kernel_rfl) ?_ | refine AO.cons hT ?_ | refine AO.nil ?_ | refine AW.cond ?_ | refine AW.block ?_ | refine AW.loop ?_ | refine AW.skip ?_ | refine AW.exit ?_ | refine AW.ret ?_ | refine AW.label ?_ | refine AW.scope ?_ | refine AF.one hT rfl ?_ | refine AF.nil ?_ | refine AF.imm hT rfl rfl rfl ?_ | refine AH.of hT rfl ?_ | refine AD.cons hT rfl ?_ | refine AD.nil ?_ | refine AQ.cons hT rfl ?_ | refine AQ.nil ?_); conv => whnf)
    refine AW.seq ?_
    conv => whnf
    refine AW.region ?_
    conv => whnf
    repeat ((first | refine AW.plan (id := 3) hm (.one 1 (.one 3 (.imm 0 (.imm 2 (.one 4 (.one 5 (.one 6 (.one 7 (.one 8 (.one 9 .nil)))))))))) (by kernel_rfl) ?_ | refine AO.cons hT ?_ | refine AO.nil ?_ | refine AW.cond ?_ | refine AW.block ?_ | refine AW.loop ?_ | refine AW.skip ?_ | refine AW.exit ?_ | refine AW.ret ?_ | refine AW.label ?_ | refine AW.scope ?_ | refine AF.one hT rfl ?_ | refine AF.nil ?_ | refine AF.imm hT rfl rfl rfl ?_ | refine AH.of hT rfl ?_ | refine AD.cons hT rfl ?_ | refine AD.nil ?_ | refine AQ.cons hT rfl ?_ | refine AQ.nil ?_); conv => whnf)
    refine AW.conv _ _ (Conv.freeze 0 (t := 44) (cs := rdC d) rfl) ?_
    refine AW.conv _ _ (Conv.freeze 1 (t := 50) (cs := acC ⟨0, at_, n, b, ch⟩) rfl) ?_
    conv => whnf
    repeat ((first | refine AW.plan (id := 3) hm (.one 1 (.one 3 (.imm 0 (.imm 2 (.one 4 (.one 5 (.one 6 (.one 7 (.one 8 (.one 9 .nil)))))))))) (by kernel_rfl) ?_ | refine AO.cons hT ?_ | refine AO.nil ?_ | refine AW.seq ?_ | refine AW.region ?_ | refine AW.cond ?_ | refine AW.block ?_ | refine AW.loop ?_ | refine AW.skip ?_ | refine AW.exit ?_ | refine AW.ret ?_ | refine AW.label ?_ | refine AW.scope ?_ | refine AF.one hT rfl ?_ | refine AF.nil ?_ | refine AF.imm hT rfl rfl rfl ?_ | refine AH.of hT rfl ?_ | refine AD.cons hT rfl ?_ | refine AD.nil ?_ | refine AQ.cons hT rfl ?_ | refine AQ.nil ?_ | (refine ACond.yes rfl ?_)); conv => whnf)
    refine ACall.val (by kernel_rfl) h35 (show renL _ [AV.agg (acC ⟨0, at_, n, b, ch⟩)] = [AV.agg (acC ⟨0, at_, n, b, ch⟩)] by simp only [renL, AV.ren, acC_ren]) rfl ?_
    conv => whnf
    repeat ((first | refine AW.plan (id := 3) hm (.one 1 (.one 3 (.imm 0 (.imm 2 (.one 4 (.one 5 (.one 6 (.one 7 (.one 8 (.one 9 .nil)))))))))) (by kernel_rfl) ?_ | refine AO.cons hT ?_ | refine AO.nil ?_ | refine AW.seq ?_ | refine AW.region ?_ | refine AW.cond ?_ | refine AW.block ?_ | refine AW.loop ?_ | refine AW.skip ?_ | refine AW.exit ?_ | refine AW.ret ?_ | refine AW.label ?_ | refine AW.scope ?_ | refine AF.one hT rfl ?_ | refine AF.nil ?_ | refine AF.imm hT rfl rfl rfl ?_ | refine AH.of hT rfl ?_ | refine AD.cons hT rfl ?_ | refine AD.nil ?_ | refine AQ.cons hT rfl ?_ | refine AQ.nil ?_ | (refine ACond.yes rfl ?_)); conv => whnf)
    refine ACall.val (by kernel_rfl) (f34 d at_ (acT ⟨0, at_, n, b, ch⟩) hd hl hts ha.2.1) (show renL _ [rdV d, nV at_, sV _] = [rdV d, nV at_, sV _] by show [(rdV d).ren _, _, _] = _; rw [rdV_ren]; rfl) (hr _) ?_
    conv => whnf
    repeat ((first | refine AW.plan (id := 3) hm (.one 1 (.one 3 (.imm 0 (.imm 2 (.one 4 (.one 5 (.one 6 (.one 7 (.one 8 (.one 9 .nil)))))))))) (by kernel_rfl) ?_ | refine AO.cons hT ?_ | refine AO.nil ?_ | refine AW.seq ?_ | refine AW.region ?_ | refine AW.cond ?_ | refine AW.block ?_ | refine AW.loop ?_ | refine AW.skip ?_ | refine AW.exit ?_ | refine AW.ret ?_ | refine AW.label ?_ | refine AW.scope ?_ | refine AF.one hT rfl ?_ | refine AF.nil ?_ | refine AF.imm hT rfl rfl rfl ?_ | refine AH.of hT rfl ?_ | refine AD.cons hT rfl ?_ | refine AD.nil ?_ | refine AQ.cons hT rfl ?_ | refine AQ.nil ?_ | (refine ACond.yes rfl ?_)); conv => whnf)
    exact AFin.val (hr _) ⟨rfl, rfl⟩
  · conv => whnf
    repeat (first | (refine AW.plan (id := 3) hm (.one 1 (.one 3 (.imm 0 (.imm 2 (.one 4 (.one 5 (.one 6 (.one 7 (.one 8 (.one 9 .nil)))))))))) (by kernel_rfl) ?_; conv => whnf) | (refine AW.label ?_; conv => whnf) | (refine AW.scope ?_; conv => whnf) | (refine AO.cons hT ?_; conv => whnf) | (refine AO.nil ?_; conv => whnf) | (refine AW.seq ?_; conv => whnf) | (refine AW.region ?_; conv => whnf) | (refine AW.cond ?_; conv => whnf) | (refine AW.block ?_; conv => whnf) | (refine AW.loop ?_; conv => whnf) | (refine AW.skip ?_; conv => whnf) | (refine AW.exit ?_; conv => whnf) | (refine AW.ret ?_; conv => whnf) | (refine AF.one hT rfl ?_; conv => whnf) | (refine AF.nil ?_; conv => whnf) | (refine AF.imm hT rfl rfl rfl ?_; conv => whnf) | (refine AH.of hT rfl ?_; conv => whnf) | (refine ASplit.yes rfl ?_; conv => whnf) | (refine ACond.yes rfl ?_; conv => whnf) | (refine ASplit.no rfl ?_; conv => whnf) | (refine ACond.no rfl ?_; conv => whnf) | (refine ASplit.yes (by decide) ?_; conv => whnf) | (refine ACond.yes (by decide) ?_; conv => whnf) | (refine AReq.mk (by decide) ?_; conv => whnf) | (refine AIdx.iff.2 ⟨by decide, ?_⟩; conv => whnf))
    refine ACall.val (by kernel_rfl) (f36 d hd hl) (rdV1 _ _) (hr _) ?_
    conv => whnf
    repeat ((first | refine AW.plan (id := 3) hm (.one 1 (.one 3 (.imm 0 (.imm 2 (.one 4 (.one 5 (.one 6 (.one 7 (.one 8 (.one 9 .nil)))))))))) (by kernel_rfl) ?_ | refine AO.cons hT ?_ | refine AO.nil ?_ | refine AW.seq ?_ | refine AW.region ?_ | refine AW.cond ?_ | refine AW.block ?_ | refine AW.loop ?_ | refine AW.skip ?_ | refine AW.exit ?_ | refine AW.ret ?_ | refine AW.label ?_ | refine AW.scope ?_ | refine AF.one hT rfl ?_ | refine AF.nil ?_ | refine AF.imm hT rfl rfl rfl ?_ | refine AH.of hT rfl ?_ | refine AD.cons hT rfl ?_ | refine AD.nil ?_ | refine AQ.cons hT rfl ?_ | refine AQ.nil ?_); conv => whnf)
    exact AFin.val (hr _) ⟨rfl, rfl⟩
  · conv => whnf
    repeat (first | (refine AW.plan (id := 3) hm (.one 1 (.one 3 (.imm 0 (.imm 2 (.one 4 (.one 5 (.one 6 (.one 7 (.one 8 (.one 9 .nil)))))))))) (by kernel_rfl) ?_; conv => whnf) | (refine AW.label ?_; conv => whnf) | (refine AW.scope ?_; conv => whnf) | (refine AO.cons hT ?_; conv => whnf) | (refine AO.nil ?_; conv => whnf) | (refine AW.seq ?_; conv => whnf) | (refine AW.region ?_; conv => whnf) | (refine AW.cond ?_; conv => whnf) | (refine AW.block ?_; conv => whnf) | (refine AW.loop ?_; conv => whnf) | (refine AW.skip ?_; conv => whnf) | (refine AW.exit ?_; conv => whnf) | (refine AW.ret ?_; conv => whnf) | (refine AF.one hT rfl ?_; conv => whnf) | (refine AF.nil ?_; conv => whnf) | (refine AF.imm hT rfl rfl rfl ?_; conv => whnf) | (refine AH.of hT rfl ?_; conv => whnf) | (refine ASplit.yes rfl ?_; conv => whnf) | (refine ACond.yes rfl ?_; conv => whnf) | (refine ASplit.no rfl ?_; conv => whnf) | (refine ACond.no rfl ?_; conv => whnf) | (refine ASplit.yes (by decide) ?_; conv => whnf) | (refine ACond.yes (by decide) ?_; conv => whnf) | (refine AReq.mk (by decide) ?_; conv => whnf) | (refine AIdx.iff.2 ⟨by decide, ?_⟩; conv => whnf))
    refine ACall.val (by kernel_rfl) (f37 d n) (show renL _ [rdV d, nV n] = [rdV d, nV n] by show [(rdV d).ren _, _] = _; rw [rdV_ren]; rfl) (hr _) ?_
    conv => whnf
    repeat ((first | refine AW.plan (id := 3) hm (.one 1 (.one 3 (.imm 0 (.imm 2 (.one 4 (.one 5 (.one 6 (.one 7 (.one 8 (.one 9 .nil)))))))))) (by kernel_rfl) ?_ | refine AO.cons hT ?_ | refine AO.nil ?_ | refine AW.seq ?_ | refine AW.region ?_ | refine AW.cond ?_ | refine AW.block ?_ | refine AW.loop ?_ | refine AW.skip ?_ | refine AW.exit ?_ | refine AW.ret ?_ | refine AW.label ?_ | refine AW.scope ?_ | refine AF.one hT rfl ?_ | refine AF.nil ?_ | refine AF.imm hT rfl rfl rfl ?_ | refine AH.of hT rfl ?_ | refine AD.cons hT rfl ?_ | refine AD.nil ?_ | refine AQ.cons hT rfl ?_ | refine AQ.nil ?_); conv => whnf)
    exact AFin.val (hr _) ⟨rfl, rfl⟩
  · conv => whnf
    repeat (first | (refine AW.plan (id := 3) hm (.one 1 (.one 3 (.imm 0 (.imm 2 (.one 4 (.one 5 (.one 6 (.one 7 (.one 8 (.one 9 .nil)))))))))) (by kernel_rfl) ?_; conv => whnf) | (refine AW.label ?_; conv => whnf) | (refine AW.scope ?_; conv => whnf) | (refine AO.cons hT ?_; conv => whnf) | (refine AO.nil ?_; conv => whnf) | (refine AW.seq ?_; conv => whnf) | (refine AW.region ?_; conv => whnf) | (refine AW.cond ?_; conv => whnf) | (refine AW.block ?_; conv => whnf) | (refine AW.loop ?_; conv => whnf) | (refine AW.skip ?_; conv => whnf) | (refine AW.exit ?_; conv => whnf) | (refine AW.ret ?_; conv => whnf) | (refine AF.one hT rfl ?_; conv => whnf) | (refine AF.nil ?_; conv => whnf) | (refine AF.imm hT rfl rfl rfl ?_; conv => whnf) | (refine AH.of hT rfl ?_; conv => whnf) | (refine ASplit.yes rfl ?_; conv => whnf) | (refine ACond.yes rfl ?_; conv => whnf) | (refine ASplit.no rfl ?_; conv => whnf) | (refine ACond.no rfl ?_; conv => whnf) | (refine ASplit.yes (by decide) ?_; conv => whnf) | (refine ACond.yes (by decide) ?_; conv => whnf) | (refine AReq.mk (by decide) ?_; conv => whnf) | (refine AIdx.iff.2 ⟨by decide, ?_⟩; conv => whnf))
    refine ACall.val (by kernel_rfl) (f38 d) (rdV1 _ _) (rdV_ren _ _) ?_
    conv => whnf
    repeat ((first | refine AW.plan (id := 3) hm (.one 1 (.one 3 (.imm 0 (.imm 2 (.one 4 (.one 5 (.one 6 (.one 7 (.one 8 (.one 9 .nil)))))))))) (by kernel_rfl) ?_ | refine AO.cons hT ?_ | refine AO.nil ?_ | refine AW.seq ?_ | refine AW.region ?_ | refine AW.cond ?_ | refine AW.block ?_ | refine AW.loop ?_ | refine AW.skip ?_ | refine AW.exit ?_ | refine AW.ret ?_ | refine AW.label ?_ | refine AW.scope ?_ | refine AF.one hT rfl ?_ | refine AF.nil ?_ | refine AF.imm hT rfl rfl rfl ?_ | refine AH.of hT rfl ?_ | refine AD.cons hT rfl ?_ | refine AD.nil ?_ | refine AQ.cons hT rfl ?_ | refine AQ.nil ?_); conv => whnf)
    exact AFin.val (hr _) ⟨rfl, rfl⟩
  · conv => whnf
    repeat (first | (refine AW.plan (id := 3) hm (.one 1 (.one 3 (.imm 0 (.imm 2 (.one 4 (.one 5 (.one 6 (.one 7 (.one 8 (.one 9 .nil)))))))))) (by kernel_rfl) ?_; conv => whnf) | (refine AW.label ?_; conv => whnf) | (refine AW.scope ?_; conv => whnf) | (refine AO.cons hT ?_; conv => whnf) | (refine AO.nil ?_; conv => whnf) | (refine AW.seq ?_; conv => whnf) | (refine AW.region ?_; conv => whnf) | (refine AW.cond ?_; conv => whnf) | (refine AW.block ?_; conv => whnf) | (refine AW.loop ?_; conv => whnf) | (refine AW.skip ?_; conv => whnf) | (refine AW.exit ?_; conv => whnf) | (refine AW.ret ?_; conv => whnf) | (refine AF.one hT rfl ?_; conv => whnf) | (refine AF.nil ?_; conv => whnf) | (refine AF.imm hT rfl rfl rfl ?_; conv => whnf) | (refine AH.of hT rfl ?_; conv => whnf) | (refine ASplit.yes rfl ?_; conv => whnf) | (refine ACond.yes rfl ?_; conv => whnf) | (refine ASplit.no rfl ?_; conv => whnf) | (refine ACond.no rfl ?_; conv => whnf) | (refine ASplit.yes (by decide) ?_; conv => whnf) | (refine ACond.yes (by decide) ?_; conv => whnf) | (refine AReq.mk (by decide) ?_; conv => whnf) | (refine AIdx.iff.2 ⟨by decide, ?_⟩; conv => whnf))
    refine ACall.val (by kernel_rfl) (f39 d ch hd hl (by omega) h64) (show renL _ [rdV d, .agg (chC ch)] = [rdV d, .agg (chC ch)] by show [(rdV d).ren _, .agg (renL _ (chC ch))] = _; rw [rdV_ren, chC_ren]) (rdV_ren _ _) ?_
    conv => whnf
    repeat ((first | refine AW.plan (id := 3) hm (.one 1 (.one 3 (.imm 0 (.imm 2 (.one 4 (.one 5 (.one 6 (.one 7 (.one 8 (.one 9 .nil)))))))))) (by kernel_rfl) ?_ | refine AO.cons hT ?_ | refine AO.nil ?_ | refine AW.seq ?_ | refine AW.region ?_ | refine AW.cond ?_ | refine AW.block ?_ | refine AW.loop ?_ | refine AW.skip ?_ | refine AW.exit ?_ | refine AW.ret ?_ | refine AW.label ?_ | refine AW.scope ?_ | refine AF.one hT rfl ?_ | refine AF.nil ?_ | refine AF.imm hT rfl rfl rfl ?_ | refine AH.of hT rfl ?_ | refine AD.cons hT rfl ?_ | refine AD.nil ?_ | refine AQ.cons hT rfl ?_ | refine AQ.nil ?_); conv => whnf)
    exact AFin.val (hr _) ⟨rfl, rfl⟩
  · have e : rdoF d ⟨kd, at_, n, b, ch⟩ = (d, 0) := by
      unfold rdoF
      simp only [k0, k1, k2, k3, k4, if_false]
    rw [e]
    conv => whnf
    repeat (first | (refine AW.plan (id := 3) hm (.one 1 (.one 3 (.imm 0 (.imm 2 (.one 4 (.one 5 (.one 6 (.one 7 (.one 8 (.one 9 .nil)))))))))) (by kernel_rfl) ?_; conv => whnf) | (refine AW.label ?_; conv => whnf) | (refine AW.scope ?_; conv => whnf) | (refine AO.cons hT ?_; conv => whnf) | (refine AO.nil ?_; conv => whnf) | (refine AW.seq ?_; conv => whnf) | (refine AW.region ?_; conv => whnf) | (refine AW.cond ?_; conv => whnf) | (refine AW.block ?_; conv => whnf) | (refine AW.loop ?_; conv => whnf) | (refine AW.skip ?_; conv => whnf) | (refine AW.exit ?_; conv => whnf) | (refine AW.ret ?_; conv => whnf) | (refine AF.one hT rfl ?_; conv => whnf) | (refine AF.nil ?_; conv => whnf) | (refine AF.imm hT rfl rfl rfl ?_; conv => whnf) | (refine AH.of hT rfl ?_; conv => whnf) | (refine ASplit.yes rfl ?_; conv => whnf) | (refine ACond.yes rfl ?_; conv => whnf) | (refine ASplit.no rfl ?_; conv => whnf) | (refine ACond.no rfl ?_; conv => whnf) | (refine ASplit.yes (by decide) ?_; conv => whnf) | (refine ACond.yes (by decide) ?_; conv => whnf) | (refine AReq.mk (by decide) ?_; conv => whnf) | (refine AIdx.iff.2 ⟨by decide, ?_⟩; conv => whnf))
    refine ACond.no (decide_eq_false k0) ?_
    conv => whnf
    repeat (first | (refine AW.plan (id := 3) hm (.one 1 (.one 3 (.imm 0 (.imm 2 (.one 4 (.one 5 (.one 6 (.one 7 (.one 8 (.one 9 .nil)))))))))) (by kernel_rfl) ?_; conv => whnf) | (refine AW.label ?_; conv => whnf) | (refine AW.scope ?_; conv => whnf) | (refine AO.cons hT ?_; conv => whnf) | (refine AO.nil ?_; conv => whnf) | (refine AW.seq ?_; conv => whnf) | (refine AW.region ?_; conv => whnf) | (refine AW.cond ?_; conv => whnf) | (refine AW.block ?_; conv => whnf) | (refine AW.loop ?_; conv => whnf) | (refine AW.skip ?_; conv => whnf) | (refine AW.exit ?_; conv => whnf) | (refine AW.ret ?_; conv => whnf) | (refine AF.one hT rfl ?_; conv => whnf) | (refine AF.nil ?_; conv => whnf) | (refine AF.imm hT rfl rfl rfl ?_; conv => whnf) | (refine AH.of hT rfl ?_; conv => whnf) | (refine ASplit.yes rfl ?_; conv => whnf) | (refine ACond.yes rfl ?_; conv => whnf) | (refine ASplit.no rfl ?_; conv => whnf) | (refine ACond.no rfl ?_; conv => whnf) | (refine ASplit.yes (by decide) ?_; conv => whnf) | (refine ACond.yes (by decide) ?_; conv => whnf) | (refine AReq.mk (by decide) ?_; conv => whnf) | (refine AIdx.iff.2 ⟨by decide, ?_⟩; conv => whnf))
    refine ACond.no (decide_eq_false k1) ?_
    conv => whnf
    repeat (first | (refine AW.plan (id := 3) hm (.one 1 (.one 3 (.imm 0 (.imm 2 (.one 4 (.one 5 (.one 6 (.one 7 (.one 8 (.one 9 .nil)))))))))) (by kernel_rfl) ?_; conv => whnf) | (refine AW.label ?_; conv => whnf) | (refine AW.scope ?_; conv => whnf) | (refine AO.cons hT ?_; conv => whnf) | (refine AO.nil ?_; conv => whnf) | (refine AW.seq ?_; conv => whnf) | (refine AW.region ?_; conv => whnf) | (refine AW.cond ?_; conv => whnf) | (refine AW.block ?_; conv => whnf) | (refine AW.loop ?_; conv => whnf) | (refine AW.skip ?_; conv => whnf) | (refine AW.exit ?_; conv => whnf) | (refine AW.ret ?_; conv => whnf) | (refine AF.one hT rfl ?_; conv => whnf) | (refine AF.nil ?_; conv => whnf) | (refine AF.imm hT rfl rfl rfl ?_; conv => whnf) | (refine AH.of hT rfl ?_; conv => whnf) | (refine ASplit.yes rfl ?_; conv => whnf) | (refine ACond.yes rfl ?_; conv => whnf) | (refine ASplit.no rfl ?_; conv => whnf) | (refine ACond.no rfl ?_; conv => whnf) | (refine ASplit.yes (by decide) ?_; conv => whnf) | (refine ACond.yes (by decide) ?_; conv => whnf) | (refine AReq.mk (by decide) ?_; conv => whnf) | (refine AIdx.iff.2 ⟨by decide, ?_⟩; conv => whnf))
    refine ACond.no (decide_eq_false k2) ?_
    conv => whnf
    repeat (first | (refine AW.plan (id := 3) hm (.one 1 (.one 3 (.imm 0 (.imm 2 (.one 4 (.one 5 (.one 6 (.one 7 (.one 8 (.one 9 .nil)))))))))) (by kernel_rfl) ?_; conv => whnf) | (refine AW.label ?_; conv => whnf) | (refine AW.scope ?_; conv => whnf) | (refine AO.cons hT ?_; conv => whnf) | (refine AO.nil ?_; conv => whnf) | (refine AW.seq ?_; conv => whnf) | (refine AW.region ?_; conv => whnf) | (refine AW.cond ?_; conv => whnf) | (refine AW.block ?_; conv => whnf) | (refine AW.loop ?_; conv => whnf) | (refine AW.skip ?_; conv => whnf) | (refine AW.exit ?_; conv => whnf) | (refine AW.ret ?_; conv => whnf) | (refine AF.one hT rfl ?_; conv => whnf) | (refine AF.nil ?_; conv => whnf) | (refine AF.imm hT rfl rfl rfl ?_; conv => whnf) | (refine AH.of hT rfl ?_; conv => whnf) | (refine ASplit.yes rfl ?_; conv => whnf) | (refine ACond.yes rfl ?_; conv => whnf) | (refine ASplit.no rfl ?_; conv => whnf) | (refine ACond.no rfl ?_; conv => whnf) | (refine ASplit.yes (by decide) ?_; conv => whnf) | (refine ACond.yes (by decide) ?_; conv => whnf) | (refine AReq.mk (by decide) ?_; conv => whnf) | (refine AIdx.iff.2 ⟨by decide, ?_⟩; conv => whnf))
    refine ACond.no (decide_eq_false k3) ?_
    conv => whnf
    repeat (first | (refine AW.plan (id := 3) hm (.one 1 (.one 3 (.imm 0 (.imm 2 (.one 4 (.one 5 (.one 6 (.one 7 (.one 8 (.one 9 .nil)))))))))) (by kernel_rfl) ?_; conv => whnf) | (refine AW.label ?_; conv => whnf) | (refine AW.scope ?_; conv => whnf) | (refine AO.cons hT ?_; conv => whnf) | (refine AO.nil ?_; conv => whnf) | (refine AW.seq ?_; conv => whnf) | (refine AW.region ?_; conv => whnf) | (refine AW.cond ?_; conv => whnf) | (refine AW.block ?_; conv => whnf) | (refine AW.loop ?_; conv => whnf) | (refine AW.skip ?_; conv => whnf) | (refine AW.exit ?_; conv => whnf) | (refine AW.ret ?_; conv => whnf) | (refine AF.one hT rfl ?_; conv => whnf) | (refine AF.nil ?_; conv => whnf) | (refine AF.imm hT rfl rfl rfl ?_; conv => whnf) | (refine AH.of hT rfl ?_; conv => whnf) | (refine ASplit.yes rfl ?_; conv => whnf) | (refine ACond.yes rfl ?_; conv => whnf) | (refine ASplit.no rfl ?_; conv => whnf) | (refine ACond.no rfl ?_; conv => whnf) | (refine ASplit.yes (by decide) ?_; conv => whnf) | (refine ACond.yes (by decide) ?_; conv => whnf) | (refine AReq.mk (by decide) ?_; conv => whnf) | (refine AIdx.iff.2 ⟨by decide, ?_⟩; conv => whnf))
    refine ACond.no (decide_eq_false k4) ?_
    conv => whnf
    repeat (first | (refine AW.plan (id := 3) hm (.one 1 (.one 3 (.imm 0 (.imm 2 (.one 4 (.one 5 (.one 6 (.one 7 (.one 8 (.one 9 .nil)))))))))) (by kernel_rfl) ?_; conv => whnf) | (refine AW.label ?_; conv => whnf) | (refine AW.scope ?_; conv => whnf) | (refine AO.cons hT ?_; conv => whnf) | (refine AO.nil ?_; conv => whnf) | (refine AW.seq ?_; conv => whnf) | (refine AW.region ?_; conv => whnf) | (refine AW.cond ?_; conv => whnf) | (refine AW.block ?_; conv => whnf) | (refine AW.loop ?_; conv => whnf) | (refine AW.skip ?_; conv => whnf) | (refine AW.exit ?_; conv => whnf) | (refine AW.ret ?_; conv => whnf) | (refine AF.one hT rfl ?_; conv => whnf) | (refine AF.nil ?_; conv => whnf) | (refine AF.imm hT rfl rfl rfl ?_; conv => whnf) | (refine AH.of hT rfl ?_; conv => whnf) | (refine ASplit.yes rfl ?_; conv => whnf) | (refine ACond.yes rfl ?_; conv => whnf) | (refine ASplit.no rfl ?_; conv => whnf) | (refine ACond.no rfl ?_; conv => whnf) | (refine ASplit.yes (by decide) ?_; conv => whnf) | (refine ACond.yes (by decide) ?_; conv => whnf) | (refine AReq.mk (by decide) ?_; conv => whnf) | (refine AIdx.iff.2 ⟨by decide, ?_⟩; conv => whnf))
    exact AFin.val (hr _) ⟨rfl, rfl⟩
theorem f21 (x : Dd) (d : Rd) (hx : Dok x) (h : RelD x d) : DSpec 21 [rdV d] x fun r y => r = .v (.bool true) ∧ y = x := by
  intro bs ck
  have hl : d.cells.length ≤ 2000 := by have := h.len; have := hx.le; omega
  have hlw : (Lit.int .i64 (d.cells.length : Int)).wf = true := nOk_of (by omega) (by omega)
  have hrd := rel_read hx h 0 d.cells.length
  have hsz := h.size hx
  have hlo := loose_keys hx h
  refine spec_of hT (f := 21) (fn := Go.Proofs.Try.f21) (c := body Go.Proofs.Try.f21) (by kernel_rfl) (by kernel_rfl) ?_
  conv => whnf
  repeat ((first | refine AW.plan (id := 5) hm (.one 0 (.one 1 (.one 2 (.one 3 (.one 4 (.one 5 (.one 6 (.one 7 (.one 8 (.one 9 (.one 11 (.imm 12 (.one 10 (.one 13 (.one 14 (.one 15 (.one 16 (.one 18 (.imm 19 (.one 17 (.one 20 (.one 21 (.one 22 (.one 23 (.one 25 (.imm 26 (.one 27 (.one 24 (.one 28 (.one 29 (.one 30 (.one 31 (.imm 33 (.one 32 (.one 34 (.one 35 (.one 36 (.one 37 .nil)))))))))))))))))))))))))))))))))))))) (by kernel_rfl) ?_ | refine AO.cons hT ?_ | refine AO.nil ?_ | refine AW.cond ?_ | refine AW.block ?_ | refine AW.loop ?_ | refine AW.skip ?_ | refine AW.exit ?_ | refine AW.ret ?_ | refine AW.label ?_ | refine AW.scope ?_ | refine AF.one hT rfl ?_ | refine AF.nil ?_ | refine AF.imm hT rfl rfl rfl ?_ | refine AH.of hT rfl ?_ | refine AD.cons hT rfl ?_ | refine AD.nil ?_ | refine AQ.cons hT rfl ?_ | refine AQ.nil ?_); conv => whnf)
  refine AW.seq ?_
  conv => whnf
  refine AW.region ?_
  conv => whnf
  repeat ((first | refine AW.plan (id := 5) hm (.one 0 (.one 1 (.one 2 (.one 3 (.one 4 (.one 5 (.one 6 (.one 7 (.one 8 (.one 9 (.one 11 (.imm 12 (.one 10 (.one 13 (.one 14 (.one 15 (.one 16 (.one 18 (.imm 19 (.one 17 (.one 20 (.one 21 (.one 22 (.one 23 (.one 25 (.imm 26 (.one 27 (.one 24 (.one 28 (.one 29 (.one 30 (.one 31 (.imm 33 (.one 32 (.one 34 (.one 35 (.one 36 (.one 37 .nil)))))))))))))))))))))))))))))))))))))) (by kernel_rfl) ?_ | refine AO.cons hT ?_ | refine AO.nil ?_ | refine AW.cond ?_ | refine AW.block ?_ | refine AW.loop ?_ | refine AW.skip ?_ | refine AW.exit ?_ | refine AW.ret ?_ | refine AW.label ?_ | refine AW.scope ?_ | refine AF.one hT rfl ?_ | refine AF.nil ?_ | refine AF.imm hT rfl rfl rfl ?_ | refine AH.of hT rfl ?_ | refine AD.cons hT rfl ?_ | refine AD.nil ?_ | refine AQ.cons hT rfl ?_ | refine AQ.nil ?_); conv => whnf)
  refine AW.conv _ _ (Conv.freeze 3 (t := 44) (cs := rdC d) rfl) ?_
  conv => whnf
  repeat ((first | refine AW.plan (id := 5) hm (.one 0 (.one 1 (.one 2 (.one 3 (.one 4 (.one 5 (.one 6 (.one 7 (.one 8 (.one 9 (.one 11 (.imm 12 (.one 10 (.one 13 (.one 14 (.one 15 (.one 16 (.one 18 (.imm 19 (.one 17 (.one 20 (.one 21 (.one 22 (.one 23 (.one 25 (.imm 26 (.one 27 (.one 24 (.one 28 (.one 29 (.one 30 (.one 31 (.imm 33 (.one 32 (.one 34 (.one 35 (.one 36 (.one 37 .nil)))))))))))))))))))))))))))))))))))))) (by kernel_rfl) ?_ | refine AO.cons hT ?_ | refine AO.nil ?_ | refine AW.seq ?_ | refine AW.region ?_ | refine AW.cond ?_ | refine AW.block ?_ | refine AW.loop ?_ | refine AW.skip ?_ | refine AW.exit ?_ | refine AW.ret ?_ | refine AW.label ?_ | refine AW.scope ?_ | refine AF.one hT rfl ?_ | refine AF.nil ?_ | refine AF.imm hT rfl rfl rfl ?_ | refine AH.of hT rfl ?_ | refine AD.cons hT rfl ?_ | refine AD.nil ?_ | refine AQ.cons hT rfl ?_ | refine AQ.nil ?_ | (refine ACond.no rfl ?_) | (refine AF.immG hT rfl rfl rfl rfl ?_)); conv => whnf)
  refine ACall.dev (by kernel_rfl) (f15 x hx 0 d.cells.length rfl hlw) rfl rfl rfl (by decide) (fun _ => rfl) (by rintro _ _ ⟨rfl, _⟩ _; rfl) ?_
  rintro _ y1 bs1 ck1 ⟨rfl, hy1⟩
  rw [hy1]
  simp only [List.set_cons_zero, List.set_cons_succ]
  conv => whnf
  repeat ((first | refine AW.plan (id := 5) hm (.one 0 (.one 1 (.one 2 (.one 3 (.one 4 (.one 5 (.one 6 (.one 7 (.one 8 (.one 9 (.one 11 (.imm 12 (.one 10 (.one 13 (.one 14 (.one 15 (.one 16 (.one 18 (.imm 19 (.one 17 (.one 20 (.one 21 (.one 22 (.one 23 (.one 25 (.imm 26 (.one 27 (.one 24 (.one 28 (.one 29 (.one 30 (.one 31 (.imm 33 (.one 32 (.one 34 (.one 35 (.one 36 (.one 37 .nil)))))))))))))))))))))))))))))))))))))) (by kernel_rfl) ?_ | refine AO.cons hT ?_ | refine AO.nil ?_ | refine AW.seq ?_ | refine AW.region ?_ | refine AW.cond ?_ | refine AW.block ?_ | refine AW.loop ?_ | refine AW.skip ?_ | refine AW.exit ?_ | refine AW.ret ?_ | refine AW.label ?_ | refine AW.scope ?_ | refine AF.one hT rfl ?_ | refine AF.nil ?_ | refine AF.imm hT rfl rfl rfl ?_ | refine AH.of hT rfl ?_ | refine AD.cons hT rfl ?_ | refine AD.nil ?_ | refine AQ.cons hT rfl ?_ | refine AQ.nil ?_ | (refine ACond.no rfl ?_) | (refine AF.immG hT rfl rfl rfl rfl ?_)); conv => whnf)
  refine ACall.val (by kernel_rfl) (f22 d 0 d.cells.length hl (fun c hc => (hsz c hc).1) rfl) (show renL _ [rdV d, nV 0, nV d.cells.length] = [rdV d, nV 0, nV d.cells.length] by show [(rdV d).ren _, _, _] = _; rw [rdV_ren]; rfl) rfl ?_
  rw [← hrd]
  conv => whnf
  repeat ((first | refine AW.plan (id := 5) hm (.one 0 (.one 1 (.one 2 (.one 3 (.one 4 (.one 5 (.one 6 (.one 7 (.one 8 (.one 9 (.one 11 (.imm 12 (.one 10 (.one 13 (.one 14 (.one 15 (.one 16 (.one 18 (.imm 19 (.one 17 (.one 20 (.one 21 (.one 22 (.one 23 (.one 25 (.imm 26 (.one 27 (.one 24 (.one 28 (.one 29 (.one 30 (.one 31 (.imm 33 (.one 32 (.one 34 (.one 35 (.one 36 (.one 37 .nil)))))))))))))))))))))))))))))))))))))) (by kernel_rfl) ?_ | refine AO.cons hT ?_ | refine AO.nil ?_ | refine AW.seq ?_ | refine AW.region ?_ | refine AW.cond ?_ | refine AW.block ?_ | refine AW.loop ?_ | refine AW.skip ?_ | refine AW.exit ?_ | refine AW.ret ?_ | refine AW.label ?_ | refine AW.scope ?_ | refine AF.one hT rfl ?_ | refine AF.nil ?_ | refine AF.imm hT rfl rfl rfl ?_ | refine AH.of hT rfl ?_ | refine AD.cons hT rfl ?_ | refine AD.nil ?_ | refine AQ.cons hT rfl ?_ | refine AQ.nil ?_ | (refine ACond.no rfl ?_) | (refine AF.immG hT rfl rfl rfl rfl ?_)); conv => whnf)
  refine ASplit.yes (by rw [str_eq]; exact decide_eq_true rfl) ?_
  conv => whnf
  repeat ((first | refine AW.plan (id := 5) hm (.one 0 (.one 1 (.one 2 (.one 3 (.one 4 (.one 5 (.one 6 (.one 7 (.one 8 (.one 9 (.one 11 (.imm 12 (.one 10 (.one 13 (.one 14 (.one 15 (.one 16 (.one 18 (.imm 19 (.one 17 (.one 20 (.one 21 (.one 22 (.one 23 (.one 25 (.imm 26 (.one 27 (.one 24 (.one 28 (.one 29 (.one 30 (.one 31 (.imm 33 (.one 32 (.one 34 (.one 35 (.one 36 (.one 37 .nil)))))))))))))))))))))))))))))))))))))) (by kernel_rfl) ?_ | refine AO.cons hT ?_ | refine AO.nil ?_ | refine AW.seq ?_ | refine AW.region ?_ | refine AW.cond ?_ | refine AW.block ?_ | refine AW.loop ?_ | refine AW.skip ?_ | refine AW.exit ?_ | refine AW.ret ?_ | refine AW.label ?_ | refine AW.scope ?_ | refine AF.one hT rfl ?_ | refine AF.nil ?_ | refine AF.imm hT rfl rfl rfl ?_ | refine AH.of hT rfl ?_ | refine AD.cons hT rfl ?_ | refine AD.nil ?_ | refine AQ.cons hT rfl ?_ | refine AQ.nil ?_ | (refine ACond.no rfl ?_) | (refine AF.immG hT rfl rfl rfl rfl ?_)); conv => whnf)
  refine ASplit.yes (decide_eq_true rfl) ?_
  conv => whnf
  repeat ((first | refine AW.plan (id := 5) hm (.one 0 (.one 1 (.one 2 (.one 3 (.one 4 (.one 5 (.one 6 (.one 7 (.one 8 (.one 9 (.one 11 (.imm 12 (.one 10 (.one 13 (.one 14 (.one 15 (.one 16 (.one 18 (.imm 19 (.one 17 (.one 20 (.one 21 (.one 22 (.one 23 (.one 25 (.imm 26 (.one 27 (.one 24 (.one 28 (.one 29 (.one 30 (.one 31 (.imm 33 (.one 32 (.one 34 (.one 35 (.one 36 (.one 37 .nil)))))))))))))))))))))))))))))))))))))) (by kernel_rfl) ?_ | refine AO.cons hT ?_ | refine AO.nil ?_ | refine AW.seq ?_ | refine AW.region ?_ | refine AW.cond ?_ | refine AW.block ?_ | refine AW.loop ?_ | refine AW.skip ?_ | refine AW.exit ?_ | refine AW.ret ?_ | refine AW.label ?_ | refine AW.scope ?_ | refine AF.one hT rfl ?_ | refine AF.nil ?_ | refine AF.imm hT rfl rfl rfl ?_ | refine AH.of hT rfl ?_ | refine AD.cons hT rfl ?_ | refine AD.nil ?_ | refine AQ.cons hT rfl ?_ | refine AQ.nil ?_ | (refine ACond.no rfl ?_) | (refine AF.immG hT rfl rfl rfl rfl ?_)); conv => whnf)
  refine ACall.dev (by kernel_rfl) (f13 x hx.pos) rfl rfl rfl (by decide) (fun _ => rfl) (by rintro _ _ ⟨rfl, _⟩ _; rfl) ?_
  rintro _ y2 bs2 ck2 ⟨rfl, hy2⟩
  rw [hy2]
  simp only [List.set_cons_zero, List.set_cons_succ]
  conv => whnf
  repeat ((first | refine AW.plan (id := 5) hm (.one 0 (.one 1 (.one 2 (.one 3 (.one 4 (.one 5 (.one 6 (.one 7 (.one 8 (.one 9 (.one 11 (.imm 12 (.one 10 (.one 13 (.one 14 (.one 15 (.one 16 (.one 18 (.imm 19 (.one 17 (.one 20 (.one 21 (.one 22 (.one 23 (.one 25 (.imm 26 (.one 27 (.one 24 (.one 28 (.one 29 (.one 30 (.one 31 (.imm 33 (.one 32 (.one 34 (.one 35 (.one 36 (.one 37 .nil)))))))))))))))))))))))))))))))))))))) (by kernel_rfl) ?_ | refine AO.cons hT ?_ | refine AO.nil ?_ | refine AW.seq ?_ | refine AW.region ?_ | refine AW.cond ?_ | refine AW.block ?_ | refine AW.loop ?_ | refine AW.skip ?_ | refine AW.exit ?_ | refine AW.ret ?_ | refine AW.label ?_ | refine AW.scope ?_ | refine AF.one hT rfl ?_ | refine AF.nil ?_ | refine AF.imm hT rfl rfl rfl ?_ | refine AH.of hT rfl ?_ | refine AD.cons hT rfl ?_ | refine AD.nil ?_ | refine AQ.cons hT rfl ?_ | refine AQ.nil ?_ | (refine ACond.no rfl ?_) | (refine AF.immG hT rfl rfl rfl rfl ?_)); conv => whnf)
  have hup : (!decide (upE x = 0) == d.dead) = true := by
    rw [h.dead]
    rcases Bool.eq_false_or_eq_true x.f with hf | hf
    · rw [upE_t hf, hf]; rfl
    · rw [upE_f hf, hf]; rfl
  have hup' : (!(decide (upE x = 0) == d.dead)) = true := by
    rw [h.dead]
    rcases Bool.eq_false_or_eq_true x.f with hf | hf
    · rw [upE_t hf, hf]; rfl
    · rw [upE_f hf, hf]; rfl
  refine ASplit.yes hup' ?_
  conv => whnf
  repeat ((first | refine AW.plan (id := 5) hm (.one 0 (.one 1 (.one 2 (.one 3 (.one 4 (.one 5 (.one 6 (.one 7 (.one 8 (.one 9 (.one 11 (.imm 12 (.one 10 (.one 13 (.one 14 (.one 15 (.one 16 (.one 18 (.imm 19 (.one 17 (.one 20 (.one 21 (.one 22 (.one 23 (.one 25 (.imm 26 (.one 27 (.one 24 (.one 28 (.one 29 (.one 30 (.one 31 (.imm 33 (.one 32 (.one 34 (.one 35 (.one 36 (.one 37 .nil)))))))))))))))))))))))))))))))))))))) (by kernel_rfl) ?_ | refine AO.cons hT ?_ | refine AO.nil ?_ | refine AW.seq ?_ | refine AW.region ?_ | refine AW.cond ?_ | refine AW.block ?_ | refine AW.loop ?_ | refine AW.skip ?_ | refine AW.exit ?_ | refine AW.ret ?_ | refine AW.label ?_ | refine AW.scope ?_ | refine AF.one hT rfl ?_ | refine AF.nil ?_ | refine AF.imm hT rfl rfl rfl ?_ | refine AH.of hT rfl ?_ | refine AD.cons hT rfl ?_ | refine AD.nil ?_ | refine AQ.cons hT rfl ?_ | refine AQ.nil ?_ | (refine ACond.no rfl ?_) | (refine AF.immG hT rfl rfl rfl rfl ?_)); conv => whnf)
  refine ACall.dev (by kernel_rfl) (f25 x hx.pos) rfl rfl rfl (by decide) (fun _ => rfl) (by rintro _ _ ⟨rfl, _⟩ _; rfl) ?_
  rintro _ y3 bs3 ck3 ⟨rfl, hy3⟩
  rw [hy3]
  simp only [List.set_cons_zero, List.set_cons_succ]
  conv => whnf
  repeat ((first | refine AW.plan (id := 5) hm (.one 0 (.one 1 (.one 2 (.one 3 (.one 4 (.one 5 (.one 6 (.one 7 (.one 8 (.one 9 (.one 11 (.imm 12 (.one 10 (.one 13 (.one 14 (.one 15 (.one 16 (.one 18 (.imm 19 (.one 17 (.one 20 (.one 21 (.one 22 (.one 23 (.one 25 (.imm 26 (.one 27 (.one 24 (.one 28 (.one 29 (.one 30 (.one 31 (.imm 33 (.one 32 (.one 34 (.one 35 (.one 36 (.one 37 .nil)))))))))))))))))))))))))))))))))))))) (by kernel_rfl) ?_ | refine AO.cons hT ?_ | refine AO.nil ?_ | refine AW.seq ?_ | refine AW.region ?_ | refine AW.cond ?_ | refine AW.block ?_ | refine AW.loop ?_ | refine AW.skip ?_ | refine AW.exit ?_ | refine AW.ret ?_ | refine AW.label ?_ | refine AW.scope ?_ | refine AF.one hT rfl ?_ | refine AF.nil ?_ | refine AF.imm hT rfl rfl rfl ?_ | refine AH.of hT rfl ?_ | refine AD.cons hT rfl ?_ | refine AD.nil ?_ | refine AQ.cons hT rfl ?_ | refine AQ.nil ?_ | (refine ACond.no rfl ?_) | (refine AF.immG hT rfl rfl rfl rfl ?_)); conv => whnf)
  refine ASplit.yes (decide_eq_true h.ops.symm) ?_
  conv => whnf
  repeat ((first | refine AW.plan (id := 5) hm (.one 0 (.one 1 (.one 2 (.one 3 (.one 4 (.one 5 (.one 6 (.one 7 (.one 8 (.one 9 (.one 11 (.imm 12 (.one 10 (.one 13 (.one 14 (.one 15 (.one 16 (.one 18 (.imm 19 (.one 17 (.one 20 (.one 21 (.one 22 (.one 23 (.one 25 (.imm 26 (.one 27 (.one 24 (.one 28 (.one 29 (.one 30 (.one 31 (.imm 33 (.one 32 (.one 34 (.one 35 (.one 36 (.one 37 .nil)))))))))))))))))))))))))))))))))))))) (by kernel_rfl) ?_ | refine AO.cons hT ?_ | refine AO.nil ?_ | refine AW.seq ?_ | refine AW.region ?_ | refine AW.cond ?_ | refine AW.block ?_ | refine AW.loop ?_ | refine AW.skip ?_ | refine AW.exit ?_ | refine AW.ret ?_ | refine AW.label ?_ | refine AW.scope ?_ | refine AF.one hT rfl ?_ | refine AF.nil ?_ | refine AF.imm hT rfl rfl rfl ?_ | refine AH.of hT rfl ?_ | refine AD.cons hT rfl ?_ | refine AD.nil ?_ | refine AQ.cons hT rfl ?_ | refine AQ.nil ?_ | (refine ACond.no rfl ?_) | (refine AF.immG hT rfl rfl rfl rfl ?_)); conv => whnf)
  refine ACall.dev (by kernel_rfl) (f24 x hx.pos) rfl rfl rfl (by decide) (fun _ => rfl) (by rintro _ _ ⟨rfl, _⟩ _; rfl) ?_
  rintro _ y4 bs4 ck4 ⟨rfl, hy4⟩
  rw [hy4]
  simp only [List.set_cons_zero, List.set_cons_succ]
  conv => whnf
  repeat ((first | refine AW.plan (id := 5) hm (.one 0 (.one 1 (.one 2 (.one 3 (.one 4 (.one 5 (.one 6 (.one 7 (.one 8 (.one 9 (.one 11 (.imm 12 (.one 10 (.one 13 (.one 14 (.one 15 (.one 16 (.one 18 (.imm 19 (.one 17 (.one 20 (.one 21 (.one 22 (.one 23 (.one 25 (.imm 26 (.one 27 (.one 24 (.one 28 (.one 29 (.one 30 (.one 31 (.imm 33 (.one 32 (.one 34 (.one 35 (.one 36 (.one 37 .nil)))))))))))))))))))))))))))))))))))))) (by kernel_rfl) ?_ | refine AO.cons hT ?_ | refine AO.nil ?_ | refine AW.seq ?_ | refine AW.region ?_ | refine AW.cond ?_ | refine AW.block ?_ | refine AW.loop ?_ | refine AW.skip ?_ | refine AW.exit ?_ | refine AW.ret ?_ | refine AW.label ?_ | refine AW.scope ?_ | refine AF.one hT rfl ?_ | refine AF.nil ?_ | refine AF.imm hT rfl rfl rfl ?_ | refine AH.of hT rfl ?_ | refine AD.cons hT rfl ?_ | refine AD.nil ?_ | refine AQ.cons hT rfl ?_ | refine AQ.nil ?_ | (refine ACond.no rfl ?_) | (refine AF.immG hT rfl rfl rfl rfl ?_)); conv => whnf)
  refine ASplit.yes (decide_eq_true (by rw [h.len])) ?_
  conv => whnf
  repeat ((first | refine AW.plan (id := 5) hm (.one 0 (.one 1 (.one 2 (.one 3 (.one 4 (.one 5 (.one 6 (.one 7 (.one 8 (.one 9 (.one 11 (.imm 12 (.one 10 (.one 13 (.one 14 (.one 15 (.one 16 (.one 18 (.imm 19 (.one 17 (.one 20 (.one 21 (.one 22 (.one 23 (.one 25 (.imm 26 (.one 27 (.one 24 (.one 28 (.one 29 (.one 30 (.one 31 (.imm 33 (.one 32 (.one 34 (.one 35 (.one 36 (.one 37 .nil)))))))))))))))))))))))))))))))))))))) (by kernel_rfl) ?_ | refine AO.cons hT ?_ | refine AO.nil ?_ | refine AW.seq ?_ | refine AW.region ?_ | refine AW.cond ?_ | refine AW.block ?_ | refine AW.loop ?_ | refine AW.skip ?_ | refine AW.exit ?_ | refine AW.ret ?_ | refine AW.label ?_ | refine AW.scope ?_ | refine AF.one hT rfl ?_ | refine AF.nil ?_ | refine AF.imm hT rfl rfl rfl ?_ | refine AH.of hT rfl ?_ | refine AD.cons hT rfl ?_ | refine AD.nil ?_ | refine AQ.cons hT rfl ?_ | refine AQ.nil ?_ | (refine ACond.no rfl ?_) | (refine AF.immG hT rfl rfl rfl rfl ?_)); conv => whnf)
  refine ACall.dev (by kernel_rfl) (f16 x hx) rfl rfl rfl (by decide) (fun _ => rfl) (by rintro _ _ ⟨rfl, _⟩ ρ; split <;> first | rfl | exact iVs_ren ρ _) ?_
  rintro _ y5 bs5 ck5 ⟨rfl, hy5⟩
  rw [hy5]
  have hle := keys_len x hx
  have hkl : (kS x.L).length ≤ 4611686018427387904 := by unfold kS; rw [List.length_mergeSort, List.length_map]; omega
  simp only [List.set_cons_zero, List.set_cons_succ]
  have h41 := f41 d hl
  rw [h.dead, ← hlo] at h41
  rcases Bool.eq_false_or_eq_true x.f with hf | hf
  · rw [if_pos hf] at h41 ⊢
    conv => whnf
    repeat ((first | refine AW.plan (id := 5) hm (.one 0 (.one 1 (.one 2 (.one 3 (.one 4 (.one 5 (.one 6 (.one 7 (.one 8 (.one 9 (.one 11 (.imm 12 (.one 10 (.one 13 (.one 14 (.one 15 (.one 16 (.one 18 (.imm 19 (.one 17 (.one 20 (.one 21 (.one 22 (.one 23 (.one 25 (.imm 26 (.one 27 (.one 24 (.one 28 (.one 29 (.one 30 (.one 31 (.imm 33 (.one 32 (.one 34 (.one 35 (.one 36 (.one 37 .nil)))))))))))))))))))))))))))))))))))))) (by kernel_rfl) ?_ | refine AO.cons hT ?_ | refine AO.nil ?_ | refine AW.seq ?_ | refine AW.region ?_ | refine AW.cond ?_ | refine AW.block ?_ | refine AW.loop ?_ | refine AW.skip ?_ | refine AW.exit ?_ | refine AW.ret ?_ | refine AW.label ?_ | refine AW.scope ?_ | refine AF.one hT rfl ?_ | refine AF.nil ?_ | refine AF.imm hT rfl rfl rfl ?_ | refine AH.of hT rfl ?_ | refine AD.cons hT rfl ?_ | refine AD.nil ?_ | refine AQ.cons hT rfl ?_ | refine AQ.nil ?_ | (refine ACond.no rfl ?_) | (refine AF.immG hT rfl rfl rfl rfl ?_)); conv => whnf)
    refine ACall.val (by kernel_rfl) h41 (rdV1 _ _) (iVs_ren _ _) ?_
    conv => whnf
    repeat ((first | refine AW.plan (id := 5) hm (.one 0 (.one 1 (.one 2 (.one 3 (.one 4 (.one 5 (.one 6 (.one 7 (.one 8 (.one 9 (.one 11 (.imm 12 (.one 10 (.one 13 (.one 14 (.one 15 (.one 16 (.one 18 (.imm 19 (.one 17 (.one 20 (.one 21 (.one 22 (.one 23 (.one 25 (.imm 26 (.one 27 (.one 24 (.one 28 (.one 29 (.one 30 (.one 31 (.imm 33 (.one 32 (.one 34 (.one 35 (.one 36 (.one 37 .nil)))))))))))))))))))))))))))))))))))))) (by kernel_rfl) ?_ | refine AO.cons hT ?_ | refine AO.nil ?_ | refine AW.seq ?_ | refine AW.region ?_ | refine AW.cond ?_ | refine AW.block ?_ | refine AW.loop ?_ | refine AW.skip ?_ | refine AW.exit ?_ | refine AW.ret ?_ | refine AW.label ?_ | refine AW.scope ?_ | refine AF.one hT rfl ?_ | refine AF.nil ?_ | refine AF.imm hT rfl rfl rfl ?_ | refine AH.of hT rfl ?_ | refine AD.cons hT rfl ?_ | refine AD.nil ?_ | refine AQ.cons hT rfl ?_ | refine AQ.nil ?_ | (refine ACond.no rfl ?_) | (refine AF.immG hT rfl rfl rfl rfl ?_)); conv => whnf)
    refine ACall.fun (by kernel_rfl) (f26 [] [] (by simp) (by simp)) [] (by simp) (.cons .nil (.cons (.same rfl) .nil)) (.inl rfl) rfl ?_
    conv => whnf
    repeat ((first | refine AW.plan (id := 5) hm (.one 0 (.one 1 (.one 2 (.one 3 (.one 4 (.one 5 (.one 6 (.one 7 (.one 8 (.one 9 (.one 11 (.imm 12 (.one 10 (.one 13 (.one 14 (.one 15 (.one 16 (.one 18 (.imm 19 (.one 17 (.one 20 (.one 21 (.one 22 (.one 23 (.one 25 (.imm 26 (.one 27 (.one 24 (.one 28 (.one 29 (.one 30 (.one 31 (.imm 33 (.one 32 (.one 34 (.one 35 (.one 36 (.one 37 .nil)))))))))))))))))))))))))))))))))))))) (by kernel_rfl) ?_ | refine AO.cons hT ?_ | refine AO.nil ?_ | refine AW.seq ?_ | refine AW.region ?_ | refine AW.cond ?_ | refine AW.block ?_ | refine AW.loop ?_ | refine AW.skip ?_ | refine AW.exit ?_ | refine AW.ret ?_ | refine AW.label ?_ | refine AW.scope ?_ | refine AF.one hT rfl ?_ | refine AF.nil ?_ | refine AF.imm hT rfl rfl rfl ?_ | refine AH.of hT rfl ?_ | refine AD.cons hT rfl ?_ | refine AD.nil ?_ | refine AQ.cons hT rfl ?_ | refine AQ.nil ?_ | (refine ACond.no rfl ?_) | (refine AF.immG hT rfl rfl rfl rfl ?_)); conv => whnf)
    exact AFin.dev (fun _ => rfl) ⟨_, _, _, ⟨rfl, rfl⟩, rfl⟩
  · rw [hf] at h41 ⊢
    simp only [Bool.false_eq_true, if_false] at h41 ⊢
    conv => whnf
    repeat ((first | refine AW.plan (id := 5) hm (.one 0 (.one 1 (.one 2 (.one 3 (.one 4 (.one 5 (.one 6 (.one 7 (.one 8 (.one 9 (.one 11 (.imm 12 (.one 10 (.one 13 (.one 14 (.one 15 (.one 16 (.one 18 (.imm 19 (.one 17 (.one 20 (.one 21 (.one 22 (.one 23 (.one 25 (.imm 26 (.one 27 (.one 24 (.one 28 (.one 29 (.one 30 (.one 31 (.imm 33 (.one 32 (.one 34 (.one 35 (.one 36 (.one 37 .nil)))))))))))))))))))))))))))))))))))))) (by kernel_rfl) ?_ | refine AO.cons hT ?_ | refine AO.nil ?_ | refine AW.seq ?_ | refine AW.region ?_ | refine AW.cond ?_ | refine AW.block ?_ | refine AW.loop ?_ | refine AW.skip ?_ | refine AW.exit ?_ | refine AW.ret ?_ | refine AW.label ?_ | refine AW.scope ?_ | refine AF.one hT rfl ?_ | refine AF.nil ?_ | refine AF.imm hT rfl rfl rfl ?_ | refine AH.of hT rfl ?_ | refine AD.cons hT rfl ?_ | refine AD.nil ?_ | refine AQ.cons hT rfl ?_ | refine AQ.nil ?_ | (refine ACond.no rfl ?_) | (refine AF.immG hT rfl rfl rfl rfl ?_)); conv => whnf)
    refine ACall.val (by kernel_rfl) h41 (rdV1 _ _) (iVs_ren _ _) ?_
    conv => whnf
    repeat ((first | refine AW.plan (id := 5) hm (.one 0 (.one 1 (.one 2 (.one 3 (.one 4 (.one 5 (.one 6 (.one 7 (.one 8 (.one 9 (.one 11 (.imm 12 (.one 10 (.one 13 (.one 14 (.one 15 (.one 16 (.one 18 (.imm 19 (.one 17 (.one 20 (.one 21 (.one 22 (.one 23 (.one 25 (.imm 26 (.one 27 (.one 24 (.one 28 (.one 29 (.one 30 (.one 31 (.imm 33 (.one 32 (.one 34 (.one 35 (.one 36 (.one 37 .nil)))))))))))))))))))))))))))))))))))))) (by kernel_rfl) ?_ | refine AO.cons hT ?_ | refine AO.nil ?_ | refine AW.seq ?_ | refine AW.region ?_ | refine AW.cond ?_ | refine AW.block ?_ | refine AW.loop ?_ | refine AW.skip ?_ | refine AW.exit ?_ | refine AW.ret ?_ | refine AW.label ?_ | refine AW.scope ?_ | refine AF.one hT rfl ?_ | refine AF.nil ?_ | refine AF.imm hT rfl rfl rfl ?_ | refine AH.of hT rfl ?_ | refine AD.cons hT rfl ?_ | refine AD.nil ?_ | refine AQ.cons hT rfl ?_ | refine AQ.nil ?_ | (refine ACond.no rfl ?_) | (refine AF.immG hT rfl rfl rfl rfl ?_)); conv => whnf)
    have h26 := f26 (kS x.L) (kS x.L) hkl hkl
    rw [decide_eq_true rfl] at h26
    refine ACall.val (by kernel_rfl) h26 (show [(iVs (kS x.L)).ren _, (iVs (kS x.L)).ren _] = _ by rw [iVs_ren]; rfl) rfl ?_
    conv => whnf
    repeat ((first | refine AW.plan (id := 5) hm (.one 0 (.one 1 (.one 2 (.one 3 (.one 4 (.one 5 (.one 6 (.one 7 (.one 8 (.one 9 (.one 11 (.imm 12 (.one 10 (.one 13 (.one 14 (.one 15 (.one 16 (.one 18 (.imm 19 (.one 17 (.one 20 (.one 21 (.one 22 (.one 23 (.one 25 (.imm 26 (.one 27 (.one 24 (.one 28 (.one 29 (.one 30 (.one 31 (.imm 33 (.one 32 (.one 34 (.one 35 (.one 36 (.one 37 .nil)))))))))))))))))))))))))))))))))))))) (by kernel_rfl) ?_ | refine AO.cons hT ?_ | refine AO.nil ?_ | refine AW.seq ?_ | refine AW.region ?_ | refine AW.cond ?_ | refine AW.block ?_ | refine AW.loop ?_ | refine AW.skip ?_ | refine AW.exit ?_ | refine AW.ret ?_ | refine AW.label ?_ | refine AW.scope ?_ | refine AF.one hT rfl ?_ | refine AF.nil ?_ | refine AF.imm hT rfl rfl rfl ?_ | refine AH.of hT rfl ?_ | refine AD.cons hT rfl ?_ | refine AD.nil ?_ | refine AQ.cons hT rfl ?_ | refine AQ.nil ?_ | (refine ACond.no rfl ?_) | (refine AF.immG hT rfl rfl rfl rfl ?_)); conv => whnf)
    exact AFin.dev (fun _ => rfl) ⟨_, _, _, ⟨rfl, rfl⟩, rfl⟩
end Go.Aw.E1

