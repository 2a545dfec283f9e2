/-
  The statement SectorPlays: any calls of a device, and of its copies, are answered as the document says, without any condition.
-/
import Derived.Test.YtmppkjcldeljbaaSeF
import Derived.Test.YtmppkjcldeljbaaAwG
set_option linter.unusedSimpArgs false
set_option linter.unusedVariables false
set_option linter.unusedSimpArgs false
set_option linter.unusedVariables false
set_option maxHeartbeats 1000000
namespace Go.Aw.E1
open Go Go.Proofs

/-- a sector of the document's device -/
structure Rc where
  now : ByteArray
  safe : ByteArray
  loose : Bool
def rcC (c : Rc) : List AV := [sV c.now, sV c.safe, bV c.loose]
theorem rcC_len (c : Rc) : (rcC c).length = 3 := rfl
structure Rd where
  cells : List Rc
  ops : Int
  armed : Int
  dead : Bool
def rdC (d : Rd) : List AV := [.vs 3 d.cells.length (d.cells.flatMap rcC), nV d.ops, nV d.armed, bV d.dead]
def rdV (d : Rd) : AV := .agg (rdC d)
theorem rcs_ren (ρ : Nat → Nat) (l : List Rc) : renL ρ (l.flatMap rcC) = l.flatMap rcC := by
  induction l with
  | nil => rfl
  | cons a l ih => rw [List.flatMap_cons, renL_append, ih]; rfl
theorem rdC_ren (ρ : Nat → Nat) (d : Rd) : renL ρ (rdC d) = rdC d := by simp only [rdC, renL, AV.ren, rcs_ren, nV, bV]
theorem rdV_ren (ρ : Nat → Nat) (d : Rd) : (rdV d).ren ρ = rdV d := by simp only [rdV, AV.ren, rdC_ren]

def cntF (d : Rd) : Rd :=
  { d with ops := IntKind.wrap .i64 (d.ops + 1), armed := if d.armed > 0 then IntKind.wrap .i64 (d.armed - 1) else d.armed, dead := if d.armed = 1 then true else d.dead }
theorem f47 (d : Rd) : Fun P 47 [rdV d] (.tup [rdV (cntF d), bV (decide (d.armed = 1))]) := by
  refine spec_of hT (f := 47) (fn := Go.Proofs.Try.f47) (c := body Go.Proofs.Try.f47) (by kernel_rfl) (by kernel_rfl) ?_
  obtain ⟨cs, o, a, b⟩ := d
  unfold cntF
  have hr : ∀ d, (AV.tup [rdV d, bV (decide (a = 1))]).ren (nm [] 2) = AV.tup [rdV d, bV (decide (a = 1))] := fun d => by simp only [AV.ren, renL, rdV_ren, bV]
  conv => whnf
  repeat ((first | refine AO.cons hT ?_ | refine AO.nil ?_ | refine AW.seq ?_ | refine AW.region ?_ | refine AW.cond ?_ | refine AW.block ?_ | refine AW.loop ?_ | refine AW.skip ?_ | refine AW.exit ?_ | refine AW.ret ?_ | refine AF.one hT rfl ?_ | refine AF.nil ?_ | refine AF.imm hT rfl rfl rfl ?_ | refine AH.of hT rfl ?_ | refine AD.cons hT rfl ?_ | refine AD.nil ?_ | refine AQ.cons hT rfl ?_ | refine AQ.nil ?_); conv => whnf)
  refine ACond.dec (fun h => ?_) (fun h => ?_)
  · conv => whnf
    repeat ((first | refine AO.cons hT ?_ | refine AO.nil ?_ | refine AW.seq ?_ | refine AW.region ?_ | refine AW.cond ?_ | refine AW.block ?_ | refine AW.loop ?_ | refine AW.skip ?_ | refine AW.exit ?_ | refine AW.ret ?_ | refine AF.one hT rfl ?_ | refine AF.nil ?_ | refine AF.imm hT rfl rfl rfl ?_ | refine AH.of hT rfl ?_ | refine AD.cons hT rfl ?_ | refine AD.nil ?_ | refine AQ.cons hT rfl ?_ | refine AQ.nil ?_); conv => whnf)
    refine ACond.dec (fun h2 => ?_) (fun h2 => ?_)
    · have h : 0 < a := h
      have h2 : a = 1 := h2
      conv => whnf
      repeat ((first | refine AO.cons hT ?_ | refine AO.nil ?_ | refine AW.seq ?_ | refine AW.region ?_ | refine AW.cond ?_ | refine AW.block ?_ | refine AW.loop ?_ | refine AW.skip ?_ | refine AW.exit ?_ | refine AW.ret ?_ | refine AF.one hT rfl ?_ | refine AF.nil ?_ | refine AF.imm hT rfl rfl rfl ?_ | refine AH.of hT rfl ?_ | refine AD.cons hT rfl ?_ | refine AD.nil ?_ | refine AQ.cons hT rfl ?_ | refine AQ.nil ?_); conv => whnf)
      rw [if_pos h, if_pos h2]
      exact AFin.val (hr ⟨cs, IntKind.wrap .i64 (o + 1), IntKind.wrap .i64 (a - 1), true⟩) ⟨rfl, rfl⟩
    · have h : 0 < a := h
      have h2 : ¬ a = 1 := h2
      conv => whnf
      repeat ((first | refine AO.cons hT ?_ | refine AO.nil ?_ | refine AW.seq ?_ | refine AW.region ?_ | refine AW.cond ?_ | refine AW.block ?_ | refine AW.loop ?_ | refine AW.skip ?_ | refine AW.exit ?_ | refine AW.ret ?_ | refine AF.one hT rfl ?_ | refine AF.nil ?_ | refine AF.imm hT rfl rfl rfl ?_ | refine AH.of hT rfl ?_ | refine AD.cons hT rfl ?_ | refine AD.nil ?_ | refine AQ.cons hT rfl ?_ | refine AQ.nil ?_); conv => whnf)
      rw [if_pos h, if_neg h2]
      exact AFin.val (hr ⟨cs, IntKind.wrap .i64 (o + 1), IntKind.wrap .i64 (a - 1), b⟩) ⟨rfl, rfl⟩
  · have h : ¬ 0 < a := h
    conv => whnf
    repeat ((first | refine AO.cons hT ?_ | refine AO.nil ?_ | refine AW.seq ?_ | refine AW.region ?_ | refine AW.cond ?_ | refine AW.block ?_ | refine AW.loop ?_ | refine AW.skip ?_ | refine AW.exit ?_ | refine AW.ret ?_ | refine AF.one hT rfl ?_ | refine AF.nil ?_ | refine AF.imm hT rfl rfl rfl ?_ | refine AH.of hT rfl ?_ | refine AD.cons hT rfl ?_ | refine AD.nil ?_ | refine AQ.cons hT rfl ?_ | refine AQ.nil ?_); conv => whnf)
    refine ACond.dec (fun h2 => ?_) (fun h2 => ?_)
    · have h2 : a = 1 := h2
      omega
    · have h2 : ¬ a = 1 := h2
      conv => whnf
      repeat ((first | refine AO.cons hT ?_ | refine AO.nil ?_ | refine AW.seq ?_ | refine AW.region ?_ | refine AW.cond ?_ | refine AW.block ?_ | refine AW.loop ?_ | refine AW.skip ?_ | refine AW.exit ?_ | refine AW.ret ?_ | refine AF.one hT rfl ?_ | refine AF.nil ?_ | refine AF.imm hT rfl rfl rfl ?_ | refine AH.of hT rfl ?_ | refine AD.cons hT rfl ?_ | refine AD.nil ?_ | refine AQ.cons hT rfl ?_ | refine AQ.nil ?_); conv => whnf)
      rw [if_neg (show ¬ a > 0 from h), if_neg h2]
      exact AFin.val (hr ⟨cs, IntKind.wrap .i64 (o + 1), a, b⟩) ⟨rfl, rfl⟩
theorem f38 (d : Rd) : Fun P 38 [rdV d] (rdV { d with dead := true, armed := 0 }) := by
  refine spec_of hT (f := 38) (fn := Go.Proofs.Try.f38) (c := body Go.Proofs.Try.f38) (by kernel_rfl) (by kernel_rfl) ?_
  obtain ⟨cs, o, a, b⟩ := d
  conv => whnf
  repeat ((first | refine AO.cons hT ?_ | refine AO.nil ?_ | refine AW.seq ?_ | refine AW.region ?_ | refine AW.cond ?_ | refine AW.block ?_ | refine AW.loop ?_ | refine AW.skip ?_ | refine AW.exit ?_ | refine AW.ret ?_ | refine AF.one hT rfl ?_ | refine AF.nil ?_ | refine AF.imm hT rfl rfl rfl ?_ | refine AH.of hT rfl ?_ | refine AD.cons hT rfl ?_ | refine AD.nil ?_ | refine AQ.cons hT rfl ?_ | refine AQ.nil ?_); conv => whnf)
  exact AFin.val (rdV_ren _ ⟨cs, o, 0, true⟩) ⟨rfl, rfl⟩
theorem f37 (d : Rd) (n : Int) : Fun P 37 [rdV d, nV n] (.tup [rdV (if d.dead then d else if n < 1 then d else { d with armed := n }), nV (if d.dead then 20 else if n < 1 then 2 else 0)]) := by
  refine spec_of hT (f := 37) (fn := Go.Proofs.Try.f37) (c := body Go.Proofs.Try.f37) (by kernel_rfl) (by kernel_rfl) ?_
  have hr : ∀ {N e} (d : Rd), (AV.tup [rdV d, nV e]).ren (nm [] N) = AV.tup [rdV d, nV e] := fun d => by simp only [AV.ren, renL, rdV_ren, nV]
  obtain ⟨cs, o, a, b⟩ := d
  cases b with
  | true =>
    conv => whnf
    repeat (first | (refine AO.cons hT ?_; conv => whnf) | (refine AO.nil ?_; conv => whnf) | (refine AW.seq ?_; conv => whnf) | (refine AW.region ?_; conv => whnf) | (refine AW.cond ?_; conv => whnf) | (refine AW.block ?_; conv => whnf) | (refine AW.loop ?_; conv => whnf) | (refine AW.skip ?_; conv => whnf) | (refine AW.exit ?_; conv => whnf) | (refine AW.ret ?_; conv => whnf) | (refine AF.one hT rfl ?_; conv => whnf) | (refine AF.nil ?_; conv => whnf) | (refine AF.imm hT rfl rfl rfl ?_; conv => whnf) | (refine AH.of hT rfl ?_; conv => whnf) | (refine ASplit.yes rfl ?_; conv => whnf) | (refine ACond.yes rfl ?_; conv => whnf) | (refine ASplit.no rfl ?_; conv => whnf) | (refine ACond.no rfl ?_; conv => whnf) | (refine ASplit.yes (by decide) ?_; conv => whnf) | (refine ACond.yes (by decide) ?_; conv => whnf) | (refine AReq.mk (by decide) ?_; conv => whnf) | (refine AIdx.iff.2 ⟨by decide, ?_⟩; conv => whnf))
    exact AFin.val (hr _) ⟨rfl, rfl⟩
  | false =>
    conv => whnf
    repeat (first | (refine AO.cons hT ?_; conv => whnf) | (refine AO.nil ?_; conv => whnf) | (refine AW.seq ?_; conv => whnf) | (refine AW.region ?_; conv => whnf) | (refine AW.cond ?_; conv => whnf) | (refine AW.block ?_; conv => whnf) | (refine AW.loop ?_; conv => whnf) | (refine AW.skip ?_; conv => whnf) | (refine AW.exit ?_; conv => whnf) | (refine AW.ret ?_; conv => whnf) | (refine AF.one hT rfl ?_; conv => whnf) | (refine AF.nil ?_; conv => whnf) | (refine AF.imm hT rfl rfl rfl ?_; conv => whnf) | (refine AH.of hT rfl ?_; conv => whnf) | (refine ASplit.yes rfl ?_; conv => whnf) | (refine ACond.yes rfl ?_; conv => whnf) | (refine ASplit.no rfl ?_; conv => whnf) | (refine ACond.no rfl ?_; conv => whnf) | (refine ASplit.yes (by decide) ?_; conv => whnf) | (refine ACond.yes (by decide) ?_; conv => whnf) | (refine AReq.mk (by decide) ?_; conv => whnf) | (refine AIdx.iff.2 ⟨by decide, ?_⟩; conv => whnf))
    refine ACond.dec (fun h => ?_) (fun h => ?_)
    · conv => whnf
      repeat (first | (refine AO.cons hT ?_; conv => whnf) | (refine AO.nil ?_; conv => whnf) | (refine AW.seq ?_; conv => whnf) | (refine AW.region ?_; conv => whnf) | (refine AW.cond ?_; conv => whnf) | (refine AW.block ?_; conv => whnf) | (refine AW.loop ?_; conv => whnf) | (refine AW.skip ?_; conv => whnf) | (refine AW.exit ?_; conv => whnf) | (refine AW.ret ?_; conv => whnf) | (refine AF.one hT rfl ?_; conv => whnf) | (refine AF.nil ?_; conv => whnf) | (refine AF.imm hT rfl rfl rfl ?_; conv => whnf) | (refine AH.of hT rfl ?_; conv => whnf) | (refine ASplit.yes rfl ?_; conv => whnf) | (refine ACond.yes rfl ?_; conv => whnf) | (refine ASplit.no rfl ?_; conv => whnf) | (refine ACond.no rfl ?_; conv => whnf) | (refine ASplit.yes (by decide) ?_; conv => whnf) | (refine ACond.yes (by decide) ?_; conv => whnf) | (refine AReq.mk (by decide) ?_; conv => whnf) | (refine AIdx.iff.2 ⟨by decide, ?_⟩; conv => whnf))
      refine AFin.val (hr ⟨cs, o, a, false⟩) ⟨?_, rfl⟩
      simp [h]; rfl
    · conv => whnf
      repeat (first | (refine AO.cons hT ?_; conv => whnf) | (refine AO.nil ?_; conv => whnf) | (refine AW.seq ?_; conv => whnf) | (refine AW.region ?_; conv => whnf) | (refine AW.cond ?_; conv => whnf) | (refine AW.block ?_; conv => whnf) | (refine AW.loop ?_; conv => whnf) | (refine AW.skip ?_; conv => whnf) | (refine AW.exit ?_; conv => whnf) | (refine AW.ret ?_; conv => whnf) | (refine AF.one hT rfl ?_; conv => whnf) | (refine AF.nil ?_; conv => whnf) | (refine AF.imm hT rfl rfl rfl ?_; conv => whnf) | (refine AH.of hT rfl ?_; conv => whnf) | (refine ASplit.yes rfl ?_; conv => whnf) | (refine ACond.yes rfl ?_; conv => whnf) | (refine ASplit.no rfl ?_; conv => whnf) | (refine ACond.no rfl ?_; conv => whnf) | (refine ASplit.yes (by decide) ?_; conv => whnf) | (refine ACond.yes (by decide) ?_; conv => whnf) | (refine AReq.mk (by decide) ?_; conv => whnf) | (refine AIdx.iff.2 ⟨by decide, ?_⟩; conv => whnf))
      refine AFin.val (hr ⟨cs, o, n, false⟩) ⟨?_, rfl⟩
      simp [h]; rfl
theorem f46 (d : Rd) (hd : d.cells ≠ []) (hl : d.cells.length ≤ 2000) : Spec P 46 [rdV d] [] fun r H' => r = .agg [.ms 3 0 0 d.cells.length, nV d.ops, nV d.armed, bV d.dead] ∧ H' = [.cells 74 (d.cells.flatMap rcC)] := by
  refine spec_of hT (f := 46) (fn := Go.Proofs.Try.f46) (c := body Go.Proofs.Try.f46) (by kernel_rfl) (by kernel_rfl) ?_
  obtain ⟨cs, o, a, b⟩ := d
  have hl : cs.length ≤ 2000 := hl
  have hd : cs ≠ [] := hd
  have h0 : cs.length ≠ 0 := fun e => hd (List.eq_nil_of_length_eq_zero e)
  conv => whnf
  repeat ((first | refine AO.cons hT ?_ | refine AO.nil ?_ | refine AW.seq ?_ | refine AW.region ?_ | refine AW.cond ?_ | refine AW.block ?_ | refine AW.loop ?_ | refine AW.skip ?_ | refine AW.exit ?_ | refine AW.ret ?_ | refine AF.one hT rfl ?_ | refine AF.nil ?_ | refine AF.imm hT rfl rfl rfl ?_ | refine AH.of hT rfl ?_ | refine AD.cons hT rfl ?_ | refine AD.nil ?_ | refine AQ.cons hT rfl ?_ | refine AQ.nil ?_); conv => whnf)
  refine AReq.mk (by show (0 + cs.length) * 40 ≤ _; omega) ?_
  refine ASplit.no (decide_eq_false h0) ?_
  conv => whnf
  repeat ((first | refine AO.cons hT ?_ | refine AO.nil ?_ | refine AW.seq ?_ | refine AW.region ?_ | refine AW.cond ?_ | refine AW.block ?_ | refine AW.loop ?_ | refine AW.skip ?_ | refine AW.exit ?_ | refine AW.ret ?_ | refine AF.one hT rfl ?_ | refine AF.nil ?_ | refine AF.imm hT rfl rfl rfl ?_ | refine AH.of hT rfl ?_ | refine AD.cons hT rfl ?_ | refine AD.nil ?_ | refine AQ.cons hT rfl ?_ | refine AQ.nil ?_); conv => whnf)
  show AFin 0 (.agg [.ms 3 2 0 (0 + cs.length), nV o, nV a, bV b]) [.cells 44 _, .cells 44 _, .cells 74 (cs.flatMap rcC)] _
  rw [Nat.zero_add]
  exact AFin.to _ _ (Conv.ren [2] [.agg [.ms 3 0 0 cs.length, nV o, nV a, bV b]] (by intro i h; omega) (by decide) (Fit.refl _) (.same (by rw [cells_ren, rcs_ren]; rfl) .nil)) ⟨rfl, rfl⟩
end Go.Aw.E1

set_option linter.unusedSimpArgs false
set_option linter.unusedVariables false
set_option maxHeartbeats 1000000
namespace Go.Aw.E1
open Go Go.Proofs

theorem append_assoc (a b c : ByteArray) : a ++ b ++ c = a ++ (b ++ c) := by apply list_inj; simp [ByteArray.data_append]
theorem catF_len : ∀ (l : List Rc), (∀ c ∈ l, c.now.size = 64) → (l.flatMap fun c => c.now.data.toList).length = 64 * l.length
  | [], _ => rfl
  | c :: l, h => by
    have h1 := h c (by simp)
    have h2 := catF_len l (fun c hc => h c (by simp [hc]))
    have := size_list c.now
    rw [List.flatMap_cons, List.length_append, h2, List.length_cons]; omega
/-- the texts of sectors, one behind the other -/
def catF (l : List Rc) : ByteArray := ofL (l.flatMap fun c => c.now.data.toList)
def rreadF (d : Rd) (at_ n : Int) : ByteArray × Int :=
  if d.dead then (e0, 20) else if n < 1 then (e0, 2) else if at_ < 0 ∨ at_ > d.cells.length ∨ n > d.cells.length - at_ then (e0, 21) else (catF ((d.cells.drop at_.toNat).take n.toNat), 0)
theorem f22 (d : Rd) (at_ n : Int) (hl : d.cells.length ≤ 2000) (h64 : ∀ c ∈ d.cells, c.now.size = 64) (ha : (Lit.int .i64 at_).wf = true) : Fun P 22 [rdV d, nV at_, nV n] (.tup [sV (rreadF d at_ n).1, nV (rreadF d at_ n).2]) := by
  refine spec_of hT (f := 22) (fn := Go.Proofs.Try.f22) (c := body Go.Proofs.Try.f22) (by kernel_rfl) (by kernel_rfl) ?_
  unfold rreadF
  have hwf : -9223372036854775808 ≤ at_ ∧ at_ ≤ 9223372036854775807 := by simpa [Lit.wf, IntKind.min, IntKind.max, IntKind.signed, IntKind.bits] using ha
  conv => whnf
  repeat ((first | refine AO.cons hT ?_ | refine AO.nil ?_ | refine AW.seq ?_ | refine AW.region ?_ | refine AW.cond ?_ | refine AW.block ?_ | refine AW.loop ?_ | refine AW.skip ?_ | refine AW.exit ?_ | refine AW.ret ?_ | refine AW.label ?_ | refine AW.scope ?_ | refine AF.one hT rfl ?_ | refine AF.nil ?_ | refine AF.imm hT rfl rfl rfl ?_ | refine AH.of hT rfl ?_ | refine AD.cons hT rfl ?_ | refine AD.nil ?_ | refine AQ.cons hT rfl ?_ | refine AQ.nil ?_); conv => whnf)
  refine ACond.mk (fun h => ?_) (fun h => ?_)
  · rw [if_pos h]
    conv => whnf
    repeat ((first | refine AO.cons hT ?_ | refine AO.nil ?_ | refine AW.seq ?_ | refine AW.region ?_ | refine AW.cond ?_ | refine AW.block ?_ | refine AW.loop ?_ | refine AW.skip ?_ | refine AW.exit ?_ | refine AW.ret ?_ | refine AW.label ?_ | refine AW.scope ?_ | refine AF.one hT rfl ?_ | refine AF.nil ?_ | refine AF.imm hT rfl rfl rfl ?_ | refine AH.of hT rfl ?_ | refine AD.cons hT rfl ?_ | refine AD.nil ?_ | refine AQ.cons hT rfl ?_ | refine AQ.nil ?_); conv => whnf)
    exact AFin.val rfl ⟨rfl, rfl⟩
  rw [if_neg (by simp [h])]
  conv => whnf
  repeat ((first | refine AO.cons hT ?_ | refine AO.nil ?_ | refine AW.seq ?_ | refine AW.region ?_ | refine AW.cond ?_ | refine AW.block ?_ | refine AW.loop ?_ | refine AW.skip ?_ | refine AW.exit ?_ | refine AW.ret ?_ | refine AW.label ?_ | refine AW.scope ?_ | refine AF.one hT rfl ?_ | refine AF.nil ?_ | refine AF.imm hT rfl rfl rfl ?_ | refine AH.of hT rfl ?_ | refine AD.cons hT rfl ?_ | refine AD.nil ?_ | refine AQ.cons hT rfl ?_ | refine AQ.nil ?_); conv => whnf)
  refine ACond.dec (fun h1 => ?_) (fun h1 => ?_)
  · rw [if_pos h1]
    conv => whnf
    repeat ((first | refine AO.cons hT ?_ | refine AO.nil ?_ | refine AW.seq ?_ | refine AW.region ?_ | refine AW.cond ?_ | refine AW.block ?_ | refine AW.loop ?_ | refine AW.skip ?_ | refine AW.exit ?_ | refine AW.ret ?_ | refine AW.label ?_ | refine AW.scope ?_ | refine AF.one hT rfl ?_ | refine AF.nil ?_ | refine AF.imm hT rfl rfl rfl ?_ | refine AH.of hT rfl ?_ | refine AD.cons hT rfl ?_ | refine AD.nil ?_ | refine AQ.cons hT rfl ?_ | refine AQ.nil ?_); conv => whnf)
    exact AFin.val rfl ⟨rfl, rfl⟩
  rw [if_neg h1]
  have hbad : (at_ < 0 ∨ at_ > d.cells.length ∨ n > d.cells.length - at_) → AFin 0 (.tup [sV e0, nV 21]) [.cells 44 (rdC d)] (fun r' H' => r' = .tup [sV (if at_ < 0 ∨ at_ > d.cells.length ∨ n > d.cells.length - at_ then (e0, (21 : Int)) else (catF ((d.cells.drop at_.toNat).take n.toNat), 0)).1, nV (if at_ < 0 ∨ at_ > d.cells.length ∨ n > d.cells.length - at_ then (e0, (21 : Int)) else (catF ((d.cells.drop at_.toNat).take n.toNat), 0)).2] ∧ H' = []) := fun g => by
    rw [if_pos g]
    exact AFin.val rfl ⟨rfl, rfl⟩
  conv => whnf
  repeat ((first | refine AO.cons hT ?_ | refine AO.nil ?_ | refine AW.seq ?_ | refine AW.region ?_ | refine AW.cond ?_ | refine AW.block ?_ | refine AW.loop ?_ | refine AW.skip ?_ | refine AW.exit ?_ | refine AW.ret ?_ | refine AW.label ?_ | refine AW.scope ?_ | refine AF.one hT rfl ?_ | refine AF.nil ?_ | refine AF.imm hT rfl rfl rfl ?_ | refine AH.of hT rfl ?_ | refine AD.cons hT rfl ?_ | refine AD.nil ?_ | refine AQ.cons hT rfl ?_ | refine AQ.nil ?_); conv => whnf)
  refine ASplit.dec (fun h2 => ?_) (fun h2 => ?_)
  · conv => whnf
    repeat (first | (refine AW.label ?_; conv => whnf) | (refine AW.scope ?_; conv => whnf) | (refine AO.cons hT ?_; conv => whnf) | (refine AO.nil ?_; conv => whnf) | (refine AW.seq ?_; conv => whnf) | (refine AW.region ?_; conv => whnf) | (refine AW.cond ?_; conv => whnf) | (refine AW.block ?_; conv => whnf) | (refine AW.loop ?_; conv => whnf) | (refine AW.skip ?_; conv => whnf) | (refine AW.exit ?_; conv => whnf) | (refine AW.ret ?_; conv => whnf) | (refine AF.one hT rfl ?_; conv => whnf) | (refine AF.nil ?_; conv => whnf) | (refine AF.imm hT rfl rfl rfl ?_; conv => whnf) | (refine AH.of hT rfl ?_; conv => whnf) | (refine ASplit.yes rfl ?_; conv => whnf) | (refine ACond.yes rfl ?_; conv => whnf) | (refine ASplit.no rfl ?_; conv => whnf) | (refine ACond.no rfl ?_; conv => whnf) | (refine ASplit.yes (by decide) ?_; conv => whnf) | (refine ACond.yes (by decide) ?_; conv => whnf) | (refine AReq.mk (by decide) ?_; conv => whnf) | (refine AIdx.iff.2 ⟨by decide, ?_⟩; conv => whnf))
    exact hbad (.inl h2)
  conv => whnf
  repeat ((first | refine AO.cons hT ?_ | refine AO.nil ?_ | refine AW.seq ?_ | refine AW.region ?_ | refine AW.cond ?_ | refine AW.block ?_ | refine AW.loop ?_ | refine AW.skip ?_ | refine AW.exit ?_ | refine AW.ret ?_ | refine AW.label ?_ | refine AW.scope ?_ | refine AF.one hT rfl ?_ | refine AF.nil ?_ | refine AF.imm hT rfl rfl rfl ?_ | refine AH.of hT rfl ?_ | refine AD.cons hT rfl ?_ | refine AD.nil ?_ | refine AQ.cons hT rfl ?_ | refine AQ.nil ?_); conv => whnf)
  refine ASplit.dec (fun h3 => ?_) (fun h3 => ?_)
  · conv => whnf
    repeat (first | (refine AW.label ?_; conv => whnf) | (refine AW.scope ?_; conv => whnf) | (refine AO.cons hT ?_; conv => whnf) | (refine AO.nil ?_; conv => whnf) | (refine AW.seq ?_; conv => whnf) | (refine AW.region ?_; conv => whnf) | (refine AW.cond ?_; conv => whnf) | (refine AW.block ?_; conv => whnf) | (refine AW.loop ?_; conv => whnf) | (refine AW.skip ?_; conv => whnf) | (refine AW.exit ?_; conv => whnf) | (refine AW.ret ?_; conv => whnf) | (refine AF.one hT rfl ?_; conv => whnf) | (refine AF.nil ?_; conv => whnf) | (refine AF.imm hT rfl rfl rfl ?_; conv => whnf) | (refine AH.of hT rfl ?_; conv => whnf) | (refine ASplit.yes rfl ?_; conv => whnf) | (refine ACond.yes rfl ?_; conv => whnf) | (refine ASplit.no rfl ?_; conv => whnf) | (refine ACond.no rfl ?_; conv => whnf) | (refine ASplit.yes (by decide) ?_; conv => whnf) | (refine ACond.yes (by decide) ?_; conv => whnf) | (refine AReq.mk (by decide) ?_; conv => whnf) | (refine AIdx.iff.2 ⟨by decide, ?_⟩; conv => whnf))
    exact hbad (.inr (.inl h3))
  conv => whnf
  repeat ((first | refine AO.cons hT ?_ | refine AO.nil ?_ | refine AW.seq ?_ | refine AW.region ?_ | refine AW.cond ?_ | refine AW.block ?_ | refine AW.loop ?_ | refine AW.skip ?_ | refine AW.exit ?_ | refine AW.ret ?_ | refine AW.label ?_ | refine AW.scope ?_ | refine AF.one hT rfl ?_ | refine AF.nil ?_ | refine AF.imm hT rfl rfl rfl ?_ | refine AH.of hT rfl ?_ | refine AD.cons hT rfl ?_ | refine AD.nil ?_ | refine AQ.cons hT rfl ?_ | refine AQ.nil ?_); conv => whnf)
  rw [wrap_i64 ((d.cells.length : Int) - at_) (by omega) (by omega)]
  refine ACond.dec (fun h4 => ?_) (fun h4 => ?_)
  · conv => whnf
    repeat (first | (refine AW.label ?_; conv => whnf) | (refine AW.scope ?_; conv => whnf) | (refine AO.cons hT ?_; conv => whnf) | (refine AO.nil ?_; conv => whnf) | (refine AW.seq ?_; conv => whnf) | (refine AW.region ?_; conv => whnf) | (refine AW.cond ?_; conv => whnf) | (refine AW.block ?_; conv => whnf) | (refine AW.loop ?_; conv => whnf) | (refine AW.skip ?_; conv => whnf) | (refine AW.exit ?_; conv => whnf) | (refine AW.ret ?_; conv => whnf) | (refine AF.one hT rfl ?_; conv => whnf) | (refine AF.nil ?_; conv => whnf) | (refine AF.imm hT rfl rfl rfl ?_; conv => whnf) | (refine AH.of hT rfl ?_; conv => whnf) | (refine ASplit.yes rfl ?_; conv => whnf) | (refine ACond.yes rfl ?_; conv => whnf) | (refine ASplit.no rfl ?_; conv => whnf) | (refine ACond.no rfl ?_; conv => whnf) | (refine ASplit.yes (by decide) ?_; conv => whnf) | (refine ACond.yes (by decide) ?_; conv => whnf) | (refine AReq.mk (by decide) ?_; conv => whnf) | (refine AIdx.iff.2 ⟨by decide, ?_⟩; conv => whnf))
    exact hbad (.inr (.inr h4))
  clear hbad
  rw [if_neg (by omega)]
  obtain ⟨a, rfl⟩ : ∃ a : Nat, at_ = a := ⟨at_.toNat, by omega⟩
  obtain ⟨m, rfl⟩ : ∃ m : Nat, n = m := ⟨n.toNat, by omega⟩
  rw [Int.toNat_natCast, Int.toNat_natCast]
  conv => whnf
  repeat ((first | refine AO.cons hT ?_ | refine AO.nil ?_ | refine AW.seq ?_ | refine AW.region ?_ | refine AW.cond ?_ | refine AW.block ?_ | refine AW.loop ?_ | refine AW.skip ?_ | refine AW.exit ?_ | refine AW.ret ?_ | refine AW.label ?_ | refine AW.scope ?_ | refine AF.one hT rfl ?_ | refine AF.nil ?_ | refine AF.imm hT rfl rfl rfl ?_ | refine AH.of hT rfl ?_ | refine AD.cons hT rfl ?_ | refine AD.nil ?_ | refine AQ.cons hT rfl ?_ | refine AQ.nil ?_); conv => whnf)
  refine ALoop.mk (fun j E H => ∃ i : Nat, j + i = m ∧ E = pad [.any, nV a, nV m, .ptr 0 0, .any, .any, .any, .any, sV (catF ((d.cells.drop a).take i)), nV ((a + i : Nat) : Int)] 49 ∧ H = [.cells 44 (rdC d)])
    (n := m) _ _ ⟨0, rfl, rfl, rfl⟩ (Conv.fit ?_) ?_
  · repeat' (first | exact Fit.nil | refine Fit.any ?_ | refine Fit.same ?_)
  rintro j _ _ ⟨i, hj, rfl, rfl⟩
  conv => whnf
  repeat ((first | refine AO.cons hT ?_ | refine AO.nil ?_ | refine AW.seq ?_ | refine AW.region ?_ | refine AW.cond ?_ | refine AW.block ?_ | refine AW.loop ?_ | refine AW.skip ?_ | refine AW.exit ?_ | refine AW.ret ?_ | refine AW.label ?_ | refine AW.scope ?_ | refine AF.one hT rfl ?_ | refine AF.nil ?_ | refine AF.imm hT rfl rfl rfl ?_ | refine AH.of hT rfl ?_ | refine AD.cons hT rfl ?_ | refine AD.nil ?_ | refine AQ.cons hT rfl ?_ | refine AQ.nil ?_); conv => whnf)
  rw [wrap_i64 ((a : Int) + m) (by omega) (by omega)]
  refine ACond.dec (fun h5 => ?_) (fun h5 => ?_)
  · have hil : a + i < d.cells.length := by omega
    have w1 : IntKind.wrap .i64 (((a + i : Nat) : Int) + 1) = ((a + (i + 1) : Nat) : Int) := by rw [wrap_i64 _ (by omega) (by omega)]; omega
    conv => whnf
    repeat ((first | refine AO.cons hT ?_ | refine AO.nil ?_ | refine AW.seq ?_ | refine AW.region ?_ | refine AW.cond ?_ | refine AW.block ?_ | refine AW.loop ?_ | refine AW.skip ?_ | refine AW.exit ?_ | refine AW.ret ?_ | refine AW.label ?_ | refine AW.scope ?_ | refine AF.one hT rfl ?_ | refine AF.nil ?_ | refine AF.imm hT rfl rfl rfl ?_ | refine AH.of hT rfl ?_ | refine AD.cons hT rfl ?_ | refine AD.nil ?_ | refine AQ.cons hT rfl ?_ | refine AQ.nil ?_); conv => whnf)
    refine AReq.mk (by omega) ?_
    conv => whnf
    repeat ((first | refine AO.cons hT ?_ | refine AO.nil ?_ | refine AW.seq ?_ | refine AW.region ?_ | refine AW.cond ?_ | refine AW.block ?_ | refine AW.loop ?_ | refine AW.skip ?_ | refine AW.exit ?_ | refine AW.ret ?_ | refine AW.label ?_ | refine AW.scope ?_ | refine AF.one hT rfl ?_ | refine AF.nil ?_ | refine AF.imm hT rfl rfl rfl ?_ | refine AH.of hT rfl ?_ | refine AD.cons hT rfl ?_ | refine AD.nil ?_ | refine AQ.cons hT rfl ?_ | refine AQ.nil ?_); conv => whnf)
    refine AIdx.flat (enc := rcC) rcC_len (xs := d.cells) (i := a + i) hil ?_
    conv => whnf
    repeat ((first | refine AO.cons hT ?_ | refine AO.nil ?_ | refine AW.seq ?_ | refine AW.region ?_ | refine AW.cond ?_ | refine AW.block ?_ | refine AW.loop ?_ | refine AW.skip ?_ | refine AW.exit ?_ | refine AW.ret ?_ | refine AW.label ?_ | refine AW.scope ?_ | refine AF.one hT rfl ?_ | refine AF.nil ?_ | refine AF.imm hT rfl rfl rfl ?_ | refine AH.of hT rfl ?_ | refine AD.cons hT rfl ?_ | refine AD.nil ?_ | refine AQ.cons hT rfl ?_ | refine AQ.nil ?_); conv => whnf)
    have hsz : (catF ((d.cells.drop a).take i)).size ≤ 1000000 := by
      unfold catF
      rw [ofL_size, catF_len _ (fun c hc => h64 c (List.mem_of_mem_drop (List.mem_of_mem_take hc))), List.length_take, List.length_drop]; omega
    have hct : catF ((d.cells.drop a).take i) ++ d.cells[a + i].now = catF ((d.cells.drop a).take (i + 1)) := by
      have e : (d.cells.drop a).take (i + 1) = (d.cells.drop a).take i ++ [d.cells[a + i]] := by
        rw [List.take_add_one, List.getElem?_drop, List.getElem?_eq_getElem hil]; rfl
      rw [e]
      unfold catF
      apply list_inj
      rw [ByteArray.data_append, Array.toList_append, ofL_list, ofL_list, List.flatMap_append]
      simp
    have hc := h64 _ (List.getElem_mem hil)
    refine AReq.mk (by omega) ?_
    conv => whnf
    repeat ((first | refine AO.cons hT ?_ | refine AO.nil ?_ | refine AW.seq ?_ | refine AW.region ?_ | refine AW.cond ?_ | refine AW.block ?_ | refine AW.loop ?_ | refine AW.skip ?_ | refine AW.exit ?_ | refine AW.ret ?_ | refine AW.label ?_ | refine AW.scope ?_ | refine AF.one hT rfl ?_ | refine AF.nil ?_ | refine AF.imm hT rfl rfl rfl ?_ | refine AH.of hT rfl ?_ | refine AD.cons hT rfl ?_ | refine AD.nil ?_ | refine AQ.cons hT rfl ?_ | refine AQ.nil ?_); conv => whnf)
    rw [w1, hct]
    exact AHead.mk (j - 1) _ _ (by omega) ⟨i + 1, by omega, rfl, rfl⟩ (Conv.fit (by repeat' (first | exact Fit.nil | refine Fit.any ?_ | refine Fit.same ?_)))
  · obtain rfl : j = 0 := by omega
    obtain rfl : i = m := by omega
    conv => whnf
    repeat ((first | refine AO.cons hT ?_ | refine AO.nil ?_ | refine AW.seq ?_ | refine AW.region ?_ | refine AW.cond ?_ | refine AW.block ?_ | refine AW.loop ?_ | refine AW.skip ?_ | refine AW.exit ?_ | refine AW.ret ?_ | refine AW.label ?_ | refine AW.scope ?_ | refine AF.one hT rfl ?_ | refine AF.nil ?_ | refine AF.imm hT rfl rfl rfl ?_ | refine AH.of hT rfl ?_ | refine AD.cons hT rfl ?_ | refine AD.nil ?_ | refine AQ.cons hT rfl ?_ | refine AQ.nil ?_); conv => whnf)
    refine AOut.stay ?_
    conv => whnf
    repeat ((first | refine AO.cons hT ?_ | refine AO.nil ?_ | refine AW.seq ?_ | refine AW.region ?_ | refine AW.cond ?_ | refine AW.block ?_ | refine AW.loop ?_ | refine AW.skip ?_ | refine AW.exit ?_ | refine AW.ret ?_ | refine AW.label ?_ | refine AW.scope ?_ | refine AF.one hT rfl ?_ | refine AF.nil ?_ | refine AF.imm hT rfl rfl rfl ?_ | refine AH.of hT rfl ?_ | refine AD.cons hT rfl ?_ | refine AD.nil ?_ | refine AQ.cons hT rfl ?_ | refine AQ.nil ?_); conv => whnf)
    exact AFin.val rfl ⟨rfl, rfl⟩
theorem zeros64 : (List.replicate (Int.toNat 64) [AV.v (.int .u8 0)]).flatten = (List.replicate 64 (0 : UInt8)).map byteC := by
  rw [List.flatten_replicate_singleton, List.map_replicate]; rfl
theorem f33 : Fun P 33 [] (sV (fillS 1 0)) := by
  refine spec_of hT (f := 33) (fn := Go.Proofs.Try.f33) (c := body Go.Proofs.Try.f33) (by kernel_rfl) (by kernel_rfl) ?_
  conv => whnf
  repeat ((first | refine AO.cons hT ?_ | refine AO.nil ?_ | refine AW.seq ?_ | refine AW.region ?_ | refine AW.cond ?_ | refine AW.block ?_ | refine AW.loop ?_ | refine AW.skip ?_ | refine AW.exit ?_ | refine AW.ret ?_ | refine AW.label ?_ | refine AW.scope ?_ | refine AF.one hT rfl ?_ | refine AF.nil ?_ | refine AF.imm hT rfl rfl rfl ?_ | refine AH.of hT rfl ?_ | refine AD.cons hT rfl ?_ | refine AD.nil ?_ | refine AQ.cons hT rfl ?_ | refine AQ.nil ?_); conv => whnf)
  refine AReq.mk (by decide) ?_
  conv => whnf
  repeat ((first | refine AO.cons hT ?_ | refine AO.nil ?_ | refine AW.seq ?_ | refine AW.region ?_ | refine AW.cond ?_ | refine AW.block ?_ | refine AW.loop ?_ | refine AW.skip ?_ | refine AW.exit ?_ | refine AW.ret ?_ | refine AW.label ?_ | refine AW.scope ?_ | refine AF.one hT rfl ?_ | refine AF.nil ?_ | refine AF.imm hT rfl rfl rfl ?_ | refine AH.of hT rfl ?_ | refine AD.cons hT rfl ?_ | refine AD.nil ?_ | refine AQ.cons hT rfl ?_ | refine AQ.nil ?_); conv => whnf)
  refine ACut.all (by rw [zeros64, List.length_map, List.length_replicate]; rfl) ?_
  conv => whnf
  repeat ((first | refine AO.cons hT ?_ | refine AO.nil ?_ | refine AW.seq ?_ | refine AW.region ?_ | refine AW.cond ?_ | refine AW.block ?_ | refine AW.loop ?_ | refine AW.skip ?_ | refine AW.exit ?_ | refine AW.ret ?_ | refine AW.label ?_ | refine AW.scope ?_ | refine AF.one hT rfl ?_ | refine AF.nil ?_ | refine AF.imm hT rfl rfl rfl ?_ | refine AH.of hT rfl ?_ | refine AD.cons hT rfl ?_ | refine AD.nil ?_ | refine AQ.cons hT rfl ?_ | refine AQ.nil ?_); conv => whnf)
  rw [zeros64]
  refine AStr.mk ?_
  conv => whnf
  repeat ((first | refine AO.cons hT ?_ | refine AO.nil ?_ | refine AW.seq ?_ | refine AW.region ?_ | refine AW.cond ?_ | refine AW.block ?_ | refine AW.loop ?_ | refine AW.skip ?_ | refine AW.exit ?_ | refine AW.ret ?_ | refine AW.label ?_ | refine AW.scope ?_ | refine AF.one hT rfl ?_ | refine AF.nil ?_ | refine AF.imm hT rfl rfl rfl ?_ | refine AH.of hT rfl ?_ | refine AD.cons hT rfl ?_ | refine AD.nil ?_ | refine AQ.cons hT rfl ?_ | refine AQ.nil ?_); conv => whnf)
  exact AFin.val rfl ⟨rfl, rfl⟩
def rlooseF (cs : List Rc) (n : Nat) : List Int := ((List.range n).filter fun j => (cs.getD j ⟨e0, e0, false⟩).loose).map fun j : Nat => (j : Int)
theorem rloose_step (cs : List Rc) (i : Nat) (h : i < cs.length) : rlooseF cs (i + 1) = if cs[i].loose then rlooseF cs i ++ [(i : Int)] else rlooseF cs i := by
  unfold rlooseF
  have e : (cs.getD i ⟨e0, e0, false⟩) = cs[i] := by rw [List.getD_eq_getElem?_getD, List.getElem?_eq_getElem h]; rfl
  rw [List.range_succ, List.filter_append, List.filter_cons, e]
  split <;> simp
theorem rloose_le (cs : List Rc) (i : Nat) : (rlooseF cs i).length ≤ i := by
  unfold rlooseF
  rw [List.length_map]
  have := List.length_filter_le (fun j => (cs.getD j ⟨e0, e0, false⟩).loose) (List.range i)
  rw [List.length_range] at this
  exact this
theorem f41 (d : Rd) (hl : d.cells.length ≤ 2000) : Fun P 41 [rdV d] (iVs (if d.dead then [] else rlooseF d.cells d.cells.length)) := by
  refine spec_of hT (f := 41) (fn := Go.Proofs.Try.f41) (c := body Go.Proofs.Try.f41) (by kernel_rfl) (by kernel_rfl) ?_
  conv => whnf
  repeat ((first | refine AO.cons hT ?_ | refine AO.nil ?_ | refine AW.seq ?_ | refine AW.region ?_ | refine AW.cond ?_ | refine AW.block ?_ | refine AW.loop ?_ | refine AW.skip ?_ | refine AW.exit ?_ | refine AW.ret ?_ | refine AW.label ?_ | refine AW.scope ?_ | refine AF.one hT rfl ?_ | refine AF.nil ?_ | refine AF.imm hT rfl rfl rfl ?_ | refine AH.of hT rfl ?_ | refine AD.cons hT rfl ?_ | refine AD.nil ?_ | refine AQ.cons hT rfl ?_ | refine AQ.nil ?_); conv => whnf)
  refine ALoop.mk (fun j E H => ∃ i : Nat, j + i = d.cells.length ∧ (d.dead = true → i = 0) ∧ E = pad [.any, .ptr 0 0, .any, .ms 1 1 0 (rlooseF d.cells i).length, nV i] 28 ∧ H = [.cells 44 (rdC d), .cells 3 ((rlooseF d.cells i).map nV)])
    (n := d.cells.length) _ _ ⟨0, rfl, fun _ => rfl, rfl, rfl⟩ (Conv.own (sz := 1) 3 ?_) ?_
  · repeat' (first | exact FitN.nil | refine FitN.any ?_ | refine FitN.own ?_ | refine FitN.same ?_)
  rintro j _ _ ⟨i, hj, hd, rfl, rfl⟩
  conv => whnf
  repeat ((first | refine AO.cons hT ?_ | refine AO.nil ?_ | refine AW.seq ?_ | refine AW.region ?_ | refine AW.cond ?_ | refine AW.block ?_ | refine AW.loop ?_ | refine AW.skip ?_ | refine AW.exit ?_ | refine AW.ret ?_ | refine AW.label ?_ | refine AW.scope ?_ | refine AF.one hT rfl ?_ | refine AF.nil ?_ | refine AF.imm hT rfl rfl rfl ?_ | refine AH.of hT rfl ?_ | refine AD.cons hT rfl ?_ | refine AD.nil ?_ | refine AQ.cons hT rfl ?_ | refine AQ.nil ?_); conv => whnf)
  have hend : (i = d.cells.length ∨ d.dead = true) → AFin 0 (.ms 1 1 0 (rlooseF d.cells i).length) [.cells 44 (rdC d), .cells 3 ((rlooseF d.cells i).map nV)] (fun r' H' => r' = iVs (if d.dead then [] else rlooseF d.cells d.cells.length) ∧ H' = []) := by
    intro h
    refine AFin.to (iVs (if d.dead then [] else rlooseF d.cells d.cells.length)) [] (Conv.out ?_ (fun ρ => iVs_ren ρ _)) ⟨rfl, rfl⟩
    refine .sm' rfl (by rw [List.length_map, Nat.mul_one]) ?_ ?_
    · rcases Bool.eq_false_or_eq_true d.dead with hb | hb
      · rw [if_pos hb, hd hb]; rfl
      · rw [if_neg (by simp [hb])]
        rcases h with h | h
        · rw [h]
        · rw [hb] at h; cases h
    · rcases Bool.eq_false_or_eq_true d.dead with hb | hb
      · rw [if_pos hb, hd hb]; rfl
      · rw [if_neg (by simp [hb])]
        rcases h with h | h
        · rw [h]
        · rw [hb] at h; cases h
  refine ASplit.dec (fun h1 => ?_) (fun h1 => ?_)
  · conv => whnf
    repeat ((first | refine AO.cons hT ?_ | refine AO.nil ?_ | refine AW.seq ?_ | refine AW.region ?_ | refine AW.cond ?_ | refine AW.block ?_ | refine AW.loop ?_ | refine AW.skip ?_ | refine AW.exit ?_ | refine AW.ret ?_ | refine AW.label ?_ | refine AW.scope ?_ | refine AF.one hT rfl ?_ | refine AF.nil ?_ | refine AF.imm hT rfl rfl rfl ?_ | refine AH.of hT rfl ?_ | refine AD.cons hT rfl ?_ | refine AD.nil ?_ | refine AQ.cons hT rfl ?_ | refine AQ.nil ?_); conv => whnf)
    refine ACond.mk (fun h2 => ?_) (fun h2 => ?_)
    · have hdf : d.dead = false := by simpa using h2
      have hil : i < d.cells.length := by omega
      have w1 : IntKind.wrap .i64 ((i : Int) + 1) = ((i + 1 : Nat) : Int) := by rw [wrap_i64 _ (by omega) (by omega)]; omega
      have hst := rloose_step d.cells i hil
      have hle := rloose_le d.cells i
      conv => whnf
      repeat ((first | refine AO.cons hT ?_ | refine AO.nil ?_ | refine AW.seq ?_ | refine AW.region ?_ | refine AW.cond ?_ | refine AW.block ?_ | refine AW.loop ?_ | refine AW.skip ?_ | refine AW.exit ?_ | refine AW.ret ?_ | refine AW.label ?_ | refine AW.scope ?_ | refine AF.one hT rfl ?_ | refine AF.nil ?_ | refine AF.imm hT rfl rfl rfl ?_ | refine AH.of hT rfl ?_ | refine AD.cons hT rfl ?_ | refine AD.nil ?_ | refine AQ.cons hT rfl ?_ | refine AQ.nil ?_); conv => whnf)
      refine AReq.mk (by omega) ?_
      conv => whnf
      repeat ((first | refine AO.cons hT ?_ | refine AO.nil ?_ | refine AW.seq ?_ | refine AW.region ?_ | refine AW.cond ?_ | refine AW.block ?_ | refine AW.loop ?_ | refine AW.skip ?_ | refine AW.exit ?_ | refine AW.ret ?_ | refine AW.label ?_ | refine AW.scope ?_ | refine AF.one hT rfl ?_ | refine AF.nil ?_ | refine AF.imm hT rfl rfl rfl ?_ | refine AH.of hT rfl ?_ | refine AD.cons hT rfl ?_ | refine AD.nil ?_ | refine AQ.cons hT rfl ?_ | refine AQ.nil ?_); conv => whnf)
      refine AIdx.flat (enc := rcC) rcC_len (xs := d.cells) (i := i) hil ?_
      conv => whnf
      repeat ((first | refine AO.cons hT ?_ | refine AO.nil ?_ | refine AW.seq ?_ | refine AW.region ?_ | refine AW.cond ?_ | refine AW.block ?_ | refine AW.loop ?_ | refine AW.skip ?_ | refine AW.exit ?_ | refine AW.ret ?_ | refine AW.label ?_ | refine AW.scope ?_ | refine AF.one hT rfl ?_ | refine AF.nil ?_ | refine AF.imm hT rfl rfl rfl ?_ | refine AH.of hT rfl ?_ | refine AD.cons hT rfl ?_ | refine AD.nil ?_ | refine AQ.cons hT rfl ?_ | refine AQ.nil ?_); conv => whnf)
      refine ACond.mk (fun h3 => ?_) (fun h3 => ?_)
      · rw [if_pos h3] at hst
        conv => whnf
        repeat ((first | refine AO.cons hT ?_ | refine AO.nil ?_ | refine AW.seq ?_ | refine AW.region ?_ | refine AW.cond ?_ | refine AW.block ?_ | refine AW.loop ?_ | refine AW.skip ?_ | refine AW.exit ?_ | refine AW.ret ?_ | refine AW.label ?_ | refine AW.scope ?_ | refine AF.one hT rfl ?_ | refine AF.nil ?_ | refine AF.imm hT rfl rfl rfl ?_ | refine AH.of hT rfl ?_ | refine AD.cons hT rfl ?_ | refine AD.nil ?_ | refine AQ.cons hT rfl ?_ | refine AQ.nil ?_); conv => whnf)
        refine AReq.mk ⟨by rw [List.length_map, Nat.mul_one], by show (_ + 1) * 8 ≤ _; omega⟩ ?_
        conv => whnf
        repeat ((first | refine AO.cons hT ?_ | refine AO.nil ?_ | refine AW.seq ?_ | refine AW.region ?_ | refine AW.cond ?_ | refine AW.block ?_ | refine AW.loop ?_ | refine AW.skip ?_ | refine AW.exit ?_ | refine AW.ret ?_ | refine AW.label ?_ | refine AW.scope ?_ | refine AF.one hT rfl ?_ | refine AF.nil ?_ | refine AF.imm hT rfl rfl rfl ?_ | refine AH.of hT rfl ?_ | refine AD.cons hT rfl ?_ | refine AD.nil ?_ | refine AQ.cons hT rfl ?_ | refine AQ.nil ?_); conv => whnf)
        rw [w1]
        refine AHead.mk (j - 1) (pad [.any, .ptr 0 0, .any, .ms 1 1 0 (rlooseF d.cells (i + 1)).length, nV ((i + 1 : Nat) : Int)] 28) [.cells 44 (rdC d), .cells 3 ((rlooseF d.cells (i + 1)).map nV)] (by omega) ⟨i + 1, by omega, by simp [hdf], rfl, rfl⟩ ?_
        rw [hst, List.length_append, List.map_append]
        exact Conv.ren [0, 2] _ (fun _ h => absurd h (Nat.not_lt_zero _)) (by decide) (by repeat' (first | exact Fit.nil | refine Fit.any ?_ | refine Fit.same ?_)) (.same (by rw [cells_ren, rdC_ren]; rfl) (.same (by rw [cells_ren, renL_append, nVs_ren]; rfl) .nil))
      · rw [if_neg (by simp [h3])] at hst
        conv => whnf
        repeat ((first | refine AO.cons hT ?_ | refine AO.nil ?_ | refine AW.seq ?_ | refine AW.region ?_ | refine AW.cond ?_ | refine AW.block ?_ | refine AW.loop ?_ | refine AW.skip ?_ | refine AW.exit ?_ | refine AW.ret ?_ | refine AW.label ?_ | refine AW.scope ?_ | refine AF.one hT rfl ?_ | refine AF.nil ?_ | refine AF.imm hT rfl rfl rfl ?_ | refine AH.of hT rfl ?_ | refine AD.cons hT rfl ?_ | refine AD.nil ?_ | refine AQ.cons hT rfl ?_ | refine AQ.nil ?_); conv => whnf)
        rw [w1]
        exact AHead.mk (j - 1) _ _ (by omega) ⟨i + 1, by omega, by simp [hdf], by rw [hst], by rw [hst]⟩ (Conv.fit (by repeat' (first | exact Fit.nil | refine Fit.any ?_ | refine Fit.same ?_)))
    · conv => whnf
      repeat ((first | refine AO.cons hT ?_ | refine AO.nil ?_ | refine AW.seq ?_ | refine AW.region ?_ | refine AW.cond ?_ | refine AW.block ?_ | refine AW.loop ?_ | refine AW.skip ?_ | refine AW.exit ?_ | refine AW.ret ?_ | refine AW.label ?_ | refine AW.scope ?_ | refine AF.one hT rfl ?_ | refine AF.nil ?_ | refine AF.imm hT rfl rfl rfl ?_ | refine AH.of hT rfl ?_ | refine AD.cons hT rfl ?_ | refine AD.nil ?_ | refine AQ.cons hT rfl ?_ | refine AQ.nil ?_); conv => whnf)
      refine AOut.stay ?_
      conv => whnf
      repeat ((first | refine AO.cons hT ?_ | refine AO.nil ?_ | refine AW.seq ?_ | refine AW.region ?_ | refine AW.cond ?_ | refine AW.block ?_ | refine AW.loop ?_ | refine AW.skip ?_ | refine AW.exit ?_ | refine AW.ret ?_ | refine AW.label ?_ | refine AW.scope ?_ | refine AF.one hT rfl ?_ | refine AF.nil ?_ | refine AF.imm hT rfl rfl rfl ?_ | refine AH.of hT rfl ?_ | refine AD.cons hT rfl ?_ | refine AD.nil ?_ | refine AQ.cons hT rfl ?_ | refine AQ.nil ?_); conv => whnf)
      exact hend (.inr (by simpa using h2))
  · conv => whnf
    repeat (first | (refine AW.label ?_; conv => whnf) | (refine AW.scope ?_; conv => whnf) | (refine AO.cons hT ?_; conv => whnf) | (refine AO.nil ?_; conv => whnf) | (refine AW.seq ?_; conv => whnf) | (refine AW.region ?_; conv => whnf) | (refine AW.cond ?_; conv => whnf) | (refine AW.block ?_; conv => whnf) | (refine AW.loop ?_; conv => whnf) | (refine AW.skip ?_; conv => whnf) | (refine AW.exit ?_; conv => whnf) | (refine AW.ret ?_; conv => whnf) | (refine AF.one hT rfl ?_; conv => whnf) | (refine AF.nil ?_; conv => whnf) | (refine AF.imm hT rfl rfl rfl ?_; conv => whnf) | (refine AH.of hT rfl ?_; conv => whnf) | (refine ASplit.yes rfl ?_; conv => whnf) | (refine ACond.yes rfl ?_; conv => whnf) | (refine ASplit.no rfl ?_; conv => whnf) | (refine ACond.no rfl ?_; conv => whnf) | (refine ASplit.yes (by decide) ?_; conv => whnf) | (refine ACond.yes (by decide) ?_; conv => whnf) | (refine AReq.mk (by decide) ?_; conv => whnf) | (refine AIdx.iff.2 ⟨by decide, ?_⟩; conv => whnf))
    refine AOut.stay ?_
    conv => whnf
    repeat ((first | refine AO.cons hT ?_ | refine AO.nil ?_ | refine AW.seq ?_ | refine AW.region ?_ | refine AW.cond ?_ | refine AW.block ?_ | refine AW.loop ?_ | refine AW.skip ?_ | refine AW.exit ?_ | refine AW.ret ?_ | refine AW.label ?_ | refine AW.scope ?_ | refine AF.one hT rfl ?_ | refine AF.nil ?_ | refine AF.imm hT rfl rfl rfl ?_ | refine AH.of hT rfl ?_ | refine AD.cons hT rfl ?_ | refine AD.nil ?_ | refine AQ.cons hT rfl ?_ | refine AQ.nil ?_); conv => whnf)
    exact hend (.inl (by omega))
end Go.Aw.E1

set_option linter.unusedSimpArgs false
set_option linter.unusedVariables false
set_option maxHeartbeats 1000000
namespace Go.Aw.E1
open Go Go.Proofs

theorem none0 : ∀ i, i < 0 → ([] : List Nat)[i]? = some i := fun _ h => absurd h (Nat.not_lt_zero _)
theorem rdV1 (ρ : Nat → Nat) (d : Rd) : renL ρ [rdV d] = [rdV d] := by
  show [(rdV d).ren ρ] = _
  rw [rdV_ren]
theorem tupB (ρ : Nat → Nat) (d : Rd) (b : Bool) : (AV.tup [rdV d, bV b]).ren ρ = .tup [rdV d, bV b] := by
  show AV.tup [(rdV d).ren ρ, bV b] = _
  rw [rdV_ren]
theorem tupN (ρ : Nat → Nat) (d : Rd) (n : Int) : (AV.tup [rdV d, nV n]).ren ρ = .tup [rdV d, nV n] := by
  show AV.tup [(rdV d).ren ρ, nV n] = _
  rw [rdV_ren]
def rz : Rc := ⟨fillS 1 0, fillS 1 0, false⟩
def newR (n : Nat) : Rd := ⟨List.replicate n rz, 0, 0, false⟩
theorem f18 (n : Int) : Fun P 18 [nV n] (.tup [rdV (if n < 1 ∨ n > 2000 then ⟨[], 0, 0, false⟩ else newR n.toNat), bV (!decide (n < 1 ∨ n > 2000))]) := by
  refine spec_of hT (f := 18) (fn := Go.Proofs.Try.f18) (c := body Go.Proofs.Try.f18) (by kernel_rfl) (by kernel_rfl) ?_
  conv => whnf
  repeat ((first | refine AW.plan (id := 7) hm (.one 0 (.imm 1 (.one 2 (.one 3 (.one 4 (.one 5 (.one 6 (.one 7 (.one 8 .nil))))))))) (by kernel_rfl) ?_ | refine AO.cons hT ?_ | refine AO.nil ?_ | refine AW.seq ?_ | refine AW.region ?_ | refine AW.cond ?_ | refine AW.block ?_ | refine AW.loop ?_ | refine AW.skip ?_ | refine AW.exit ?_ | refine AW.ret ?_ | refine AW.label ?_ | refine AW.scope ?_ | refine AF.one hT rfl ?_ | refine AF.nil ?_ | refine AF.imm hT rfl rfl rfl ?_ | refine AH.of hT rfl ?_ | refine AD.cons hT rfl ?_ | refine AD.nil ?_ | refine AQ.cons hT rfl ?_ | refine AQ.nil ?_); conv => whnf)
  refine ASplit.dec (fun h1 => ?_) (fun h1 => ?_)
  · conv => whnf
    repeat (first | (refine AW.plan (id := 7) hm (.one 0 (.imm 1 (.one 2 (.one 3 (.one 4 (.one 5 (.one 6 (.one 7 (.one 8 .nil))))))))) (by kernel_rfl) ?_; conv => whnf) | (refine AW.label ?_; conv => whnf) | (refine AW.scope ?_; conv => whnf) | (refine AO.cons hT ?_; conv => whnf) | (refine AO.nil ?_; conv => whnf) | (refine AW.seq ?_; conv => whnf) | (refine AW.region ?_; conv => whnf) | (refine AW.cond ?_; conv => whnf) | (refine AW.block ?_; conv => whnf) | (refine AW.loop ?_; conv => whnf) | (refine AW.skip ?_; conv => whnf) | (refine AW.exit ?_; conv => whnf) | (refine AW.ret ?_; conv => whnf) | (refine AF.one hT rfl ?_; conv => whnf) | (refine AF.nil ?_; conv => whnf) | (refine AF.imm hT rfl rfl rfl ?_; conv => whnf) | (refine AH.of hT rfl ?_; conv => whnf) | (refine ASplit.yes rfl ?_; conv => whnf) | (refine ACond.yes rfl ?_; conv => whnf) | (refine ASplit.no rfl ?_; conv => whnf) | (refine ACond.no rfl ?_; conv => whnf) | (refine ASplit.yes (by decide) ?_; conv => whnf) | (refine ACond.yes (by decide) ?_; conv => whnf) | (refine AReq.mk (by decide) ?_; conv => whnf) | (refine AIdx.iff.2 ⟨by decide, ?_⟩; conv => whnf))
    rw [if_pos (.inl h1), decide_eq_true (.inl h1)]
    exact AFin.to (.tup [rdV ⟨[], 0, 0, false⟩, bV false]) [] (Conv.out (.tup (.cons (.agg (.cons .nil (LendL.it _))) (LendL.it _))) (fun ρ => tupB ρ _ _)) ⟨rfl, rfl⟩
  conv => whnf
  repeat ((first | refine AW.plan (id := 7) hm (.one 0 (.imm 1 (.one 2 (.one 3 (.one 4 (.one 5 (.one 6 (.one 7 (.one 8 .nil))))))))) (by kernel_rfl) ?_ | refine AO.cons hT ?_ | refine AO.nil ?_ | refine AW.seq ?_ | refine AW.region ?_ | refine AW.cond ?_ | refine AW.block ?_ | refine AW.loop ?_ | refine AW.skip ?_ | refine AW.exit ?_ | refine AW.ret ?_ | refine AW.label ?_ | refine AW.scope ?_ | refine AF.one hT rfl ?_ | refine AF.nil ?_ | refine AF.imm hT rfl rfl rfl ?_ | refine AH.of hT rfl ?_ | refine AD.cons hT rfl ?_ | refine AD.nil ?_ | refine AQ.cons hT rfl ?_ | refine AQ.nil ?_); conv => whnf)
  refine ACond.dec (fun h2 => ?_) (fun h2 => ?_)
  · conv => whnf
    repeat (first | (refine AW.plan (id := 7) hm (.one 0 (.imm 1 (.one 2 (.one 3 (.one 4 (.one 5 (.one 6 (.one 7 (.one 8 .nil))))))))) (by kernel_rfl) ?_; conv => whnf) | (refine AW.label ?_; conv => whnf) | (refine AW.scope ?_; conv => whnf) | (refine AO.cons hT ?_; conv => whnf) | (refine AO.nil ?_; conv => whnf) | (refine AW.seq ?_; conv => whnf) | (refine AW.region ?_; conv => whnf) | (refine AW.cond ?_; conv => whnf) | (refine AW.block ?_; conv => whnf) | (refine AW.loop ?_; conv => whnf) | (refine AW.skip ?_; conv => whnf) | (refine AW.exit ?_; conv => whnf) | (refine AW.ret ?_; conv => whnf) | (refine AF.one hT rfl ?_; conv => whnf) | (refine AF.nil ?_; conv => whnf) | (refine AF.imm hT rfl rfl rfl ?_; conv => whnf) | (refine AH.of hT rfl ?_; conv => whnf) | (refine ASplit.yes rfl ?_; conv => whnf) | (refine ACond.yes rfl ?_; conv => whnf) | (refine ASplit.no rfl ?_; conv => whnf) | (refine ACond.no rfl ?_; conv => whnf) | (refine ASplit.yes (by decide) ?_; conv => whnf) | (refine ACond.yes (by decide) ?_; conv => whnf) | (refine AReq.mk (by decide) ?_; conv => whnf) | (refine AIdx.iff.2 ⟨by decide, ?_⟩; conv => whnf))
    rw [if_pos (.inr h2), decide_eq_true (.inr h2)]
    exact AFin.to (.tup [rdV ⟨[], 0, 0, false⟩, bV false]) [] (Conv.out (.tup (.cons (.agg (.cons .nil (LendL.it _))) (LendL.it _))) (fun ρ => tupB ρ _ _)) ⟨rfl, rfl⟩
  conv => whnf
  repeat ((first | refine AW.plan (id := 7) hm (.one 0 (.imm 1 (.one 2 (.one 3 (.one 4 (.one 5 (.one 6 (.one 7 (.one 8 .nil))))))))) (by kernel_rfl) ?_ | refine AO.cons hT ?_ | refine AO.nil ?_ | refine AW.seq ?_ | refine AW.region ?_ | refine AW.cond ?_ | refine AW.block ?_ | refine AW.loop ?_ | refine AW.skip ?_ | refine AW.exit ?_ | refine AW.ret ?_ | refine AW.label ?_ | refine AW.scope ?_ | refine AF.one hT rfl ?_ | refine AF.nil ?_ | refine AF.imm hT rfl rfl rfl ?_ | refine AH.of hT rfl ?_ | refine AD.cons hT rfl ?_ | refine AD.nil ?_ | refine AQ.cons hT rfl ?_ | refine AQ.nil ?_); conv => whnf)
  refine ALoop.mk (fun j E H => ∃ i : Nat, j + i = n.toNat ∧ E = pad [nV n, .any, .ptr 0 0, .v (.bool false), .ptr 1 0, nV i] 27 ∧ H = [.cells 44 [.v (.slice none 0 0), nV 0, nV 0, bV false], .cells 44 [.ms 3 2 0 i, nV 0, nV 0, bV false], .cells 74 ((List.replicate i rz).flatMap rcC)])
    (n := n.toNat) _ _ ⟨0, rfl, rfl, rfl⟩ (Conv.trans (Conv.fit (by repeat' (first | exact Fit.nil | refine Fit.any ?_ | refine Fit.same ?_))) (Conv.ownIn (sz := 3) 74 (l := 1) rfl (.own (.same (.same (.same .nil)))))) ?_
  rintro j _ _ ⟨i, hj, rfl, rfl⟩
  conv => whnf
  repeat ((first | refine AW.plan (id := 7) hm (.one 0 (.imm 1 (.one 2 (.one 3 (.one 4 (.one 5 (.one 6 (.one 7 (.one 8 .nil))))))))) (by kernel_rfl) ?_ | refine AO.cons hT ?_ | refine AO.nil ?_ | refine AW.seq ?_ | refine AW.region ?_ | refine AW.cond ?_ | refine AW.block ?_ | refine AW.loop ?_ | refine AW.skip ?_ | refine AW.exit ?_ | refine AW.ret ?_ | refine AW.label ?_ | refine AW.scope ?_ | refine AF.one hT rfl ?_ | refine AF.nil ?_ | refine AF.imm hT rfl rfl rfl ?_ | refine AH.of hT rfl ?_ | refine AD.cons hT rfl ?_ | refine AD.nil ?_ | refine AQ.cons hT rfl ?_ | refine AQ.nil ?_); conv => whnf)
  refine ACond.dec (fun h3 => ?_) (fun h3 => ?_)
  · have w1 : IntKind.wrap .i64 ((i : Int) + 1) = ((i + 1 : Nat) : Int) := by rw [wrap_i64 _ (by omega) (by omega)]; omega
    refine AW.skip ?_
    conv => whnf
    refine AW.seqJ (fun E H => E = pad [nV n, .any, .ptr 0 0, .v (.bool false), .ptr 1 0, nV i] 27 ∧ H = [.cells 44 [.v (.slice none 0 0), nV 0, nV 0, bV false], .cells 44 [.ms 3 2 0 (i + 1), nV 0, nV 0, bV false], .cells 74 ((List.replicate (i + 1) rz).flatMap rcC)]) ?_ ?_
    · refine AW.block ?_
      conv => whnf
      have hlen : ((List.replicate i rz).flatMap rcC).length = i * 3 := by rw [flat_length rcC_len, List.length_replicate]
      have hpk : Picks (nm [0, 1, 3] 4) [.cells 44 [.v (.slice none 0 0), nV 0, nV 0, bV false], .cells 44 [.ms 3 3 0 (i + 1), nV 0, nV 0, bV false], .dead, .cells 74 ((List.replicate i rz).flatMap rcC ++ rcC rz)] [0, 1, 3]
          [.cells 44 [.v (.slice none 0 0), nV 0, nV 0, bV false], .cells 44 [.ms 3 2 0 (i + 1), nV 0, nV 0, bV false], .cells 74 ((List.replicate (i + 1) rz).flatMap rcC)] :=
        .same rfl (.same rfl (.same (by rw [cells_ren, rcs_ren, List.replicate_succ', List.flatMap_append]; simp only [List.flatMap_cons, List.flatMap_nil, List.append_nil]; rfl) .nil))
      refine AW.orders hm (by kernel_rfl) 9 rfl ?_
      refine AG.one hT 0 rfl (by kernel_rfl) ?_
      conv => whnf
      refine AG.alt 1 [2] (by kernel_rfl) ?_
      refine AGs.cons hT rfl ?_ ?_
      · skip
        conv => whnf
        refine AG.one hT 2 rfl (by kernel_rfl) ?_
        conv => whnf
        refine ACall.val (by kernel_rfl) f33 rfl rfl ?_
        conv => whnf
        refine AG.one hT 3 rfl (by kernel_rfl) ?_
        conv => whnf
        refine ACall.val (by kernel_rfl) f33 rfl rfl ?_
        conv => whnf
        refine AG.one hT 4 rfl (by kernel_rfl) ?_
        conv => whnf
        refine AG.one hT 5 rfl (by kernel_rfl) ?_
        conv => whnf
        refine AG.one hT 6 rfl (by kernel_rfl) ?_
        conv => whnf
        refine AReq.mk ⟨hlen, by show (_ + 1) * 40 ≤ _; omega⟩ ?_
        conv => whnf
        refine AG.one hT 7 rfl (by kernel_rfl) ?_
        conv => whnf
        refine AG.one hT 8 rfl (by kernel_rfl) ?_
        conv => whnf
        refine AG.done (by kernel_rfl) ?_
        conv => whnf
        exact AOut.to _ _ (Conv.ren [0, 1, 3] (pad [nV n, .any, .ptr 0 0, .v (.bool false), .ptr 1 0, nV i] 27) (fun _ h => absurd h (Nat.not_lt_zero _)) (by decide) (by repeat' (first | exact Fit.nil | refine Fit.any ?_ | refine Fit.same ?_)) hpk) ⟨rfl, rfl⟩
      refine AGs.cons hT rfl ?_ ?_
      · skip
        conv => whnf
        refine ACall.val (by kernel_rfl) f33 rfl rfl ?_
        conv => whnf
        refine AG.alt 1 [3] (by kernel_rfl) ?_
        refine AGs.cons hT rfl ?_ ?_
        · skip
          conv => whnf
          refine AG.one hT 3 rfl (by kernel_rfl) ?_
          conv => whnf
          refine ACall.val (by kernel_rfl) f33 rfl rfl ?_
          conv => whnf
          refine AG.one hT 4 rfl (by kernel_rfl) ?_
          conv => whnf
          refine AG.one hT 5 rfl (by kernel_rfl) ?_
          conv => whnf
          refine AG.one hT 6 rfl (by kernel_rfl) ?_
          conv => whnf
          refine AReq.mk ⟨hlen, by show (_ + 1) * 40 ≤ _; omega⟩ ?_
          conv => whnf
          refine AG.one hT 7 rfl (by kernel_rfl) ?_
          conv => whnf
          refine AG.one hT 8 rfl (by kernel_rfl) ?_
          conv => whnf
          refine AG.done (by kernel_rfl) ?_
          conv => whnf
          exact AOut.to _ _ (Conv.ren [0, 1, 3] (pad [nV n, .any, .ptr 0 0, .v (.bool false), .ptr 1 0, nV i] 27) (fun _ h => absurd h (Nat.not_lt_zero _)) (by decide) (by repeat' (first | exact Fit.nil | refine Fit.any ?_ | refine Fit.same ?_)) hpk) ⟨rfl, rfl⟩
        refine AGs.cons hT rfl ?_ ?_
        · skip
          conv => whnf
          refine ACall.val (by kernel_rfl) f33 rfl rfl ?_
          conv => whnf
          refine AG.alt 1 [4] (by kernel_rfl) ?_
          refine AGs.cons hT rfl ?_ ?_
          · skip
            conv => whnf
            refine AG.one hT 4 rfl (by kernel_rfl) ?_
            conv => whnf
            refine AG.one hT 5 rfl (by kernel_rfl) ?_
            conv => whnf
            refine AG.one hT 6 rfl (by kernel_rfl) ?_
            conv => whnf
            refine AReq.mk ⟨hlen, by show (_ + 1) * 40 ≤ _; omega⟩ ?_
            conv => whnf
            refine AG.one hT 7 rfl (by kernel_rfl) ?_
            conv => whnf
            refine AG.one hT 8 rfl (by kernel_rfl) ?_
            conv => whnf
            refine AG.done (by kernel_rfl) ?_
            conv => whnf
            exact AOut.to _ _ (Conv.ren [0, 1, 3] (pad [nV n, .any, .ptr 0 0, .v (.bool false), .ptr 1 0, nV i] 27) (fun _ h => absurd h (Nat.not_lt_zero _)) (by decide) (by repeat' (first | exact Fit.nil | refine Fit.any ?_ | refine Fit.same ?_)) hpk) ⟨rfl, rfl⟩
          refine AGs.cons hT rfl ?_ ?_
          · skip
            conv => whnf
            refine AG.alt 1 [5] (by kernel_rfl) ?_
            refine AGs.cons hT rfl ?_ ?_
            · skip
              conv => whnf
              refine AG.one hT 5 rfl (by kernel_rfl) ?_
              conv => whnf
              refine AG.one hT 6 rfl (by kernel_rfl) ?_
              conv => whnf
              refine AReq.mk ⟨hlen, by show (_ + 1) * 40 ≤ _; omega⟩ ?_
              conv => whnf
              refine AG.one hT 7 rfl (by kernel_rfl) ?_
              conv => whnf
              refine AG.one hT 8 rfl (by kernel_rfl) ?_
              conv => whnf
              refine AG.done (by kernel_rfl) ?_
              conv => whnf
              exact AOut.to _ _ (Conv.ren [0, 1, 3] (pad [nV n, .any, .ptr 0 0, .v (.bool false), .ptr 1 0, nV i] 27) (fun _ h => absurd h (Nat.not_lt_zero _)) (by decide) (by repeat' (first | exact Fit.nil | refine Fit.any ?_ | refine Fit.same ?_)) hpk) ⟨rfl, rfl⟩
            refine AGs.cons hT rfl ?_ ?_
            · skip
              conv => whnf
              refine AG.one hT 1 rfl (by kernel_rfl) ?_
              conv => whnf
              refine AG.one hT 6 rfl (by kernel_rfl) ?_
              conv => whnf
              refine AReq.mk ⟨hlen, by show (_ + 1) * 40 ≤ _; omega⟩ ?_
              conv => whnf
              refine AG.one hT 7 rfl (by kernel_rfl) ?_
              conv => whnf
              refine AG.one hT 8 rfl (by kernel_rfl) ?_
              conv => whnf
              refine AG.done (by kernel_rfl) ?_
              conv => whnf
              exact AOut.to _ _ (Conv.ren [0, 1, 3] (pad [nV n, .any, .ptr 0 0, .v (.bool false), .ptr 1 0, nV i] 27) (fun _ h => absurd h (Nat.not_lt_zero _)) (by decide) (by repeat' (first | exact Fit.nil | refine Fit.any ?_ | refine Fit.same ?_)) hpk) ⟨rfl, rfl⟩
            exact AGs.nil
          exact AGs.nil
        exact AGs.nil
      exact AGs.nil
    · rintro _ _ ⟨rfl, rfl⟩
      conv => whnf
      repeat ((first | refine AW.plan (id := 7) hm (.one 0 (.imm 1 (.one 2 (.one 3 (.one 4 (.one 5 (.one 6 (.one 7 (.one 8 .nil))))))))) (by kernel_rfl) ?_ | refine AO.cons hT ?_ | refine AO.nil ?_ | refine AW.seq ?_ | refine AW.region ?_ | refine AW.cond ?_ | refine AW.block ?_ | refine AW.loop ?_ | refine AW.skip ?_ | refine AW.exit ?_ | refine AW.ret ?_ | refine AW.label ?_ | refine AW.scope ?_ | refine AF.one hT rfl ?_ | refine AF.nil ?_ | refine AF.imm hT rfl rfl rfl ?_ | refine AH.of hT rfl ?_ | refine AD.cons hT rfl ?_ | refine AD.nil ?_ | refine AQ.cons hT rfl ?_ | refine AQ.nil ?_); conv => whnf)
      rw [w1]
      exact AHead.mk (j - 1) _ _ (by omega) ⟨i + 1, by omega, rfl, rfl⟩ (Conv.fit (by repeat' (first | exact Fit.nil | refine Fit.any ?_ | refine Fit.same ?_)))
  · obtain rfl : j = 0 := by omega
    obtain rfl : i = n.toNat := by omega
    conv => whnf
    repeat ((first | refine AW.plan (id := 7) hm (.one 0 (.imm 1 (.one 2 (.one 3 (.one 4 (.one 5 (.one 6 (.one 7 (.one 8 .nil))))))))) (by kernel_rfl) ?_ | refine AO.cons hT ?_ | refine AO.nil ?_ | refine AW.seq ?_ | refine AW.region ?_ | refine AW.cond ?_ | refine AW.block ?_ | refine AW.loop ?_ | refine AW.skip ?_ | refine AW.exit ?_ | refine AW.ret ?_ | refine AW.label ?_ | refine AW.scope ?_ | refine AF.one hT rfl ?_ | refine AF.nil ?_ | refine AF.imm hT rfl rfl rfl ?_ | refine AH.of hT rfl ?_ | refine AD.cons hT rfl ?_ | refine AD.nil ?_ | refine AQ.cons hT rfl ?_ | refine AQ.nil ?_); conv => whnf)
    refine AOut.stay ?_
    conv => whnf
    repeat ((first | refine AW.plan (id := 7) hm (.one 0 (.imm 1 (.one 2 (.one 3 (.one 4 (.one 5 (.one 6 (.one 7 (.one 8 .nil))))))))) (by kernel_rfl) ?_ | refine AO.cons hT ?_ | refine AO.nil ?_ | refine AW.seq ?_ | refine AW.region ?_ | refine AW.cond ?_ | refine AW.block ?_ | refine AW.loop ?_ | refine AW.skip ?_ | refine AW.exit ?_ | refine AW.ret ?_ | refine AW.label ?_ | refine AW.scope ?_ | refine AF.one hT rfl ?_ | refine AF.nil ?_ | refine AF.imm hT rfl rfl rfl ?_ | refine AH.of hT rfl ?_ | refine AD.cons hT rfl ?_ | refine AD.nil ?_ | refine AQ.cons hT rfl ?_ | refine AQ.nil ?_); conv => whnf)
    rw [if_neg (by omega), decide_eq_false (by omega)]
    exact AFin.to (.tup [rdV (newR n.toNat), bV true]) [] (Conv.out (.tup (.cons (.agg (.cons (.sm' rfl (by show _ * 3 = (List.flatMap rcC (newR n.toNat).cells).length; rw [flat_length rcC_len]) rfl (by simp [newR])) (LendL.it _))) (LendL.it _))) (fun ρ => tupB ρ _ _)) ⟨rfl, rfl⟩
def rfl1 (c : Rc) : Rc := ⟨c.now, c.now, false⟩
def rflushF (d : Rd) : Rd × Int := if d.dead then (d, 20) else if d.armed = 1 then (cntF d, 20) else ({ cntF d with cells := d.cells.map rfl1 }, 0)
theorem f36 (d : Rd) (hd : d.cells ≠ []) (hl : d.cells.length ≤ 2000) : Fun P 36 [rdV d] (.tup [rdV (rflushF d).1, nV (rflushF d).2]) := by
  refine spec_of hT (f := 36) (fn := Go.Proofs.Try.f36) (c := body Go.Proofs.Try.f36) (by kernel_rfl) (by kernel_rfl) ?_
  unfold rflushF
  have hr : ∀ {N e} (d : Rd), (AV.tup [rdV d, nV e]).ren (nm [] N) = AV.tup [rdV d, nV e] := fun d => tupN _ _ _
  conv => whnf
  repeat ((first | refine AW.plan (id := 10) hm (.one 0 (.one 2 (.one 3 (.one 5 (.one 4 (.one 6 (.one 7 (.one 1 (.one 8 (.one 9 (.one 10 (.one 11 .nil)))))))))))) (by kernel_rfl) ?_ | refine AO.cons hT ?_ | refine AO.nil ?_ | refine AW.seq ?_ | refine AW.region ?_ | refine AW.cond ?_ | refine AW.block ?_ | refine AW.loop ?_ | refine AW.skip ?_ | refine AW.exit ?_ | refine AW.ret ?_ | refine AW.label ?_ | refine AW.scope ?_ | refine AF.one hT rfl ?_ | refine AF.nil ?_ | refine AF.imm hT rfl rfl rfl ?_ | refine AH.of hT rfl ?_ | refine AD.cons hT rfl ?_ | refine AD.nil ?_ | refine AQ.cons hT rfl ?_ | refine AQ.nil ?_); conv => whnf)
  refine ACond.mk (fun h => ?_) (fun h => ?_)
  · rw [if_pos h]
    conv => whnf
    repeat ((first | refine AW.plan (id := 10) hm (.one 0 (.one 2 (.one 3 (.one 5 (.one 4 (.one 6 (.one 7 (.one 1 (.one 8 (.one 9 (.one 10 (.one 11 .nil)))))))))))) (by kernel_rfl) ?_ | refine AO.cons hT ?_ | refine AO.nil ?_ | refine AW.seq ?_ | refine AW.region ?_ | refine AW.cond ?_ | refine AW.block ?_ | refine AW.loop ?_ | refine AW.skip ?_ | refine AW.exit ?_ | refine AW.ret ?_ | refine AW.label ?_ | refine AW.scope ?_ | refine AF.one hT rfl ?_ | refine AF.nil ?_ | refine AF.imm hT rfl rfl rfl ?_ | refine AH.of hT rfl ?_ | refine AD.cons hT rfl ?_ | refine AD.nil ?_ | refine AQ.cons hT rfl ?_ | refine AQ.nil ?_); conv => whnf)
    exact AFin.val (hr _) ⟨rfl, rfl⟩
  rw [if_neg (by simp [h])]
  conv => whnf
  repeat ((first | refine AW.plan (id := 10) hm (.one 0 (.one 2 (.one 3 (.one 5 (.one 4 (.one 6 (.one 7 (.one 1 (.one 8 (.one 9 (.one 10 (.one 11 .nil)))))))))))) (by kernel_rfl) ?_ | refine AO.cons hT ?_ | refine AO.nil ?_ | refine AW.seq ?_ | refine AW.region ?_ | refine AW.cond ?_ | refine AW.block ?_ | refine AW.loop ?_ | refine AW.skip ?_ | refine AW.exit ?_ | refine AW.ret ?_ | refine AW.label ?_ | refine AW.scope ?_ | refine AF.one hT rfl ?_ | refine AF.nil ?_ | refine AF.imm hT rfl rfl rfl ?_ | refine AH.of hT rfl ?_ | refine AD.cons hT rfl ?_ | refine AD.nil ?_ | refine AQ.cons hT rfl ?_ | refine AQ.nil ?_); conv => whnf)
  refine ACall.val (by kernel_rfl) (f47 d) (rdV1 _ _) (tupB _ _ _) ?_
  conv => whnf
  repeat ((first | refine AW.plan (id := 10) hm (.one 0 (.one 2 (.one 3 (.one 5 (.one 4 (.one 6 (.one 7 (.one 1 (.one 8 (.one 9 (.one 10 (.one 11 .nil)))))))))))) (by kernel_rfl) ?_ | refine AO.cons hT ?_ | refine AO.nil ?_ | refine AW.seq ?_ | refine AW.region ?_ | refine AW.cond ?_ | refine AW.block ?_ | refine AW.loop ?_ | refine AW.skip ?_ | refine AW.exit ?_ | refine AW.ret ?_ | refine AW.label ?_ | refine AW.scope ?_ | refine AF.one hT rfl ?_ | refine AF.nil ?_ | refine AF.imm hT rfl rfl rfl ?_ | refine AH.of hT rfl ?_ | refine AD.cons hT rfl ?_ | refine AD.nil ?_ | refine AQ.cons hT rfl ?_ | refine AQ.nil ?_); conv => whnf)
  refine ACond.dec (fun h1 => ?_) (fun h1 => ?_)
  · rw [if_pos h1]
    conv => whnf
    repeat ((first | refine AW.plan (id := 10) hm (.one 0 (.one 2 (.one 3 (.one 5 (.one 4 (.one 6 (.one 7 (.one 1 (.one 8 (.one 9 (.one 10 (.one 11 .nil)))))))))))) (by kernel_rfl) ?_ | refine AO.cons hT ?_ | refine AO.nil ?_ | refine AW.seq ?_ | refine AW.region ?_ | refine AW.cond ?_ | refine AW.block ?_ | refine AW.loop ?_ | refine AW.skip ?_ | refine AW.exit ?_ | refine AW.ret ?_ | refine AW.label ?_ | refine AW.scope ?_ | refine AF.one hT rfl ?_ | refine AF.nil ?_ | refine AF.imm hT rfl rfl rfl ?_ | refine AH.of hT rfl ?_ | refine AD.cons hT rfl ?_ | refine AD.nil ?_ | refine AQ.cons hT rfl ?_ | refine AQ.nil ?_); conv => whnf)
    exact AFin.val (hr _) ⟨rfl, rfl⟩
  rw [if_neg h1]
  conv => whnf
  repeat ((first | refine AW.plan (id := 10) hm (.one 0 (.one 2 (.one 3 (.one 5 (.one 4 (.one 6 (.one 7 (.one 1 (.one 8 (.one 9 (.one 10 (.one 11 .nil)))))))))))) (by kernel_rfl) ?_ | refine AO.cons hT ?_ | refine AO.nil ?_ | refine AW.seq ?_ | refine AW.region ?_ | refine AW.cond ?_ | refine AW.block ?_ | refine AW.loop ?_ | refine AW.skip ?_ | refine AW.exit ?_ | refine AW.ret ?_ | refine AW.label ?_ | refine AW.scope ?_ | refine AF.one hT rfl ?_ | refine AF.nil ?_ | refine AF.imm hT rfl rfl rfl ?_ | refine AH.of hT rfl ?_ | refine AD.cons hT rfl ?_ | refine AD.nil ?_ | refine AQ.cons hT rfl ?_ | refine AQ.nil ?_); conv => whnf)
  refine ACall.spec (by kernel_rfl) (f46 (cntF d) hd hl) (rdV1 _ _) ?_
  rintro _ _ ⟨rfl, rfl⟩
  simp only [List.map_cons, List.map_nil, cells_ren, rcs_ren]
  conv => whnf
  repeat ((first | refine AW.plan (id := 10) hm (.one 0 (.one 2 (.one 3 (.one 5 (.one 4 (.one 6 (.one 7 (.one 1 (.one 8 (.one 9 (.one 10 (.one 11 .nil)))))))))))) (by kernel_rfl) ?_ | refine AO.cons hT ?_ | refine AO.nil ?_ | refine AW.seq ?_ | refine AW.region ?_ | refine AW.cond ?_ | refine AW.block ?_ | refine AW.loop ?_ | refine AW.skip ?_ | refine AW.exit ?_ | refine AW.ret ?_ | refine AW.label ?_ | refine AW.scope ?_ | refine AF.one hT rfl ?_ | refine AF.nil ?_ | refine AF.imm hT rfl rfl rfl ?_ | refine AH.of hT rfl ?_ | refine AD.cons hT rfl ?_ | refine AD.nil ?_ | refine AQ.cons hT rfl ?_ | refine AQ.nil ?_); conv => whnf)
  refine ALoop.mk (fun j E H => ∃ i : Nat, j + i = d.cells.length ∧ E = pad [.any, .ptr 0 0, .ptr 1 0, .any, .any, nV i] 42 ∧ H = [.cells 44 [.ms 3 2 0 d.cells.length, nV (cntF d).ops, nV (cntF d).armed, bV (cntF d).dead], .cells 44 [.v (.slice none 0 0), nV 0, nV 0, bV false], .cells 74 ((mix (d.cells.map rfl1) d.cells i).flatMap rcC)])
    (n := d.cells.length) _ _ ⟨0, rfl, rfl, rfl⟩ (Conv.fit (by repeat' (first | exact Fit.nil | refine Fit.any ?_ | refine Fit.same ?_))) ?_
  rintro j _ _ ⟨i, hj, rfl, rfl⟩
  conv => whnf
  repeat ((first | refine AW.plan (id := 10) hm (.one 0 (.one 2 (.one 3 (.one 5 (.one 4 (.one 6 (.one 7 (.one 1 (.one 8 (.one 9 (.one 10 (.one 11 .nil)))))))))))) (by kernel_rfl) ?_ | refine AO.cons hT ?_ | refine AO.nil ?_ | refine AW.seq ?_ | refine AW.region ?_ | refine AW.cond ?_ | refine AW.block ?_ | refine AW.loop ?_ | refine AW.skip ?_ | refine AW.exit ?_ | refine AW.ret ?_ | refine AW.label ?_ | refine AW.scope ?_ | refine AF.one hT rfl ?_ | refine AF.nil ?_ | refine AF.imm hT rfl rfl rfl ?_ | refine AH.of hT rfl ?_ | refine AD.cons hT rfl ?_ | refine AD.nil ?_ | refine AQ.cons hT rfl ?_ | refine AQ.nil ?_); conv => whnf)
  refine ACond.dec (fun h2 => ?_) (fun h2 => ?_)
  · have hil : i < d.cells.length := by omega
    have w1 : IntKind.wrap .i64 ((i : Int) + 1) = ((i + 1 : Nat) : Int) := by rw [wrap_i64 _ (by omega) (by omega)]; omega
    conv => whnf
    repeat ((first | refine AW.plan (id := 10) hm (.one 0 (.one 2 (.one 3 (.one 5 (.one 4 (.one 6 (.one 7 (.one 1 (.one 8 (.one 9 (.one 10 (.one 11 .nil)))))))))))) (by kernel_rfl) ?_ | refine AO.cons hT ?_ | refine AO.nil ?_ | refine AW.seq ?_ | refine AW.region ?_ | refine AW.cond ?_ | refine AW.block ?_ | refine AW.loop ?_ | refine AW.skip ?_ | refine AW.exit ?_ | refine AW.ret ?_ | refine AW.label ?_ | refine AW.scope ?_ | refine AF.one hT rfl ?_ | refine AF.nil ?_ | refine AF.imm hT rfl rfl rfl ?_ | refine AH.of hT rfl ?_ | refine AD.cons hT rfl ?_ | refine AD.nil ?_ | refine AQ.cons hT rfl ?_ | refine AQ.nil ?_ | (refine AReq.mk (by omega) ?_)); conv => whnf)
    have hml : (d.cells.map rfl1).length = d.cells.length := List.length_map _
    have hci := mix_get hml hil
    have hcl := mix_len (i := i) hml
    have hst := mix_set hml hil
    rw [List.getElem_map] at hst
    generalize mix (d.cells.map rfl1) d.cells i = cs at *
    obtain ⟨hic, hci⟩ := List.getElem?_eq_some_iff.1 hci
    refine AIdx.atZ rcC_len i (by omega) hic ?_
    conv => whnf
    repeat ((first | refine AW.plan (id := 10) hm (.one 0 (.one 2 (.one 3 (.one 5 (.one 4 (.one 6 (.one 7 (.one 1 (.one 8 (.one 9 (.one 10 (.one 11 .nil)))))))))))) (by kernel_rfl) ?_ | refine AO.cons hT ?_ | refine AO.nil ?_ | refine AW.seq ?_ | refine AW.region ?_ | refine AW.cond ?_ | refine AW.block ?_ | refine AW.loop ?_ | refine AW.skip ?_ | refine AW.exit ?_ | refine AW.ret ?_ | refine AW.label ?_ | refine AW.scope ?_ | refine AF.one hT rfl ?_ | refine AF.nil ?_ | refine AF.imm hT rfl rfl rfl ?_ | refine AH.of hT rfl ?_ | refine AD.cons hT rfl ?_ | refine AD.nil ?_ | refine AQ.cons hT rfl ?_ | refine AQ.nil ?_ | (refine AReq.mk (by omega) ?_) | (refine AReq.mk rfl ?_)); conv => whnf)
    refine AUpd.flat1 rcC_len i 1 ⟨cs[i].now, cs[i].now, cs[i].loose⟩ (show 0 + Int.toNat (i : Int) * 3 + 1 = i * 3 + 1 by omega) hic (by decide) rfl ?_
    conv => whnf
    repeat ((first | refine AW.plan (id := 10) hm (.one 0 (.one 2 (.one 3 (.one 5 (.one 4 (.one 6 (.one 7 (.one 1 (.one 8 (.one 9 (.one 10 (.one 11 .nil)))))))))))) (by kernel_rfl) ?_ | refine AO.cons hT ?_ | refine AO.nil ?_ | refine AW.seq ?_ | refine AW.region ?_ | refine AW.cond ?_ | refine AW.block ?_ | refine AW.loop ?_ | refine AW.skip ?_ | refine AW.exit ?_ | refine AW.ret ?_ | refine AW.label ?_ | refine AW.scope ?_ | refine AF.one hT rfl ?_ | refine AF.nil ?_ | refine AF.imm hT rfl rfl rfl ?_ | refine AH.of hT rfl ?_ | refine AD.cons hT rfl ?_ | refine AD.nil ?_ | refine AQ.cons hT rfl ?_ | refine AQ.nil ?_ | (refine AReq.mk (by omega) ?_) | (refine AReq.mk rfl ?_)); conv => whnf)
    refine AUpd.flat1 rcC_len i 2 ⟨cs[i].now, cs[i].now, false⟩ (show 0 + Int.toNat (i : Int) * 3 + 2 = i * 3 + 2 by omega) (by simpa using hic) (by decide) (by simp [rcC, bV]) ?_
    conv => whnf
    repeat ((first | refine AW.plan (id := 10) hm (.one 0 (.one 2 (.one 3 (.one 5 (.one 4 (.one 6 (.one 7 (.one 1 (.one 8 (.one 9 (.one 10 (.one 11 .nil)))))))))))) (by kernel_rfl) ?_ | refine AO.cons hT ?_ | refine AO.nil ?_ | refine AW.seq ?_ | refine AW.region ?_ | refine AW.cond ?_ | refine AW.block ?_ | refine AW.loop ?_ | refine AW.skip ?_ | refine AW.exit ?_ | refine AW.ret ?_ | refine AW.label ?_ | refine AW.scope ?_ | refine AF.one hT rfl ?_ | refine AF.nil ?_ | refine AF.imm hT rfl rfl rfl ?_ | refine AH.of hT rfl ?_ | refine AD.cons hT rfl ?_ | refine AD.nil ?_ | refine AQ.cons hT rfl ?_ | refine AQ.nil ?_ | (refine AReq.mk (by omega) ?_) | (refine AReq.mk rfl ?_)); conv => whnf)
    rw [w1]
    refine AHead.mk (j - 1) _ _ (by omega) ⟨i + 1, by omega, rfl, rfl⟩ ?_
    rw [← hst, show ((cs.set i ⟨cs[i].now, cs[i].now, cs[i].loose⟩).set i ⟨cs[i].now, cs[i].now, false⟩) = cs.set i (rfl1 d.cells[i]) by rw [List.set_set, hci]; rfl]
    exact Conv.fit (by repeat' (first | exact Fit.nil | refine Fit.any ?_ | refine Fit.same ?_))
  · obtain rfl : j = 0 := by omega
    obtain rfl : i = d.cells.length := by omega
    conv => whnf
    repeat ((first | refine AW.plan (id := 10) hm (.one 0 (.one 2 (.one 3 (.one 5 (.one 4 (.one 6 (.one 7 (.one 1 (.one 8 (.one 9 (.one 10 (.one 11 .nil)))))))))))) (by kernel_rfl) ?_ | refine AO.cons hT ?_ | refine AO.nil ?_ | refine AW.seq ?_ | refine AW.region ?_ | refine AW.cond ?_ | refine AW.block ?_ | refine AW.loop ?_ | refine AW.skip ?_ | refine AW.exit ?_ | refine AW.ret ?_ | refine AW.label ?_ | refine AW.scope ?_ | refine AF.one hT rfl ?_ | refine AF.nil ?_ | refine AF.imm hT rfl rfl rfl ?_ | refine AH.of hT rfl ?_ | refine AD.cons hT rfl ?_ | refine AD.nil ?_ | refine AQ.cons hT rfl ?_ | refine AQ.nil ?_); conv => whnf)
    refine AOut.stay ?_
    conv => whnf
    repeat ((first | refine AW.plan (id := 10) hm (.one 0 (.one 2 (.one 3 (.one 5 (.one 4 (.one 6 (.one 7 (.one 1 (.one 8 (.one 9 (.one 10 (.one 11 .nil)))))))))))) (by kernel_rfl) ?_ | refine AO.cons hT ?_ | refine AO.nil ?_ | refine AW.seq ?_ | refine AW.region ?_ | refine AW.cond ?_ | refine AW.block ?_ | refine AW.loop ?_ | refine AW.skip ?_ | refine AW.exit ?_ | refine AW.ret ?_ | refine AW.label ?_ | refine AW.scope ?_ | refine AF.one hT rfl ?_ | refine AF.nil ?_ | refine AF.imm hT rfl rfl rfl ?_ | refine AH.of hT rfl ?_ | refine AD.cons hT rfl ?_ | refine AD.nil ?_ | refine AQ.cons hT rfl ?_ | refine AQ.nil ?_); conv => whnf)
    exact AFin.to (.tup [rdV { cntF d with cells := d.cells.map rfl1 }, nV 0]) [] (Conv.out (.tup (.cons (.agg (.cons (.sm' rfl (by show _ * 3 = (List.flatMap rcC (d.cells.map rfl1)).length; rw [flat_length rcC_len]) (by rw [mix_all (by simp) rfl]) (by simp)) (LendL.it _))) (LendL.it _))) (fun ρ => tupN ρ _ _)) ⟨rfl, rfl⟩
end Go.Aw.E1

set_option linter.unusedSimpArgs false
set_option linter.unusedVariables false
set_option maxHeartbeats 2000000
namespace Go.Aw.E1
open Go Go.Proofs

/-- counted, where the sectors lie in own memory -/
def ownR (l n : Nat) (o a : Int) (b : Bool) : AV := .agg [.ms 3 l 0 n, nV o, nV a, bV b]
theorem f47o (n : Nat) (o a : Int) (b : Bool) (cs : List Rc) : Spec P 47 [ownR 0 n o a b] [.cells 74 (cs.flatMap rcC)] fun r H' => r = .tup [ownR 0 n (cntF ⟨[], o, a, b⟩).ops (cntF ⟨[], o, a, b⟩).armed (cntF ⟨[], o, a, b⟩).dead, bV (decide (a = 1))] ∧ H' = [.cells 74 (cs.flatMap rcC)] := by
  refine spec_of hT (f := 47) (fn := Go.Proofs.Try.f47) (c := body Go.Proofs.Try.f47) (by kernel_rfl) (by kernel_rfl) ?_
  unfold cntF
  have hfin : ∀ {o' a' b' b2 x y} , AFin 1 (.tup [ownR 0 n o' a' b', bV b2]) [.cells 74 (cs.flatMap rcC), .cells 44 x, .cells 44 y] (fun r H' => r = .tup [ownR 0 n o' a' b', bV b2] ∧ H' = [.cells 74 (cs.flatMap rcC)]) := by
    intro o' a' b' b2 x y
    exact AFin.to _ _ (Conv.ren [0] [.tup [ownR 0 n o' a' b', bV b2]] (by intro i h; rcases i with _ | i <;> first | rfl | omega) (by decide) (Fit.refl _) (.same (by rw [cells_ren, rcs_ren]; rfl) .nil)) ⟨rfl, rfl⟩
  conv => whnf
  repeat ((first | refine AO.cons hT ?_ | refine AO.nil ?_ | refine AW.seq ?_ | refine AW.region ?_ | refine AW.cond ?_ | refine AW.block ?_ | refine AW.loop ?_ | refine AW.skip ?_ | refine AW.exit ?_ | refine AW.ret ?_ | refine AW.label ?_ | refine AW.scope ?_ | refine AF.one hT rfl ?_ | refine AF.nil ?_ | refine AF.imm hT rfl rfl rfl ?_ | refine AH.of hT rfl ?_ | refine AD.cons hT rfl ?_ | refine AD.nil ?_ | refine AQ.cons hT rfl ?_ | refine AQ.nil ?_); conv => whnf)
  refine ACond.dec (fun h => ?_) (fun h => ?_)
  · conv => whnf
    repeat ((first | refine AO.cons hT ?_ | refine AO.nil ?_ | refine AW.seq ?_ | refine AW.region ?_ | refine AW.cond ?_ | refine AW.block ?_ | refine AW.loop ?_ | refine AW.skip ?_ | refine AW.exit ?_ | refine AW.ret ?_ | refine AW.label ?_ | refine AW.scope ?_ | refine AF.one hT rfl ?_ | refine AF.nil ?_ | refine AF.imm hT rfl rfl rfl ?_ | refine AH.of hT rfl ?_ | refine AD.cons hT rfl ?_ | refine AD.nil ?_ | refine AQ.cons hT rfl ?_ | refine AQ.nil ?_); conv => whnf)
    refine ACond.dec (fun h2 => ?_) (fun h2 => ?_)
    · conv => whnf
      repeat ((first | refine AO.cons hT ?_ | refine AO.nil ?_ | refine AW.seq ?_ | refine AW.region ?_ | refine AW.cond ?_ | refine AW.block ?_ | refine AW.loop ?_ | refine AW.skip ?_ | refine AW.exit ?_ | refine AW.ret ?_ | refine AW.label ?_ | refine AW.scope ?_ | refine AF.one hT rfl ?_ | refine AF.nil ?_ | refine AF.imm hT rfl rfl rfl ?_ | refine AH.of hT rfl ?_ | refine AD.cons hT rfl ?_ | refine AD.nil ?_ | refine AQ.cons hT rfl ?_ | refine AQ.nil ?_); conv => whnf)
      rw [if_pos h, if_pos h2]
      exact hfin
    · conv => whnf
      repeat ((first | refine AO.cons hT ?_ | refine AO.nil ?_ | refine AW.seq ?_ | refine AW.region ?_ | refine AW.cond ?_ | refine AW.block ?_ | refine AW.loop ?_ | refine AW.skip ?_ | refine AW.exit ?_ | refine AW.ret ?_ | refine AW.label ?_ | refine AW.scope ?_ | refine AF.one hT rfl ?_ | refine AF.nil ?_ | refine AF.imm hT rfl rfl rfl ?_ | refine AH.of hT rfl ?_ | refine AD.cons hT rfl ?_ | refine AD.nil ?_ | refine AQ.cons hT rfl ?_ | refine AQ.nil ?_); conv => whnf)
      rw [if_pos h, if_neg h2]
      exact hfin
  · conv => whnf
    repeat ((first | refine AO.cons hT ?_ | refine AO.nil ?_ | refine AW.seq ?_ | refine AW.region ?_ | refine AW.cond ?_ | refine AW.block ?_ | refine AW.loop ?_ | refine AW.skip ?_ | refine AW.exit ?_ | refine AW.ret ?_ | refine AW.label ?_ | refine AW.scope ?_ | refine AF.one hT rfl ?_ | refine AF.nil ?_ | refine AF.imm hT rfl rfl rfl ?_ | refine AH.of hT rfl ?_ | refine AD.cons hT rfl ?_ | refine AD.nil ?_ | refine AQ.cons hT rfl ?_ | refine AQ.nil ?_); conv => whnf)
    refine ACond.dec (fun h2 => ?_) (fun h2 => ?_)
    · omega
    · conv => whnf
      repeat ((first | refine AO.cons hT ?_ | refine AO.nil ?_ | refine AW.seq ?_ | refine AW.region ?_ | refine AW.cond ?_ | refine AW.block ?_ | refine AW.loop ?_ | refine AW.skip ?_ | refine AW.exit ?_ | refine AW.ret ?_ | refine AW.label ?_ | refine AW.scope ?_ | refine AF.one hT rfl ?_ | refine AF.nil ?_ | refine AF.imm hT rfl rfl rfl ?_ | refine AH.of hT rfl ?_ | refine AD.cons hT rfl ?_ | refine AD.nil ?_ | refine AQ.cons hT rfl ?_ | refine AQ.nil ?_); conv => whnf)
      rw [if_neg (show ¬ a > 0 from h), if_neg h2]
      exact hfin
theorem ACall.cnt {H : List ABlk} {K : AV → List ABlk → Prop} {l n : Nat} {o a : Int} {b : Bool} {cs : List Rc} (hl : H[l]? = some (.cells 74 (cs.flatMap rcC)))
    (k : K (.tup [ownR l n (cntF ⟨[], o, a, b⟩).ops (cntF ⟨[], o, a, b⟩).armed (cntF ⟨[], o, a, b⟩).dead, bV (decide (a = 1))]) H) : ACall P 47 [ownR l n o a b] H K := by
  refine ACall.of (by kernel_rfl) (f47o n o a b cs) [l] [] (by simp) (.same (by rw [hl, cells_ren, rcs_ren]) .nil) (by simp) (by simp) (.cons (.same rfl) .nil) (.inl rfl) ?_
  rintro _ _ ⟨rfl, rfl⟩
  simp only [mergeH, cells_ren, rcs_ren, List.map_nil, List.append_nil]
  rw [set_same hl]
  exact k

def rputF (d : Rd) (k : Nat) (t : ByteArray) : Rd := { d with cells := d.cells.set k ⟨t, (d.cells.getD k rz).safe, true⟩ }
def rwrF : Nat → Rd → Nat → ByteArray → Nat → Rd × Int
  | 0, d, _, _, _ => (d, 0)
  | m + 1, d, a, s, i => if d.armed = 1 then (rputF (cntF d) (a + i) (s.extract (64 * i) (64 * i + 64)), 20) else rwrF m (rputF (cntF d) (a + i) (s.extract (64 * i) (64 * i + 64))) a s (i + 1)
def rwriteF (d : Rd) (at_ : Int) (s : ByteArray) : Rd × Int :=
  if d.dead then (d, 20) else if s.size = 0 ∨ s.size % 64 ≠ 0 then (d, 2) else if at_ < 0 ∨ at_ > d.cells.length ∨ ((s.size / 64 : Nat) : Int) > d.cells.length - at_ then (d, 21) else rwrF (s.size / 64) d at_.toNat s 0
theorem f34 (d : Rd) (at_ : Int) (s : ByteArray) (hd : d.cells ≠ []) (hl : d.cells.length ≤ 2000) (hs : s.size ≤ 9223372036854775807) (ha : (Lit.int .i64 at_).wf = true) :
    Fun P 34 [rdV d, nV at_, sV s] (.tup [rdV (rwriteF d at_ s).1, nV (rwriteF d at_ s).2]) := by
  refine spec_of hT (f := 34) (fn := Go.Proofs.Try.f34) (c := body Go.Proofs.Try.f34) (by kernel_rfl) (by kernel_rfl) ?_
  have hwf : -9223372036854775808 ≤ at_ ∧ at_ ≤ 9223372036854775807 := by simpa [Lit.wf, IntKind.min, IntKind.max, IntKind.signed, IntKind.bits] using ha
  have hr : ∀ {N e} (d : Rd), (AV.tup [rdV d, nV e]).ren (nm [] N) = AV.tup [rdV d, nV e] := fun d => tupN _ _ _
  unfold rwriteF
  have e1 : IntKind.wrap .i64 ((s.size : Int).tdiv 64) = ((s.size / 64 : Nat) : Int) := by
    have : (s.size : Int).tdiv 64 = (s.size : Int) / 64 := Int.tdiv_eq_ediv_of_nonneg (by omega)
    rw [this, wrap_i64' (by omega) (by omega)]; omega
  have e2 : (s.size : Int).tmod 64 = ((s.size % 64 : Nat) : Int) := by
    have : (s.size : Int).tmod 64 = (s.size : Int) % 64 := Int.tmod_eq_emod_of_nonneg (by omega)
    rw [this]; omega
  conv => whnf
  repeat ((first | refine AW.plan (id := 14) hm (.one 0 (.one 2 (.one 3 (.one 4 (.one 5 (.one 6 (.one 7 (.one 8 (.one 9 (.one 10 (.one 11 (.one 1 (.one 12 (.one 13 (.one 14 .nil))))))))))))))) (by kernel_rfl) ?_ | refine AO.cons hT ?_ | refine AO.nil ?_ | refine AW.seq ?_ | refine AW.region ?_ | refine AW.cond ?_ | refine AW.block ?_ | refine AW.loop ?_ | refine AW.skip ?_ | refine AW.exit ?_ | refine AW.ret ?_ | refine AW.label ?_ | refine AW.scope ?_ | refine AF.one hT rfl ?_ | refine AF.nil ?_ | refine AF.imm hT rfl rfl rfl ?_ | refine AH.of hT rfl ?_ | refine AD.cons hT rfl ?_ | refine AD.nil ?_ | refine AQ.cons hT rfl ?_ | refine AQ.nil ?_); conv => whnf)
  refine ACond.mk (fun h => ?_) (fun h => ?_)
  · rw [if_pos h]
    conv => whnf
    repeat ((first | refine AW.plan (id := 14) hm (.one 0 (.one 2 (.one 3 (.one 4 (.one 5 (.one 6 (.one 7 (.one 8 (.one 9 (.one 10 (.one 11 (.one 1 (.one 12 (.one 13 (.one 14 .nil))))))))))))))) (by kernel_rfl) ?_ | refine AO.cons hT ?_ | refine AO.nil ?_ | refine AW.seq ?_ | refine AW.region ?_ | refine AW.cond ?_ | refine AW.block ?_ | refine AW.loop ?_ | refine AW.skip ?_ | refine AW.exit ?_ | refine AW.ret ?_ | refine AW.label ?_ | refine AW.scope ?_ | refine AF.one hT rfl ?_ | refine AF.nil ?_ | refine AF.imm hT rfl rfl rfl ?_ | refine AH.of hT rfl ?_ | refine AD.cons hT rfl ?_ | refine AD.nil ?_ | refine AQ.cons hT rfl ?_ | refine AQ.nil ?_); conv => whnf)
    exact AFin.val (hr _) ⟨rfl, rfl⟩
  rw [if_neg (by simp [h])]
  conv => whnf
  repeat ((first | refine AW.plan (id := 14) hm (.one 0 (.one 2 (.one 3 (.one 4 (.one 5 (.one 6 (.one 7 (.one 8 (.one 9 (.one 10 (.one 11 (.one 1 (.one 12 (.one 13 (.one 14 .nil))))))))))))))) (by kernel_rfl) ?_ | refine AO.cons hT ?_ | refine AO.nil ?_ | refine AW.seq ?_ | refine AW.region ?_ | refine AW.cond ?_ | refine AW.block ?_ | refine AW.loop ?_ | refine AW.skip ?_ | refine AW.exit ?_ | refine AW.ret ?_ | refine AW.label ?_ | refine AW.scope ?_ | refine AF.one hT rfl ?_ | refine AF.nil ?_ | refine AF.imm hT rfl rfl rfl ?_ | refine AH.of hT rfl ?_ | refine AD.cons hT rfl ?_ | refine AD.nil ?_ | refine AQ.cons hT rfl ?_ | refine AQ.nil ?_); conv => whnf)
  refine ASplit.dec (fun h1 => ?_) (fun h1 => ?_)
  · rw [if_pos (.inl (by omega))]
    conv => whnf
    repeat (first | (refine AW.plan (id := 14) hm (.one 0 (.one 2 (.one 3 (.one 4 (.one 5 (.one 6 (.one 7 (.one 8 (.one 9 (.one 10 (.one 11 (.one 1 (.one 12 (.one 13 (.one 14 .nil))))))))))))))) (by kernel_rfl) ?_; conv => whnf) | (refine AW.label ?_; conv => whnf) | (refine AW.scope ?_; conv => whnf) | (refine AO.cons hT ?_; conv => whnf) | (refine AO.nil ?_; conv => whnf) | (refine AW.seq ?_; conv => whnf) | (refine AW.region ?_; conv => whnf) | (refine AW.cond ?_; conv => whnf) | (refine AW.block ?_; conv => whnf) | (refine AW.loop ?_; conv => whnf) | (refine AW.skip ?_; conv => whnf) | (refine AW.exit ?_; conv => whnf) | (refine AW.ret ?_; conv => whnf) | (refine AF.one hT rfl ?_; conv => whnf) | (refine AF.nil ?_; conv => whnf) | (refine AF.imm hT rfl rfl rfl ?_; conv => whnf) | (refine AH.of hT rfl ?_; conv => whnf) | (refine ASplit.yes rfl ?_; conv => whnf) | (refine ACond.yes rfl ?_; conv => whnf) | (refine ASplit.no rfl ?_; conv => whnf) | (refine ACond.no rfl ?_; conv => whnf) | (refine ASplit.yes (by decide) ?_; conv => whnf) | (refine ACond.yes (by decide) ?_; conv => whnf) | (refine AReq.mk (by decide) ?_; conv => whnf) | (refine AIdx.iff.2 ⟨by decide, ?_⟩; conv => whnf))
    exact AFin.val (hr _) ⟨rfl, rfl⟩
  conv => whnf
  repeat ((first | refine AW.plan (id := 14) hm (.one 0 (.one 2 (.one 3 (.one 4 (.one 5 (.one 6 (.one 7 (.one 8 (.one 9 (.one 10 (.one 11 (.one 1 (.one 12 (.one 13 (.one 14 .nil))))))))))))))) (by kernel_rfl) ?_ | refine AO.cons hT ?_ | refine AO.nil ?_ | refine AW.seq ?_ | refine AW.region ?_ | refine AW.cond ?_ | refine AW.block ?_ | refine AW.loop ?_ | refine AW.skip ?_ | refine AW.exit ?_ | refine AW.ret ?_ | refine AW.label ?_ | refine AW.scope ?_ | refine AF.one hT rfl ?_ | refine AF.nil ?_ | refine AF.imm hT rfl rfl rfl ?_ | refine AH.of hT rfl ?_ | refine AD.cons hT rfl ?_ | refine AD.nil ?_ | refine AQ.cons hT rfl ?_ | refine AQ.nil ?_); conv => whnf)
  refine AReq.mk (by decide) ?_
  conv => whnf
  repeat ((first | refine AW.plan (id := 14) hm (.one 0 (.one 2 (.one 3 (.one 4 (.one 5 (.one 6 (.one 7 (.one 8 (.one 9 (.one 10 (.one 11 (.one 1 (.one 12 (.one 13 (.one 14 .nil))))))))))))))) (by kernel_rfl) ?_ | refine AO.cons hT ?_ | refine AO.nil ?_ | refine AW.seq ?_ | refine AW.region ?_ | refine AW.cond ?_ | refine AW.block ?_ | refine AW.loop ?_ | refine AW.skip ?_ | refine AW.exit ?_ | refine AW.ret ?_ | refine AW.label ?_ | refine AW.scope ?_ | refine AF.one hT rfl ?_ | refine AF.nil ?_ | refine AF.imm hT rfl rfl rfl ?_ | refine AH.of hT rfl ?_ | refine AD.cons hT rfl ?_ | refine AD.nil ?_ | refine AQ.cons hT rfl ?_ | refine AQ.nil ?_); conv => whnf)
  rw [e2]
  refine ACond.ndec (fun h2 => ?_) (fun h2 => ?_)
  · rw [if_pos (.inr (by omega))]
    conv => whnf
    repeat (first | (refine AW.plan (id := 14) hm (.one 0 (.one 2 (.one 3 (.one 4 (.one 5 (.one 6 (.one 7 (.one 8 (.one 9 (.one 10 (.one 11 (.one 1 (.one 12 (.one 13 (.one 14 .nil))))))))))))))) (by kernel_rfl) ?_; conv => whnf) | (refine AW.label ?_; conv => whnf) | (refine AW.scope ?_; conv => whnf) | (refine AO.cons hT ?_; conv => whnf) | (refine AO.nil ?_; conv => whnf) | (refine AW.seq ?_; conv => whnf) | (refine AW.region ?_; conv => whnf) | (refine AW.cond ?_; conv => whnf) | (refine AW.block ?_; conv => whnf) | (refine AW.loop ?_; conv => whnf) | (refine AW.skip ?_; conv => whnf) | (refine AW.exit ?_; conv => whnf) | (refine AW.ret ?_; conv => whnf) | (refine AF.one hT rfl ?_; conv => whnf) | (refine AF.nil ?_; conv => whnf) | (refine AF.imm hT rfl rfl rfl ?_; conv => whnf) | (refine AH.of hT rfl ?_; conv => whnf) | (refine ASplit.yes rfl ?_; conv => whnf) | (refine ACond.yes rfl ?_; conv => whnf) | (refine ASplit.no rfl ?_; conv => whnf) | (refine ACond.no rfl ?_; conv => whnf) | (refine ASplit.yes (by decide) ?_; conv => whnf) | (refine ACond.yes (by decide) ?_; conv => whnf) | (refine AReq.mk (by decide) ?_; conv => whnf) | (refine AIdx.iff.2 ⟨by decide, ?_⟩; conv => whnf))
    exact AFin.val (hr _) ⟨rfl, rfl⟩
  rw [if_neg (by omega)]
  conv => whnf
  repeat (first | (refine AW.plan (id := 14) hm (.one 0 (.one 2 (.one 3 (.one 4 (.one 5 (.one 6 (.one 7 (.one 8 (.one 9 (.one 10 (.one 11 (.one 1 (.one 12 (.one 13 (.one 14 .nil))))))))))))))) (by kernel_rfl) ?_; conv => whnf) | (refine AW.label ?_; conv => whnf) | (refine AW.scope ?_; conv => whnf) | (refine AO.cons hT ?_; conv => whnf) | (refine AO.nil ?_; conv => whnf) | (refine AW.seq ?_; conv => whnf) | (refine AW.region ?_; conv => whnf) | (refine AW.cond ?_; conv => whnf) | (refine AW.block ?_; conv => whnf) | (refine AW.loop ?_; conv => whnf) | (refine AW.skip ?_; conv => whnf) | (refine AW.exit ?_; conv => whnf) | (refine AW.ret ?_; conv => whnf) | (refine AF.one hT rfl ?_; conv => whnf) | (refine AF.nil ?_; conv => whnf) | (refine AF.imm hT rfl rfl rfl ?_; conv => whnf) | (refine AH.of hT rfl ?_; conv => whnf) | (refine ASplit.yes rfl ?_; conv => whnf) | (refine ACond.yes rfl ?_; conv => whnf) | (refine ASplit.no rfl ?_; conv => whnf) | (refine ACond.no rfl ?_; conv => whnf) | (refine ASplit.yes (by decide) ?_; conv => whnf) | (refine ACond.yes (by decide) ?_; conv => whnf) | (refine AReq.mk (by decide) ?_; conv => whnf) | (refine AIdx.iff.2 ⟨by decide, ?_⟩; conv => whnf))
  rw [e1]
  conv => whnf
  repeat (first | (refine AW.plan (id := 14) hm (.one 0 (.one 2 (.one 3 (.one 4 (.one 5 (.one 6 (.one 7 (.one 8 (.one 9 (.one 10 (.one 11 (.one 1 (.one 12 (.one 13 (.one 14 .nil))))))))))))))) (by kernel_rfl) ?_; conv => whnf) | (refine AW.label ?_; conv => whnf) | (refine AW.scope ?_; conv => whnf) | (refine AO.cons hT ?_; conv => whnf) | (refine AO.nil ?_; conv => whnf) | (refine AW.seq ?_; conv => whnf) | (refine AW.region ?_; conv => whnf) | (refine AW.cond ?_; conv => whnf) | (refine AW.block ?_; conv => whnf) | (refine AW.loop ?_; conv => whnf) | (refine AW.skip ?_; conv => whnf) | (refine AW.exit ?_; conv => whnf) | (refine AW.ret ?_; conv => whnf) | (refine AF.one hT rfl ?_; conv => whnf) | (refine AF.nil ?_; conv => whnf) | (refine AF.imm hT rfl rfl rfl ?_; conv => whnf) | (refine AH.of hT rfl ?_; conv => whnf) | (refine ASplit.yes rfl ?_; conv => whnf) | (refine ACond.yes rfl ?_; conv => whnf) | (refine ASplit.no rfl ?_; conv => whnf) | (refine ACond.no rfl ?_; conv => whnf) | (refine ASplit.yes (by decide) ?_; conv => whnf) | (refine ACond.yes (by decide) ?_; conv => whnf) | (refine AReq.mk (by decide) ?_; conv => whnf) | (refine AIdx.iff.2 ⟨by decide, ?_⟩; conv => whnf))
  refine ASplit.dec (fun h3 => ?_) (fun h3 => ?_)
  · rw [if_pos (.inl (by omega))]
    conv => whnf
    repeat (first | (refine AW.plan (id := 14) hm (.one 0 (.one 2 (.one 3 (.one 4 (.one 5 (.one 6 (.one 7 (.one 8 (.one 9 (.one 10 (.one 11 (.one 1 (.one 12 (.one 13 (.one 14 .nil))))))))))))))) (by kernel_rfl) ?_; conv => whnf) | (refine AW.label ?_; conv => whnf) | (refine AW.scope ?_; conv => whnf) | (refine AO.cons hT ?_; conv => whnf) | (refine AO.nil ?_; conv => whnf) | (refine AW.seq ?_; conv => whnf) | (refine AW.region ?_; conv => whnf) | (refine AW.cond ?_; conv => whnf) | (refine AW.block ?_; conv => whnf) | (refine AW.loop ?_; conv => whnf) | (refine AW.skip ?_; conv => whnf) | (refine AW.exit ?_; conv => whnf) | (refine AW.ret ?_; conv => whnf) | (refine AF.one hT rfl ?_; conv => whnf) | (refine AF.nil ?_; conv => whnf) | (refine AF.imm hT rfl rfl rfl ?_; conv => whnf) | (refine AH.of hT rfl ?_; conv => whnf) | (refine ASplit.yes rfl ?_; conv => whnf) | (refine ACond.yes rfl ?_; conv => whnf) | (refine ASplit.no rfl ?_; conv => whnf) | (refine ACond.no rfl ?_; conv => whnf) | (refine ASplit.yes (by decide) ?_; conv => whnf) | (refine ACond.yes (by decide) ?_; conv => whnf) | (refine AReq.mk (by decide) ?_; conv => whnf) | (refine AIdx.iff.2 ⟨by decide, ?_⟩; conv => whnf))
    exact AFin.val (hr _) ⟨rfl, rfl⟩
  conv => whnf
  repeat (first | (refine AW.plan (id := 14) hm (.one 0 (.one 2 (.one 3 (.one 4 (.one 5 (.one 6 (.one 7 (.one 8 (.one 9 (.one 10 (.one 11 (.one 1 (.one 12 (.one 13 (.one 14 .nil))))))))))))))) (by kernel_rfl) ?_; conv => whnf) | (refine AW.label ?_; conv => whnf) | (refine AW.scope ?_; conv => whnf) | (refine AO.cons hT ?_; conv => whnf) | (refine AO.nil ?_; conv => whnf) | (refine AW.seq ?_; conv => whnf) | (refine AW.region ?_; conv => whnf) | (refine AW.cond ?_; conv => whnf) | (refine AW.block ?_; conv => whnf) | (refine AW.loop ?_; conv => whnf) | (refine AW.skip ?_; conv => whnf) | (refine AW.exit ?_; conv => whnf) | (refine AW.ret ?_; conv => whnf) | (refine AF.one hT rfl ?_; conv => whnf) | (refine AF.nil ?_; conv => whnf) | (refine AF.imm hT rfl rfl rfl ?_; conv => whnf) | (refine AH.of hT rfl ?_; conv => whnf) | (refine ASplit.yes rfl ?_; conv => whnf) | (refine ACond.yes rfl ?_; conv => whnf) | (refine ASplit.no rfl ?_; conv => whnf) | (refine ACond.no rfl ?_; conv => whnf) | (refine ASplit.yes (by decide) ?_; conv => whnf) | (refine ACond.yes (by decide) ?_; conv => whnf) | (refine AReq.mk (by decide) ?_; conv => whnf) | (refine AIdx.iff.2 ⟨by decide, ?_⟩; conv => whnf))
  refine ASplit.dec (fun h4 => ?_) (fun h4 => ?_)
  · rw [if_pos (.inr (.inl (by omega)))]
    conv => whnf
    repeat (first | (refine AW.plan (id := 14) hm (.one 0 (.one 2 (.one 3 (.one 4 (.one 5 (.one 6 (.one 7 (.one 8 (.one 9 (.one 10 (.one 11 (.one 1 (.one 12 (.one 13 (.one 14 .nil))))))))))))))) (by kernel_rfl) ?_; conv => whnf) | (refine AW.label ?_; conv => whnf) | (refine AW.scope ?_; conv => whnf) | (refine AO.cons hT ?_; conv => whnf) | (refine AO.nil ?_; conv => whnf) | (refine AW.seq ?_; conv => whnf) | (refine AW.region ?_; conv => whnf) | (refine AW.cond ?_; conv => whnf) | (refine AW.block ?_; conv => whnf) | (refine AW.loop ?_; conv => whnf) | (refine AW.skip ?_; conv => whnf) | (refine AW.exit ?_; conv => whnf) | (refine AW.ret ?_; conv => whnf) | (refine AF.one hT rfl ?_; conv => whnf) | (refine AF.nil ?_; conv => whnf) | (refine AF.imm hT rfl rfl rfl ?_; conv => whnf) | (refine AH.of hT rfl ?_; conv => whnf) | (refine ASplit.yes rfl ?_; conv => whnf) | (refine ACond.yes rfl ?_; conv => whnf) | (refine ASplit.no rfl ?_; conv => whnf) | (refine ACond.no rfl ?_; conv => whnf) | (refine ASplit.yes (by decide) ?_; conv => whnf) | (refine ACond.yes (by decide) ?_; conv => whnf) | (refine AReq.mk (by decide) ?_; conv => whnf) | (refine AIdx.iff.2 ⟨by decide, ?_⟩; conv => whnf))
    exact AFin.val (hr _) ⟨rfl, rfl⟩
  conv => whnf
  repeat (first | (refine AW.plan (id := 14) hm (.one 0 (.one 2 (.one 3 (.one 4 (.one 5 (.one 6 (.one 7 (.one 8 (.one 9 (.one 10 (.one 11 (.one 1 (.one 12 (.one 13 (.one 14 .nil))))))))))))))) (by kernel_rfl) ?_; conv => whnf) | (refine AW.label ?_; conv => whnf) | (refine AW.scope ?_; conv => whnf) | (refine AO.cons hT ?_; conv => whnf) | (refine AO.nil ?_; conv => whnf) | (refine AW.seq ?_; conv => whnf) | (refine AW.region ?_; conv => whnf) | (refine AW.cond ?_; conv => whnf) | (refine AW.block ?_; conv => whnf) | (refine AW.loop ?_; conv => whnf) | (refine AW.skip ?_; conv => whnf) | (refine AW.exit ?_; conv => whnf) | (refine AW.ret ?_; conv => whnf) | (refine AF.one hT rfl ?_; conv => whnf) | (refine AF.nil ?_; conv => whnf) | (refine AF.imm hT rfl rfl rfl ?_; conv => whnf) | (refine AH.of hT rfl ?_; conv => whnf) | (refine ASplit.yes rfl ?_; conv => whnf) | (refine ACond.yes rfl ?_; conv => whnf) | (refine ASplit.no rfl ?_; conv => whnf) | (refine ACond.no rfl ?_; conv => whnf) | (refine ASplit.yes (by decide) ?_; conv => whnf) | (refine ACond.yes (by decide) ?_; conv => whnf) | (refine AReq.mk (by decide) ?_; conv => whnf) | (refine AIdx.iff.2 ⟨by decide, ?_⟩; conv => whnf))
  rw [wrap_i64 ((d.cells.length : Int) - at_) (by omega) (by omega)]
  refine ACond.dec (fun h5 => ?_) (fun h5 => ?_)
  · rw [if_pos (.inr (.inr (by omega)))]
    conv => whnf
    repeat (first | (refine AW.plan (id := 14) hm (.one 0 (.one 2 (.one 3 (.one 4 (.one 5 (.one 6 (.one 7 (.one 8 (.one 9 (.one 10 (.one 11 (.one 1 (.one 12 (.one 13 (.one 14 .nil))))))))))))))) (by kernel_rfl) ?_; conv => whnf) | (refine AW.label ?_; conv => whnf) | (refine AW.scope ?_; conv => whnf) | (refine AO.cons hT ?_; conv => whnf) | (refine AO.nil ?_; conv => whnf) | (refine AW.seq ?_; conv => whnf) | (refine AW.region ?_; conv => whnf) | (refine AW.cond ?_; conv => whnf) | (refine AW.block ?_; conv => whnf) | (refine AW.loop ?_; conv => whnf) | (refine AW.skip ?_; conv => whnf) | (refine AW.exit ?_; conv => whnf) | (refine AW.ret ?_; conv => whnf) | (refine AF.one hT rfl ?_; conv => whnf) | (refine AF.nil ?_; conv => whnf) | (refine AF.imm hT rfl rfl rfl ?_; conv => whnf) | (refine AH.of hT rfl ?_; conv => whnf) | (refine ASplit.yes rfl ?_; conv => whnf) | (refine ACond.yes rfl ?_; conv => whnf) | (refine ASplit.no rfl ?_; conv => whnf) | (refine ACond.no rfl ?_; conv => whnf) | (refine ASplit.yes (by decide) ?_; conv => whnf) | (refine ACond.yes (by decide) ?_; conv => whnf) | (refine AReq.mk (by decide) ?_; conv => whnf) | (refine AIdx.iff.2 ⟨by decide, ?_⟩; conv => whnf))
    exact AFin.val (hr _) ⟨rfl, rfl⟩
  rw [if_neg (by omega)]
  conv => whnf
  repeat ((first | refine AW.plan (id := 14) hm (.one 0 (.one 2 (.one 3 (.one 4 (.one 5 (.one 6 (.one 7 (.one 8 (.one 9 (.one 10 (.one 11 (.one 1 (.one 12 (.one 13 (.one 14 .nil))))))))))))))) (by kernel_rfl) ?_ | refine AO.cons hT ?_ | refine AO.nil ?_ | refine AW.seq ?_ | refine AW.region ?_ | refine AW.cond ?_ | refine AW.block ?_ | refine AW.loop ?_ | refine AW.skip ?_ | refine AW.exit ?_ | refine AW.ret ?_ | refine AW.label ?_ | refine AW.scope ?_ | refine AF.one hT rfl ?_ | refine AF.nil ?_ | refine AF.imm hT rfl rfl rfl ?_ | refine AH.of hT rfl ?_ | refine AD.cons hT rfl ?_ | refine AD.nil ?_ | refine AQ.cons hT rfl ?_ | refine AQ.nil ?_); conv => whnf)
  refine ACall.spec (by kernel_rfl) (f46 d hd hl) (rdV1 _ _) ?_
  rintro _ _ ⟨rfl, rfl⟩
  simp only [List.map_cons, List.map_nil, cells_ren, rcs_ren]
  obtain ⟨a, rfl⟩ : ∃ a : Nat, at_ = a := ⟨at_.toNat, by omega⟩
  rw [Int.toNat_natCast]
  generalize hM : s.size / 64 = M at *
  conv => whnf
  repeat ((first | refine AW.plan (id := 14) hm (.one 0 (.one 2 (.one 3 (.one 4 (.one 5 (.one 6 (.one 7 (.one 8 (.one 9 (.one 10 (.one 11 (.one 1 (.one 12 (.one 13 (.one 14 .nil))))))))))))))) (by kernel_rfl) ?_ | refine AO.cons hT ?_ | refine AO.nil ?_ | refine AW.seq ?_ | refine AW.region ?_ | refine AW.cond ?_ | refine AW.block ?_ | refine AW.loop ?_ | refine AW.skip ?_ | refine AW.exit ?_ | refine AW.ret ?_ | refine AW.label ?_ | refine AW.scope ?_ | refine AF.one hT rfl ?_ | refine AF.nil ?_ | refine AF.imm hT rfl rfl rfl ?_ | refine AH.of hT rfl ?_ | refine AD.cons hT rfl ?_ | refine AD.nil ?_ | refine AQ.cons hT rfl ?_ | refine AQ.nil ?_); conv => whnf)
  refine ALoop.mk (fun j E H => ∃ (i : Nat) (y : Rd), j + i = M ∧ y.cells.length = d.cells.length ∧ rwrF j y a s i = rwrF M d a s 0 ∧ E = pad [.any, nV a, sV s, .ptr 0 0, .any, .any, .ptr 1 0, .any, nV M, nV i] 84 ∧
      H = [.cells 44 [.ms 3 2 0 d.cells.length, nV y.ops, nV y.armed, bV y.dead], .cells 44 [.v (.slice none 0 0), nV 0, nV 0, bV false], .cells 74 (y.cells.flatMap rcC)])
    (n := M) _ _ ⟨0, d, rfl, rfl, rfl, rfl, rfl⟩ (Conv.fit (by repeat' (first | exact Fit.nil | refine Fit.any ?_ | refine Fit.same ?_))) ?_
  rintro j _ _ ⟨i, y, hj, hy, hwr, rfl, rfl⟩
  have hend : ∀ (z : Rd) (e : Int) {x : List AV} {G : List ABlk}, z.cells.length = d.cells.length → rwrF M d a s 0 = (z, e) → AFin 0 (.tup [.agg [.ms 3 2 0 d.cells.length, nV z.ops, nV z.armed, bV z.dead], nV e])
      (.cells 44 [.ms 3 2 0 d.cells.length, nV z.ops, nV z.armed, bV z.dead] :: .cells 44 x :: .cells 74 (z.cells.flatMap rcC) :: G) (fun r' H' => r' = .tup [rdV (rwrF M d a s 0).1, nV (rwrF M d a s 0).2] ∧ H' = []) := by
    intro z e x G hz hw
    rw [hw]
    exact AFin.to (.tup [rdV z, nV e]) [] (Conv.out (.tup (.cons (.agg (.cons (.sm' rfl (by rw [flat_length rcC_len]) rfl hz.symm) (LendL.it _))) (LendL.it _))) (fun ρ => tupN ρ _ _)) ⟨rfl, rfl⟩
  conv => whnf
  repeat ((first | refine AW.plan (id := 14) hm (.one 0 (.one 2 (.one 3 (.one 4 (.one 5 (.one 6 (.one 7 (.one 8 (.one 9 (.one 10 (.one 11 (.one 1 (.one 12 (.one 13 (.one 14 .nil))))))))))))))) (by kernel_rfl) ?_ | refine AO.cons hT ?_ | refine AO.nil ?_ | refine AW.seq ?_ | refine AW.region ?_ | refine AW.cond ?_ | refine AW.block ?_ | refine AW.loop ?_ | refine AW.skip ?_ | refine AW.exit ?_ | refine AW.ret ?_ | refine AW.label ?_ | refine AW.scope ?_ | refine AF.one hT rfl ?_ | refine AF.nil ?_ | refine AF.imm hT rfl rfl rfl ?_ | refine AH.of hT rfl ?_ | refine AD.cons hT rfl ?_ | refine AD.nil ?_ | refine AQ.cons hT rfl ?_ | refine AQ.nil ?_); conv => whnf)
  refine ACond.dec (fun h6 => ?_) (fun h6 => ?_)
  · obtain ⟨j, rfl⟩ : ∃ i, j = i + 1 := ⟨j - 1, by omega⟩
    have w1 : IntKind.wrap .i64 ((i : Int) + 1) = ((i + 1 : Nat) : Int) := by rw [wrap_i64 _ (by omega) (by omega)]; omega
    have w2 : IntKind.wrap .i64 (64 * (i : Int)) = (64 * i : Nat) := by rw [wrap_i64 _ (by omega) (by omega)]; omega
    have w3 : IntKind.wrap .i64 (((64 * i : Nat) : Int) + 64) = (64 * i + 64 : Nat) := by rw [wrap_i64 _ (by omega) (by omega)]; omega
    have w4 : IntKind.wrap .i64 ((a : Int) + i) = (a + i : Nat) := by rw [wrap_i64 _ (by omega) (by omega)]; omega
    conv => whnf
    repeat ((first | refine AW.plan (id := 14) hm (.one 0 (.one 2 (.one 3 (.one 4 (.one 5 (.one 6 (.one 7 (.one 8 (.one 9 (.one 10 (.one 11 (.one 1 (.one 12 (.one 13 (.one 14 .nil))))))))))))))) (by kernel_rfl) ?_ | refine AO.cons hT ?_ | refine AO.nil ?_ | refine AW.seq ?_ | refine AW.region ?_ | refine AW.cond ?_ | refine AW.block ?_ | refine AW.loop ?_ | refine AW.skip ?_ | refine AW.exit ?_ | refine AW.ret ?_ | refine AW.label ?_ | refine AW.scope ?_ | refine AF.one hT rfl ?_ | refine AF.nil ?_ | refine AF.imm hT rfl rfl rfl ?_ | refine AH.of hT rfl ?_ | refine AD.cons hT rfl ?_ | refine AD.nil ?_ | refine AQ.cons hT rfl ?_ | refine AQ.nil ?_); conv => whnf)
    refine ACall.cnt (cs := y.cells) rfl ?_
    conv => whnf
    repeat ((first | refine AW.plan (id := 14) hm (.one 0 (.one 2 (.one 3 (.one 4 (.one 5 (.one 6 (.one 7 (.one 8 (.one 9 (.one 10 (.one 11 (.one 1 (.one 12 (.one 13 (.one 14 .nil))))))))))))))) (by kernel_rfl) ?_ | refine AO.cons hT ?_ | refine AO.nil ?_ | refine AW.seq ?_ | refine AW.region ?_ | refine AW.cond ?_ | refine AW.block ?_ | refine AW.loop ?_ | refine AW.skip ?_ | refine AW.exit ?_ | refine AW.ret ?_ | refine AW.label ?_ | refine AW.scope ?_ | refine AF.one hT rfl ?_ | refine AF.nil ?_ | refine AF.imm hT rfl rfl rfl ?_ | refine AH.of hT rfl ?_ | refine AD.cons hT rfl ?_ | refine AD.nil ?_ | refine AQ.cons hT rfl ?_ | refine AQ.nil ?_); conv => whnf)
    rw [w2, w3]
    refine AReq.mk ⟨by omega, by omega, by omega⟩ ?_
    rw [Int.toNat_natCast, Int.toNat_natCast]
    conv => whnf
    repeat ((first | refine AW.plan (id := 14) hm (.one 0 (.one 2 (.one 3 (.one 4 (.one 5 (.one 6 (.one 7 (.one 8 (.one 9 (.one 10 (.one 11 (.one 1 (.one 12 (.one 13 (.one 14 .nil))))))))))))))) (by kernel_rfl) ?_ | refine AO.cons hT ?_ | refine AO.nil ?_ | refine AW.seq ?_ | refine AW.region ?_ | refine AW.cond ?_ | refine AW.block ?_ | refine AW.loop ?_ | refine AW.skip ?_ | refine AW.exit ?_ | refine AW.ret ?_ | refine AW.label ?_ | refine AW.scope ?_ | refine AF.one hT rfl ?_ | refine AF.nil ?_ | refine AF.imm hT rfl rfl rfl ?_ | refine AH.of hT rfl ?_ | refine AD.cons hT rfl ?_ | refine AD.nil ?_ | refine AQ.cons hT rfl ?_ | refine AQ.nil ?_); conv => whnf)
    rw [w4]
    conv => whnf
    repeat ((first | refine AW.plan (id := 14) hm (.one 0 (.one 2 (.one 3 (.one 4 (.one 5 (.one 6 (.one 7 (.one 8 (.one 9 (.one 10 (.one 11 (.one 1 (.one 12 (.one 13 (.one 14 .nil))))))))))))))) (by kernel_rfl) ?_ | refine AO.cons hT ?_ | refine AO.nil ?_ | refine AW.seq ?_ | refine AW.region ?_ | refine AW.cond ?_ | refine AW.block ?_ | refine AW.loop ?_ | refine AW.skip ?_ | refine AW.exit ?_ | refine AW.ret ?_ | refine AW.label ?_ | refine AW.scope ?_ | refine AF.one hT rfl ?_ | refine AF.nil ?_ | refine AF.imm hT rfl rfl rfl ?_ | refine AH.of hT rfl ?_ | refine AD.cons hT rfl ?_ | refine AD.nil ?_ | refine AQ.cons hT rfl ?_ | refine AQ.nil ?_ | (refine AReq.mk (by omega) ?_) | (refine AReq.mk rfl ?_)); conv => whnf)
    have hil : a + i < y.cells.length := by omega
    have hge : y.cells.getD (a + i) rz = y.cells[a + i] := by rw [List.getD_eq_getElem?_getD, List.getElem?_eq_getElem hil]; rfl
    generalize hX : s.extract (64 * i) (64 * i + 64) = X at *
    refine AUpd.flat1 rcC_len (a + i) 0 ⟨X, y.cells[a + i].safe, y.cells[a + i].loose⟩ (show 0 + Int.toNat ((a + i : Nat) : Int) * 3 + 0 = (a + i) * 3 + 0 by omega) hil (by decide) rfl ?_
    conv => whnf
    repeat ((first | refine AW.plan (id := 14) hm (.one 0 (.one 2 (.one 3 (.one 4 (.one 5 (.one 6 (.one 7 (.one 8 (.one 9 (.one 10 (.one 11 (.one 1 (.one 12 (.one 13 (.one 14 .nil))))))))))))))) (by kernel_rfl) ?_ | refine AO.cons hT ?_ | refine AO.nil ?_ | refine AW.seq ?_ | refine AW.region ?_ | refine AW.cond ?_ | refine AW.block ?_ | refine AW.loop ?_ | refine AW.skip ?_ | refine AW.exit ?_ | refine AW.ret ?_ | refine AW.label ?_ | refine AW.scope ?_ | refine AF.one hT rfl ?_ | refine AF.nil ?_ | refine AF.imm hT rfl rfl rfl ?_ | refine AH.of hT rfl ?_ | refine AD.cons hT rfl ?_ | refine AD.nil ?_ | refine AQ.cons hT rfl ?_ | refine AQ.nil ?_ | (refine AReq.mk (by omega) ?_) | (refine AReq.mk rfl ?_)); conv => whnf)
    rw [w4]
    conv => whnf
    repeat ((first | refine AW.plan (id := 14) hm (.one 0 (.one 2 (.one 3 (.one 4 (.one 5 (.one 6 (.one 7 (.one 8 (.one 9 (.one 10 (.one 11 (.one 1 (.one 12 (.one 13 (.one 14 .nil))))))))))))))) (by kernel_rfl) ?_ | refine AO.cons hT ?_ | refine AO.nil ?_ | refine AW.seq ?_ | refine AW.region ?_ | refine AW.cond ?_ | refine AW.block ?_ | refine AW.loop ?_ | refine AW.skip ?_ | refine AW.exit ?_ | refine AW.ret ?_ | refine AW.label ?_ | refine AW.scope ?_ | refine AF.one hT rfl ?_ | refine AF.nil ?_ | refine AF.imm hT rfl rfl rfl ?_ | refine AH.of hT rfl ?_ | refine AD.cons hT rfl ?_ | refine AD.nil ?_ | refine AQ.cons hT rfl ?_ | refine AQ.nil ?_ | (refine AReq.mk (by omega) ?_) | (refine AReq.mk rfl ?_)); conv => whnf)
    refine AUpd.flat1 rcC_len (a + i) 2 ⟨X, y.cells[a + i].safe, true⟩ (show 0 + Int.toNat ((a + i : Nat) : Int) * 3 + 2 = (a + i) * 3 + 2 by omega) (by simpa using hil) (by decide) (by simp [rcC, bV]) ?_
    have hset : (y.cells.set (a + i) ⟨X, y.cells[a + i].safe, y.cells[a + i].loose⟩).set (a + i) ⟨X, y.cells[a + i].safe, true⟩ = (rputF (cntF y) (a + i) X).cells := by
      rw [List.set_set]
      show _ = y.cells.set (a + i) ⟨X, (y.cells.getD (a + i) rz).safe, true⟩
      rw [hge]
    rw [hset]
    have hz : (rputF (cntF y) (a + i) X).cells.length = d.cells.length := by
      show (y.cells.set _ _).length = _
      rw [List.length_set]; exact hy
    rw [rwrF, hX] at hwr
    conv => whnf
    repeat ((first | refine AW.plan (id := 14) hm (.one 0 (.one 2 (.one 3 (.one 4 (.one 5 (.one 6 (.one 7 (.one 8 (.one 9 (.one 10 (.one 11 (.one 1 (.one 12 (.one 13 (.one 14 .nil))))))))))))))) (by kernel_rfl) ?_ | refine AO.cons hT ?_ | refine AO.nil ?_ | refine AW.seq ?_ | refine AW.region ?_ | refine AW.cond ?_ | refine AW.block ?_ | refine AW.loop ?_ | refine AW.skip ?_ | refine AW.exit ?_ | refine AW.ret ?_ | refine AW.label ?_ | refine AW.scope ?_ | refine AF.one hT rfl ?_ | refine AF.nil ?_ | refine AF.imm hT rfl rfl rfl ?_ | refine AH.of hT rfl ?_ | refine AD.cons hT rfl ?_ | refine AD.nil ?_ | refine AQ.cons hT rfl ?_ | refine AQ.nil ?_); conv => whnf)
    refine ACond.dec (fun h7 => ?_) (fun h7 => ?_)
    · rw [if_pos h7] at hwr
      conv => whnf
      repeat ((first | refine AW.plan (id := 14) hm (.one 0 (.one 2 (.one 3 (.one 4 (.one 5 (.one 6 (.one 7 (.one 8 (.one 9 (.one 10 (.one 11 (.one 1 (.one 12 (.one 13 (.one 14 .nil))))))))))))))) (by kernel_rfl) ?_ | refine AO.cons hT ?_ | refine AO.nil ?_ | refine AW.seq ?_ | refine AW.region ?_ | refine AW.cond ?_ | refine AW.block ?_ | refine AW.loop ?_ | refine AW.skip ?_ | refine AW.exit ?_ | refine AW.ret ?_ | refine AW.label ?_ | refine AW.scope ?_ | refine AF.one hT rfl ?_ | refine AF.nil ?_ | refine AF.imm hT rfl rfl rfl ?_ | refine AH.of hT rfl ?_ | refine AD.cons hT rfl ?_ | refine AD.nil ?_ | refine AQ.cons hT rfl ?_ | refine AQ.nil ?_); conv => whnf)
      refine AOut.stay ?_
      conv => whnf
      repeat ((first | refine AW.plan (id := 14) hm (.one 0 (.one 2 (.one 3 (.one 4 (.one 5 (.one 6 (.one 7 (.one 8 (.one 9 (.one 10 (.one 11 (.one 1 (.one 12 (.one 13 (.one 14 .nil))))))))))))))) (by kernel_rfl) ?_ | refine AO.cons hT ?_ | refine AO.nil ?_ | refine AW.seq ?_ | refine AW.region ?_ | refine AW.cond ?_ | refine AW.block ?_ | refine AW.loop ?_ | refine AW.skip ?_ | refine AW.exit ?_ | refine AW.ret ?_ | refine AW.label ?_ | refine AW.scope ?_ | refine AF.one hT rfl ?_ | refine AF.nil ?_ | refine AF.imm hT rfl rfl rfl ?_ | refine AH.of hT rfl ?_ | refine AD.cons hT rfl ?_ | refine AD.nil ?_ | refine AQ.cons hT rfl ?_ | refine AQ.nil ?_); conv => whnf)
      exact hend (rputF (cntF y) (a + i) X) 20 hz hwr.symm
    · rw [if_neg h7] at hwr
      conv => whnf
      repeat ((first | refine AW.plan (id := 14) hm (.one 0 (.one 2 (.one 3 (.one 4 (.one 5 (.one 6 (.one 7 (.one 8 (.one 9 (.one 10 (.one 11 (.one 1 (.one 12 (.one 13 (.one 14 .nil))))))))))))))) (by kernel_rfl) ?_ | refine AO.cons hT ?_ | refine AO.nil ?_ | refine AW.seq ?_ | refine AW.region ?_ | refine AW.cond ?_ | refine AW.block ?_ | refine AW.loop ?_ | refine AW.skip ?_ | refine AW.exit ?_ | refine AW.ret ?_ | refine AW.label ?_ | refine AW.scope ?_ | refine AF.one hT rfl ?_ | refine AF.nil ?_ | refine AF.imm hT rfl rfl rfl ?_ | refine AH.of hT rfl ?_ | refine AD.cons hT rfl ?_ | refine AD.nil ?_ | refine AQ.cons hT rfl ?_ | refine AQ.nil ?_); conv => whnf)
      rw [w1]
      exact AHead.mk j (pad [.any, nV a, sV s, .ptr 0 0, .any, .any, .ptr 1 0, .any, nV M, nV ((i + 1 : Nat) : Int)] 84) _ (by omega) ⟨i + 1, rputF (cntF y) (a + i) X, by omega, hz, hwr, rfl, rfl⟩ (Conv.ren [0, 1, 2] _ (fun _ h => absurd h (Nat.not_lt_zero _)) (by decide) (by repeat' (first | exact Fit.nil | refine Fit.any ?_ | refine Fit.same ?_)) (.same rfl (.same rfl (.same (by rw [cells_ren, rcs_ren]; rfl) .nil))))
  · obtain rfl : j = 0 := by omega
    rw [rwrF] at hwr
    conv => whnf
    repeat ((first | refine AW.plan (id := 14) hm (.one 0 (.one 2 (.one 3 (.one 4 (.one 5 (.one 6 (.one 7 (.one 8 (.one 9 (.one 10 (.one 11 (.one 1 (.one 12 (.one 13 (.one 14 .nil))))))))))))))) (by kernel_rfl) ?_ | refine AO.cons hT ?_ | refine AO.nil ?_ | refine AW.seq ?_ | refine AW.region ?_ | refine AW.cond ?_ | refine AW.block ?_ | refine AW.loop ?_ | refine AW.skip ?_ | refine AW.exit ?_ | refine AW.ret ?_ | refine AW.label ?_ | refine AW.scope ?_ | refine AF.one hT rfl ?_ | refine AF.nil ?_ | refine AF.imm hT rfl rfl rfl ?_ | refine AH.of hT rfl ?_ | refine AD.cons hT rfl ?_ | refine AD.nil ?_ | refine AQ.cons hT rfl ?_ | refine AQ.nil ?_); conv => whnf)
    refine AOut.stay ?_
    conv => whnf
    repeat ((first | refine AW.plan (id := 14) hm (.one 0 (.one 2 (.one 3 (.one 4 (.one 5 (.one 6 (.one 7 (.one 8 (.one 9 (.one 10 (.one 11 (.one 1 (.one 12 (.one 13 (.one 14 .nil))))))))))))))) (by kernel_rfl) ?_ | refine AO.cons hT ?_ | refine AO.nil ?_ | refine AW.seq ?_ | refine AW.region ?_ | refine AW.cond ?_ | refine AW.block ?_ | refine AW.loop ?_ | refine AW.skip ?_ | refine AW.exit ?_ | refine AW.ret ?_ | refine AW.label ?_ | refine AW.scope ?_ | refine AF.one hT rfl ?_ | refine AF.nil ?_ | refine AF.imm hT rfl rfl rfl ?_ | refine AH.of hT rfl ?_ | refine AD.cons hT rfl ?_ | refine AD.nil ?_ | refine AQ.cons hT rfl ?_ | refine AQ.nil ?_); conv => whnf)
    exact hend y 0 hy hwr.symm
end Go.Aw.E1

