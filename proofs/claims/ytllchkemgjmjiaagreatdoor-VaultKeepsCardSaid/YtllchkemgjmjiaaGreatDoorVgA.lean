/-
  The statement VaultKeeps: opened again, a vault tells the text that was laid last, and all bodies behind that, without any condition.
-/
import Derived.Test.YtllchkemgjmjiaaGreatDoorVfC
import Derived.Test.YtllchkemgjmjiaaGreatDoorVfD
import Derived.Test.YtllchkemgjmjiaaGreatDoorAwK
set_option linter.unusedSimpArgs false
set_option linter.unusedVariables false
set_option linter.unusedSimpArgs false
set_option linter.unusedVariables false
set_option maxHeartbeats 4000000
set_option maxRecDepth 20000
namespace Go.Aw.VE
open Go Go.Proofs

/-- a vault -/
structure Va where
  d : Dd
  s : Int
  e : Int
  q : Int
  at_ : Int
  sh : Bool
def vB (v : Va) : ABlk := .cells 26 [.ptr 1 0, nV v.s, nV v.e, nV v.q, nV v.at_, .v (.bool v.sh)]
def vH (v : Va) (bs : List Nat) (ck : Nat) : List ABlk := [vB v, dD 2 3 v.d, dC v.d, dM v.d bs ck]
def VSpec (f : Nat) (args : List AV) (v : Va) (R : AV → Va → Prop) : Prop :=
  ∀ bs ck, Spec P f (.ptr 0 0 :: args) (vH v bs ck) fun r H' => ∃ v' bs' ck', R r v' ∧ H' = vH v' bs' ck'

theorem bytes_pl : ∀ l : List UInt8, plainL (l.map byteC)
  | [] => trivial
  | _ :: l => ⟨trivial, bytes_pl l⟩
theorem dD_pl (a b : Nat) (x : Dd) : dD a b x = .dead ∨ (dD a b x).live ∧ (dD a b x).plain := .inr ⟨trivial, by simp [dD, ABlk.plain, plainL, AV.plain]⟩
theorem dC_pl (x : Dd) : dC x = .dead ∨ (dC x).live ∧ (dC x).plain := .inr ⟨trivial, bytes_pl _⟩
theorem dM_pl (x : Dd) (bs : List Nat) (ck : Nat) : dM x bs ck = .dead ∨ (dM x bs ck).live ∧ (dM x bs ck).plain := by
  refine .inr ⟨trivial, ?_⟩
  simp only [dM, ABlk.plain, em, List.map_map]
  constructor
  · rw [plainL_iff]
    intro y hy
    obtain ⟨p, _, rfl⟩ := List.mem_map.1 hy
    trivial
  · rw [plainL_iff]
    intro y hy
    obtain ⟨p, _, rfl⟩ := List.mem_map.1 hy
    exact bytes_pl _
theorem vB_pl (v : Va) : vB v = .dead ∨ (vB v).live ∧ (vB v).plain := .inr ⟨trivial, by simp [vB, ABlk.plain, plainL, AV.plain]⟩

theorem f35 (v : Va) : VSpec 35 [] v fun r v' => r = nV (if v.sh then 23 else 0) ∧ v' = v := by
  intro bs ck
  obtain ⟨d, s, e, q, a, sh⟩ := v
  refine spec_of hT (f := 35) (fn := Go.Proofs.Tryz.f35) (c := body Go.Proofs.Tryz.f35) (by kernel_rfl) (by kernel_rfl) ?_
  unfold vH vB
  cases sh <;>
  · conv => whnf
    repeat (first | (refine AW.label ?_; conv => whnf) | (refine AW.scope ?_; conv => whnf) | (refine AO.cons hT ?_; conv => whnf) | (refine AO.nil ?_; conv => whnf) | (refine AW.seq ?_; conv => whnf) | (refine AW.region ?_; conv => whnf) | (refine AW.cond ?_; conv => whnf) | (refine AW.block ?_; conv => whnf) | (refine AW.loop ?_; conv => whnf) | (refine AW.skip ?_; conv => whnf) | (refine AW.exit ?_; conv => whnf) | (refine AW.ret ?_; conv => whnf) | (refine AF.one hT rfl ?_; conv => whnf) | (refine AF.nil ?_; conv => whnf) | (refine AF.imm hT rfl rfl rfl ?_; conv => whnf) | (refine AH.of hT rfl ?_; conv => whnf) | (refine ASplit.yes rfl ?_; conv => whnf) | (refine ACond.yes rfl ?_; conv => whnf) | (refine ASplit.no rfl ?_; conv => whnf) | (refine ACond.no rfl ?_; conv => whnf) | (refine ASplit.yes (by decide) ?_; conv => whnf) | (refine ACond.yes (by decide) ?_; conv => whnf) | (refine AReq.mk (by decide) ?_; conv => whnf) | (refine AIdx.iff.2 ⟨by decide, ?_⟩; conv => whnf))
    exact AFin.mk ⟨⟨d, s, e, q, a, _⟩, bs, ck, ⟨rfl, rfl⟩, rfl⟩

/-- a vault's call -/
theorem ACall.vault {f : Nat} {args : List AV} {v : Va} {R : AV → Va → Prop} {G : List ABlk} {K : AV → List ABlk → Prop} {bs : List Nat} {ck : Nat} (hc : callOk P f = true) (h : VSpec f args v R)
    (ha : ∀ ρ, renL ρ args = args) (hr : ∀ r y, R r y → ∀ ρ, r.ren ρ = r)
    (k : ∀ r v' bs' ck', R r v' → K r (vH v' bs' ck' ++ G)) : ACall P f (.ptr 0 0 :: args) (vH v bs ck ++ G) K := by
  refine ACall.of hc (h bs ck) [0, 1, 2, 3] [] (by decide) ?_ (by simp) (by simp) ?_ (.inl rfl) ?_
  · refine .same ?_ (.same ?_ (.same ?_ (.same ?_ .nil)))
    · rfl
    · show some (dD 2 3 v.d) = _; rw [dD_ren]; rfl
    · show some (dC v.d) = _; rw [dC_ren]
    · show some (dM v.d bs ck) = _; rw [dM_ren]
  · have := LendL.same (H := vH v bs ck ++ G) (B := []) (ρ := nm [0, 1, 2, 3] (vH v bs ck ++ G).length) (.ptr 0 0 :: args)
    simp only [renL, ha] at this
    exact this
  · rintro r _ ⟨v', bs', ck', hR, rfl⟩
    rw [hr r v' hR]
    have := k r v' bs' ck' hR
    simp only [vH, List.cons_append, List.nil_append, mergeH, List.map_cons, List.map_nil, dD_ren, dC_ren, dM_ren, List.set_cons_zero, List.set_cons_succ, List.append_nil] at this ⊢
    exact this
end Go.Aw.VE

set_option linter.unusedSimpArgs false
set_option linter.unusedVariables false
set_option maxHeartbeats 4000000
set_option maxRecDepth 20000
namespace Go.Aw.VE
open Go Go.Proofs

structure Vok (v : Va) (S : Nat) : Prop where
  d : Dok v.d
  s : v.s = S
  pos : 1 ≤ S
  le : S ≤ 500
  fits : 2 * S < v.d.n

theorem rl4 : ∀ i, i < 4 → [0, 1, 2, 3][i]? = some i := by decide
/-- the vault's blocks alone are kept -/
theorem conv4 {r : AV} {v : Va} {bs : List Nat} {ck : Nat} (G : List ABlk) (hr : ∀ ρ, r.ren ρ = r) : Conv 4 [r] (vB v :: dD 2 3 v.d :: dC v.d :: dM v.d bs ck :: G) [r] (vH v bs ck) := by
  refine Conv.ren [0, 1, 2, 3] _ rl4 (by decide) ?_ ?_
  · simp only [renL, hr]; exact .same .nil
  · exact .same rfl (.same (by rw [dD_ren]; rfl) (.same (by rw [dC_ren]; rfl) (.same (by rw [dM_ren]; rfl) .nil)))
theorem f37 (v : Va) (S : Nat) (h : Vok v S) : VSpec 37 [] v fun r v' => r = arA ((2 * S : Nat) : Int) ((v.d.n - 2 * S : Nat) : Int) ∧ v' = v := by
  intro bs ck
  have hle := h.d.le
  have hpos := h.d.pos
  have h1 := h.le
  have h2 := h.fits
  have hs := h.s
  obtain ⟨d, s, e, q, a, sh⟩ := v
  simp only at hs hle hpos h2
  subst hs
  refine spec_of hT (f := 37) (fn := Go.Proofs.Tryz.f37) (c := body Go.Proofs.Tryz.f37) (by kernel_rfl) (by kernel_rfl) ?_
  unfold vH vB
  conv => whnf
  repeat ((first | refine AO.cons hT ?_ | refine AO.nil ?_ | refine AW.seq ?_ | refine AW.region ?_ | refine AW.cond ?_ | refine AW.block ?_ | refine AW.loop ?_ | refine AW.skip ?_ | refine AW.exit ?_ | refine AW.ret ?_ | refine AW.label ?_ | refine AW.scope ?_ | refine AF.one hT rfl ?_ | refine AF.nil ?_ | refine AF.imm hT rfl rfl rfl ?_ | refine AH.of hT rfl ?_ | refine AD.cons hT rfl ?_ | refine AD.nil ?_ | refine AQ.cons hT rfl ?_ | refine AQ.nil ?_); conv => whnf)
  refine AW.stillTo (l := 0) rfl ?_
  refine AW.plan hm (.one 0 (.one 1 (.one 2 (.one 5 (.one 6 (.one 7 (.one 10 (.one 11 (.one 12 (.imm 3 (.one 4 (.imm 8 (.imm 13 (.one 14 (.one 9 (.one 15 (.one 16 (.one 17 .nil)))))))))))))))))) (by kernel_rfl) ?_
  conv => whnf
  repeat ((first | refine AO.cons hT ?_ | refine AO.nil ?_ | refine AW.seq ?_ | refine AW.region ?_ | refine AW.cond ?_ | refine AW.block ?_ | refine AW.loop ?_ | refine AW.skip ?_ | refine AW.exit ?_ | refine AW.ret ?_ | refine AW.label ?_ | refine AW.scope ?_ | refine AF.one hT rfl ?_ | refine AF.nil ?_ | refine AF.imm hT rfl rfl rfl ?_ | refine AH.of hT rfl ?_ | refine AD.cons hT rfl ?_ | refine AD.nil ?_ | refine AQ.cons hT rfl ?_ | refine AQ.nil ?_); conv => whnf)
  refine ACall.dev (by kernel_rfl) (f44 d (by omega)) rfl rfl rfl (by decide) (fun _ => rfl) (by rintro _ _ ⟨rfl, _⟩ _; rfl) ?_
  rintro _ yy bs1 ck1 ⟨rfl, hyy⟩
  rw [hyy]
  simp only [List.length_nil, Nat.zero_add, List.nil_append, List.set_cons_zero, List.set_cons_succ]
  conv => whnf
  repeat ((first | refine AO.cons hT ?_ | refine AO.nil ?_ | refine AW.seq ?_ | refine AW.region ?_ | refine AW.cond ?_ | refine AW.block ?_ | refine AW.loop ?_ | refine AW.skip ?_ | refine AW.exit ?_ | refine AW.ret ?_ | refine AW.label ?_ | refine AW.scope ?_ | refine AF.one hT rfl ?_ | refine AF.nil ?_ | refine AF.imm hT rfl rfl rfl ?_ | refine AH.of hT rfl ?_ | refine AD.cons hT rfl ?_ | refine AD.nil ?_ | refine AQ.cons hT rfl ?_ | refine AQ.nil ?_); conv => whnf)
  have w1 : IntKind.wrap .i64 (2 * (S : Int)) = ((2 * S : Nat) : Int) := by rw [wrap_i64' (by omega) (by omega)]; omega
  have w2 : IntKind.wrap .i64 ((d.n : Int) - ((2 * S : Nat) : Int)) = ((d.n - 2 * S : Nat) : Int) := by rw [wrap_i64' (by omega) (by omega)]; omega
  rw [w1, w2]
  refine AOut.stay ⟨[vB ⟨d, S, e, q, a, sh⟩, dD 2 3 d, dC d, dM d bs1 ck1, .cells 43 [nV ((2 * S : Nat) : Int), nV ((d.n - 2 * S : Nat) : Int)]], ?_, ?_, rfl, rfl, rfl, ?_⟩
  · simp [plainL, AV.plain, pad]
  · intro b hb
    simp only [List.mem_cons, List.not_mem_nil, or_false] at hb
    rcases hb with rfl | rfl | rfl | rfl | rfl
    · exact vB_pl _
    · exact dD_pl _ _ _
    · exact dC_pl _
    · exact dM_pl _ _ _
    · exact .inr ⟨trivial, by simp [ABlk.plain, plainL, AV.plain]⟩
  conv => whnf
  repeat ((first | refine AO.cons hT ?_ | refine AO.nil ?_ | refine AW.seq ?_ | refine AW.region ?_ | refine AW.cond ?_ | refine AW.block ?_ | refine AW.loop ?_ | refine AW.skip ?_ | refine AW.exit ?_ | refine AW.ret ?_ | refine AW.label ?_ | refine AW.scope ?_ | refine AF.one hT rfl ?_ | refine AF.nil ?_ | refine AF.imm hT rfl rfl rfl ?_ | refine AH.of hT rfl ?_ | refine AD.cons hT rfl ?_ | refine AD.nil ?_ | refine AQ.cons hT rfl ?_ | refine AQ.nil ?_); conv => whnf)
  exact AFin.to _ _ (conv4 (v := ⟨d, S, e, q, a, sh⟩) _ (fun _ => rfl)) ⟨⟨d, S, e, q, a, sh⟩, bs1, ck1, ⟨rfl, rfl⟩, rfl⟩
end Go.Aw.VE

set_option linter.unusedSimpArgs false
set_option linter.unusedVariables false
set_option maxHeartbeats 4000000
set_option maxRecDepth 20000
namespace Go.Aw.VE
open Go Go.Proofs

theorem f69 (v : Va) (S : Nat) (h : Vok v S) (i : Nat) (hi : i ≤ 1) : VSpec 69 [nV i] v fun r v' => r = .tup [sV (readF v.d ((i * S : Nat) : Int) S).1, nV (readF v.d ((i * S : Nat) : Int) S).2] ∧ v' = v := by
  intro bs ck
  have h1 := h.le
  have hs := h.s
  have hd := h.d
  obtain ⟨d, s, e, q, a, sh⟩ := v
  simp only at hs hd
  subst hs
  have hiS : i * S ≤ 500 := Nat.le_trans (Nat.mul_le_mul hi h1) (by omega)
  have w1 : IntKind.wrap .i64 ((i : Int) * (S : Int)) = ((i * S : Nat) : Int) := by
    rw [show (i : Int) * (S : Int) = ((i * S : Nat) : Int) from (Int.natCast_mul i S).symm, wrap_i64' (by omega) (by omega)]
  refine spec_of hT (f := 69) (fn := Go.Proofs.Tryz.f69) (c := body Go.Proofs.Tryz.f69) (by kernel_rfl) (by kernel_rfl) ?_
  unfold vH vB
  conv => whnf
  repeat ((first | refine AW.plan (id := 1) hm (.one 0 (.one 1 (.one 2 (.one 4 (.one 5 (.one 6 (.one 7 (.one 10 (.one 11 (.one 12 (.one 8 (.one 9 (.one 3 (.one 13 (.one 14 (.one 15 (.one 16 (.one 17 (.one 18 .nil))))))))))))))))))) (by kernel_rfl) ?_ | refine AO.cons hT ?_ | refine AO.nil ?_ | refine AW.seq ?_ | refine AW.region ?_ | refine AW.cond ?_ | refine AW.block ?_ | refine AW.loop ?_ | refine AW.skip ?_ | refine AW.exit ?_ | refine AW.ret ?_ | refine AW.label ?_ | refine AW.scope ?_ | refine AF.one hT rfl ?_ | refine AF.nil ?_ | refine AF.imm hT rfl rfl rfl ?_ | refine AH.of hT rfl ?_ | refine AD.cons hT rfl ?_ | refine AD.nil ?_ | refine AQ.cons hT rfl ?_ | refine AQ.nil ?_); conv => whnf)
  rw [w1]
  refine ACall.dev (by kernel_rfl) (f29 d hd ((i * S : Nat) : Int) S (nOk_of (by omega) (by omega)) (nOk_of (by omega) (by omega))) rfl rfl rfl (by decide) (fun _ => rfl) (by rintro _ _ ⟨rfl, _⟩ _; rfl) ?_
  rintro _ yy bs1 ck1 ⟨rfl, hyy⟩
  rw [hyy]
  simp only [List.length_nil, Nat.zero_add, List.nil_append, List.set_cons_zero, List.set_cons_succ]
  conv => whnf
  repeat ((first | refine AW.plan (id := 1) hm (.one 0 (.one 1 (.one 2 (.one 4 (.one 5 (.one 6 (.one 7 (.one 10 (.one 11 (.one 12 (.one 8 (.one 9 (.one 3 (.one 13 (.one 14 (.one 15 (.one 16 (.one 17 (.one 18 .nil))))))))))))))))))) (by kernel_rfl) ?_ | refine AO.cons hT ?_ | refine AO.nil ?_ | refine AW.seq ?_ | refine AW.region ?_ | refine AW.cond ?_ | refine AW.block ?_ | refine AW.loop ?_ | refine AW.skip ?_ | refine AW.exit ?_ | refine AW.ret ?_ | refine AW.label ?_ | refine AW.scope ?_ | refine AF.one hT rfl ?_ | refine AF.nil ?_ | refine AF.imm hT rfl rfl rfl ?_ | refine AH.of hT rfl ?_ | refine AD.cons hT rfl ?_ | refine AD.nil ?_ | refine AQ.cons hT rfl ?_ | refine AQ.nil ?_); conv => whnf)
  exact AFin.mk ⟨⟨d, S, e, q, a, sh⟩, bs1, ck1, ⟨rfl, rfl⟩, rfl⟩

noncomputable def bothF (d : Dd) (S : Nat) : ByteArray × ByteArray × Int :=
  if (readF d ((0 : Nat) : Int) S).2 ≠ 0 then (e0, e0, (readF d ((0 : Nat) : Int) S).2) else ((readF d ((0 : Nat) : Int) S).1, (readF d S S).1, (readF d S S).2)
def bothR (x : ByteArray × ByteArray × Int) : AV := .tup [sV x.1, sV x.2.1, nV x.2.2]
theorem f38 (v : Va) (S : Nat) (h : Vok v S) : VSpec 38 [] v fun r v' => r = bothR (bothF v.d S) ∧ v' = v := by
  intro bs ck
  have g0 := f69 v S h 0 (by omega)
  have g1 := f69 v S h 1 (by omega)
  rw [Nat.zero_mul] at g0
  rw [Nat.one_mul] at g1
  refine spec_of hT (f := 38) (fn := Go.Proofs.Tryz.f38) (c := body Go.Proofs.Tryz.f38) (by kernel_rfl) (by kernel_rfl) ?_
  unfold bothF
  rw [← List.append_nil (vH v bs ck)]
  conv => whnf
  repeat ((first | refine AO.cons hT ?_ | refine AO.nil ?_ | refine AW.seq ?_ | refine AW.region ?_ | refine AW.cond ?_ | refine AW.block ?_ | refine AW.loop ?_ | refine AW.skip ?_ | refine AW.exit ?_ | refine AW.ret ?_ | refine AW.label ?_ | refine AW.scope ?_ | refine AF.one hT rfl ?_ | refine AF.nil ?_ | refine AF.imm hT rfl rfl rfl ?_ | refine AH.of hT rfl ?_ | refine AD.cons hT rfl ?_ | refine AD.nil ?_ | refine AQ.cons hT rfl ?_ | refine AQ.nil ?_); conv => whnf)
  refine ACall.vault (by kernel_rfl) g0 (fun _ => rfl) (by rintro _ _ ⟨rfl, _⟩ _; rfl) ?_
  rintro _ v1 bs1 ck1 ⟨rfl, rfl⟩
  conv => whnf
  repeat ((first | refine AO.cons hT ?_ | refine AO.nil ?_ | refine AW.seq ?_ | refine AW.region ?_ | refine AW.cond ?_ | refine AW.block ?_ | refine AW.loop ?_ | refine AW.skip ?_ | refine AW.exit ?_ | refine AW.ret ?_ | refine AW.label ?_ | refine AW.scope ?_ | refine AF.one hT rfl ?_ | refine AF.nil ?_ | refine AF.imm hT rfl rfl rfl ?_ | refine AH.of hT rfl ?_ | refine AD.cons hT rfl ?_ | refine AD.nil ?_ | refine AQ.cons hT rfl ?_ | refine AQ.nil ?_); conv => whnf)
  refine ACond.ndec (fun h1 => ?_) (fun h1 => ?_)
  · conv => whnf
    repeat ((first | refine AO.cons hT ?_ | refine AO.nil ?_ | refine AW.seq ?_ | refine AW.region ?_ | refine AW.cond ?_ | refine AW.block ?_ | refine AW.loop ?_ | refine AW.skip ?_ | refine AW.exit ?_ | refine AW.ret ?_ | refine AW.label ?_ | refine AW.scope ?_ | refine AF.one hT rfl ?_ | refine AF.nil ?_ | refine AF.imm hT rfl rfl rfl ?_ | refine AH.of hT rfl ?_ | refine AD.cons hT rfl ?_ | refine AD.nil ?_ | refine AQ.cons hT rfl ?_ | refine AQ.nil ?_); conv => whnf)
    rw [if_pos h1]
    exact AFin.mk ⟨v1, bs1, ck1, ⟨rfl, rfl⟩, by rw [List.append_nil]⟩
  · conv => whnf
    repeat ((first | refine AO.cons hT ?_ | refine AO.nil ?_ | refine AW.seq ?_ | refine AW.region ?_ | refine AW.cond ?_ | refine AW.block ?_ | refine AW.loop ?_ | refine AW.skip ?_ | refine AW.exit ?_ | refine AW.ret ?_ | refine AW.label ?_ | refine AW.scope ?_ | refine AF.one hT rfl ?_ | refine AF.nil ?_ | refine AF.imm hT rfl rfl rfl ?_ | refine AH.of hT rfl ?_ | refine AD.cons hT rfl ?_ | refine AD.nil ?_ | refine AQ.cons hT rfl ?_ | refine AQ.nil ?_); conv => whnf)
    refine ACall.vault (by kernel_rfl) g1 (fun _ => rfl) (by rintro _ _ ⟨rfl, _⟩ _; rfl) ?_
    rintro _ v2 bs2 ck2 ⟨rfl, rfl⟩
    conv => whnf
    repeat ((first | refine AO.cons hT ?_ | refine AO.nil ?_ | refine AW.seq ?_ | refine AW.region ?_ | refine AW.cond ?_ | refine AW.block ?_ | refine AW.loop ?_ | refine AW.skip ?_ | refine AW.exit ?_ | refine AW.ret ?_ | refine AW.label ?_ | refine AW.scope ?_ | refine AF.one hT rfl ?_ | refine AF.nil ?_ | refine AF.imm hT rfl rfl rfl ?_ | refine AH.of hT rfl ?_ | refine AD.cons hT rfl ?_ | refine AD.nil ?_ | refine AQ.cons hT rfl ?_ | refine AQ.nil ?_); conv => whnf)
    rw [if_neg (fun e => e h1)]
    exact AFin.mk ⟨v2, bs2, ck2, ⟨rfl, rfl⟩, by rw [List.append_nil]⟩

noncomputable def fitF (v : Va) (S : Nat) (t : ByteArray) : Bool := !v.sh && (decide ((VD.putF 1 t).2 = 0) && decide ((t.size + 16 + 63) / 64 ≤ S))
theorem f12 (v : Va) (S : Nat) (h : Vok v S) (t : ByteArray) (ht : t.size ≤ 100000000000) : VSpec 12 [sV t] v fun r v' => r = .v (.bool (fitF v S t)) ∧ v' = v := by
  intro bs ck
  have hs := h.s
  have g0 := f35 v
  have g1 := VD.f42 1 t (by omega)
  have g2 := VD.f43 t ht
  refine spec_of hT (f := 12) (fn := Go.Proofs.Tryz.f12) (c := body Go.Proofs.Tryz.f12) (by kernel_rfl) (by kernel_rfl) ?_
  unfold fitF
  rw [← List.append_nil (vH v bs ck)]
  conv => whnf
  repeat ((first | refine AO.cons hT ?_ | refine AO.nil ?_ | refine AW.seq ?_ | refine AW.region ?_ | refine AW.cond ?_ | refine AW.block ?_ | refine AW.loop ?_ | refine AW.skip ?_ | refine AW.exit ?_ | refine AW.ret ?_ | refine AW.label ?_ | refine AW.scope ?_ | refine AF.one hT rfl ?_ | refine AF.nil ?_ | refine AF.imm hT rfl rfl rfl ?_ | refine AH.of hT rfl ?_ | refine AD.cons hT rfl ?_ | refine AD.nil ?_ | refine AQ.cons hT rfl ?_ | refine AQ.nil ?_); conv => whnf)
  refine ACall.vault (by kernel_rfl) g0 (fun _ => rfl) (by rintro _ _ ⟨rfl, _⟩ _; rfl) ?_
  rintro _ v1 bs1 ck1 ⟨rfl, rfl⟩
  rcases hsh : v1.sh with _ | _
  · conv => whnf
    repeat (first | (refine AW.label ?_; conv => whnf) | (refine AW.scope ?_; conv => whnf) | (refine AO.cons hT ?_; conv => whnf) | (refine AO.nil ?_; conv => whnf) | (refine AW.seq ?_; conv => whnf) | (refine AW.region ?_; conv => whnf) | (refine AW.cond ?_; conv => whnf) | (refine AW.block ?_; conv => whnf) | (refine AW.loop ?_; conv => whnf) | (refine AW.skip ?_; conv => whnf) | (refine AW.exit ?_; conv => whnf) | (refine AW.ret ?_; conv => whnf) | (refine AF.one hT rfl ?_; conv => whnf) | (refine AF.nil ?_; conv => whnf) | (refine AF.imm hT rfl rfl rfl ?_; conv => whnf) | (refine AH.of hT rfl ?_; conv => whnf) | (refine ASplit.yes rfl ?_; conv => whnf) | (refine ACond.yes rfl ?_; conv => whnf) | (refine ASplit.no rfl ?_; conv => whnf) | (refine ACond.no rfl ?_; conv => whnf) | (refine ASplit.yes (by decide) ?_; conv => whnf) | (refine ACond.yes (by decide) ?_; conv => whnf) | (refine AReq.mk (by decide) ?_; conv => whnf) | (refine AIdx.iff.2 ⟨by decide, ?_⟩; conv => whnf) | (refine ACall.val (by kernel_rfl) g1 rfl rfl ?_; conv => whnf))
    refine AW.plan hm (.one 0 (.one 1 (.one 2 (.one 3 (.one 5 (.one 6 (.one 7 (.fork 4 (.one 8 .nil) 8 (.one 4 .nil) (.one 9 (.one 10 (.one 11 .nil))))))))))) (by kernel_rfl) ?_
    conv => whnf
    repeat (first | (refine AW.label ?_; conv => whnf) | (refine AW.scope ?_; conv => whnf) | (refine AO.cons hT ?_; conv => whnf) | (refine AO.nil ?_; conv => whnf) | (refine AW.seq ?_; conv => whnf) | (refine AW.region ?_; conv => whnf) | (refine AW.cond ?_; conv => whnf) | (refine AW.block ?_; conv => whnf) | (refine AW.loop ?_; conv => whnf) | (refine AW.skip ?_; conv => whnf) | (refine AW.exit ?_; conv => whnf) | (refine AW.ret ?_; conv => whnf) | (refine AF.one hT rfl ?_; conv => whnf) | (refine AF.nil ?_; conv => whnf) | (refine AF.imm hT rfl rfl rfl ?_; conv => whnf) | (refine AH.of hT rfl ?_; conv => whnf) | (refine ASplit.yes rfl ?_; conv => whnf) | (refine ACond.yes rfl ?_; conv => whnf) | (refine ASplit.no rfl ?_; conv => whnf) | (refine ACond.no rfl ?_; conv => whnf) | (refine ASplit.yes (by decide) ?_; conv => whnf) | (refine ACond.yes (by decide) ?_; conv => whnf) | (refine AReq.mk (by decide) ?_; conv => whnf) | (refine AIdx.iff.2 ⟨by decide, ?_⟩; conv => whnf) | (refine ACall.val (by kernel_rfl) g1 rfl rfl ?_; conv => whnf))
    refine ASplit.dec (fun h2 => ?_) (fun h2 => ?_)
    · conv => whnf
      repeat (first | (refine AW.label ?_; conv => whnf) | (refine AW.scope ?_; conv => whnf) | (refine AO.cons hT ?_; conv => whnf) | (refine AO.nil ?_; conv => whnf) | (refine AW.seq ?_; conv => whnf) | (refine AW.region ?_; conv => whnf) | (refine AW.cond ?_; conv => whnf) | (refine AW.block ?_; conv => whnf) | (refine AW.loop ?_; conv => whnf) | (refine AW.skip ?_; conv => whnf) | (refine AW.exit ?_; conv => whnf) | (refine AW.ret ?_; conv => whnf) | (refine AF.one hT rfl ?_; conv => whnf) | (refine AF.nil ?_; conv => whnf) | (refine AF.imm hT rfl rfl rfl ?_; conv => whnf) | (refine AH.of hT rfl ?_; conv => whnf) | (refine ASplit.yes rfl ?_; conv => whnf) | (refine ACond.yes rfl ?_; conv => whnf) | (refine ASplit.no rfl ?_; conv => whnf) | (refine ACond.no rfl ?_; conv => whnf) | (refine ASplit.yes (by decide) ?_; conv => whnf) | (refine ACond.yes (by decide) ?_; conv => whnf) | (refine AReq.mk (by decide) ?_; conv => whnf) | (refine AIdx.iff.2 ⟨by decide, ?_⟩; conv => whnf) | (refine ACall.val (by kernel_rfl) g1 rfl rfl ?_; conv => whnf) | (refine ACall.val (by kernel_rfl) g2 rfl rfl ?_; conv => whnf))
      apply AF.forkE
      · conv => whnf
        repeat (first | (refine AW.label ?_; conv => whnf) | (refine AW.scope ?_; conv => whnf) | (refine AO.cons hT ?_; conv => whnf) | (refine AO.nil ?_; conv => whnf) | (refine AW.seq ?_; conv => whnf) | (refine AW.region ?_; conv => whnf) | (refine AW.cond ?_; conv => whnf) | (refine AW.block ?_; conv => whnf) | (refine AW.loop ?_; conv => whnf) | (refine AW.skip ?_; conv => whnf) | (refine AW.exit ?_; conv => whnf) | (refine AW.ret ?_; conv => whnf) | (refine AF.one hT rfl ?_; conv => whnf) | (refine AF.nil ?_; conv => whnf) | (refine AF.imm hT rfl rfl rfl ?_; conv => whnf) | (refine AH.of hT rfl ?_; conv => whnf) | (refine ASplit.yes rfl ?_; conv => whnf) | (refine ACond.yes rfl ?_; conv => whnf) | (refine ASplit.no rfl ?_; conv => whnf) | (refine ACond.no rfl ?_; conv => whnf) | (refine ASplit.yes (by decide) ?_; conv => whnf) | (refine ACond.yes (by decide) ?_; conv => whnf) | (refine AReq.mk (by decide) ?_; conv => whnf) | (refine AIdx.iff.2 ⟨by decide, ?_⟩; conv => whnf) | (refine ACall.val (by kernel_rfl) g1 rfl rfl ?_; conv => whnf) | (refine ACall.val (by kernel_rfl) g2 rfl rfl ?_; conv => whnf))
        exact ⟨rfl, rfl, rfl⟩
      · conv => whnf
        repeat (first | (refine AW.label ?_; conv => whnf) | (refine AW.scope ?_; conv => whnf) | (refine AO.cons hT ?_; conv => whnf) | (refine AO.nil ?_; conv => whnf) | (refine AW.seq ?_; conv => whnf) | (refine AW.region ?_; conv => whnf) | (refine AW.cond ?_; conv => whnf) | (refine AW.block ?_; conv => whnf) | (refine AW.loop ?_; conv => whnf) | (refine AW.skip ?_; conv => whnf) | (refine AW.exit ?_; conv => whnf) | (refine AW.ret ?_; conv => whnf) | (refine AF.one hT rfl ?_; conv => whnf) | (refine AF.nil ?_; conv => whnf) | (refine AF.imm hT rfl rfl rfl ?_; conv => whnf) | (refine AH.of hT rfl ?_; conv => whnf) | (refine ASplit.yes rfl ?_; conv => whnf) | (refine ACond.yes rfl ?_; conv => whnf) | (refine ASplit.no rfl ?_; conv => whnf) | (refine ACond.no rfl ?_; conv => whnf) | (refine ASplit.yes (by decide) ?_; conv => whnf) | (refine ACond.yes (by decide) ?_; conv => whnf) | (refine AReq.mk (by decide) ?_; conv => whnf) | (refine AIdx.iff.2 ⟨by decide, ?_⟩; conv => whnf) | (refine ACall.val (by kernel_rfl) g1 rfl rfl ?_; conv => whnf) | (refine ACall.val (by kernel_rfl) g2 rfl rfl ?_; conv => whnf))
        exact ⟨rfl, rfl, rfl⟩
      · conv => whnf
        repeat (first | (refine AW.label ?_; conv => whnf) | (refine AW.scope ?_; conv => whnf) | (refine AO.cons hT ?_; conv => whnf) | (refine AO.nil ?_; conv => whnf) | (refine AW.seq ?_; conv => whnf) | (refine AW.region ?_; conv => whnf) | (refine AW.cond ?_; conv => whnf) | (refine AW.block ?_; conv => whnf) | (refine AW.loop ?_; conv => whnf) | (refine AW.skip ?_; conv => whnf) | (refine AW.exit ?_; conv => whnf) | (refine AW.ret ?_; conv => whnf) | (refine AF.one hT rfl ?_; conv => whnf) | (refine AF.nil ?_; conv => whnf) | (refine AF.imm hT rfl rfl rfl ?_; conv => whnf) | (refine AH.of hT rfl ?_; conv => whnf) | (refine ASplit.yes rfl ?_; conv => whnf) | (refine ACond.yes rfl ?_; conv => whnf) | (refine ASplit.no rfl ?_; conv => whnf) | (refine ACond.no rfl ?_; conv => whnf) | (refine ASplit.yes (by decide) ?_; conv => whnf) | (refine ACond.yes (by decide) ?_; conv => whnf) | (refine AReq.mk (by decide) ?_; conv => whnf) | (refine AIdx.iff.2 ⟨by decide, ?_⟩; conv => whnf) | (refine ACall.val (by kernel_rfl) g1 rfl rfl ?_; conv => whnf) | (refine ACall.val (by kernel_rfl) g2 rfl rfl ?_; conv => whnf))
        refine AFin.mk ⟨v1, bs1, ck1, ⟨?_, rfl⟩, by rw [List.append_nil]⟩
        rw [decide_eq_true h2, hs]
        simp only [Bool.not_false, Bool.true_and, Int.ofNat_le]
    · conv => whnf
      repeat (first | (refine AW.label ?_; conv => whnf) | (refine AW.scope ?_; conv => whnf) | (refine AO.cons hT ?_; conv => whnf) | (refine AO.nil ?_; conv => whnf) | (refine AW.seq ?_; conv => whnf) | (refine AW.region ?_; conv => whnf) | (refine AW.cond ?_; conv => whnf) | (refine AW.block ?_; conv => whnf) | (refine AW.loop ?_; conv => whnf) | (refine AW.skip ?_; conv => whnf) | (refine AW.exit ?_; conv => whnf) | (refine AW.ret ?_; conv => whnf) | (refine AF.one hT rfl ?_; conv => whnf) | (refine AF.nil ?_; conv => whnf) | (refine AF.imm hT rfl rfl rfl ?_; conv => whnf) | (refine AH.of hT rfl ?_; conv => whnf) | (refine ASplit.yes rfl ?_; conv => whnf) | (refine ACond.yes rfl ?_; conv => whnf) | (refine ASplit.no rfl ?_; conv => whnf) | (refine ACond.no rfl ?_; conv => whnf) | (refine ASplit.yes (by decide) ?_; conv => whnf) | (refine ACond.yes (by decide) ?_; conv => whnf) | (refine AReq.mk (by decide) ?_; conv => whnf) | (refine AIdx.iff.2 ⟨by decide, ?_⟩; conv => whnf) | (refine ACall.val (by kernel_rfl) g1 rfl rfl ?_; conv => whnf) | (refine ACall.val (by kernel_rfl) g2 rfl rfl ?_; conv => whnf))
      apply AF.forkE
      · conv => whnf
        repeat (first | (refine AW.label ?_; conv => whnf) | (refine AW.scope ?_; conv => whnf) | (refine AO.cons hT ?_; conv => whnf) | (refine AO.nil ?_; conv => whnf) | (refine AW.seq ?_; conv => whnf) | (refine AW.region ?_; conv => whnf) | (refine AW.cond ?_; conv => whnf) | (refine AW.block ?_; conv => whnf) | (refine AW.loop ?_; conv => whnf) | (refine AW.skip ?_; conv => whnf) | (refine AW.exit ?_; conv => whnf) | (refine AW.ret ?_; conv => whnf) | (refine AF.one hT rfl ?_; conv => whnf) | (refine AF.nil ?_; conv => whnf) | (refine AF.imm hT rfl rfl rfl ?_; conv => whnf) | (refine AH.of hT rfl ?_; conv => whnf) | (refine ASplit.yes rfl ?_; conv => whnf) | (refine ACond.yes rfl ?_; conv => whnf) | (refine ASplit.no rfl ?_; conv => whnf) | (refine ACond.no rfl ?_; conv => whnf) | (refine ASplit.yes (by decide) ?_; conv => whnf) | (refine ACond.yes (by decide) ?_; conv => whnf) | (refine AReq.mk (by decide) ?_; conv => whnf) | (refine AIdx.iff.2 ⟨by decide, ?_⟩; conv => whnf) | (refine ACall.val (by kernel_rfl) g1 rfl rfl ?_; conv => whnf) | (refine ACall.val (by kernel_rfl) g2 rfl rfl ?_; conv => whnf))
        exact ⟨rfl, rfl, rfl⟩
      · conv => whnf
        repeat (first | (refine AW.label ?_; conv => whnf) | (refine AW.scope ?_; conv => whnf) | (refine AO.cons hT ?_; conv => whnf) | (refine AO.nil ?_; conv => whnf) | (refine AW.seq ?_; conv => whnf) | (refine AW.region ?_; conv => whnf) | (refine AW.cond ?_; conv => whnf) | (refine AW.block ?_; conv => whnf) | (refine AW.loop ?_; conv => whnf) | (refine AW.skip ?_; conv => whnf) | (refine AW.exit ?_; conv => whnf) | (refine AW.ret ?_; conv => whnf) | (refine AF.one hT rfl ?_; conv => whnf) | (refine AF.nil ?_; conv => whnf) | (refine AF.imm hT rfl rfl rfl ?_; conv => whnf) | (refine AH.of hT rfl ?_; conv => whnf) | (refine ASplit.yes rfl ?_; conv => whnf) | (refine ACond.yes rfl ?_; conv => whnf) | (refine ASplit.no rfl ?_; conv => whnf) | (refine ACond.no rfl ?_; conv => whnf) | (refine ASplit.yes (by decide) ?_; conv => whnf) | (refine ACond.yes (by decide) ?_; conv => whnf) | (refine AReq.mk (by decide) ?_; conv => whnf) | (refine AIdx.iff.2 ⟨by decide, ?_⟩; conv => whnf) | (refine ACall.val (by kernel_rfl) g1 rfl rfl ?_; conv => whnf) | (refine ACall.val (by kernel_rfl) g2 rfl rfl ?_; conv => whnf))
        exact ⟨rfl, rfl, rfl⟩
      · conv => whnf
        repeat (first | (refine AW.label ?_; conv => whnf) | (refine AW.scope ?_; conv => whnf) | (refine AO.cons hT ?_; conv => whnf) | (refine AO.nil ?_; conv => whnf) | (refine AW.seq ?_; conv => whnf) | (refine AW.region ?_; conv => whnf) | (refine AW.cond ?_; conv => whnf) | (refine AW.block ?_; conv => whnf) | (refine AW.loop ?_; conv => whnf) | (refine AW.skip ?_; conv => whnf) | (refine AW.exit ?_; conv => whnf) | (refine AW.ret ?_; conv => whnf) | (refine AF.one hT rfl ?_; conv => whnf) | (refine AF.nil ?_; conv => whnf) | (refine AF.imm hT rfl rfl rfl ?_; conv => whnf) | (refine AH.of hT rfl ?_; conv => whnf) | (refine ASplit.yes rfl ?_; conv => whnf) | (refine ACond.yes rfl ?_; conv => whnf) | (refine ASplit.no rfl ?_; conv => whnf) | (refine ACond.no rfl ?_; conv => whnf) | (refine ASplit.yes (by decide) ?_; conv => whnf) | (refine ACond.yes (by decide) ?_; conv => whnf) | (refine AReq.mk (by decide) ?_; conv => whnf) | (refine AIdx.iff.2 ⟨by decide, ?_⟩; conv => whnf) | (refine ACall.val (by kernel_rfl) g1 rfl rfl ?_; conv => whnf) | (refine ACall.val (by kernel_rfl) g2 rfl rfl ?_; conv => whnf))
        refine AFin.mk ⟨v1, bs1, ck1, ⟨?_, rfl⟩, by rw [List.append_nil]⟩
        rw [decide_eq_false h2]; rfl
  · conv => whnf
    repeat (first | (refine AW.label ?_; conv => whnf) | (refine AW.scope ?_; conv => whnf) | (refine AO.cons hT ?_; conv => whnf) | (refine AO.nil ?_; conv => whnf) | (refine AW.seq ?_; conv => whnf) | (refine AW.region ?_; conv => whnf) | (refine AW.cond ?_; conv => whnf) | (refine AW.block ?_; conv => whnf) | (refine AW.loop ?_; conv => whnf) | (refine AW.skip ?_; conv => whnf) | (refine AW.exit ?_; conv => whnf) | (refine AW.ret ?_; conv => whnf) | (refine AF.one hT rfl ?_; conv => whnf) | (refine AF.nil ?_; conv => whnf) | (refine AF.imm hT rfl rfl rfl ?_; conv => whnf) | (refine AH.of hT rfl ?_; conv => whnf) | (refine ASplit.yes rfl ?_; conv => whnf) | (refine ACond.yes rfl ?_; conv => whnf) | (refine ASplit.no rfl ?_; conv => whnf) | (refine ACond.no rfl ?_; conv => whnf) | (refine ASplit.yes (by decide) ?_; conv => whnf) | (refine ACond.yes (by decide) ?_; conv => whnf) | (refine AReq.mk (by decide) ?_; conv => whnf) | (refine AIdx.iff.2 ⟨by decide, ?_⟩; conv => whnf) | (refine ACall.val (by kernel_rfl) g1 rfl rfl ?_; conv => whnf) | (refine ACall.val (by kernel_rfl) g2 rfl rfl ?_; conv => whnf))
    exact AFin.mk ⟨v1, bs1, ck1, ⟨rfl, rfl⟩, by rw [List.append_nil]⟩
end Go.Aw.VE

