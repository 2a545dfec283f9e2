/-
  The statement VaultKeeps: opened again, a vault tells the text that was laid last, and all bodies behind that, without any condition.
-/
import Derived.Test.YtllchkemgjmjiaaGreatDoorVgB
set_option linter.unusedSimpArgs false
set_option linter.unusedVariables false
set_option linter.unusedSimpArgs false
set_option linter.unusedVariables false
set_option maxHeartbeats 4000000
set_option maxRecDepth 20000
namespace Go.Aw.VE
open Go Go.Proofs

/-- a vault begins -/
noncomputable def begF (v : Va) (S : Nat) (t : ByteArray) : Va × Int := if fitF v S t = false then (v, 22) else layF v S 1 0 t
def begR (p : Nat) (e : Int) (t : ByteArray) : AV := if e = 0 then .tup [.ptr p 0, sV t, .v (.slice none 0 0), nV 0] else .tup [.v (.pointer none), sV e0, .v (.slice none 0 0), nV e]
theorem f46 (v : Va) (S : Nat) (h : Vok v S) (t : ByteArray) (ht : t.size ≤ 100000000000) : VSpec 46 [sV t] v fun r v' => r = begR 0 (begF v S t).2 t ∧ v' = (begF v S t).1 := by
  intro bs ck
  have hft := f12 v S h t ht
  have hly := f40 v S h 1 0 (by omega) t ht
  refine spec_of hT (f := 46) (fn := Go.Proofs.Tryz.f46) (c := body Go.Proofs.Tryz.f46) (by kernel_rfl) (by kernel_rfl) ?_
  unfold begF begR
  rw [← List.append_nil (vH v bs ck)]
  conv => whnf
  repeat ((first | refine AO.cons hT ?_ | refine AO.nil ?_ | refine AW.seq ?_ | refine AW.region ?_ | refine AW.cond ?_ | refine AW.block ?_ | refine AW.loop ?_ | refine AW.skip ?_ | refine AW.exit ?_ | refine AW.ret ?_ | refine AW.label ?_ | refine AW.scope ?_ | refine AF.one hT rfl ?_ | refine AF.nil ?_ | refine AF.imm hT rfl rfl rfl ?_ | refine AH.of hT rfl ?_ | refine AD.cons hT rfl ?_ | refine AD.nil ?_ | refine AQ.cons hT rfl ?_ | refine AQ.nil ?_); conv => whnf)
  refine ACall.vaultA (v := v) (bs := bs) (ck := ck) [] rfl (by kernel_rfl) hft (fun _ => rfl) (by rintro _ _ ⟨rfl, _⟩ _; rfl) ?_
  rintro _ v1 bs1 ck1 ⟨rfl, e1⟩
  rw [e1]
  rcases hfi : fitF v S t with _ | _
  · conv => whnf
    repeat (first | (refine AW.label ?_; conv => whnf) | (refine AW.scope ?_; conv => whnf) | (refine AO.cons hT ?_; conv => whnf) | (refine AO.nil ?_; conv => whnf) | (refine AW.seq ?_; conv => whnf) | (refine AW.region ?_; conv => whnf) | (refine AW.cond ?_; conv => whnf) | (refine AW.block ?_; conv => whnf) | (refine AW.loop ?_; conv => whnf) | (refine AW.skip ?_; conv => whnf) | (refine AW.exit ?_; conv => whnf) | (refine AW.ret ?_; conv => whnf) | (refine AF.one hT rfl ?_; conv => whnf) | (refine AF.nil ?_; conv => whnf) | (refine AF.imm hT rfl rfl rfl ?_; conv => whnf) | (refine AH.of hT rfl ?_; conv => whnf) | (refine ASplit.yes rfl ?_; conv => whnf) | (refine ACond.yes rfl ?_; conv => whnf) | (refine ASplit.no rfl ?_; conv => whnf) | (refine ACond.no rfl ?_; conv => whnf) | (refine ASplit.yes (by decide) ?_; conv => whnf) | (refine ACond.yes (by decide) ?_; conv => whnf) | (refine AReq.mk (by decide) ?_; conv => whnf) | (refine AIdx.iff.2 ⟨by decide, ?_⟩; conv => whnf))
    exact AFin.mk ⟨v, bs1, ck1, ⟨rfl, rfl⟩, by rw [List.append_nil]⟩
  obtain ⟨v4, e4, hr4⟩ : ∃ v4 e4, layF v S 1 0 t = (v4, e4) := ⟨_, _, rfl⟩
  rw [hr4] at hly
  simp only [Bool.true_eq_false, if_false, hr4]
  simp only at hly
  conv => whnf
  repeat (first | (refine AW.label ?_; conv => whnf) | (refine AW.scope ?_; conv => whnf) | (refine AO.cons hT ?_; conv => whnf) | (refine AO.nil ?_; conv => whnf) | (refine AW.seq ?_; conv => whnf) | (refine AW.region ?_; conv => whnf) | (refine AW.cond ?_; conv => whnf) | (refine AW.block ?_; conv => whnf) | (refine AW.loop ?_; conv => whnf) | (refine AW.skip ?_; conv => whnf) | (refine AW.exit ?_; conv => whnf) | (refine AW.ret ?_; conv => whnf) | (refine AF.one hT rfl ?_; conv => whnf) | (refine AF.nil ?_; conv => whnf) | (refine AF.imm hT rfl rfl rfl ?_; conv => whnf) | (refine AH.of hT rfl ?_; conv => whnf) | (refine ASplit.yes rfl ?_; conv => whnf) | (refine ACond.yes rfl ?_; conv => whnf) | (refine ASplit.no rfl ?_; conv => whnf) | (refine ACond.no rfl ?_; conv => whnf) | (refine ASplit.yes (by decide) ?_; conv => whnf) | (refine ACond.yes (by decide) ?_; conv => whnf) | (refine AReq.mk (by decide) ?_; conv => whnf) | (refine AIdx.iff.2 ⟨by decide, ?_⟩; conv => whnf))
  refine ACall.vaultA (v := v) (bs := bs1) (ck := ck1) [] rfl (by kernel_rfl) hly (fun _ => rfl) (by rintro _ _ ⟨rfl, _⟩ _; rfl) ?_
  rintro _ v2 bs2 ck2 ⟨rfl, e2⟩
  rw [e2]
  conv => whnf
  repeat (first | (refine AW.label ?_; conv => whnf) | (refine AW.scope ?_; conv => whnf) | (refine AO.cons hT ?_; conv => whnf) | (refine AO.nil ?_; conv => whnf) | (refine AW.seq ?_; conv => whnf) | (refine AW.region ?_; conv => whnf) | (refine AW.cond ?_; conv => whnf) | (refine AW.block ?_; conv => whnf) | (refine AW.loop ?_; conv => whnf) | (refine AW.skip ?_; conv => whnf) | (refine AW.exit ?_; conv => whnf) | (refine AW.ret ?_; conv => whnf) | (refine AF.one hT rfl ?_; conv => whnf) | (refine AF.nil ?_; conv => whnf) | (refine AF.imm hT rfl rfl rfl ?_; conv => whnf) | (refine AH.of hT rfl ?_; conv => whnf) | (refine ASplit.yes rfl ?_; conv => whnf) | (refine ACond.yes rfl ?_; conv => whnf) | (refine ASplit.no rfl ?_; conv => whnf) | (refine ACond.no rfl ?_; conv => whnf) | (refine ASplit.yes (by decide) ?_; conv => whnf) | (refine ACond.yes (by decide) ?_; conv => whnf) | (refine AReq.mk (by decide) ?_; conv => whnf) | (refine AIdx.iff.2 ⟨by decide, ?_⟩; conv => whnf))
  refine ACond.ndec (fun h3 => ?_) (fun h3 => ?_)
  · conv => whnf
    repeat (first | (refine AW.label ?_; conv => whnf) | (refine AW.scope ?_; conv => whnf) | (refine AO.cons hT ?_; conv => whnf) | (refine AO.nil ?_; conv => whnf) | (refine AW.seq ?_; conv => whnf) | (refine AW.region ?_; conv => whnf) | (refine AW.cond ?_; conv => whnf) | (refine AW.block ?_; conv => whnf) | (refine AW.loop ?_; conv => whnf) | (refine AW.skip ?_; conv => whnf) | (refine AW.exit ?_; conv => whnf) | (refine AW.ret ?_; conv => whnf) | (refine AF.one hT rfl ?_; conv => whnf) | (refine AF.nil ?_; conv => whnf) | (refine AF.imm hT rfl rfl rfl ?_; conv => whnf) | (refine AH.of hT rfl ?_; conv => whnf) | (refine ASplit.yes rfl ?_; conv => whnf) | (refine ACond.yes rfl ?_; conv => whnf) | (refine ASplit.no rfl ?_; conv => whnf) | (refine ACond.no rfl ?_; conv => whnf) | (refine ASplit.yes (by decide) ?_; conv => whnf) | (refine ACond.yes (by decide) ?_; conv => whnf) | (refine AReq.mk (by decide) ?_; conv => whnf) | (refine AIdx.iff.2 ⟨by decide, ?_⟩; conv => whnf))
    rw [if_neg h3]
    exact AFin.mk ⟨v4, bs2, ck2, ⟨rfl, rfl⟩, by rw [List.append_nil]⟩
  · conv => whnf
    repeat (first | (refine AW.label ?_; conv => whnf) | (refine AW.scope ?_; conv => whnf) | (refine AO.cons hT ?_; conv => whnf) | (refine AO.nil ?_; conv => whnf) | (refine AW.seq ?_; conv => whnf) | (refine AW.region ?_; conv => whnf) | (refine AW.cond ?_; conv => whnf) | (refine AW.block ?_; conv => whnf) | (refine AW.loop ?_; conv => whnf) | (refine AW.skip ?_; conv => whnf) | (refine AW.exit ?_; conv => whnf) | (refine AW.ret ?_; conv => whnf) | (refine AF.one hT rfl ?_; conv => whnf) | (refine AF.nil ?_; conv => whnf) | (refine AF.imm hT rfl rfl rfl ?_; conv => whnf) | (refine AH.of hT rfl ?_; conv => whnf) | (refine ASplit.yes rfl ?_; conv => whnf) | (refine ACond.yes rfl ?_; conv => whnf) | (refine ASplit.no rfl ?_; conv => whnf) | (refine ACond.no rfl ?_; conv => whnf) | (refine ASplit.yes (by decide) ?_; conv => whnf) | (refine ACond.yes (by decide) ?_; conv => whnf) | (refine AReq.mk (by decide) ?_; conv => whnf) | (refine AIdx.iff.2 ⟨by decide, ?_⟩; conv => whnf))
    rw [if_pos h3]
    exact AFin.mk ⟨v4, bs2, ck2, ⟨rfl, rfl⟩, by rw [List.append_nil]⟩
end Go.Aw.VE

set_option linter.unusedSimpArgs false
set_option linter.unusedVariables false
set_option maxHeartbeats 4000000
set_option maxRecDepth 20000
namespace Go.Aw.VE
open Go Go.Proofs

def vO (v : Va) : ABlk := .cells 26 [.ptr 0 0, nV v.s, nV v.e, nV v.q, nV v.at_, .v (.bool v.sh)]
def dvO (v : Va) (bs : List Nat) (ck : Nat) : List ABlk := [dD 1 2 v.d, dC v.d, dM v.d bs ck, vO v]
theorem ACall.vaultO {f : Nat} {args : List AV} {v : Va} {R : AV → Va → Prop} {H : List ABlk} (G : List ABlk) {K : AV → List ABlk → Prop} {bs : List Nat} {ck : Nat} (e : H = dvO v bs ck ++ G) (hc : callOk P f = true) (h : VSpec f args v R)
    (ha : ∀ ρ, renL ρ args = args) (k : ∀ r v' bs' ck' N, R r v' → K (r.ren (nm [3, 0, 1, 2] N)) (dvO v' bs' ck' ++ G)) : ACall P f (.ptr 3 0 :: args) H K := by
  subst e
  refine ACall.of hc (h bs ck) [3, 0, 1, 2] [] (by decide) ?_ (by simp) (by simp) ?_ (.inl rfl) ?_
  · refine .same ?_ (.same ?_ (.same ?_ (.same ?_ .nil)))
    · rfl
    · show some (dD 1 2 v.d) = _; rw [dD_ren]; rfl
    · show some (dC v.d) = _; rw [dC_ren]
    · show some (dM v.d bs ck) = _; rw [dM_ren]
  · have := LendL.same (H := dvO v bs ck ++ G) (B := []) (ρ := nm [3, 0, 1, 2] (dvO v bs ck ++ G).length) (.ptr 0 0 :: args)
    simp only [renL, ha] at this
    exact this
  · rintro r _ ⟨v', bs', ck', hR, rfl⟩
    have := k r v' bs' ck' (dvO v bs ck ++ G).length hR
    simp only [dvO, vH, List.cons_append, List.nil_append, mergeH, List.map_cons, List.map_nil, dD_ren, dC_ren, dM_ren, List.set_cons_zero, List.set_cons_succ, List.append_nil] at this ⊢
    exact this

noncomputable def loadL (d : Dd) (A N : Nat) (ep : Int) : List ByteArray × Nat × Int :=
  if checkF d A N ≠ 0 then ([], 0, checkF d A N)
  else if (readF d A N).2 ≠ 0 then ([], 0, (readF d A N).2)
  else ((VD.scanA (readF d A N).1 ep).1, (VD.scanA (readF d A N).1 ep).2, 0)
theorem loadV_cases (d : Dd) (A N : Nat) (ep : Int) : (∃ e, e ≠ 0 ∧ loadV d A N ep = .tup [.v (.slice none 0 0), nV 0, nV e] ∧ loadL d A N ep = ([], 0, e)) ∨ ∃ l z, loadV d A N ep = .tup [VD.tV l, nV (z : Nat), nV 0] ∧ loadL d A N ep = (l, z, 0) := by
  unfold loadV loadL
  by_cases h1 : checkF d A N ≠ 0
  · rw [if_pos h1, if_pos h1]; exact .inl ⟨_, h1, rfl, rfl⟩
  rw [if_neg h1, if_neg h1]
  by_cases h2 : (readF d A N).2 ≠ 0
  · rw [if_pos h2, if_pos h2]; exact .inl ⟨_, h2, rfl, rfl⟩
  rw [if_neg h2, if_neg h2]
  exact .inr ⟨_, _, rfl, rfl⟩

/-- a vault is opened: the error, the vault, its text, its bodies -/
noncomputable def openF (d : Dd) (s : Int) (t : ByteArray) : Int × Va × ByteArray × List ByteArray :=
  if s < 1 ∨ 500 < s ∨ (d.n : Int) ≤ 2 * s then (2, ⟨d, s, 0, 0, 0, false⟩, e0, [])
  else if (bothF d s.toNat).2.2 ≠ 0 then ((bothF d s.toNat).2.2, ⟨d, s, 0, 0, 0, false⟩, e0, [])
  else if (VD.chooseF (bothF d s.toNat).1 (bothF d s.toNat).2.1).2.2 < 0 then
    ((begF ⟨d, s, 0, 0, 0, false⟩ s.toNat t).2, (begF ⟨d, s, 0, 0, 0, false⟩ s.toNat t).1, t, [])
  else ((loadL d (2 * s.toNat) (d.n - 2 * s.toNat) (VD.chooseF (bothF d s.toNat).1 (bothF d s.toNat).2.1).1).2.2,
    ⟨d, s, (VD.chooseF (bothF d s.toNat).1 (bothF d s.toNat).2.1).1, (loadL d (2 * s.toNat) (d.n - 2 * s.toNat) (VD.chooseF (bothF d s.toNat).1 (bothF d s.toNat).2.1).1).1.length, (loadL d (2 * s.toNat) (d.n - 2 * s.toNat) (VD.chooseF (bothF d s.toNat).1 (bothF d s.toNat).2.1).1).2.1, false⟩,
    (VD.chooseF (bothF d s.toNat).1 (bothF d s.toNat).2.1).2.1, (loadL d (2 * s.toNat) (d.n - 2 * s.toNat) (VD.chooseF (bothF d s.toNat).1 (bothF d s.toNat).2.1).1).1)
def OpenR (r : AV) (H' : List ABlk) (x : Int × Va × ByteArray × List ByteArray) : Prop :=
  (x.1 ≠ 0 ∧ r = .tup [.v (.pointer none), sV e0, .v (.slice none 0 0), nV x.1] ∧ ∃ bs ck, H' = dvH x.2.1.d bs ck) ∨
  (x.1 = 0 ∧ r = .tup [.ptr 3 0, sV x.2.2.1, VD.tV x.2.2.2, nV 0] ∧ ∃ bs ck, H' = dvO x.2.1 bs ck)
theorem conv3 {r : AV} {d : Dd} {bs : List Nat} {ck : Nat} (G : List ABlk) (hr : ∀ ρ, r.ren ρ = r) : Conv 3 [r] (dD 1 2 d :: dC d :: dM d bs ck :: G) [r] (dvH d bs ck) := by
  refine Conv.ren [0, 1, 2] _ (by decide) (by decide) ?_ ?_
  · simp only [renL, hr]; exact .same .nil
  · exact .same (by rw [dD_ren]; rfl) (.same (by rw [dC_ren]; rfl) (.same (by rw [dM_ren]; rfl) .nil))
theorem convO {tx : ByteArray} {l : List ByteArray} {v : Va} {bs : List Nat} {ck : Nat} (G : List ABlk) : Conv 3 [.tup [.ptr 3 0, sV tx, VD.tV l, nV 0]] (dD 1 2 v.d :: dC v.d :: dM v.d bs ck :: vO v :: G) [.tup [.ptr 3 0, sV tx, VD.tV l, nV 0]] (dvO v bs ck) := by
  refine Conv.ren [0, 1, 2, 3] _ (fun i hi => rl4 i (by omega)) (by decide) ?_ ?_
  · simp only [renL, AV.ren, VD.tV, VD.texts_ren]; exact .same .nil
  · exact .same (by rw [dD_ren]; rfl) (.same (by rw [dC_ren]; rfl) (.same (by rw [dM_ren]; rfl) (.same rfl .nil)))
theorem AF.forkD {ops : Array Oper} {i : Nat} {p : Pl} {j : Nat} {q : Pl} {r : Pl} {kn k1 : List (Nat × Bool)} {Q : List (Nat × Bool) → List AV → List ABlk → Prop} {E E1 : List AV} {H : List ABlk} (F : List Nat → Nat → List ABlk)
    (h1 : AH P T ops i p kn (fun kn E H => kn = k1 ∧ E = E1 ∧ ∃ bs ck, H = F bs ck) E H) (h2 : AH P T ops j q kn (fun kn E H => kn = k1 ∧ E = E1 ∧ ∃ bs ck, H = F bs ck) E H) (h3 : ∀ bs ck, AF P T ops r k1 Q E1 (F bs ck)) : AF P T ops (.fork i p j q r) kn Q E H :=
  AF.fork _ h1 h2 (by rintro _ _ _ ⟨rfl, rfl, bs, ck, rfl⟩; exact h3 bs ck)
theorem f16 (d : Dd) (hd : Dok d) (s : Int) (hs : nOk s) (t : ByteArray) (ht : t.size ≤ 100000000000) (bs : List Nat) (ck : Nat) : Spec P 16 [.ptr 0 0, nV s, sV t] (dvH d bs ck) fun r H' => OpenR r H' (openF d s t) := by
  have hle := hd.le
  have hpos := hd.pos
  have hz : ∀ {H : List ABlk} {e : Int} {x : Int × Va × ByteArray × List ByteArray} {bs ck}, e ≠ 0 → x.1 = e → x.2.1.d = d → AFin 3 (.tup [.v (.pointer none), .v (.string ⟨#[]⟩), .v (.slice none 0 0), nV e]) (dD 1 2 d :: dC d :: dM d bs ck :: H) (fun r H' => OpenR r H' x) := by
    intro H e x bs ck he h1 h2
    exact AFin.to _ _ (conv3 _ (fun _ => rfl)) (.inl ⟨by rw [h1]; exact he, by rw [h1]; rfl, bs, ck, by rw [h2]⟩)
  refine spec_of hT (f := 16) (fn := Go.Proofs.Tryz.f16) (c := body Go.Proofs.Tryz.f16) (by kernel_rfl) (by kernel_rfl) ?_
  unfold dvH
  conv => whnf
  repeat (first | (refine AW.plan (id := 14) hm (.one 0 (.one 1 (.one 2 (.one 4 (.imm 5 (.one 3 (.one 6 (.one 7 (.one 8 (.one 9 (.one 10 (.one 11 (.one 12 (.one 13 (.one 14 (.one 15 .nil)))))))))))))))) (by kernel_rfl) ?_; conv => whnf) | (refine AW.plan (id := 18) hm (.one 0 (.one 1 (.one 3 (.one 4 (.one 2 (.one 5 (.one 6 (.one 7 .nil)))))))) (by kernel_rfl) ?_; conv => whnf) | (refine AW.label ?_; conv => whnf) | (refine AW.scope ?_; conv => whnf) | (refine AO.cons hT ?_; conv => whnf) | (refine AO.nil ?_; conv => whnf) | (refine AW.seq ?_; conv => whnf) | (refine AW.region ?_; conv => whnf) | (refine AW.cond ?_; conv => whnf) | (refine AW.block ?_; conv => whnf) | (refine AW.loop ?_; conv => whnf) | (refine AW.skip ?_; conv => whnf) | (refine AW.exit ?_; conv => whnf) | (refine AW.ret ?_; conv => whnf) | (refine AF.one hT rfl ?_; conv => whnf) | (refine AF.nil ?_; conv => whnf) | (refine AF.imm hT rfl rfl rfl ?_; conv => whnf) | (refine AH.of hT rfl ?_; conv => whnf) | (refine ASplit.yes rfl ?_; conv => whnf) | (refine ACond.yes rfl ?_; conv => whnf) | (refine ASplit.no rfl ?_; conv => whnf) | (refine ACond.no rfl ?_; conv => whnf) | (refine ASplit.yes (by decide) ?_; conv => whnf) | (refine ACond.yes (by decide) ?_; conv => whnf) | (refine AReq.mk (by decide) ?_; conv => whnf) | (refine AIdx.iff.2 ⟨by decide, ?_⟩; conv => whnf))
  refine ACall.dev (by kernel_rfl) (f44 d (by omega)) rfl rfl rfl (by decide) (fun _ => rfl) (by rintro _ _ ⟨rfl, _⟩ _; rfl) ?_
  rintro _ yy bs1 ck1 ⟨rfl, hyy⟩
  rw [hyy]
  simp only [List.length_nil, Nat.zero_add, List.nil_append, List.set_cons_zero, List.set_cons_succ]
  conv => whnf
  repeat (first | (refine AW.plan (id := 14) hm (.one 0 (.one 1 (.one 2 (.one 4 (.imm 5 (.one 3 (.one 6 (.one 7 (.one 8 (.one 9 (.one 10 (.one 11 (.one 12 (.one 13 (.one 14 (.one 15 .nil)))))))))))))))) (by kernel_rfl) ?_; conv => whnf) | (refine AW.plan (id := 18) hm (.one 0 (.one 1 (.one 3 (.one 4 (.one 2 (.one 5 (.one 6 (.one 7 .nil)))))))) (by kernel_rfl) ?_; conv => whnf) | (refine AW.label ?_; conv => whnf) | (refine AW.scope ?_; conv => whnf) | (refine AO.cons hT ?_; conv => whnf) | (refine AO.nil ?_; conv => whnf) | (refine AW.seq ?_; conv => whnf) | (refine AW.region ?_; conv => whnf) | (refine AW.cond ?_; conv => whnf) | (refine AW.block ?_; conv => whnf) | (refine AW.loop ?_; conv => whnf) | (refine AW.skip ?_; conv => whnf) | (refine AW.exit ?_; conv => whnf) | (refine AW.ret ?_; conv => whnf) | (refine AF.one hT rfl ?_; conv => whnf) | (refine AF.nil ?_; conv => whnf) | (refine AF.imm hT rfl rfl rfl ?_; conv => whnf) | (refine AH.of hT rfl ?_; conv => whnf) | (refine ASplit.yes rfl ?_; conv => whnf) | (refine ACond.yes rfl ?_; conv => whnf) | (refine ASplit.no rfl ?_; conv => whnf) | (refine ACond.no rfl ?_; conv => whnf) | (refine ASplit.yes (by decide) ?_; conv => whnf) | (refine ACond.yes (by decide) ?_; conv => whnf) | (refine AReq.mk (by decide) ?_; conv => whnf) | (refine AIdx.iff.2 ⟨by decide, ?_⟩; conv => whnf))
  refine ACond.no (by simp; omega) ?_
  conv => whnf
  repeat (first | (refine AW.plan (id := 14) hm (.one 0 (.one 1 (.one 2 (.one 4 (.imm 5 (.one 3 (.one 6 (.one 7 (.one 8 (.one 9 (.one 10 (.one 11 (.one 12 (.one 13 (.one 14 (.one 15 .nil)))))))))))))))) (by kernel_rfl) ?_; conv => whnf) | (refine AW.plan (id := 18) hm (.one 0 (.one 1 (.one 3 (.one 4 (.one 2 (.one 5 (.one 6 (.one 7 .nil)))))))) (by kernel_rfl) ?_; conv => whnf) | (refine AW.label ?_; conv => whnf) | (refine AW.scope ?_; conv => whnf) | (refine AO.cons hT ?_; conv => whnf) | (refine AO.nil ?_; conv => whnf) | (refine AW.seq ?_; conv => whnf) | (refine AW.region ?_; conv => whnf) | (refine AW.cond ?_; conv => whnf) | (refine AW.block ?_; conv => whnf) | (refine AW.loop ?_; conv => whnf) | (refine AW.skip ?_; conv => whnf) | (refine AW.exit ?_; conv => whnf) | (refine AW.ret ?_; conv => whnf) | (refine AF.one hT rfl ?_; conv => whnf) | (refine AF.nil ?_; conv => whnf) | (refine AF.imm hT rfl rfl rfl ?_; conv => whnf) | (refine AH.of hT rfl ?_; conv => whnf) | (refine ASplit.yes rfl ?_; conv => whnf) | (refine ACond.yes rfl ?_; conv => whnf) | (refine ASplit.no rfl ?_; conv => whnf) | (refine ACond.no rfl ?_; conv => whnf) | (refine ASplit.yes (by decide) ?_; conv => whnf) | (refine ACond.yes (by decide) ?_; conv => whnf) | (refine AReq.mk (by decide) ?_; conv => whnf) | (refine AIdx.iff.2 ⟨by decide, ?_⟩; conv => whnf))
  refine ASplit.dec (fun h1 => ?_) (fun h1 => ?_)
  · conv => whnf
    repeat (first | (refine AW.plan (id := 14) hm (.one 0 (.one 1 (.one 2 (.one 4 (.imm 5 (.one 3 (.one 6 (.one 7 (.one 8 (.one 9 (.one 10 (.one 11 (.one 12 (.one 13 (.one 14 (.one 15 .nil)))))))))))))))) (by kernel_rfl) ?_; conv => whnf) | (refine AW.plan (id := 18) hm (.one 0 (.one 1 (.one 3 (.one 4 (.one 2 (.one 5 (.one 6 (.one 7 .nil)))))))) (by kernel_rfl) ?_; conv => whnf) | (refine AW.label ?_; conv => whnf) | (refine AW.scope ?_; conv => whnf) | (refine AO.cons hT ?_; conv => whnf) | (refine AO.nil ?_; conv => whnf) | (refine AW.seq ?_; conv => whnf) | (refine AW.region ?_; conv => whnf) | (refine AW.cond ?_; conv => whnf) | (refine AW.block ?_; conv => whnf) | (refine AW.loop ?_; conv => whnf) | (refine AW.skip ?_; conv => whnf) | (refine AW.exit ?_; conv => whnf) | (refine AW.ret ?_; conv => whnf) | (refine AF.one hT rfl ?_; conv => whnf) | (refine AF.nil ?_; conv => whnf) | (refine AF.imm hT rfl rfl rfl ?_; conv => whnf) | (refine AH.of hT rfl ?_; conv => whnf) | (refine ASplit.yes rfl ?_; conv => whnf) | (refine ACond.yes rfl ?_; conv => whnf) | (refine ASplit.no rfl ?_; conv => whnf) | (refine ACond.no rfl ?_; conv => whnf) | (refine ASplit.yes (by decide) ?_; conv => whnf) | (refine ACond.yes (by decide) ?_; conv => whnf) | (refine AReq.mk (by decide) ?_; conv => whnf) | (refine AIdx.iff.2 ⟨by decide, ?_⟩; conv => whnf))
    refine hz (by decide) ?_ ?_
    · unfold openF; rw [if_pos (.inl h1)]
    · unfold openF; rw [if_pos (.inl h1)]
  conv => whnf
  repeat (first | (refine AW.plan (id := 14) hm (.one 0 (.one 1 (.one 2 (.one 4 (.imm 5 (.one 3 (.one 6 (.one 7 (.one 8 (.one 9 (.one 10 (.one 11 (.one 12 (.one 13 (.one 14 (.one 15 .nil)))))))))))))))) (by kernel_rfl) ?_; conv => whnf) | (refine AW.plan (id := 18) hm (.one 0 (.one 1 (.one 3 (.one 4 (.one 2 (.one 5 (.one 6 (.one 7 .nil)))))))) (by kernel_rfl) ?_; conv => whnf) | (refine AW.label ?_; conv => whnf) | (refine AW.scope ?_; conv => whnf) | (refine AO.cons hT ?_; conv => whnf) | (refine AO.nil ?_; conv => whnf) | (refine AW.seq ?_; conv => whnf) | (refine AW.region ?_; conv => whnf) | (refine AW.cond ?_; conv => whnf) | (refine AW.block ?_; conv => whnf) | (refine AW.loop ?_; conv => whnf) | (refine AW.skip ?_; conv => whnf) | (refine AW.exit ?_; conv => whnf) | (refine AW.ret ?_; conv => whnf) | (refine AF.one hT rfl ?_; conv => whnf) | (refine AF.nil ?_; conv => whnf) | (refine AF.imm hT rfl rfl rfl ?_; conv => whnf) | (refine AH.of hT rfl ?_; conv => whnf) | (refine ASplit.yes rfl ?_; conv => whnf) | (refine ACond.yes rfl ?_; conv => whnf) | (refine ASplit.no rfl ?_; conv => whnf) | (refine ACond.no rfl ?_; conv => whnf) | (refine ASplit.yes (by decide) ?_; conv => whnf) | (refine ACond.yes (by decide) ?_; conv => whnf) | (refine AReq.mk (by decide) ?_; conv => whnf) | (refine AIdx.iff.2 ⟨by decide, ?_⟩; conv => whnf))
  refine ASplit.dec (fun h2 => ?_) (fun h2 => ?_)
  · conv => whnf
    repeat (first | (refine AW.plan (id := 14) hm (.one 0 (.one 1 (.one 2 (.one 4 (.imm 5 (.one 3 (.one 6 (.one 7 (.one 8 (.one 9 (.one 10 (.one 11 (.one 12 (.one 13 (.one 14 (.one 15 .nil)))))))))))))))) (by kernel_rfl) ?_; conv => whnf) | (refine AW.plan (id := 18) hm (.one 0 (.one 1 (.one 3 (.one 4 (.one 2 (.one 5 (.one 6 (.one 7 .nil)))))))) (by kernel_rfl) ?_; conv => whnf) | (refine AW.label ?_; conv => whnf) | (refine AW.scope ?_; conv => whnf) | (refine AO.cons hT ?_; conv => whnf) | (refine AO.nil ?_; conv => whnf) | (refine AW.seq ?_; conv => whnf) | (refine AW.region ?_; conv => whnf) | (refine AW.cond ?_; conv => whnf) | (refine AW.block ?_; conv => whnf) | (refine AW.loop ?_; conv => whnf) | (refine AW.skip ?_; conv => whnf) | (refine AW.exit ?_; conv => whnf) | (refine AW.ret ?_; conv => whnf) | (refine AF.one hT rfl ?_; conv => whnf) | (refine AF.nil ?_; conv => whnf) | (refine AF.imm hT rfl rfl rfl ?_; conv => whnf) | (refine AH.of hT rfl ?_; conv => whnf) | (refine ASplit.yes rfl ?_; conv => whnf) | (refine ACond.yes rfl ?_; conv => whnf) | (refine ASplit.no rfl ?_; conv => whnf) | (refine ACond.no rfl ?_; conv => whnf) | (refine ASplit.yes (by decide) ?_; conv => whnf) | (refine ACond.yes (by decide) ?_; conv => whnf) | (refine AReq.mk (by decide) ?_; conv => whnf) | (refine AIdx.iff.2 ⟨by decide, ?_⟩; conv => whnf))
    refine hz (by decide) ?_ ?_
    · unfold openF; rw [if_pos (.inr (.inl h2))]
    · unfold openF; rw [if_pos (.inr (.inl h2))]
  have hw : IntKind.wrap .i64 (2 * s) = 2 * s := wrap_i64' (by omega) (by omega)
  conv => whnf
  repeat (first | (refine AW.plan (id := 14) hm (.one 0 (.one 1 (.one 2 (.one 4 (.imm 5 (.one 3 (.one 6 (.one 7 (.one 8 (.one 9 (.one 10 (.one 11 (.one 12 (.one 13 (.one 14 (.one 15 .nil)))))))))))))))) (by kernel_rfl) ?_; conv => whnf) | (refine AW.plan (id := 18) hm (.one 0 (.one 1 (.one 3 (.one 4 (.one 2 (.one 5 (.one 6 (.one 7 .nil)))))))) (by kernel_rfl) ?_; conv => whnf) | (refine AW.label ?_; conv => whnf) | (refine AW.scope ?_; conv => whnf) | (refine AO.cons hT ?_; conv => whnf) | (refine AO.nil ?_; conv => whnf) | (refine AW.seq ?_; conv => whnf) | (refine AW.region ?_; conv => whnf) | (refine AW.cond ?_; conv => whnf) | (refine AW.block ?_; conv => whnf) | (refine AW.loop ?_; conv => whnf) | (refine AW.skip ?_; conv => whnf) | (refine AW.exit ?_; conv => whnf) | (refine AW.ret ?_; conv => whnf) | (refine AF.one hT rfl ?_; conv => whnf) | (refine AF.nil ?_; conv => whnf) | (refine AF.imm hT rfl rfl rfl ?_; conv => whnf) | (refine AH.of hT rfl ?_; conv => whnf) | (refine ASplit.yes rfl ?_; conv => whnf) | (refine ACond.yes rfl ?_; conv => whnf) | (refine ASplit.no rfl ?_; conv => whnf) | (refine ACond.no rfl ?_; conv => whnf) | (refine ASplit.yes (by decide) ?_; conv => whnf) | (refine ACond.yes (by decide) ?_; conv => whnf) | (refine AReq.mk (by decide) ?_; conv => whnf) | (refine AIdx.iff.2 ⟨by decide, ?_⟩; conv => whnf))
  rw [hw]
  refine ACond.dec (fun h3 => ?_) (fun h3 => ?_)
  · conv => whnf
    repeat (first | (refine AW.plan (id := 14) hm (.one 0 (.one 1 (.one 2 (.one 4 (.imm 5 (.one 3 (.one 6 (.one 7 (.one 8 (.one 9 (.one 10 (.one 11 (.one 12 (.one 13 (.one 14 (.one 15 .nil)))))))))))))))) (by kernel_rfl) ?_; conv => whnf) | (refine AW.plan (id := 18) hm (.one 0 (.one 1 (.one 3 (.one 4 (.one 2 (.one 5 (.one 6 (.one 7 .nil)))))))) (by kernel_rfl) ?_; conv => whnf) | (refine AW.label ?_; conv => whnf) | (refine AW.scope ?_; conv => whnf) | (refine AO.cons hT ?_; conv => whnf) | (refine AO.nil ?_; conv => whnf) | (refine AW.seq ?_; conv => whnf) | (refine AW.region ?_; conv => whnf) | (refine AW.cond ?_; conv => whnf) | (refine AW.block ?_; conv => whnf) | (refine AW.loop ?_; conv => whnf) | (refine AW.skip ?_; conv => whnf) | (refine AW.exit ?_; conv => whnf) | (refine AW.ret ?_; conv => whnf) | (refine AF.one hT rfl ?_; conv => whnf) | (refine AF.nil ?_; conv => whnf) | (refine AF.imm hT rfl rfl rfl ?_; conv => whnf) | (refine AH.of hT rfl ?_; conv => whnf) | (refine ASplit.yes rfl ?_; conv => whnf) | (refine ACond.yes rfl ?_; conv => whnf) | (refine ASplit.no rfl ?_; conv => whnf) | (refine ACond.no rfl ?_; conv => whnf) | (refine ASplit.yes (by decide) ?_; conv => whnf) | (refine ACond.yes (by decide) ?_; conv => whnf) | (refine AReq.mk (by decide) ?_; conv => whnf) | (refine AIdx.iff.2 ⟨by decide, ?_⟩; conv => whnf))
    refine hz (by decide) ?_ ?_
    · unfold openF; rw [if_pos (.inr (.inr h3))]
    · unfold openF; rw [if_pos (.inr (.inr h3))]
  have hn0 : ¬ (s < 1 ∨ 500 < s ∨ (d.n : Int) ≤ 2 * s) := by rintro (h | h | h) <;> contradiction
  unfold openF
  rw [if_neg hn0]
  obtain ⟨S, rfl⟩ : ∃ S : Nat, s = S := ⟨s.toNat, by omega⟩
  rw [Int.toNat_natCast]
  have hv : Vok ⟨d, S, 0, 0, 0, false⟩ S := ⟨hd, rfl, by omega, by omega, by show 2 * S < d.n; omega⟩
  have hbo := f38 _ S hv
  have hbs := both_size hd S
  conv => whnf
  repeat (first | (refine AW.plan (id := 14) hm (.one 0 (.one 1 (.one 2 (.one 4 (.imm 5 (.one 3 (.one 6 (.one 7 (.one 8 (.one 9 (.one 10 (.one 11 (.one 12 (.one 13 (.one 14 (.one 15 .nil)))))))))))))))) (by kernel_rfl) ?_; conv => whnf) | (refine AW.plan (id := 18) hm (.one 0 (.one 1 (.one 3 (.one 4 (.one 2 (.one 5 (.one 6 (.one 7 .nil)))))))) (by kernel_rfl) ?_; conv => whnf) | (refine AW.label ?_; conv => whnf) | (refine AW.scope ?_; conv => whnf) | (refine AO.cons hT ?_; conv => whnf) | (refine AO.nil ?_; conv => whnf) | (refine AW.seq ?_; conv => whnf) | (refine AW.region ?_; conv => whnf) | (refine AW.cond ?_; conv => whnf) | (refine AW.block ?_; conv => whnf) | (refine AW.loop ?_; conv => whnf) | (refine AW.skip ?_; conv => whnf) | (refine AW.exit ?_; conv => whnf) | (refine AW.ret ?_; conv => whnf) | (refine AF.one hT rfl ?_; conv => whnf) | (refine AF.nil ?_; conv => whnf) | (refine AF.imm hT rfl rfl rfl ?_; conv => whnf) | (refine AH.of hT rfl ?_; conv => whnf) | (refine ASplit.yes rfl ?_; conv => whnf) | (refine ACond.yes rfl ?_; conv => whnf) | (refine ASplit.no rfl ?_; conv => whnf) | (refine ACond.no rfl ?_; conv => whnf) | (refine ASplit.yes (by decide) ?_; conv => whnf) | (refine ACond.yes (by decide) ?_; conv => whnf) | (refine AReq.mk (by decide) ?_; conv => whnf) | (refine AIdx.iff.2 ⟨by decide, ?_⟩; conv => whnf))
  refine ACall.vaultO (v := ⟨d, S, 0, 0, 0, false⟩) (bs := bs1) (ck := ck1) [] rfl (by kernel_rfl) hbo (fun _ => rfl) ?_
  rintro _ v1 bs2 ck2 N ⟨rfl, e1⟩
  rw [e1]
  generalize bothF d S = bo at *
  obtain ⟨ba, bb, be⟩ := bo
  simp only at hbs
  unfold dvO bothR
  conv => whnf
  repeat (first | (refine AW.plan (id := 14) hm (.one 0 (.one 1 (.one 2 (.one 4 (.imm 5 (.one 3 (.one 6 (.one 7 (.one 8 (.one 9 (.one 10 (.one 11 (.one 12 (.one 13 (.one 14 (.one 15 .nil)))))))))))))))) (by kernel_rfl) ?_; conv => whnf) | (refine AW.plan (id := 18) hm (.one 0 (.one 1 (.one 3 (.one 4 (.one 2 (.one 5 (.one 6 (.one 7 .nil)))))))) (by kernel_rfl) ?_; conv => whnf) | (refine AW.label ?_; conv => whnf) | (refine AW.scope ?_; conv => whnf) | (refine AO.cons hT ?_; conv => whnf) | (refine AO.nil ?_; conv => whnf) | (refine AW.seq ?_; conv => whnf) | (refine AW.region ?_; conv => whnf) | (refine AW.cond ?_; conv => whnf) | (refine AW.block ?_; conv => whnf) | (refine AW.loop ?_; conv => whnf) | (refine AW.skip ?_; conv => whnf) | (refine AW.exit ?_; conv => whnf) | (refine AW.ret ?_; conv => whnf) | (refine AF.one hT rfl ?_; conv => whnf) | (refine AF.nil ?_; conv => whnf) | (refine AF.imm hT rfl rfl rfl ?_; conv => whnf) | (refine AH.of hT rfl ?_; conv => whnf) | (refine ASplit.yes rfl ?_; conv => whnf) | (refine ACond.yes rfl ?_; conv => whnf) | (refine ASplit.no rfl ?_; conv => whnf) | (refine ACond.no rfl ?_; conv => whnf) | (refine ASplit.yes (by decide) ?_; conv => whnf) | (refine ACond.yes (by decide) ?_; conv => whnf) | (refine AReq.mk (by decide) ?_; conv => whnf) | (refine AIdx.iff.2 ⟨by decide, ?_⟩; conv => whnf))
  refine ACond.ndec (fun h4 => ?_) (fun h4 => ?_)
  · conv => whnf
    repeat (first | (refine AW.plan (id := 14) hm (.one 0 (.one 1 (.one 2 (.one 4 (.imm 5 (.one 3 (.one 6 (.one 7 (.one 8 (.one 9 (.one 10 (.one 11 (.one 12 (.one 13 (.one 14 (.one 15 .nil)))))))))))))))) (by kernel_rfl) ?_; conv => whnf) | (refine AW.plan (id := 18) hm (.one 0 (.one 1 (.one 3 (.one 4 (.one 2 (.one 5 (.one 6 (.one 7 .nil)))))))) (by kernel_rfl) ?_; conv => whnf) | (refine AW.label ?_; conv => whnf) | (refine AW.scope ?_; conv => whnf) | (refine AO.cons hT ?_; conv => whnf) | (refine AO.nil ?_; conv => whnf) | (refine AW.seq ?_; conv => whnf) | (refine AW.region ?_; conv => whnf) | (refine AW.cond ?_; conv => whnf) | (refine AW.block ?_; conv => whnf) | (refine AW.loop ?_; conv => whnf) | (refine AW.skip ?_; conv => whnf) | (refine AW.exit ?_; conv => whnf) | (refine AW.ret ?_; conv => whnf) | (refine AF.one hT rfl ?_; conv => whnf) | (refine AF.nil ?_; conv => whnf) | (refine AF.imm hT rfl rfl rfl ?_; conv => whnf) | (refine AH.of hT rfl ?_; conv => whnf) | (refine ASplit.yes rfl ?_; conv => whnf) | (refine ACond.yes rfl ?_; conv => whnf) | (refine ASplit.no rfl ?_; conv => whnf) | (refine ACond.no rfl ?_; conv => whnf) | (refine ASplit.yes (by decide) ?_; conv => whnf) | (refine ACond.yes (by decide) ?_; conv => whnf) | (refine AReq.mk (by decide) ?_; conv => whnf) | (refine AIdx.iff.2 ⟨by decide, ?_⟩; conv => whnf))
    refine hz h4 ?_ ?_
    · simp only; rw [if_pos h4]
    · simp only; rw [if_pos h4]
  have hch := VD.f45 ba bb (by omega) (by omega)
  have hcc := VD.chooseF_cases ba bb
  simp only
  rw [if_neg (fun e => e h4)]
  generalize VD.chooseF ba bb = c at *
  obtain ⟨cg, ct, cw⟩ := c
  unfold VD.chooseR VD.snapC at hch
  conv => whnf
  repeat (first | (refine AW.plan (id := 14) hm (.one 0 (.one 1 (.one 2 (.one 4 (.imm 5 (.one 3 (.one 6 (.one 7 (.one 8 (.one 9 (.one 10 (.one 11 (.one 12 (.one 13 (.one 14 (.one 15 .nil)))))))))))))))) (by kernel_rfl) ?_; conv => whnf) | (refine AW.plan (id := 18) hm (.one 0 (.one 1 (.one 3 (.one 4 (.one 2 (.one 5 (.one 6 (.one 7 .nil)))))))) (by kernel_rfl) ?_; conv => whnf) | (refine AW.label ?_; conv => whnf) | (refine AW.scope ?_; conv => whnf) | (refine AO.cons hT ?_; conv => whnf) | (refine AO.nil ?_; conv => whnf) | (refine AW.seq ?_; conv => whnf) | (refine AW.region ?_; conv => whnf) | (refine AW.cond ?_; conv => whnf) | (refine AW.block ?_; conv => whnf) | (refine AW.loop ?_; conv => whnf) | (refine AW.skip ?_; conv => whnf) | (refine AW.exit ?_; conv => whnf) | (refine AW.ret ?_; conv => whnf) | (refine AF.one hT rfl ?_; conv => whnf) | (refine AF.nil ?_; conv => whnf) | (refine AF.imm hT rfl rfl rfl ?_; conv => whnf) | (refine AH.of hT rfl ?_; conv => whnf) | (refine ASplit.yes rfl ?_; conv => whnf) | (refine ACond.yes rfl ?_; conv => whnf) | (refine ASplit.no rfl ?_; conv => whnf) | (refine ACond.no rfl ?_; conv => whnf) | (refine ASplit.yes (by decide) ?_; conv => whnf) | (refine ACond.yes (by decide) ?_; conv => whnf) | (refine AReq.mk (by decide) ?_; conv => whnf) | (refine AIdx.iff.2 ⟨by decide, ?_⟩; conv => whnf) | (refine ACall.val (by kernel_rfl) hch rfl rfl ?_; conv => whnf))
  refine ACond.dec (fun h5 => ?_) (fun h5 => ?_)
  · have h5' : cw < 0 := h5
    simp only
    rw [if_pos h5']
    have hbe := f46 _ S hv t ht
    generalize begF ⟨d, S, 0, 0, 0, false⟩ S t = be2 at *
    obtain ⟨v6, e6⟩ := be2
    simp only at hbe
    conv => whnf
    repeat (first | (refine AW.plan (id := 14) hm (.one 0 (.one 1 (.one 2 (.one 4 (.imm 5 (.one 3 (.one 6 (.one 7 (.one 8 (.one 9 (.one 10 (.one 11 (.one 12 (.one 13 (.one 14 (.one 15 .nil)))))))))))))))) (by kernel_rfl) ?_; conv => whnf) | (refine AW.plan (id := 18) hm (.one 0 (.one 1 (.one 3 (.one 4 (.one 2 (.one 5 (.one 6 (.one 7 .nil)))))))) (by kernel_rfl) ?_; conv => whnf) | (refine AW.label ?_; conv => whnf) | (refine AW.scope ?_; conv => whnf) | (refine AO.cons hT ?_; conv => whnf) | (refine AO.nil ?_; conv => whnf) | (refine AW.seq ?_; conv => whnf) | (refine AW.region ?_; conv => whnf) | (refine AW.cond ?_; conv => whnf) | (refine AW.block ?_; conv => whnf) | (refine AW.loop ?_; conv => whnf) | (refine AW.skip ?_; conv => whnf) | (refine AW.exit ?_; conv => whnf) | (refine AW.ret ?_; conv => whnf) | (refine AF.one hT rfl ?_; conv => whnf) | (refine AF.nil ?_; conv => whnf) | (refine AF.imm hT rfl rfl rfl ?_; conv => whnf) | (refine AH.of hT rfl ?_; conv => whnf) | (refine ASplit.yes rfl ?_; conv => whnf) | (refine ACond.yes rfl ?_; conv => whnf) | (refine ASplit.no rfl ?_; conv => whnf) | (refine ACond.no rfl ?_; conv => whnf) | (refine ASplit.yes (by decide) ?_; conv => whnf) | (refine ACond.yes (by decide) ?_; conv => whnf) | (refine AReq.mk (by decide) ?_; conv => whnf) | (refine AIdx.iff.2 ⟨by decide, ?_⟩; conv => whnf) | (refine ACall.val (by kernel_rfl) hch rfl rfl ?_; conv => whnf))
    refine ACall.vaultO (v := ⟨d, S, 0, 0, 0, false⟩) (bs := bs2) (ck := ck2) [.cells 88 [nV cg, sV ct]] rfl (by kernel_rfl) hbe (fun _ => rfl) ?_
    rintro _ v7 bs3 ck3 N2 ⟨rfl, e2⟩
    rw [e2]
    unfold begR dvO
    by_cases h6 : e6 = 0
    · rw [if_pos h6]
      conv => whnf
      repeat (first | (refine AW.plan (id := 14) hm (.one 0 (.one 1 (.one 2 (.one 4 (.imm 5 (.one 3 (.one 6 (.one 7 (.one 8 (.one 9 (.one 10 (.one 11 (.one 12 (.one 13 (.one 14 (.one 15 .nil)))))))))))))))) (by kernel_rfl) ?_; conv => whnf) | (refine AW.plan (id := 18) hm (.one 0 (.one 1 (.one 3 (.one 4 (.one 2 (.one 5 (.one 6 (.one 7 .nil)))))))) (by kernel_rfl) ?_; conv => whnf) | (refine AW.label ?_; conv => whnf) | (refine AW.scope ?_; conv => whnf) | (refine AO.cons hT ?_; conv => whnf) | (refine AO.nil ?_; conv => whnf) | (refine AW.seq ?_; conv => whnf) | (refine AW.region ?_; conv => whnf) | (refine AW.cond ?_; conv => whnf) | (refine AW.block ?_; conv => whnf) | (refine AW.loop ?_; conv => whnf) | (refine AW.skip ?_; conv => whnf) | (refine AW.exit ?_; conv => whnf) | (refine AW.ret ?_; conv => whnf) | (refine AF.one hT rfl ?_; conv => whnf) | (refine AF.nil ?_; conv => whnf) | (refine AF.imm hT rfl rfl rfl ?_; conv => whnf) | (refine AH.of hT rfl ?_; conv => whnf) | (refine ASplit.yes rfl ?_; conv => whnf) | (refine ACond.yes rfl ?_; conv => whnf) | (refine ASplit.no rfl ?_; conv => whnf) | (refine ACond.no rfl ?_; conv => whnf) | (refine ASplit.yes (by decide) ?_; conv => whnf) | (refine ACond.yes (by decide) ?_; conv => whnf) | (refine AReq.mk (by decide) ?_; conv => whnf) | (refine AIdx.iff.2 ⟨by decide, ?_⟩; conv => whnf) | (refine ACall.val (by kernel_rfl) hch rfl rfl ?_; conv => whnf))
      exact AFin.to _ _ ((Conv.see (.cons (.tup (.cons (.it _) (.cons (.it _) (.cons .nil (.cons (.it _) .nil))))) .nil)).trans (convO (l := []) (v := v6) _)) (.inr ⟨h6, rfl, bs3, ck3, rfl⟩)
    · rw [if_neg h6]
      conv => whnf
      repeat (first | (refine AW.plan (id := 14) hm (.one 0 (.one 1 (.one 2 (.one 4 (.imm 5 (.one 3 (.one 6 (.one 7 (.one 8 (.one 9 (.one 10 (.one 11 (.one 12 (.one 13 (.one 14 (.one 15 .nil)))))))))))))))) (by kernel_rfl) ?_; conv => whnf) | (refine AW.plan (id := 18) hm (.one 0 (.one 1 (.one 3 (.one 4 (.one 2 (.one 5 (.one 6 (.one 7 .nil)))))))) (by kernel_rfl) ?_; conv => whnf) | (refine AW.label ?_; conv => whnf) | (refine AW.scope ?_; conv => whnf) | (refine AO.cons hT ?_; conv => whnf) | (refine AO.nil ?_; conv => whnf) | (refine AW.seq ?_; conv => whnf) | (refine AW.region ?_; conv => whnf) | (refine AW.cond ?_; conv => whnf) | (refine AW.block ?_; conv => whnf) | (refine AW.loop ?_; conv => whnf) | (refine AW.skip ?_; conv => whnf) | (refine AW.exit ?_; conv => whnf) | (refine AW.ret ?_; conv => whnf) | (refine AF.one hT rfl ?_; conv => whnf) | (refine AF.nil ?_; conv => whnf) | (refine AF.imm hT rfl rfl rfl ?_; conv => whnf) | (refine AH.of hT rfl ?_; conv => whnf) | (refine ASplit.yes rfl ?_; conv => whnf) | (refine ACond.yes rfl ?_; conv => whnf) | (refine ASplit.no rfl ?_; conv => whnf) | (refine ACond.no rfl ?_; conv => whnf) | (refine ASplit.yes (by decide) ?_; conv => whnf) | (refine ACond.yes (by decide) ?_; conv => whnf) | (refine AReq.mk (by decide) ?_; conv => whnf) | (refine AIdx.iff.2 ⟨by decide, ?_⟩; conv => whnf) | (refine ACall.val (by kernel_rfl) hch rfl rfl ?_; conv => whnf))
      exact AFin.to _ _ (conv3 (d := v6.d) _ (fun _ => rfl)) (.inl ⟨h6, rfl, bs3, ck3, rfl⟩)
  · have h5' : ¬ cw < 0 := h5
    simp only
    rw [if_neg h5']
    conv => whnf
    repeat (first | (refine AW.label ?_; conv => whnf) | (refine AW.scope ?_; conv => whnf) | (refine AO.cons hT ?_; conv => whnf) | (refine AO.nil ?_; conv => whnf) | (refine AW.seq ?_; conv => whnf) | (refine AW.region ?_; conv => whnf) | (refine AW.cond ?_; conv => whnf) | (refine AW.block ?_; conv => whnf) | (refine AW.loop ?_; conv => whnf) | (refine AW.skip ?_; conv => whnf) | (refine AW.exit ?_; conv => whnf) | (refine AW.ret ?_; conv => whnf) | (refine AF.one hT rfl ?_; conv => whnf) | (refine AF.nil ?_; conv => whnf) | (refine AF.imm hT rfl rfl rfl ?_; conv => whnf) | (refine AH.of hT rfl ?_; conv => whnf) | (refine ASplit.yes rfl ?_; conv => whnf) | (refine ACond.yes rfl ?_; conv => whnf) | (refine ASplit.no rfl ?_; conv => whnf) | (refine ACond.no rfl ?_; conv => whnf) | (refine ASplit.yes (by decide) ?_; conv => whnf) | (refine ACond.yes (by decide) ?_; conv => whnf) | (refine AReq.mk (by decide) ?_; conv => whnf) | (refine AIdx.iff.2 ⟨by decide, ?_⟩; conv => whnf))
    refine AW.plan hm (.one 0 (.one 1 (.one 2 (.one 4 (.fork 3 (.one 5 .nil) 5 (.one 3 .nil) (.one 6 (.one 7 (.one 8 (.one 9 (.one 10 (.one 11 (.one 12 (.one 13 (.one 14 (.one 15 .nil))))))))))))))) (by kernel_rfl) ?_
    conv => whnf
    repeat (first | (refine AW.label ?_; conv => whnf) | (refine AW.scope ?_; conv => whnf) | (refine AO.cons hT ?_; conv => whnf) | (refine AO.nil ?_; conv => whnf) | (refine AW.seq ?_; conv => whnf) | (refine AW.region ?_; conv => whnf) | (refine AW.cond ?_; conv => whnf) | (refine AW.block ?_; conv => whnf) | (refine AW.loop ?_; conv => whnf) | (refine AW.skip ?_; conv => whnf) | (refine AW.exit ?_; conv => whnf) | (refine AW.ret ?_; conv => whnf) | (refine AF.one hT rfl ?_; conv => whnf) | (refine AF.nil ?_; conv => whnf) | (refine AF.imm hT rfl rfl rfl ?_; conv => whnf) | (refine AH.of hT rfl ?_; conv => whnf) | (refine ASplit.yes rfl ?_; conv => whnf) | (refine ACond.yes rfl ?_; conv => whnf) | (refine ASplit.no rfl ?_; conv => whnf) | (refine ACond.no rfl ?_; conv => whnf) | (refine ASplit.yes (by decide) ?_; conv => whnf) | (refine ACond.yes (by decide) ?_; conv => whnf) | (refine AReq.mk (by decide) ?_; conv => whnf) | (refine AIdx.iff.2 ⟨by decide, ?_⟩; conv => whnf))
    have hv2 : Vok ⟨d, S, cg, 0, 0, false⟩ S := ⟨hd, rfl, by omega, by omega, by show 2 * S < d.n; omega⟩
    have hj := f37 _ S hv2
    apply AF.forkD (fun bs ck => [dD 1 2 d, dC d, dM d bs ck, vO ⟨d, S, cg, 0, 0, false⟩, .cells 88 [nV cg, sV ct]])
    · conv => whnf
      repeat (first | (refine AW.label ?_; conv => whnf) | (refine AW.scope ?_; conv => whnf) | (refine AO.cons hT ?_; conv => whnf) | (refine AO.nil ?_; conv => whnf) | (refine AW.seq ?_; conv => whnf) | (refine AW.region ?_; conv => whnf) | (refine AW.cond ?_; conv => whnf) | (refine AW.block ?_; conv => whnf) | (refine AW.loop ?_; conv => whnf) | (refine AW.skip ?_; conv => whnf) | (refine AW.exit ?_; conv => whnf) | (refine AW.ret ?_; conv => whnf) | (refine AF.one hT rfl ?_; conv => whnf) | (refine AF.nil ?_; conv => whnf) | (refine AF.imm hT rfl rfl rfl ?_; conv => whnf) | (refine AH.of hT rfl ?_; conv => whnf) | (refine ASplit.yes rfl ?_; conv => whnf) | (refine ACond.yes rfl ?_; conv => whnf) | (refine ASplit.no rfl ?_; conv => whnf) | (refine ACond.no rfl ?_; conv => whnf) | (refine ASplit.yes (by decide) ?_; conv => whnf) | (refine ACond.yes (by decide) ?_; conv => whnf) | (refine AReq.mk (by decide) ?_; conv => whnf) | (refine AIdx.iff.2 ⟨by decide, ?_⟩; conv => whnf))
      refine ACall.vaultO (v := ⟨d, S, cg, 0, 0, false⟩) (bs := bs2) (ck := ck2) [.cells 88 [nV cg, sV ct]] rfl (by kernel_rfl) hj (fun _ => rfl) ?_
      rintro _ v7 bs3 ck3 N2 ⟨rfl, e2⟩
      rw [e2, show AV.ren (nm [3, 0, 1, 2] N2) (arA ((2 * S : Nat) : Int) ((d.n - 2 * S : Nat) : Int)) = arA ((2 * S : Nat) : Int) ((d.n - 2 * S : Nat) : Int) from rfl]
      conv => whnf
      repeat (first | (refine AW.label ?_; conv => whnf) | (refine AW.scope ?_; conv => whnf) | (refine AO.cons hT ?_; conv => whnf) | (refine AO.nil ?_; conv => whnf) | (refine AW.seq ?_; conv => whnf) | (refine AW.region ?_; conv => whnf) | (refine AW.cond ?_; conv => whnf) | (refine AW.block ?_; conv => whnf) | (refine AW.loop ?_; conv => whnf) | (refine AW.skip ?_; conv => whnf) | (refine AW.exit ?_; conv => whnf) | (refine AW.ret ?_; conv => whnf) | (refine AF.one hT rfl ?_; conv => whnf) | (refine AF.nil ?_; conv => whnf) | (refine AF.imm hT rfl rfl rfl ?_; conv => whnf) | (refine AH.of hT rfl ?_; conv => whnf) | (refine ASplit.yes rfl ?_; conv => whnf) | (refine ACond.yes rfl ?_; conv => whnf) | (refine ASplit.no rfl ?_; conv => whnf) | (refine ACond.no rfl ?_; conv => whnf) | (refine ASplit.yes (by decide) ?_; conv => whnf) | (refine ACond.yes (by decide) ?_; conv => whnf) | (refine AReq.mk (by decide) ?_; conv => whnf) | (refine AIdx.iff.2 ⟨by decide, ?_⟩; conv => whnf))
      exact ⟨rfl, rfl, bs3, ck3, rfl⟩
    · conv => whnf
      repeat (first | (refine AW.label ?_; conv => whnf) | (refine AW.scope ?_; conv => whnf) | (refine AO.cons hT ?_; conv => whnf) | (refine AO.nil ?_; conv => whnf) | (refine AW.seq ?_; conv => whnf) | (refine AW.region ?_; conv => whnf) | (refine AW.cond ?_; conv => whnf) | (refine AW.block ?_; conv => whnf) | (refine AW.loop ?_; conv => whnf) | (refine AW.skip ?_; conv => whnf) | (refine AW.exit ?_; conv => whnf) | (refine AW.ret ?_; conv => whnf) | (refine AF.one hT rfl ?_; conv => whnf) | (refine AF.nil ?_; conv => whnf) | (refine AF.imm hT rfl rfl rfl ?_; conv => whnf) | (refine AH.of hT rfl ?_; conv => whnf) | (refine ASplit.yes rfl ?_; conv => whnf) | (refine ACond.yes rfl ?_; conv => whnf) | (refine ASplit.no rfl ?_; conv => whnf) | (refine ACond.no rfl ?_; conv => whnf) | (refine ASplit.yes (by decide) ?_; conv => whnf) | (refine ACond.yes (by decide) ?_; conv => whnf) | (refine AReq.mk (by decide) ?_; conv => whnf) | (refine AIdx.iff.2 ⟨by decide, ?_⟩; conv => whnf))
      refine ACall.vaultO (v := ⟨d, S, cg, 0, 0, false⟩) (bs := bs2) (ck := ck2) [.cells 88 [nV cg, sV ct]] rfl (by kernel_rfl) hj (fun _ => rfl) ?_
      rintro _ v7 bs3 ck3 N2 ⟨rfl, e2⟩
      rw [e2, show AV.ren (nm [3, 0, 1, 2] N2) (arA ((2 * S : Nat) : Int) ((d.n - 2 * S : Nat) : Int)) = arA ((2 * S : Nat) : Int) ((d.n - 2 * S : Nat) : Int) from rfl]
      conv => whnf
      repeat (first | (refine AW.label ?_; conv => whnf) | (refine AW.scope ?_; conv => whnf) | (refine AO.cons hT ?_; conv => whnf) | (refine AO.nil ?_; conv => whnf) | (refine AW.seq ?_; conv => whnf) | (refine AW.region ?_; conv => whnf) | (refine AW.cond ?_; conv => whnf) | (refine AW.block ?_; conv => whnf) | (refine AW.loop ?_; conv => whnf) | (refine AW.skip ?_; conv => whnf) | (refine AW.exit ?_; conv => whnf) | (refine AW.ret ?_; conv => whnf) | (refine AF.one hT rfl ?_; conv => whnf) | (refine AF.nil ?_; conv => whnf) | (refine AF.imm hT rfl rfl rfl ?_; conv => whnf) | (refine AH.of hT rfl ?_; conv => whnf) | (refine ASplit.yes rfl ?_; conv => whnf) | (refine ACond.yes rfl ?_; conv => whnf) | (refine ASplit.no rfl ?_; conv => whnf) | (refine ACond.no rfl ?_; conv => whnf) | (refine ASplit.yes (by decide) ?_; conv => whnf) | (refine ACond.yes (by decide) ?_; conv => whnf) | (refine AReq.mk (by decide) ?_; conv => whnf) | (refine AIdx.iff.2 ⟨by decide, ?_⟩; conv => whnf))
      exact ⟨rfl, rfl, bs3, ck3, rfl⟩
    intro bs4 ck4
    unfold arA vO
    have h24 := f24 d hd ((2 * S : Nat) : Int) ((d.n - 2 * S : Nat) : Int) cg (nOk_of (by omega) (by omega)) (nOk_of (by omega) (by omega))
    unfold arA at h24
    rcases loadV_cases d (2 * S) (d.n - 2 * S) cg with ⟨le, hle0, hlv, hll⟩ | ⟨l, z, hlv, hll⟩
    · rw [hlv] at h24
      rw [hll]
      conv => whnf
      repeat (first | (refine AW.label ?_; conv => whnf) | (refine AW.scope ?_; conv => whnf) | (refine AO.cons hT ?_; conv => whnf) | (refine AO.nil ?_; conv => whnf) | (refine AW.seq ?_; conv => whnf) | (refine AW.region ?_; conv => whnf) | (refine AW.cond ?_; conv => whnf) | (refine AW.block ?_; conv => whnf) | (refine AW.loop ?_; conv => whnf) | (refine AW.skip ?_; conv => whnf) | (refine AW.exit ?_; conv => whnf) | (refine AW.ret ?_; conv => whnf) | (refine AF.one hT rfl ?_; conv => whnf) | (refine AF.nil ?_; conv => whnf) | (refine AF.imm hT rfl rfl rfl ?_; conv => whnf) | (refine AH.of hT rfl ?_; conv => whnf) | (refine ASplit.yes rfl ?_; conv => whnf) | (refine ACond.yes rfl ?_; conv => whnf) | (refine ASplit.no rfl ?_; conv => whnf) | (refine ACond.no rfl ?_; conv => whnf) | (refine ASplit.yes (by decide) ?_; conv => whnf) | (refine ACond.yes (by decide) ?_; conv => whnf) | (refine AReq.mk (by decide) ?_; conv => whnf) | (refine AIdx.iff.2 ⟨by decide, ?_⟩; conv => whnf))
      refine ACall.dev (l := 0) (lc := 1) (lm := 2) (by kernel_rfl) h24 rfl rfl rfl (by decide) (fun _ => rfl) (by rintro _ _ ⟨rfl, _⟩ _; rfl) ?_
      rintro _ yy5 bs5 ck5 ⟨rfl, hyy5⟩
      rw [hyy5]
      simp only [List.length_nil, Nat.zero_add, List.nil_append, List.set_cons_zero, List.set_cons_succ]
      conv => whnf
      repeat (first | (refine AW.label ?_; conv => whnf) | (refine AW.scope ?_; conv => whnf) | (refine AO.cons hT ?_; conv => whnf) | (refine AO.nil ?_; conv => whnf) | (refine AW.seq ?_; conv => whnf) | (refine AW.region ?_; conv => whnf) | (refine AW.cond ?_; conv => whnf) | (refine AW.block ?_; conv => whnf) | (refine AW.loop ?_; conv => whnf) | (refine AW.skip ?_; conv => whnf) | (refine AW.exit ?_; conv => whnf) | (refine AW.ret ?_; conv => whnf) | (refine AF.one hT rfl ?_; conv => whnf) | (refine AF.nil ?_; conv => whnf) | (refine AF.imm hT rfl rfl rfl ?_; conv => whnf) | (refine AH.of hT rfl ?_; conv => whnf) | (refine ASplit.yes rfl ?_; conv => whnf) | (refine ACond.yes rfl ?_; conv => whnf) | (refine ASplit.no rfl ?_; conv => whnf) | (refine ACond.no rfl ?_; conv => whnf) | (refine ASplit.yes (by decide) ?_; conv => whnf) | (refine ACond.yes (by decide) ?_; conv => whnf) | (refine AReq.mk (by decide) ?_; conv => whnf) | (refine AIdx.iff.2 ⟨by decide, ?_⟩; conv => whnf))
      refine ACond.yes (by simp; exact hle0) ?_
      conv => whnf
      repeat (first | (refine AW.label ?_; conv => whnf) | (refine AW.scope ?_; conv => whnf) | (refine AO.cons hT ?_; conv => whnf) | (refine AO.nil ?_; conv => whnf) | (refine AW.seq ?_; conv => whnf) | (refine AW.region ?_; conv => whnf) | (refine AW.cond ?_; conv => whnf) | (refine AW.block ?_; conv => whnf) | (refine AW.loop ?_; conv => whnf) | (refine AW.skip ?_; conv => whnf) | (refine AW.exit ?_; conv => whnf) | (refine AW.ret ?_; conv => whnf) | (refine AF.one hT rfl ?_; conv => whnf) | (refine AF.nil ?_; conv => whnf) | (refine AF.imm hT rfl rfl rfl ?_; conv => whnf) | (refine AH.of hT rfl ?_; conv => whnf) | (refine ASplit.yes rfl ?_; conv => whnf) | (refine ACond.yes rfl ?_; conv => whnf) | (refine ASplit.no rfl ?_; conv => whnf) | (refine ACond.no rfl ?_; conv => whnf) | (refine ASplit.yes (by decide) ?_; conv => whnf) | (refine ACond.yes (by decide) ?_; conv => whnf) | (refine AReq.mk (by decide) ?_; conv => whnf) | (refine AIdx.iff.2 ⟨by decide, ?_⟩; conv => whnf))
      exact AFin.to _ _ (conv3 (d := d) _ (fun _ => rfl)) (.inl ⟨hle0, rfl, bs5, ck5, rfl⟩)
    · rw [hlv] at h24
      rw [hll]
      unfold VD.tV at h24
      conv => whnf
      repeat (first | (refine AW.label ?_; conv => whnf) | (refine AW.scope ?_; conv => whnf) | (refine AO.cons hT ?_; conv => whnf) | (refine AO.nil ?_; conv => whnf) | (refine AW.seq ?_; conv => whnf) | (refine AW.region ?_; conv => whnf) | (refine AW.cond ?_; conv => whnf) | (refine AW.block ?_; conv => whnf) | (refine AW.loop ?_; conv => whnf) | (refine AW.skip ?_; conv => whnf) | (refine AW.exit ?_; conv => whnf) | (refine AW.ret ?_; conv => whnf) | (refine AF.one hT rfl ?_; conv => whnf) | (refine AF.nil ?_; conv => whnf) | (refine AF.imm hT rfl rfl rfl ?_; conv => whnf) | (refine AH.of hT rfl ?_; conv => whnf) | (refine ASplit.yes rfl ?_; conv => whnf) | (refine ACond.yes rfl ?_; conv => whnf) | (refine ASplit.no rfl ?_; conv => whnf) | (refine ACond.no rfl ?_; conv => whnf) | (refine ASplit.yes (by decide) ?_; conv => whnf) | (refine ACond.yes (by decide) ?_; conv => whnf) | (refine AReq.mk (by decide) ?_; conv => whnf) | (refine AIdx.iff.2 ⟨by decide, ?_⟩; conv => whnf))
      refine ACall.dev (l := 0) (lc := 1) (lm := 2) (by kernel_rfl) h24 rfl rfl rfl (by decide) (fun _ => rfl) (by rintro _ _ ⟨rfl, _⟩ ρ; simp only [AV.ren, renL, VD.texts_ren]) ?_
      rintro _ yy5 bs5 ck5 ⟨rfl, hyy5⟩
      rw [hyy5]
      simp only [List.length_nil, Nat.zero_add, List.nil_append, List.set_cons_zero, List.set_cons_succ]
      conv => whnf
      repeat (first | (refine AW.label ?_; conv => whnf) | (refine AW.scope ?_; conv => whnf) | (refine AO.cons hT ?_; conv => whnf) | (refine AO.nil ?_; conv => whnf) | (refine AW.seq ?_; conv => whnf) | (refine AW.region ?_; conv => whnf) | (refine AW.cond ?_; conv => whnf) | (refine AW.block ?_; conv => whnf) | (refine AW.loop ?_; conv => whnf) | (refine AW.skip ?_; conv => whnf) | (refine AW.exit ?_; conv => whnf) | (refine AW.ret ?_; conv => whnf) | (refine AF.one hT rfl ?_; conv => whnf) | (refine AF.nil ?_; conv => whnf) | (refine AF.imm hT rfl rfl rfl ?_; conv => whnf) | (refine AH.of hT rfl ?_; conv => whnf) | (refine ASplit.yes rfl ?_; conv => whnf) | (refine ACond.yes rfl ?_; conv => whnf) | (refine ASplit.no rfl ?_; conv => whnf) | (refine ACond.no rfl ?_; conv => whnf) | (refine ASplit.yes (by decide) ?_; conv => whnf) | (refine ACond.yes (by decide) ?_; conv => whnf) | (refine AReq.mk (by decide) ?_; conv => whnf) | (refine AIdx.iff.2 ⟨by decide, ?_⟩; conv => whnf))
      refine AW.plan hm (.one 0 (.one 1 (.one 3 (.one 4 (.one 2 (.one 5 (.one 6 (.one 7 .nil)))))))) (by kernel_rfl) ?_
      conv => whnf
      repeat (first | (refine AW.label ?_; conv => whnf) | (refine AW.scope ?_; conv => whnf) | (refine AO.cons hT ?_; conv => whnf) | (refine AO.nil ?_; conv => whnf) | (refine AW.seq ?_; conv => whnf) | (refine AW.region ?_; conv => whnf) | (refine AW.cond ?_; conv => whnf) | (refine AW.block ?_; conv => whnf) | (refine AW.loop ?_; conv => whnf) | (refine AW.skip ?_; conv => whnf) | (refine AW.exit ?_; conv => whnf) | (refine AW.ret ?_; conv => whnf) | (refine AF.one hT rfl ?_; conv => whnf) | (refine AF.nil ?_; conv => whnf) | (refine AF.imm hT rfl rfl rfl ?_; conv => whnf) | (refine AH.of hT rfl ?_; conv => whnf) | (refine ASplit.yes rfl ?_; conv => whnf) | (refine ACond.yes rfl ?_; conv => whnf) | (refine ASplit.no rfl ?_; conv => whnf) | (refine ACond.no rfl ?_; conv => whnf) | (refine ASplit.yes (by decide) ?_; conv => whnf) | (refine ACond.yes (by decide) ?_; conv => whnf) | (refine AReq.mk (by decide) ?_; conv => whnf) | (refine AIdx.iff.2 ⟨by decide, ?_⟩; conv => whnf))
      exact AFin.to _ _ (convO (l := l) (v := ⟨d, S, cg, l.length, z, false⟩) _) (.inr ⟨rfl, rfl, bs5, ck5, rfl⟩)
end Go.Aw.VE

