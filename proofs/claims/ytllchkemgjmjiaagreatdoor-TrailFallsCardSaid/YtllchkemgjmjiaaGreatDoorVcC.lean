/-
  The statement TrailFalls: wherever the power goes while a frame is appended, the frames ahead are loaded, and that one, or not, without any condition.
-/
import Derived.Test.YtllchkemgjmjiaaGreatDoorVcB
set_option linter.unusedSimpArgs false
set_option linter.unusedVariables false
set_option linter.unusedSimpArgs false
set_option linter.unusedVariables false
set_option maxHeartbeats 4000000
namespace Go.Aw.VE
open Go Go.Proofs

def fillS (n : Nat) (b : UInt8) : ByteArray := ofL (List.replicate (64 * n) b)
theorem fill_step (b : UInt8) (i m : Nat) (h : i < m) : spl ((List.replicate i b ++ List.replicate (m - i) 0).map byteC) i [byteC b] = (List.replicate (i + 1) b ++ List.replicate (m - (i + 1)) 0).map byteC := by
  obtain ⟨k, rfl⟩ : ∃ k, m = i + (k + 1) := ⟨m - i - 1, by omega⟩
  rw [show i + (k + 1) - i = k + 1 by omega, show i + (k + 1) - (i + 1) = k by omega]
  unfold spl
  rw [List.map_append, List.take_left' (by simp), List.length_singleton, show i + 1 = (List.replicate i b ++ [(0 : UInt8)]).length by simp, List.replicate_succ, show List.replicate i b = List.replicate i b from rfl]
  rw [← List.map_append, show List.replicate i b ++ 0 :: List.replicate k 0 = (List.replicate i b ++ [0]) ++ List.replicate k 0 by simp, List.map_append (l₁ := List.replicate i b ++ [0]), List.drop_left' (by simp)]
  simp [List.replicate_succ']
end Go.Aw.VE

set_option linter.unusedSimpArgs false
set_option linter.unusedVariables false
set_option maxHeartbeats 4000000
namespace Go.Aw.VE
open Go Go.Proofs

end Go.Aw.VE

set_option linter.unusedSimpArgs false
set_option linter.unusedVariables false
set_option maxHeartbeats 4000000
namespace Go.Aw.VE
open Go Go.Proofs

theorem wrF_ok : ∀ (m : Nat) (x : Dd) (k : Nat) (t : List UInt8), Dok x → k + m ≤ x.n → 64 * m ≤ t.length → Dok (wrF m x k t).1 ∧ (wrF m x k t).1.n = x.n
  | 0, x, k, t, h, _, _ => by rw [wrF]; exact ⟨h, rfl⟩
  | m + 1, x, k, t, h, h1, h2 => by
    have hn := lastD_n x
    have hok : Dok (putD (lastD x) k (t.take 64)) := h.last.put (by rw [hn]; omega) (by rw [List.length_take]; omega)
    rw [wrF]
    split
    · exact ⟨hok, hn⟩
    · have := wrF_ok m _ (k + 1) (t.drop 64) hok (by show k + 1 + m ≤ (lastD x).n; omega) (by rw [List.length_drop]; omega)
      exact ⟨this.1, this.2.trans hn⟩
theorem write_ok {x : Dd} (h : Dok x) (at_ : Int) (s : ByteArray) : Dok (writeF x at_ s).1 ∧ (writeF x at_ s).1.n = x.n := by
  unfold writeF
  split
  · exact ⟨h, rfl⟩
  · split
    · exact ⟨h, rfl⟩
    · split
      · have hs := size_list s
        exact wrF_ok _ _ _ _ h (by omega) (by omega)
      · exact ⟨h, rfl⟩
theorem flush_ok {x : Dd} (h : Dok x) : Dok (flushD x) ∧ (flushD x).n = x.n := by
  unfold flushD
  split
  · exact ⟨h, rfl⟩
  · split
    · exact ⟨h.last, lastD_n x⟩
    · refine ⟨⟨h.last.pos, h.last.le, h.last.len, by simp, by simp⟩, lastD_n x⟩
theorem bootL_ok (c : Ch) : ∀ (S : List Int) (i : Nat) (y : Dd), Dok y → (y.L.map (·.1)).Perm S → Dok (bootL c i S y) ∧ (bootL c i S y).n = y.n ∧ (bootL c i S y).L = []
  | [], i, y, h, hp => by rw [bootL]; exact ⟨h, rfl, by simpa using hp.eq_nil⟩
  | k :: S, i, y, h, hp => by
    rw [bootL]
    have := bootL_ok c S (i + 1) (bootS c i k y) (h.boot (hp.mem_iff.2 (List.mem_cons_self ..))) (del_perm h.nd hp)
    exact this
theorem kS_perm (L : List (Int × List UInt8)) : (L.map (·.1)).Perm (kS L) := (List.mergeSort_perm _ _).symm
theorem boot_ok {x : Dd} (h : Dok x) (c : Ch) : Dok (bootD c x) ∧ (bootD c x).n = x.n ∧ (bootD c x).L = [] := by
  obtain ⟨h1, h2, h3⟩ := bootL_ok c (kS x.L) 0 x h (kS_perm x.L)
  exact ⟨⟨h1.pos, h1.le, h1.len, h1.keys, h1.nd⟩, h2, h3⟩
theorem new_ok {n : Nat} (h : 0 < n) (h2 : n ≤ 2000) : Dok (newD n) := ⟨h, h2, by simp [newD], by simp [newD], by simp [newD]⟩
theorem kS_sorted (L : List (Int × List UInt8)) : (kS L).Pairwise (fun x y => x ≤ y) := by
  have := List.pairwise_mergeSort (le := fun (x y : Int) => decide (x ≤ y)) (fun a b c h1 h2 => by simp at *; omega) (fun a b => by simp; omega) (L.map (·.1))
  exact this.imp (by simp)
theorem kS_eq {L : List (Int × List UInt8)} {S : List Int} (h : (L.map (·.1)).Perm S) (hs : S.Pairwise (fun x y => x ≤ y)) : kS L = S :=
  List.Perm.eq_of_pairwise (le := fun x y => x ≤ y) (fun a b _ _ h1 h2 => by omega) (kS_sorted L) hs ((kS_perm L).symm.trans h)

set_option maxRecDepth 100000
def aw1 : Dd := (writeF (newD 4) 1 (fillS 2 120)).1
def awC : Ch := ⟨[true], 1, 3⟩
def aw2 : Dd := bootD awC aw1
theorem aw1_ok : Dok aw1 := (write_ok (new_ok (by decide) (by decide)) _ _).1
theorem aw1_L : aw1.L.map (·.1) = [1, 2] := by decide +kernel
theorem aw1_k : kS aw1.L = [1, 2] := kS_eq (by rw [aw1_L]) (by decide)
theorem aw2_ok : Dok aw2 := (boot_ok aw1_ok _).1
theorem aw2_n : aw2.n = 4 := (boot_ok aw1_ok _).2.1.trans (write_ok (new_ok (by decide) (by decide)) _ _).2
def aw2' : Dd := { bootL awC 0 [1, 2] aw1 with f := false, a := 0 }
theorem aw2_eq : aw2 = aw2' := by unfold aw2 aw2' bootD; rw [aw1_k]
theorem aw2_o : aw2.o = 2 := by rw [aw2_eq]; decide +kernel
theorem aw2_f : aw2.f = false := rfl
theorem aw2_r : (readF aw2 1 2).1.data.toList = List.replicate 67 120 ++ List.replicate 61 0 := by rw [aw2_eq]; decide +kernel
theorem aw2_e : (readF aw2 1 2).2 = 0 := by rw [aw2_eq]; decide +kernel
theorem aw1_e : (writeF (newD 4) 1 (fillS 2 120)).2 = 0 := by decide +kernel
end Go.Aw.VE

set_option linter.unusedSimpArgs false
set_option linter.unusedVariables false
set_option maxHeartbeats 400000
namespace Go.Aw.VE
open Go Go.Proofs
set_option maxRecDepth 100000

theorem callNew {H : List ABlk} {K : AV → List ABlk → Prop} (n : Nat) (h0 : 0 < n) (h1 : n ≤ 2000) (k : K (.tup [.ptr H.length 0, nV 0]) (H ++ [dD (H.length + 1) (H.length + 2) (newD n), dC (newD n), dM (newD n) [] 0])) : ACall P 19 [nV n] H K := by
  refine ACall.spec (by kernel_rfl) (f19 n (nOk_of (by omega) (by omega))) rfl ?_
  intro r H' h
  rw [if_neg (by omega)] at h
  obtain ⟨rfl, rfl⟩ := h
  rw [Int.toNat_natCast]
  simp only [dvH, List.map_cons, List.map_nil, dD_ren, dC_ren, dM_ren]
  have e : ∀ i, nm [] H.length i = H.length + i := by intro i; simp [nm, Nat.add_comm]
  simp only [e] 
  simp only [AV.ren, renL, e, Nat.add_zero]
  exact k
theorem callBad {H : List ABlk} {K : AV → List ABlk → Prop} (n : Int) (hn : nOk n) (h0 : n < 1 ∨ n > 2000) (k : K (.tup [.v (.pointer none), nV 2]) H) : ACall P 19 [nV n] H K := by
  refine ACall.spec (by kernel_rfl) (f19 n hn) rfl ?_
  intro r H' h
  rw [if_pos h0] at h
  obtain ⟨rfl, rfl⟩ := h
  rw [List.map_nil, List.append_nil]
  exact k

theorem ACall.devL {f : Nat} {args args0 : List AV} {x : Dd} {R : AV → Dd → Prop} {H : List ABlk} {K : AV → List ABlk → Prop} {l lc lm : Nat} {bs : List Nat} {ck : Nat} (hc : callOk P f = true) (h : DSpec f args0 x R)
    (h1 : H[l]? = some (dD lc lm x)) (h2 : H[lc]? = some (dC x)) (h3 : H[lm]? = some (dM x bs ck)) (hn : [l, lc, lm].Nodup) (ha : LendL H [] (nm [l, lc, lm] H.length) args args0) (hr : ∀ r y, R r y → ∀ ρ, r.ren ρ = r)
    (k : ∀ r y bs' ck', R r y → K r (((H.set l (dD lc lm y)).set lc (dC y)).set lm (dM y bs' ck'))) : ACall P f (.ptr l 0 :: args) H K := by
  refine ACall.of hc (h bs ck) [l, lc, lm] [] hn ?_ (by simp) (by simp) (.cons (.same rfl) ha) (.inl rfl) ?_
  · refine .same ?_ (.same ?_ (.same ?_ .nil))
    · rw [h1, dD_ren]; rfl
    · rw [h2, dC_ren]
    · rw [h3, dM_ren]
  · rintro r _ ⟨y, bs', ck', hR, rfl⟩
    rw [hr r y hR]
    have := k r y bs' ck' hR
    simp only [dvH, mergeH, dD_ren, dC_ren, dM_ren, List.map_nil, List.append_nil]
    exact this
theorem aw2_w1 : writeF aw2 3 (fillS 2 120) = (aw2, 21) := by
  have h1 : (fillS 2 120).size = 128 := by decide +kernel
  unfold writeF
  rw [if_neg (by rw [aw2_f]; simp), if_neg (by rw [h1]; decide), if_neg (by rw [aw2_n, h1]; decide)]
theorem aw2_w2 : writeF aw2 0 ⟨#[120]⟩ = (aw2, 2) := by
  unfold writeF
  rw [if_neg (by rw [aw2_f]; simp), if_pos (by left; decide)]
theorem aw1_f : aw1.f = false := by decide +kernel

theorem str_eq (s t : ByteArray) : (s.toList == t.toList) = decide (s = t) := by
  rw [Go.ByteArray.toList_eq, Go.ByteArray.toList_eq, Bool.eq_iff_iff, beq_iff_eq, decide_eq_true_iff]
  exact ⟨list_inj, fun h => by rw [h]⟩
theorem aw2_s : (readF aw2 1 2).1 = fillS (Int.toNat 1) 120 ++ ⟨#[120, 120, 120]⟩ ++ (fillS (Int.toNat 1) 0).extract (Int.toNat 3) (fillS (Int.toNat 1) 0).size := by
  apply list_inj
  rw [aw2_r]
  decide +kernel
theorem aw_all : ∃ u z : Dd, writeF (newD 4) 1 (fillS 2 120) = (u, 0) ∧ Dok u ∧ u.f = false ∧ kS u.L = [1, 2] ∧ bootD awC u = z ∧ Dok z ∧ z.n = 4 ∧ z.o = 2 ∧ z.f = false ∧ (readF z 1 2).2 = 0 ∧
    (readF z 1 2).1 = fillS (Int.toNat 1) 120 ++ ⟨#[120, 120, 120]⟩ ++ (fillS (Int.toNat 1) 0).extract (Int.toNat 3) (fillS (Int.toNat 1) 0).size ∧ writeF z 3 (fillS 2 120) = (z, 21) ∧ writeF z 0 ⟨#[120]⟩ = (z, 2) :=
  ⟨aw1, aw2, by rw [← aw1_e]; rfl, aw1_ok, aw1_f, aw1_k, rfl, aw2_ok, aw2_n, aw2_o, aw2_f, aw2_e, aw2_s, aw2_w1, aw2_w2⟩
end Go.Aw.VE

set_option linter.unusedSimpArgs false
set_option linter.unusedVariables false
set_option maxHeartbeats 4000000
namespace Go.Aw.VE
open Go Go.Proofs

def dE : ABlk := .cells 97 [.v (.slice none 0 0), .v (.map none), nV 0, nV 0, .v (.bool false)]
/-- no device: nil, or one that no call made -/
inductive NB : AV → List ABlk → Prop
  | nil : NB (.v (.pointer none)) []
  | emp : NB (.ptr 0 0) [dE]
def NSpec (f : Nat) (args : List AV) (r : AV) : Prop := ∀ p H, NB p H → Spec P f (p :: args) H fun r' H' => r' = r ∧ H' = H
theorem dE_ren (ρ : Nat → Nat) : dE.ren ρ = dE := rfl
/-- where no device lies -/
inductive NBat (H : List ABlk) : AV → Prop
  | nil : NBat H (.v (.pointer none))
  | emp {l : Nat} : H[l]? = some dE → NBat H (.ptr l 0)
theorem ACall.nob {f : Nat} {args args0 : List AV} {r p : AV} {H : List ABlk} {K : AV → List ABlk → Prop} (hc : callOk P f = true) (h : NSpec f args0 r) (hp : NBat H p) (ha : ∀ ρ, LendL H [] ρ args args0) (hr : ∀ ρ, r.ren ρ = r) (k : K r H) : ACall P f (p :: args) H K := by
  cases hp with
  | nil =>
    refine ACall.of hc (h _ _ .nil) [] [] List.nodup_nil .nil (by simp) (by simp) (.cons (.same rfl) (ha _)) (.inl rfl) ?_
    rintro _ _ ⟨rfl, rfl⟩
    rw [hr]
    simpa [mergeH] using k
  | emp hl =>
    rename_i l
    refine ACall.of hc (h _ _ .emp) [l] [] (by simp) (.same (by rw [hl, dE_ren]) .nil) (by simp) (by simp) (.cons (.same rfl) (ha _)) (.inl rfl) ?_
    rintro _ _ ⟨rfl, rfl⟩
    rw [hr]
    simp only [mergeH, dE_ren, List.map_nil, List.append_nil]
    rw [set_same hl]; exact k

theorem n31 : NSpec 51 [] (.v (.bool false)) := by
  rintro _ _ (_ | _)
  · refine spec_of hT (f := 51) (fn := Go.Proofs.Tryz.f51) (c := body Go.Proofs.Tryz.f51) (by kernel_rfl) (by kernel_rfl) ?_
    conv => whnf
    repeat (first | (refine AW.label ?_; conv => whnf) | (refine AW.scope ?_; conv => whnf) | (refine AO.cons hT ?_; conv => whnf) | (refine AO.nil ?_; conv => whnf) | (refine AW.seq ?_; conv => whnf) | (refine AW.region ?_; conv => whnf) | (refine AW.cond ?_; conv => whnf) | (refine AW.block ?_; conv => whnf) | (refine AW.loop ?_; conv => whnf) | (refine AW.skip ?_; conv => whnf) | (refine AW.exit ?_; conv => whnf) | (refine AW.ret ?_; conv => whnf) | (refine AF.one hT rfl ?_; conv => whnf) | (refine AF.nil ?_; conv => whnf) | (refine AF.imm hT rfl rfl rfl ?_; conv => whnf) | (refine AH.of hT rfl ?_; conv => whnf) | (refine ASplit.yes rfl ?_; conv => whnf) | (refine ACond.yes rfl ?_; conv => whnf) | (refine ASplit.no rfl ?_; conv => whnf) | (refine ACond.no rfl ?_; conv => whnf) | (refine ASplit.yes (by decide) ?_; conv => whnf) | (refine ACond.yes (by decide) ?_; conv => whnf) | (refine AReq.mk (by decide) ?_; conv => whnf) | (refine AIdx.iff.2 ⟨by decide, ?_⟩; conv => whnf))
    exact AFin.mk ⟨rfl, rfl⟩
  · refine spec_of hT (f := 51) (fn := Go.Proofs.Tryz.f51) (c := body Go.Proofs.Tryz.f51) (by kernel_rfl) (by kernel_rfl) ?_
    conv => whnf
    repeat (first | (refine AW.label ?_; conv => whnf) | (refine AW.scope ?_; conv => whnf) | (refine AO.cons hT ?_; conv => whnf) | (refine AO.nil ?_; conv => whnf) | (refine AW.seq ?_; conv => whnf) | (refine AW.region ?_; conv => whnf) | (refine AW.cond ?_; conv => whnf) | (refine AW.block ?_; conv => whnf) | (refine AW.loop ?_; conv => whnf) | (refine AW.skip ?_; conv => whnf) | (refine AW.exit ?_; conv => whnf) | (refine AW.ret ?_; conv => whnf) | (refine AF.one hT rfl ?_; conv => whnf) | (refine AF.nil ?_; conv => whnf) | (refine AF.imm hT rfl rfl rfl ?_; conv => whnf) | (refine AH.of hT rfl ?_; conv => whnf) | (refine ASplit.yes rfl ?_; conv => whnf) | (refine ACond.yes rfl ?_; conv => whnf) | (refine ASplit.no rfl ?_; conv => whnf) | (refine ACond.no rfl ?_; conv => whnf) | (refine ASplit.yes (by decide) ?_; conv => whnf) | (refine ACond.yes (by decide) ?_; conv => whnf) | (refine AReq.mk (by decide) ?_; conv => whnf) | (refine AIdx.iff.2 ⟨by decide, ?_⟩; conv => whnf))
    exact AFin.mk ⟨rfl, rfl⟩
theorem NB.at {p : AV} {H : List ABlk} (h : NB p H) : NBat H p := by
  cases h with
  | nil => exact .nil
  | emp => exact .emp rfl
theorem n27 : NSpec 60 [] (nV 1) := by
  intro p H h
  have ha := h.at
  refine spec_of hT (f := 60) (fn := Go.Proofs.Tryz.f60) (c := body Go.Proofs.Tryz.f60) (by kernel_rfl) (by kernel_rfl) ?_
  cases h <;>
  · conv => whnf
    repeat ((first | refine AO.cons hT ?_ | refine AO.nil ?_ | refine AW.seq ?_ | refine AW.region ?_ | refine AW.cond ?_ | refine AW.block ?_ | refine AW.loop ?_ | refine AW.skip ?_ | refine AW.exit ?_ | refine AW.ret ?_ | refine AW.label ?_ | refine AW.scope ?_ | refine AF.one hT rfl ?_ | refine AF.nil ?_ | refine AF.imm hT rfl rfl rfl ?_ | refine AH.of hT rfl ?_ | refine AD.cons hT rfl ?_ | refine AD.nil ?_ | refine AQ.cons hT rfl ?_ | refine AQ.nil ?_); conv => whnf)
    refine ACall.nob (by kernel_rfl) n31 ha (fun _ => .nil) (fun _ => rfl) ?_
    conv => whnf
    repeat (first | (refine AW.label ?_; conv => whnf) | (refine AW.scope ?_; conv => whnf) | (refine AO.cons hT ?_; conv => whnf) | (refine AO.nil ?_; conv => whnf) | (refine AW.seq ?_; conv => whnf) | (refine AW.region ?_; conv => whnf) | (refine AW.cond ?_; conv => whnf) | (refine AW.block ?_; conv => whnf) | (refine AW.loop ?_; conv => whnf) | (refine AW.skip ?_; conv => whnf) | (refine AW.exit ?_; conv => whnf) | (refine AW.ret ?_; conv => whnf) | (refine AF.one hT rfl ?_; conv => whnf) | (refine AF.nil ?_; conv => whnf) | (refine AF.imm hT rfl rfl rfl ?_; conv => whnf) | (refine AH.of hT rfl ?_; conv => whnf) | (refine ASplit.yes rfl ?_; conv => whnf) | (refine ACond.yes rfl ?_; conv => whnf) | (refine ASplit.no rfl ?_; conv => whnf) | (refine ACond.no rfl ?_; conv => whnf) | (refine ASplit.yes (by decide) ?_; conv => whnf) | (refine ACond.yes (by decide) ?_; conv => whnf) | (refine AReq.mk (by decide) ?_; conv => whnf) | (refine AIdx.iff.2 ⟨by decide, ?_⟩; conv => whnf))
    exact AFin.mk ⟨rfl, rfl⟩
theorem n10 (at_ : Int) (s : ByteArray) : NSpec 27 [nV at_, sV s] (nV 1) := by
  intro p H h
  have ha := h.at
  refine spec_of hT (f := 27) (fn := Go.Proofs.Tryz.f27) (c := body Go.Proofs.Tryz.f27) (by kernel_rfl) (by kernel_rfl) ?_
  cases h <;>
  · conv => whnf
    repeat ((first | refine AO.cons hT ?_ | refine AO.nil ?_ | refine AW.seq ?_ | refine AW.region ?_ | refine AW.cond ?_ | refine AW.block ?_ | refine AW.loop ?_ | refine AW.skip ?_ | refine AW.exit ?_ | refine AW.ret ?_ | refine AW.label ?_ | refine AW.scope ?_ | refine AF.one hT rfl ?_ | refine AF.nil ?_ | refine AF.imm hT rfl rfl rfl ?_ | refine AH.of hT rfl ?_ | refine AD.cons hT rfl ?_ | refine AD.nil ?_ | refine AQ.cons hT rfl ?_ | refine AQ.nil ?_); conv => whnf)
    refine ACall.nob (by kernel_rfl) n27 ha (fun _ => .nil) (fun _ => rfl) ?_
    conv => whnf
    repeat (first | (refine AW.label ?_; conv => whnf) | (refine AW.scope ?_; conv => whnf) | (refine AO.cons hT ?_; conv => whnf) | (refine AO.nil ?_; conv => whnf) | (refine AW.seq ?_; conv => whnf) | (refine AW.region ?_; conv => whnf) | (refine AW.cond ?_; conv => whnf) | (refine AW.block ?_; conv => whnf) | (refine AW.loop ?_; conv => whnf) | (refine AW.skip ?_; conv => whnf) | (refine AW.exit ?_; conv => whnf) | (refine AW.ret ?_; conv => whnf) | (refine AF.one hT rfl ?_; conv => whnf) | (refine AF.nil ?_; conv => whnf) | (refine AF.imm hT rfl rfl rfl ?_; conv => whnf) | (refine AH.of hT rfl ?_; conv => whnf) | (refine ASplit.yes rfl ?_; conv => whnf) | (refine ACond.yes rfl ?_; conv => whnf) | (refine ASplit.no rfl ?_; conv => whnf) | (refine ACond.no rfl ?_; conv => whnf) | (refine ASplit.yes (by decide) ?_; conv => whnf) | (refine ACond.yes (by decide) ?_; conv => whnf) | (refine AReq.mk (by decide) ?_; conv => whnf) | (refine AIdx.iff.2 ⟨by decide, ?_⟩; conv => whnf))
    exact AFin.mk ⟨rfl, rfl⟩
theorem n11  : NSpec 28 [] (nV 1) := by
  intro p H h
  have ha := h.at
  refine spec_of hT (f := 28) (fn := Go.Proofs.Tryz.f28) (c := body Go.Proofs.Tryz.f28) (by kernel_rfl) (by kernel_rfl) ?_
  cases h <;>
  · conv => whnf
    repeat ((first | refine AO.cons hT ?_ | refine AO.nil ?_ | refine AW.seq ?_ | refine AW.region ?_ | refine AW.cond ?_ | refine AW.block ?_ | refine AW.loop ?_ | refine AW.skip ?_ | refine AW.exit ?_ | refine AW.ret ?_ | refine AW.label ?_ | refine AW.scope ?_ | refine AF.one hT rfl ?_ | refine AF.nil ?_ | refine AF.imm hT rfl rfl rfl ?_ | refine AH.of hT rfl ?_ | refine AD.cons hT rfl ?_ | refine AD.nil ?_ | refine AQ.cons hT rfl ?_ | refine AQ.nil ?_); conv => whnf)
    refine ACall.nob (by kernel_rfl) n27 ha (fun _ => .nil) (fun _ => rfl) ?_
    conv => whnf
    repeat (first | (refine AW.label ?_; conv => whnf) | (refine AW.scope ?_; conv => whnf) | (refine AO.cons hT ?_; conv => whnf) | (refine AO.nil ?_; conv => whnf) | (refine AW.seq ?_; conv => whnf) | (refine AW.region ?_; conv => whnf) | (refine AW.cond ?_; conv => whnf) | (refine AW.block ?_; conv => whnf) | (refine AW.loop ?_; conv => whnf) | (refine AW.skip ?_; conv => whnf) | (refine AW.exit ?_; conv => whnf) | (refine AW.ret ?_; conv => whnf) | (refine AF.one hT rfl ?_; conv => whnf) | (refine AF.nil ?_; conv => whnf) | (refine AF.imm hT rfl rfl rfl ?_; conv => whnf) | (refine AH.of hT rfl ?_; conv => whnf) | (refine ASplit.yes rfl ?_; conv => whnf) | (refine ACond.yes rfl ?_; conv => whnf) | (refine ASplit.no rfl ?_; conv => whnf) | (refine ACond.no rfl ?_; conv => whnf) | (refine ASplit.yes (by decide) ?_; conv => whnf) | (refine ACond.yes (by decide) ?_; conv => whnf) | (refine AReq.mk (by decide) ?_; conv => whnf) | (refine AIdx.iff.2 ⟨by decide, ?_⟩; conv => whnf))
    exact AFin.mk ⟨rfl, rfl⟩
theorem n15 (at_ n : Int) : NSpec 29 [nV at_, nV n] (.tup [sV e0, nV 1]) := by
  intro p H h
  have ha := h.at
  refine spec_of hT (f := 29) (fn := Go.Proofs.Tryz.f29) (c := body Go.Proofs.Tryz.f29) (by kernel_rfl) (by kernel_rfl) ?_
  cases h <;>
  · conv => whnf
    repeat ((first | refine AO.cons hT ?_ | refine AO.nil ?_ | refine AW.seq ?_ | refine AW.region ?_ | refine AW.cond ?_ | refine AW.block ?_ | refine AW.loop ?_ | refine AW.skip ?_ | refine AW.exit ?_ | refine AW.ret ?_ | refine AW.label ?_ | refine AW.scope ?_ | refine AF.one hT rfl ?_ | refine AF.nil ?_ | refine AF.imm hT rfl rfl rfl ?_ | refine AH.of hT rfl ?_ | refine AD.cons hT rfl ?_ | refine AD.nil ?_ | refine AQ.cons hT rfl ?_ | refine AQ.nil ?_); conv => whnf)
    refine ACall.nob (by kernel_rfl) n27 ha (fun _ => .nil) (fun _ => rfl) ?_
    conv => whnf
    repeat (first | (refine AW.label ?_; conv => whnf) | (refine AW.scope ?_; conv => whnf) | (refine AO.cons hT ?_; conv => whnf) | (refine AO.nil ?_; conv => whnf) | (refine AW.seq ?_; conv => whnf) | (refine AW.region ?_; conv => whnf) | (refine AW.cond ?_; conv => whnf) | (refine AW.block ?_; conv => whnf) | (refine AW.loop ?_; conv => whnf) | (refine AW.skip ?_; conv => whnf) | (refine AW.exit ?_; conv => whnf) | (refine AW.ret ?_; conv => whnf) | (refine AF.one hT rfl ?_; conv => whnf) | (refine AF.nil ?_; conv => whnf) | (refine AF.imm hT rfl rfl rfl ?_; conv => whnf) | (refine AH.of hT rfl ?_; conv => whnf) | (refine ASplit.yes rfl ?_; conv => whnf) | (refine ACond.yes rfl ?_; conv => whnf) | (refine ASplit.no rfl ?_; conv => whnf) | (refine ACond.no rfl ?_; conv => whnf) | (refine ASplit.yes (by decide) ?_; conv => whnf) | (refine ACond.yes (by decide) ?_; conv => whnf) | (refine AReq.mk (by decide) ?_; conv => whnf) | (refine AIdx.iff.2 ⟨by decide, ?_⟩; conv => whnf))
    exact AFin.mk ⟨rfl, rfl⟩
theorem n24  : NSpec 44 [] (nV 0) := by
  intro p H h
  have ha := h.at
  refine spec_of hT (f := 44) (fn := Go.Proofs.Tryz.f44) (c := body Go.Proofs.Tryz.f44) (by kernel_rfl) (by kernel_rfl) ?_
  cases h <;>
  · conv => whnf
    repeat ((first | refine AO.cons hT ?_ | refine AO.nil ?_ | refine AW.seq ?_ | refine AW.region ?_ | refine AW.cond ?_ | refine AW.block ?_ | refine AW.loop ?_ | refine AW.skip ?_ | refine AW.exit ?_ | refine AW.ret ?_ | refine AW.label ?_ | refine AW.scope ?_ | refine AF.one hT rfl ?_ | refine AF.nil ?_ | refine AF.imm hT rfl rfl rfl ?_ | refine AH.of hT rfl ?_ | refine AD.cons hT rfl ?_ | refine AD.nil ?_ | refine AQ.cons hT rfl ?_ | refine AQ.nil ?_); conv => whnf)
    refine ACall.nob (by kernel_rfl) n31 ha (fun _ => .nil) (fun _ => rfl) ?_
    conv => whnf
    repeat (first | (refine AW.label ?_; conv => whnf) | (refine AW.scope ?_; conv => whnf) | (refine AO.cons hT ?_; conv => whnf) | (refine AO.nil ?_; conv => whnf) | (refine AW.seq ?_; conv => whnf) | (refine AW.region ?_; conv => whnf) | (refine AW.cond ?_; conv => whnf) | (refine AW.block ?_; conv => whnf) | (refine AW.loop ?_; conv => whnf) | (refine AW.skip ?_; conv => whnf) | (refine AW.exit ?_; conv => whnf) | (refine AW.ret ?_; conv => whnf) | (refine AF.one hT rfl ?_; conv => whnf) | (refine AF.nil ?_; conv => whnf) | (refine AF.imm hT rfl rfl rfl ?_; conv => whnf) | (refine AH.of hT rfl ?_; conv => whnf) | (refine ASplit.yes rfl ?_; conv => whnf) | (refine ACond.yes rfl ?_; conv => whnf) | (refine ASplit.no rfl ?_; conv => whnf) | (refine ACond.no rfl ?_; conv => whnf) | (refine ASplit.yes (by decide) ?_; conv => whnf) | (refine ACond.yes (by decide) ?_; conv => whnf) | (refine AReq.mk (by decide) ?_; conv => whnf) | (refine AIdx.iff.2 ⟨by decide, ?_⟩; conv => whnf))
    exact AFin.mk ⟨rfl, rfl⟩
theorem n12  : NSpec 22 [] (nV 1) := by
  intro p H h
  have ha := h.at
  refine spec_of hT (f := 22) (fn := Go.Proofs.Tryz.f22) (c := body Go.Proofs.Tryz.f22) (by kernel_rfl) (by kernel_rfl) ?_
  cases h <;>
  · conv => whnf
    repeat ((first | refine AO.cons hT ?_ | refine AO.nil ?_ | refine AW.seq ?_ | refine AW.region ?_ | refine AW.cond ?_ | refine AW.block ?_ | refine AW.loop ?_ | refine AW.skip ?_ | refine AW.exit ?_ | refine AW.ret ?_ | refine AW.label ?_ | refine AW.scope ?_ | refine AF.one hT rfl ?_ | refine AF.nil ?_ | refine AF.imm hT rfl rfl rfl ?_ | refine AH.of hT rfl ?_ | refine AD.cons hT rfl ?_ | refine AD.nil ?_ | refine AQ.cons hT rfl ?_ | refine AQ.nil ?_); conv => whnf)
    refine ACall.nob (by kernel_rfl) n31 ha (fun _ => .nil) (fun _ => rfl) ?_
    conv => whnf
    repeat (first | (refine AW.label ?_; conv => whnf) | (refine AW.scope ?_; conv => whnf) | (refine AO.cons hT ?_; conv => whnf) | (refine AO.nil ?_; conv => whnf) | (refine AW.seq ?_; conv => whnf) | (refine AW.region ?_; conv => whnf) | (refine AW.cond ?_; conv => whnf) | (refine AW.block ?_; conv => whnf) | (refine AW.loop ?_; conv => whnf) | (refine AW.skip ?_; conv => whnf) | (refine AW.exit ?_; conv => whnf) | (refine AW.ret ?_; conv => whnf) | (refine AF.one hT rfl ?_; conv => whnf) | (refine AF.nil ?_; conv => whnf) | (refine AF.imm hT rfl rfl rfl ?_; conv => whnf) | (refine AH.of hT rfl ?_; conv => whnf) | (refine ASplit.yes rfl ?_; conv => whnf) | (refine ACond.yes rfl ?_; conv => whnf) | (refine ASplit.no rfl ?_; conv => whnf) | (refine ACond.no rfl ?_; conv => whnf) | (refine ASplit.yes (by decide) ?_; conv => whnf) | (refine ACond.yes (by decide) ?_; conv => whnf) | (refine AReq.mk (by decide) ?_; conv => whnf) | (refine AIdx.iff.2 ⟨by decide, ?_⟩; conv => whnf))
    exact AFin.mk ⟨rfl, rfl⟩
theorem n40 (n : Int) : NSpec 31 [nV n] (nV 1) := by
  intro p H h
  have ha := h.at
  refine spec_of hT (f := 31) (fn := Go.Proofs.Tryz.f31) (c := body Go.Proofs.Tryz.f31) (by kernel_rfl) (by kernel_rfl) ?_
  cases h <;>
  · conv => whnf
    repeat ((first | refine AO.cons hT ?_ | refine AO.nil ?_ | refine AW.seq ?_ | refine AW.region ?_ | refine AW.cond ?_ | refine AW.block ?_ | refine AW.loop ?_ | refine AW.skip ?_ | refine AW.exit ?_ | refine AW.ret ?_ | refine AW.label ?_ | refine AW.scope ?_ | refine AF.one hT rfl ?_ | refine AF.nil ?_ | refine AF.imm hT rfl rfl rfl ?_ | refine AH.of hT rfl ?_ | refine AD.cons hT rfl ?_ | refine AD.nil ?_ | refine AQ.cons hT rfl ?_ | refine AQ.nil ?_); conv => whnf)
    refine ACall.nob (by kernel_rfl) n27 ha (fun _ => .nil) (fun _ => rfl) ?_
    conv => whnf
    repeat (first | (refine AW.label ?_; conv => whnf) | (refine AW.scope ?_; conv => whnf) | (refine AO.cons hT ?_; conv => whnf) | (refine AO.nil ?_; conv => whnf) | (refine AW.seq ?_; conv => whnf) | (refine AW.region ?_; conv => whnf) | (refine AW.cond ?_; conv => whnf) | (refine AW.block ?_; conv => whnf) | (refine AW.loop ?_; conv => whnf) | (refine AW.skip ?_; conv => whnf) | (refine AW.exit ?_; conv => whnf) | (refine AW.ret ?_; conv => whnf) | (refine AF.one hT rfl ?_; conv => whnf) | (refine AF.nil ?_; conv => whnf) | (refine AF.imm hT rfl rfl rfl ?_; conv => whnf) | (refine AH.of hT rfl ?_; conv => whnf) | (refine ASplit.yes rfl ?_; conv => whnf) | (refine ACond.yes rfl ?_; conv => whnf) | (refine ASplit.no rfl ?_; conv => whnf) | (refine ACond.no rfl ?_; conv => whnf) | (refine ASplit.yes (by decide) ?_; conv => whnf) | (refine ACond.yes (by decide) ?_; conv => whnf) | (refine AReq.mk (by decide) ?_; conv => whnf) | (refine AIdx.iff.2 ⟨by decide, ?_⟩; conv => whnf))
    exact AFin.mk ⟨rfl, rfl⟩
theorem n23  : NSpec 30 [] (.v (.pointer none)) := by
  intro p H h
  have ha := h.at
  refine spec_of hT (f := 30) (fn := Go.Proofs.Tryz.f30) (c := body Go.Proofs.Tryz.f30) (by kernel_rfl) (by kernel_rfl) ?_
  cases h <;>
  · conv => whnf
    repeat ((first | refine AO.cons hT ?_ | refine AO.nil ?_ | refine AW.seq ?_ | refine AW.region ?_ | refine AW.cond ?_ | refine AW.block ?_ | refine AW.loop ?_ | refine AW.skip ?_ | refine AW.exit ?_ | refine AW.ret ?_ | refine AW.label ?_ | refine AW.scope ?_ | refine AF.one hT rfl ?_ | refine AF.nil ?_ | refine AF.imm hT rfl rfl rfl ?_ | refine AH.of hT rfl ?_ | refine AD.cons hT rfl ?_ | refine AD.nil ?_ | refine AQ.cons hT rfl ?_ | refine AQ.nil ?_); conv => whnf)
    refine ACall.nob (by kernel_rfl) n31 ha (fun _ => .nil) (fun _ => rfl) ?_
    conv => whnf
    repeat (first | (refine AW.label ?_; conv => whnf) | (refine AW.scope ?_; conv => whnf) | (refine AO.cons hT ?_; conv => whnf) | (refine AO.nil ?_; conv => whnf) | (refine AW.seq ?_; conv => whnf) | (refine AW.region ?_; conv => whnf) | (refine AW.cond ?_; conv => whnf) | (refine AW.block ?_; conv => whnf) | (refine AW.loop ?_; conv => whnf) | (refine AW.skip ?_; conv => whnf) | (refine AW.exit ?_; conv => whnf) | (refine AW.ret ?_; conv => whnf) | (refine AF.one hT rfl ?_; conv => whnf) | (refine AF.nil ?_; conv => whnf) | (refine AF.imm hT rfl rfl rfl ?_; conv => whnf) | (refine AH.of hT rfl ?_; conv => whnf) | (refine ASplit.yes rfl ?_; conv => whnf) | (refine ACond.yes rfl ?_; conv => whnf) | (refine ASplit.no rfl ?_; conv => whnf) | (refine ACond.no rfl ?_; conv => whnf) | (refine ASplit.yes (by decide) ?_; conv => whnf) | (refine ACond.yes (by decide) ?_; conv => whnf) | (refine AReq.mk (by decide) ?_; conv => whnf) | (refine AIdx.iff.2 ⟨by decide, ?_⟩; conv => whnf))
    exact AFin.mk ⟨rfl, rfl⟩
end Go.Aw.VE

set_option linter.unusedSimpArgs false
set_option linter.unusedVariables false
set_option maxHeartbeats 4000000
namespace Go.Aw.VE
open Go Go.Proofs

theorem n14 (c : Ch) : NSpec 23 [.agg (chC c)] (nV 1) := by
  intro p H h
  refine spec_of hT (f := 23) (fn := Go.Proofs.Tryz.f23) (c := body Go.Proofs.Tryz.f23) (by kernel_rfl) (by kernel_rfl) ?_
  cases h with
  | nil =>
    conv => whnf
    repeat ((first | refine AO.cons hT ?_ | refine AO.nil ?_ | refine AW.seq ?_ | refine AW.region ?_ | refine AW.cond ?_ | refine AW.block ?_ | refine AW.loop ?_ | refine AW.skip ?_ | refine AW.exit ?_ | refine AW.ret ?_ | refine AW.label ?_ | refine AW.scope ?_ | refine AF.one hT rfl ?_ | refine AF.nil ?_ | refine AF.imm hT rfl rfl rfl ?_ | refine AH.of hT rfl ?_ | refine AD.cons hT rfl ?_ | refine AD.nil ?_ | refine AQ.cons hT rfl ?_ | refine AQ.nil ?_); conv => whnf)
    refine ACall.nob (by kernel_rfl) n31 .nil (fun _ => .nil) (fun _ => rfl) ?_
    conv => whnf
    repeat (first | (refine AW.label ?_; conv => whnf) | (refine AW.scope ?_; conv => whnf) | (refine AO.cons hT ?_; conv => whnf) | (refine AO.nil ?_; conv => whnf) | (refine AW.seq ?_; conv => whnf) | (refine AW.region ?_; conv => whnf) | (refine AW.cond ?_; conv => whnf) | (refine AW.block ?_; conv => whnf) | (refine AW.loop ?_; conv => whnf) | (refine AW.skip ?_; conv => whnf) | (refine AW.exit ?_; conv => whnf) | (refine AW.ret ?_; conv => whnf) | (refine AF.one hT rfl ?_; conv => whnf) | (refine AF.nil ?_; conv => whnf) | (refine AF.imm hT rfl rfl rfl ?_; conv => whnf) | (refine AH.of hT rfl ?_; conv => whnf) | (refine ASplit.yes rfl ?_; conv => whnf) | (refine ACond.yes rfl ?_; conv => whnf) | (refine ASplit.no rfl ?_; conv => whnf) | (refine ACond.no rfl ?_; conv => whnf) | (refine ASplit.yes (by decide) ?_; conv => whnf) | (refine ACond.yes (by decide) ?_; conv => whnf) | (refine AReq.mk (by decide) ?_; conv => whnf) | (refine AIdx.iff.2 ⟨by decide, ?_⟩; conv => whnf))
    exact AFin.val rfl ⟨rfl, rfl⟩
  | emp =>
    conv => whnf
    repeat ((first | refine AO.cons hT ?_ | refine AO.nil ?_ | refine AW.seq ?_ | refine AW.region ?_ | refine AW.cond ?_ | refine AW.block ?_ | refine AW.loop ?_ | refine AW.skip ?_ | refine AW.exit ?_ | refine AW.ret ?_ | refine AW.label ?_ | refine AW.scope ?_ | refine AF.one hT rfl ?_ | refine AF.nil ?_ | refine AF.imm hT rfl rfl rfl ?_ | refine AH.of hT rfl ?_ | refine AD.cons hT rfl ?_ | refine AD.nil ?_ | refine AQ.cons hT rfl ?_ | refine AQ.nil ?_); conv => whnf)
    refine ACall.nob (by kernel_rfl) n31 (.emp rfl) (fun _ => .nil) (fun _ => rfl) ?_
    conv => whnf
    repeat (first | (refine AW.label ?_; conv => whnf) | (refine AW.scope ?_; conv => whnf) | (refine AO.cons hT ?_; conv => whnf) | (refine AO.nil ?_; conv => whnf) | (refine AW.seq ?_; conv => whnf) | (refine AW.region ?_; conv => whnf) | (refine AW.cond ?_; conv => whnf) | (refine AW.block ?_; conv => whnf) | (refine AW.loop ?_; conv => whnf) | (refine AW.skip ?_; conv => whnf) | (refine AW.exit ?_; conv => whnf) | (refine AW.ret ?_; conv => whnf) | (refine AF.one hT rfl ?_; conv => whnf) | (refine AF.nil ?_; conv => whnf) | (refine AF.imm hT rfl rfl rfl ?_; conv => whnf) | (refine AH.of hT rfl ?_; conv => whnf) | (refine ASplit.yes rfl ?_; conv => whnf) | (refine ACond.yes rfl ?_; conv => whnf) | (refine ASplit.no rfl ?_; conv => whnf) | (refine ACond.no rfl ?_; conv => whnf) | (refine ASplit.yes (by decide) ?_; conv => whnf) | (refine ACond.yes (by decide) ?_; conv => whnf) | (refine AReq.mk (by decide) ?_; conv => whnf) | (refine AIdx.iff.2 ⟨by decide, ?_⟩; conv => whnf))
    exact AFin.to (nV 1) [dE] (Conv.ren [0] _ (by intro i hi; rcases i with _ | i <;> first | rfl | (change i + 1 < 1 at hi; omega)) (by decide) (Fit.refl _) (.same rfl .nil)) ⟨rfl, rfl⟩
end Go.Aw.VE

set_option linter.unusedSimpArgs false
set_option linter.unusedVariables false
set_option maxHeartbeats 4000000
namespace Go.Aw.VE
open Go Go.Proofs

/-- a call of a device -/
structure Ac where
  kind : Int
  at_ : Int
  n : Int
  byte : UInt8
  ch : Ch
def acC (a : Ac) : List AV := [nV a.kind, nV a.at_, nV a.n, byteC a.byte, .vs 1 a.ch.keep.length (a.ch.keep.map bV), nV a.ch.torn, nV a.ch.cut]
theorem acC_ren (ρ : Nat → Nat) (a : Ac) : renL ρ (acC a) = acC a := by simp only [acC, renL, AV.ren, bVs_ren, nV, byteC]
def acT (a : Ac) : ByteArray := if a.n < 0 then ⟨#[115, 104, 111, 114, 116]⟩ else fillS a.n.toNat a.byte
theorem f67 (l : List Ac) (hl : l.length ≤ 9223372036854775807) : Fun P 67 [.vs 7 l.length (l.flatMap acC)] (.v (.bool (decide (l.length ≤ 60 ∧ ∀ a ∈ l, a.n ≤ 100 ∧ a.ch.keep.length ≤ 3000)))) := by
  refine spec_of hT (f := 67) (fn := Go.Proofs.Tryz.f67) (c := body Go.Proofs.Tryz.f67) (by kernel_rfl) (by kernel_rfl) ?_
  conv => whnf
  repeat ((first | refine AO.cons hT ?_ | refine AO.nil ?_ | refine AW.seq ?_ | refine AW.region ?_ | refine AW.cond ?_ | refine AW.block ?_ | refine AW.loop ?_ | refine AW.skip ?_ | refine AW.exit ?_ | refine AW.ret ?_ | refine AW.label ?_ | refine AW.scope ?_ | refine AF.one hT rfl ?_ | refine AF.nil ?_ | refine AF.imm hT rfl rfl rfl ?_ | refine AH.of hT rfl ?_ | refine AD.cons hT rfl ?_ | refine AD.nil ?_ | refine AQ.cons hT rfl ?_ | refine AQ.nil ?_); conv => whnf)
  refine ACond.dec (fun h => ?_) (fun h => ?_)
  · conv => whnf
    repeat ((first | refine AO.cons hT ?_ | refine AO.nil ?_ | refine AW.seq ?_ | refine AW.region ?_ | refine AW.cond ?_ | refine AW.block ?_ | refine AW.loop ?_ | refine AW.skip ?_ | refine AW.exit ?_ | refine AW.ret ?_ | refine AW.label ?_ | refine AW.scope ?_ | refine AF.one hT rfl ?_ | refine AF.nil ?_ | refine AF.imm hT rfl rfl rfl ?_ | refine AH.of hT rfl ?_ | refine AD.cons hT rfl ?_ | refine AD.nil ?_ | refine AQ.cons hT rfl ?_ | refine AQ.nil ?_); conv => whnf)
    refine AFin.val rfl ⟨?_, rfl⟩
    rw [decide_eq_false (fun e => by omega)]
  conv => whnf
  repeat ((first | refine AO.cons hT ?_ | refine AO.nil ?_ | refine AW.seq ?_ | refine AW.region ?_ | refine AW.cond ?_ | refine AW.block ?_ | refine AW.loop ?_ | refine AW.skip ?_ | refine AW.exit ?_ | refine AW.ret ?_ | refine AW.label ?_ | refine AW.scope ?_ | refine AF.one hT rfl ?_ | refine AF.nil ?_ | refine AF.imm hT rfl rfl rfl ?_ | refine AH.of hT rfl ?_ | refine AD.cons hT rfl ?_ | refine AD.nil ?_ | refine AQ.cons hT rfl ?_ | refine AQ.nil ?_); conv => whnf)
  refine ALoop.mk (fun n E H => ∃ i : Nat, i ≤ l.length ∧ (∀ k, k < i → ∀ a, l[k]? = some a → a.n ≤ 100 ∧ a.ch.keep.length ≤ 3000) ∧ n = l.length - i ∧ E = pad [.vs 7 l.length (l.flatMap acC), .any, .v (.bool false), nV i] 29 ∧ H = [])
    (n := l.length) _ _ ⟨0, by omega, by omega, rfl, rfl, rfl⟩ (Conv.fit ?_) ?_
  · repeat' (first | exact Fit.nil | refine Fit.any ?_ | refine Fit.same ?_)
  rintro _ _ _ ⟨i, hi, hok, rfl, rfl, rfl⟩
  conv => whnf
  repeat ((first | refine AO.cons hT ?_ | refine AO.nil ?_ | refine AW.seq ?_ | refine AW.region ?_ | refine AW.cond ?_ | refine AW.block ?_ | refine AW.loop ?_ | refine AW.skip ?_ | refine AW.exit ?_ | refine AW.ret ?_ | refine AW.label ?_ | refine AW.scope ?_ | refine AF.one hT rfl ?_ | refine AF.nil ?_ | refine AF.imm hT rfl rfl rfl ?_ | refine AH.of hT rfl ?_ | refine AD.cons hT rfl ?_ | refine AD.nil ?_ | refine AQ.cons hT rfl ?_ | refine AQ.nil ?_); conv => whnf)
  refine ACond.dec (fun h2 => ?_) (fun h2 => ?_)
  · have hil : i < l.length := by omega
    have hbad : ¬ (l[i].n ≤ 100 ∧ l[i].ch.keep.length ≤ 3000) → ¬ (l.length ≤ 60 ∧ ∀ a ∈ l, a.n ≤ 100 ∧ a.ch.keep.length ≤ 3000) := fun g e => g (e.2 _ (List.getElem_mem hil))
    conv => whnf
    repeat ((first | refine AO.cons hT ?_ | refine AO.nil ?_ | refine AW.seq ?_ | refine AW.region ?_ | refine AW.cond ?_ | refine AW.block ?_ | refine AW.loop ?_ | refine AW.skip ?_ | refine AW.exit ?_ | refine AW.ret ?_ | refine AW.label ?_ | refine AW.scope ?_ | refine AF.one hT rfl ?_ | refine AF.nil ?_ | refine AF.imm hT rfl rfl rfl ?_ | refine AH.of hT rfl ?_ | refine AD.cons hT rfl ?_ | refine AD.nil ?_ | refine AQ.cons hT rfl ?_ | refine AQ.nil ?_); conv => whnf)
    refine AReq.mk (by omega) ?_
    conv => whnf
    repeat ((first | refine AO.cons hT ?_ | refine AO.nil ?_ | refine AW.seq ?_ | refine AW.region ?_ | refine AW.cond ?_ | refine AW.block ?_ | refine AW.loop ?_ | refine AW.skip ?_ | refine AW.exit ?_ | refine AW.ret ?_ | refine AW.label ?_ | refine AW.scope ?_ | refine AF.one hT rfl ?_ | refine AF.nil ?_ | refine AF.imm hT rfl rfl rfl ?_ | refine AH.of hT rfl ?_ | refine AD.cons hT rfl ?_ | refine AD.nil ?_ | refine AQ.cons hT rfl ?_ | refine AQ.nil ?_); conv => whnf)
    refine AIdx.flat (enc := acC) (fun _ => rfl) (xs := l) (i := i) hil ?_
    conv => whnf
    repeat ((first | refine AO.cons hT ?_ | refine AO.nil ?_ | refine AW.seq ?_ | refine AW.region ?_ | refine AW.cond ?_ | refine AW.block ?_ | refine AW.loop ?_ | refine AW.skip ?_ | refine AW.exit ?_ | refine AW.ret ?_ | refine AW.label ?_ | refine AW.scope ?_ | refine AF.one hT rfl ?_ | refine AF.nil ?_ | refine AF.imm hT rfl rfl rfl ?_ | refine AH.of hT rfl ?_ | refine AD.cons hT rfl ?_ | refine AD.nil ?_ | refine AQ.cons hT rfl ?_ | refine AQ.nil ?_); conv => whnf)
    refine ASplit.dec (fun h3 => ?_) (fun h3 => ?_)
    · conv => whnf
      repeat (first | (refine AW.label ?_; conv => whnf) | (refine AW.scope ?_; conv => whnf) | (refine AO.cons hT ?_; conv => whnf) | (refine AO.nil ?_; conv => whnf) | (refine AW.seq ?_; conv => whnf) | (refine AW.region ?_; conv => whnf) | (refine AW.cond ?_; conv => whnf) | (refine AW.block ?_; conv => whnf) | (refine AW.loop ?_; conv => whnf) | (refine AW.skip ?_; conv => whnf) | (refine AW.exit ?_; conv => whnf) | (refine AW.ret ?_; conv => whnf) | (refine AF.one hT rfl ?_; conv => whnf) | (refine AF.nil ?_; conv => whnf) | (refine AF.imm hT rfl rfl rfl ?_; conv => whnf) | (refine AH.of hT rfl ?_; conv => whnf) | (refine ASplit.yes rfl ?_; conv => whnf) | (refine ACond.yes rfl ?_; conv => whnf) | (refine ASplit.no rfl ?_; conv => whnf) | (refine ACond.no rfl ?_; conv => whnf) | (refine ASplit.yes (by decide) ?_; conv => whnf) | (refine ACond.yes (by decide) ?_; conv => whnf) | (refine AReq.mk (by decide) ?_; conv => whnf) | (refine AIdx.iff.2 ⟨by decide, ?_⟩; conv => whnf))
      refine AOut.stay ?_
      conv => whnf
      repeat (first | (refine AW.label ?_; conv => whnf) | (refine AW.scope ?_; conv => whnf) | (refine AO.cons hT ?_; conv => whnf) | (refine AO.nil ?_; conv => whnf) | (refine AW.seq ?_; conv => whnf) | (refine AW.region ?_; conv => whnf) | (refine AW.cond ?_; conv => whnf) | (refine AW.block ?_; conv => whnf) | (refine AW.loop ?_; conv => whnf) | (refine AW.skip ?_; conv => whnf) | (refine AW.exit ?_; conv => whnf) | (refine AW.ret ?_; conv => whnf) | (refine AF.one hT rfl ?_; conv => whnf) | (refine AF.nil ?_; conv => whnf) | (refine AF.imm hT rfl rfl rfl ?_; conv => whnf) | (refine AH.of hT rfl ?_; conv => whnf) | (refine ASplit.yes rfl ?_; conv => whnf) | (refine ACond.yes rfl ?_; conv => whnf) | (refine ASplit.no rfl ?_; conv => whnf) | (refine ACond.no rfl ?_; conv => whnf) | (refine ASplit.yes (by decide) ?_; conv => whnf) | (refine ACond.yes (by decide) ?_; conv => whnf) | (refine AReq.mk (by decide) ?_; conv => whnf) | (refine AIdx.iff.2 ⟨by decide, ?_⟩; conv => whnf))
      refine AFin.val rfl ⟨?_, rfl⟩
      rw [decide_eq_false (hbad (fun e => by omega))]
    conv => whnf
    repeat ((first | refine AO.cons hT ?_ | refine AO.nil ?_ | refine AW.seq ?_ | refine AW.region ?_ | refine AW.cond ?_ | refine AW.block ?_ | refine AW.loop ?_ | refine AW.skip ?_ | refine AW.exit ?_ | refine AW.ret ?_ | refine AW.label ?_ | refine AW.scope ?_ | refine AF.one hT rfl ?_ | refine AF.nil ?_ | refine AF.imm hT rfl rfl rfl ?_ | refine AH.of hT rfl ?_ | refine AD.cons hT rfl ?_ | refine AD.nil ?_ | refine AQ.cons hT rfl ?_ | refine AQ.nil ?_); conv => whnf)
    refine AReq.mk (by omega) ?_
    conv => whnf
    repeat ((first | refine AO.cons hT ?_ | refine AO.nil ?_ | refine AW.seq ?_ | refine AW.region ?_ | refine AW.cond ?_ | refine AW.block ?_ | refine AW.loop ?_ | refine AW.skip ?_ | refine AW.exit ?_ | refine AW.ret ?_ | refine AW.label ?_ | refine AW.scope ?_ | refine AF.one hT rfl ?_ | refine AF.nil ?_ | refine AF.imm hT rfl rfl rfl ?_ | refine AH.of hT rfl ?_ | refine AD.cons hT rfl ?_ | refine AD.nil ?_ | refine AQ.cons hT rfl ?_ | refine AQ.nil ?_); conv => whnf)
    refine AIdx.flat (enc := acC) (fun _ => rfl) (xs := l) (i := i) hil ?_
    conv => whnf
    repeat ((first | refine AO.cons hT ?_ | refine AO.nil ?_ | refine AW.seq ?_ | refine AW.region ?_ | refine AW.cond ?_ | refine AW.block ?_ | refine AW.loop ?_ | refine AW.skip ?_ | refine AW.exit ?_ | refine AW.ret ?_ | refine AW.label ?_ | refine AW.scope ?_ | refine AF.one hT rfl ?_ | refine AF.nil ?_ | refine AF.imm hT rfl rfl rfl ?_ | refine AH.of hT rfl ?_ | refine AD.cons hT rfl ?_ | refine AD.nil ?_ | refine AQ.cons hT rfl ?_ | refine AQ.nil ?_); conv => whnf)
    refine ACond.dec (fun h4 => ?_) (fun h4 => ?_)
    · conv => whnf
      repeat (first | (refine AW.label ?_; conv => whnf) | (refine AW.scope ?_; conv => whnf) | (refine AO.cons hT ?_; conv => whnf) | (refine AO.nil ?_; conv => whnf) | (refine AW.seq ?_; conv => whnf) | (refine AW.region ?_; conv => whnf) | (refine AW.cond ?_; conv => whnf) | (refine AW.block ?_; conv => whnf) | (refine AW.loop ?_; conv => whnf) | (refine AW.skip ?_; conv => whnf) | (refine AW.exit ?_; conv => whnf) | (refine AW.ret ?_; conv => whnf) | (refine AF.one hT rfl ?_; conv => whnf) | (refine AF.nil ?_; conv => whnf) | (refine AF.imm hT rfl rfl rfl ?_; conv => whnf) | (refine AH.of hT rfl ?_; conv => whnf) | (refine ASplit.yes rfl ?_; conv => whnf) | (refine ACond.yes rfl ?_; conv => whnf) | (refine ASplit.no rfl ?_; conv => whnf) | (refine ACond.no rfl ?_; conv => whnf) | (refine ASplit.yes (by decide) ?_; conv => whnf) | (refine ACond.yes (by decide) ?_; conv => whnf) | (refine AReq.mk (by decide) ?_; conv => whnf) | (refine AIdx.iff.2 ⟨by decide, ?_⟩; conv => whnf))
      refine AOut.stay ?_
      conv => whnf
      repeat (first | (refine AW.label ?_; conv => whnf) | (refine AW.scope ?_; conv => whnf) | (refine AO.cons hT ?_; conv => whnf) | (refine AO.nil ?_; conv => whnf) | (refine AW.seq ?_; conv => whnf) | (refine AW.region ?_; conv => whnf) | (refine AW.cond ?_; conv => whnf) | (refine AW.block ?_; conv => whnf) | (refine AW.loop ?_; conv => whnf) | (refine AW.skip ?_; conv => whnf) | (refine AW.exit ?_; conv => whnf) | (refine AW.ret ?_; conv => whnf) | (refine AF.one hT rfl ?_; conv => whnf) | (refine AF.nil ?_; conv => whnf) | (refine AF.imm hT rfl rfl rfl ?_; conv => whnf) | (refine AH.of hT rfl ?_; conv => whnf) | (refine ASplit.yes rfl ?_; conv => whnf) | (refine ACond.yes rfl ?_; conv => whnf) | (refine ASplit.no rfl ?_; conv => whnf) | (refine ACond.no rfl ?_; conv => whnf) | (refine ASplit.yes (by decide) ?_; conv => whnf) | (refine ACond.yes (by decide) ?_; conv => whnf) | (refine AReq.mk (by decide) ?_; conv => whnf) | (refine AIdx.iff.2 ⟨by decide, ?_⟩; conv => whnf))
      refine AFin.val rfl ⟨?_, rfl⟩
      rw [decide_eq_false (hbad (fun e => by omega))]
    · conv => whnf
      repeat ((first | refine AO.cons hT ?_ | refine AO.nil ?_ | refine AW.seq ?_ | refine AW.region ?_ | refine AW.cond ?_ | refine AW.block ?_ | refine AW.loop ?_ | refine AW.skip ?_ | refine AW.exit ?_ | refine AW.ret ?_ | refine AW.label ?_ | refine AW.scope ?_ | refine AF.one hT rfl ?_ | refine AF.nil ?_ | refine AF.imm hT rfl rfl rfl ?_ | refine AH.of hT rfl ?_ | refine AD.cons hT rfl ?_ | refine AD.nil ?_ | refine AQ.cons hT rfl ?_ | refine AQ.nil ?_); conv => whnf)
      rw [wrap_i64 ((i : Int) + 1) (by omega) (by omega)]
      refine AHead.mk (l.length - (i + 1)) _ _ (by omega) ⟨i + 1, by omega, ?_, rfl, rfl, rfl⟩ (Conv.fit ?_)
      · intro k hk a ha
        rcases Nat.lt_or_ge k i with h1 | h1
        · exact hok k h1 a ha
        · obtain rfl : k = i := by omega
          rw [List.getElem?_eq_getElem hil] at ha
          cases ha
          exact ⟨by omega, by omega⟩
      · repeat' (first | exact Fit.nil | refine Fit.any ?_ | refine Fit.same ?_)
  · obtain rfl : i = l.length := by omega
    conv => whnf
    repeat ((first | refine AO.cons hT ?_ | refine AO.nil ?_ | refine AW.seq ?_ | refine AW.region ?_ | refine AW.cond ?_ | refine AW.block ?_ | refine AW.loop ?_ | refine AW.skip ?_ | refine AW.exit ?_ | refine AW.ret ?_ | refine AW.label ?_ | refine AW.scope ?_ | refine AF.one hT rfl ?_ | refine AF.nil ?_ | refine AF.imm hT rfl rfl rfl ?_ | refine AH.of hT rfl ?_ | refine AD.cons hT rfl ?_ | refine AD.nil ?_ | refine AQ.cons hT rfl ?_ | refine AQ.nil ?_); conv => whnf)
    refine AOut.stay ?_
    conv => whnf
    repeat ((first | refine AO.cons hT ?_ | refine AO.nil ?_ | refine AW.seq ?_ | refine AW.region ?_ | refine AW.cond ?_ | refine AW.block ?_ | refine AW.loop ?_ | refine AW.skip ?_ | refine AW.exit ?_ | refine AW.ret ?_ | refine AW.label ?_ | refine AW.scope ?_ | refine AF.one hT rfl ?_ | refine AF.nil ?_ | refine AF.imm hT rfl rfl rfl ?_ | refine AH.of hT rfl ?_ | refine AD.cons hT rfl ?_ | refine AD.nil ?_ | refine AQ.cons hT rfl ?_ | refine AQ.nil ?_); conv => whnf)
    refine AFin.val rfl ⟨?_, rfl⟩
    rw [decide_eq_true]
    refine ⟨by omega, fun a ha => ?_⟩
    obtain ⟨k, hk⟩ := List.getElem?_of_mem ha
    exact hok k (List.getElem?_eq_some_iff.1 hk).1 a hk
end Go.Aw.VE

