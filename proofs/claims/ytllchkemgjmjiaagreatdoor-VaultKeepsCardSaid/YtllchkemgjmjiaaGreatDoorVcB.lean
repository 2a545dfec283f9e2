/-
  The statement VaultKeeps: opened again, a vault tells the text that was laid last, and all bodies behind that, without any condition.
-/
import Derived.Test.YtllchkemgjmjiaaGreatDoorVcA
import Derived.Test.YtllchkemgjmjiaaGreatDoorShelfP
set_option linter.unusedSimpArgs false
set_option linter.unusedVariables false
set_option linter.unusedSimpArgs false
set_option linter.unusedVariables false
set_option maxHeartbeats 4000000
namespace Go.Aw.VE
open Go

theorem nVs_ren (ρ : Nat → Nat) (l : List Int) : renL ρ (l.map nV) = l.map nV := by
  rw [renL_map, List.map_map]; rfl
def mB (L : List (Int × List UInt8)) (bs : List Nat) (ck : Nat) : ABlk := .map (em nV cA L) bs ck
theorem mB_ren (ρ : Nat → Nat) (L : List (Int × List UInt8)) (bs : List Nat) (ck : Nat) : (mB L bs ck).ren ρ = mB L bs ck := by simp only [mB, ABlk.ren, em_ren]
def kAt (L : List (Int × List UInt8)) (i : Nat) : Int := (L.getD i (0, [])).1

/-- what the round makes of what is collected -/
def sH (L : List (Int × List UInt8)) (bs : List Nat) (ck : Nat) (lp : ABlk) (O : List Int) (y : ABlk) : List ABlk :=
  [mB L bs ck, .cells 95 [.mp 0], .cells 100 [.ms 1 5 0 O.length], lp, y, .cells 3 (O.map nV)]

theorem f95 (L : List (Int × List UInt8)) (bs : List Nat) (ck : Nat) (hL : L.length ≤ 1000000) (b : Nat) (E0 : List AV) (asg body : Code) (hE0 : ∀ N, renL (nm [0, 1, 2, 3, 4, 6] N) E0 = E0) (hE1 : ∀ N, renL (nm [0, 1, 2, 3, 5] N) E0 = E0)
    (hR : ∀ (O : List Int) (k : Int) (y : ABlk), O.length ≤ 1000000 → ARd P T b asg (fun E2 H2 => H2 = sH L bs ck (.loop b (LpR .ready #[7] asg body) E0) O y ∧
      ARd P T b body (fun E3 H3 => H3[3]? = some (.loop b (LpR .busy #[7] asg body) E0) ∧ H3.set 3 (.loop b (LpR .ready #[7] asg body) E0) = [mB L bs ck, .cells 95 [.mp 0], .cells 100 [.ms 1 6 0 (O.length + 1)], .loop b (LpR .ready #[7] asg body) E0, y, .dead, .cells 3 ((O ++ [k]).map nV)]) E2 (sH L bs ck (.loop b (LpR .busy #[7] asg body) E0) O y)) (setPs [7] [nV k] E0) (sH L bs ck (.loop b (LpR .ready #[7] asg body) E0) O y)) :
    Spec P 95 [.v (.func (.yield b) #[] #[]), .ptr 1 0] [mB L bs ck, .cells 95 [.mp 0], .cells 100 [.v (.slice none 0 0)], .loop b (LpR .ready #[7] asg body) E0]
      fun _ H' => ∃ O : List Int, O.Perm (L.map (·.1)) ∧ H' = [mB L bs ck, .cells 95 [.mp 0], .cells 100 [.ms 1 4 0 O.length], .loop b (LpR .ready #[7] asg body) E0, .cells 3 (O.map nV)] := by
  refine spec_of hT (f := 95) (fn := Go.Proofs.Tryz.f95) (c := Go.Aw.VE.body Go.Proofs.Tryz.f95) (by kernel_rfl) (by kernel_rfl) ?_
  conv => whnf
  repeat ((first | refine AO.cons hT ?_ | refine AO.nil ?_ | refine AW.seq ?_ | refine AW.region ?_ | refine AW.cond ?_ | refine AW.block ?_ | refine AW.loop ?_ | refine AW.skip ?_ | refine AW.exit ?_ | refine AW.ret ?_ | refine AW.label ?_ | refine AW.scope ?_ | refine AF.one hT rfl ?_ | refine AF.nil ?_ | refine AF.imm hT rfl rfl rfl ?_ | refine AH.of hT rfl ?_ | refine AD.cons hT rfl ?_ | refine AD.nil ?_ | refine AQ.cons hT rfl ?_ | refine AQ.nil ?_); conv => whnf)
  refine AOp.range und60 rfl rfl ?_
  conv => whnf
  repeat ((first | refine AO.cons hT ?_ | refine AO.nil ?_ | refine AW.seq ?_ | refine AW.region ?_ | refine AW.cond ?_ | refine AW.block ?_ | refine AW.loop ?_ | refine AW.skip ?_ | refine AW.exit ?_ | refine AW.ret ?_ | refine AW.label ?_ | refine AW.scope ?_ | refine AF.one hT rfl ?_ | refine AF.nil ?_ | refine AF.imm hT rfl rfl rfl ?_ | refine AH.of hT rfl ?_ | refine AD.cons hT rfl ?_ | refine AD.nil ?_ | refine AQ.cons hT rfl ?_ | refine AQ.nil ?_); conv => whnf)
  refine ALoop.mapLen (l := 0) rfl (fun hlen hnd => ?_)
  have hlen : bs.length = L.length := by simpa [em] using hlen
  have hst : ∀ i, i < L.length → bs[i]? = some (bs.getD i 0) := fun i hi => by
    rw [List.getD_eq_getElem?_getD, List.getElem?_eq_getElem (by omega)]; rfl
  refine ALoop.mk (fun n E H => ∃ idx : List Nat, idx.Nodup ∧ (∀ i ∈ idx, i < L.length) ∧ n = L.length - idx.length ∧ E = pad [.v (.func (.yield b) #[] #[]), .ptr 1 0, .any, .any, .mp 0, .ptr 4 0] 14 ∧
      H = sH L bs ck (.loop b (LpR .ready #[7] asg body) E0) (idx.map (kAt L)) (.iter 0 ck (idx.map fun i => bs.getD i 0))) (n := L.length) _ _ ⟨[], by simp, by simp, by simp, rfl, rfl⟩ ?_ ?_
  · exact Conv.trans (Conv.fit (by repeat' (first | exact Fit.nil | refine Fit.any ?_ | refine Fit.same ?_))) (Conv.ownIn (sz := 1) 3 (l := 2) rfl (.own .nil))
  rintro _ _ _ ⟨idx, hnd2, hlt, rfl, rfl, rfl⟩
  have hbound : ∀ idx : List Nat, idx.Nodup → (∀ i ∈ idx, i < L.length) → idx.length ≤ L.length := fun idx h1 h2 => by
    have := List.Nodup.length_le_of_subset h1 (l₂ := List.range L.length) (fun x hx => by simpa using h2 x hx)
    simpa using this
  conv => whnf
  repeat ((first | refine AO.cons hT ?_ | refine AO.nil ?_ | refine AW.seq ?_ | refine AW.region ?_ | refine AW.cond ?_ | refine AW.block ?_ | refine AW.loop ?_ | refine AW.skip ?_ | refine AW.exit ?_ | refine AW.ret ?_ | refine AW.label ?_ | refine AW.scope ?_ | refine AF.one hT rfl ?_ | refine AF.nil ?_ | refine AF.imm hT rfl rfl rfl ?_ | refine AH.of hT rfl ?_ | refine AD.cons hT rfl ?_ | refine AD.nil ?_ | refine AQ.cons hT rfl ?_ | refine AQ.nil ?_); conv => whnf)
  refine AOp.next (l := 0) (li := 4) (es := em nV cA L) (bs := bs) rfl rfl rfl (fun hall => ?_) (fun i s k v he hs hns => ?_)
  · conv => whnf
    repeat ((first | refine AO.cons hT ?_ | refine AO.nil ?_ | refine AW.seq ?_ | refine AW.region ?_ | refine AW.cond ?_ | refine AW.block ?_ | refine AW.loop ?_ | refine AW.skip ?_ | refine AW.exit ?_ | refine AW.ret ?_ | refine AW.label ?_ | refine AW.scope ?_ | refine AF.one hT rfl ?_ | refine AF.nil ?_ | refine AF.imm hT rfl rfl rfl ?_ | refine AH.of hT rfl ?_ | refine AD.cons hT rfl ?_ | refine AD.nil ?_ | refine AQ.cons hT rfl ?_ | refine AQ.nil ?_); conv => whnf)
    refine ACond.no rfl ?_
    conv => whnf
    repeat ((first | refine AO.cons hT ?_ | refine AO.nil ?_ | refine AW.seq ?_ | refine AW.region ?_ | refine AW.cond ?_ | refine AW.block ?_ | refine AW.loop ?_ | refine AW.skip ?_ | refine AW.exit ?_ | refine AW.ret ?_ | refine AW.label ?_ | refine AW.scope ?_ | refine AF.one hT rfl ?_ | refine AF.nil ?_ | refine AF.imm hT rfl rfl rfl ?_ | refine AH.of hT rfl ?_ | refine AD.cons hT rfl ?_ | refine AD.nil ?_ | refine AQ.cons hT rfl ?_ | refine AQ.nil ?_); conv => whnf)
    refine AOut.stay ?_
    conv => whnf
    repeat ((first | refine AO.cons hT ?_ | refine AO.nil ?_ | refine AW.seq ?_ | refine AW.region ?_ | refine AW.cond ?_ | refine AW.block ?_ | refine AW.loop ?_ | refine AW.skip ?_ | refine AW.exit ?_ | refine AW.ret ?_ | refine AW.label ?_ | refine AW.scope ?_ | refine AF.one hT rfl ?_ | refine AF.nil ?_ | refine AF.imm hT rfl rfl rfl ?_ | refine AH.of hT rfl ?_ | refine AD.cons hT rfl ?_ | refine AD.nil ?_ | refine AQ.cons hT rfl ?_ | refine AQ.nil ?_); conv => whnf)
    have hmem : ∀ i, i < L.length → i ∈ idx := fun i hi => by
      have h1 : bs.getD i 0 ∈ idx.map fun i => bs.getD i 0 := hall _ (List.mem_of_getElem? (hst i hi))
      obtain ⟨j, hj, e⟩ := List.mem_map.1 h1
      have h2 := hst j (hlt j hj)
      rw [e] at h2
      rw [← nodup_at hnd h2 (hst i hi)]; exact hj
    have hperm : idx.Perm (List.range L.length) := (List.perm_ext_iff_of_nodup hnd2 List.nodup_range).2 (fun a => ⟨fun h => by simpa using hlt a h, fun h => hmem a (by simpa using h)⟩)
    have hO : (idx.map (kAt L)).Perm (L.map (·.1)) := by
      have h1 := hperm.map (kAt L)
      have h2 : (List.range L.length).map (kAt L) = L.map (·.1) := by
        apply List.ext_getElem (by simp)
        intro k hk1 hk2
        simp only [List.getElem_map, List.getElem_range, kAt]
        rw [List.getD_eq_getElem?_getD, List.getElem?_eq_getElem (by simpa using hk2)]; rfl
      rw [h2] at h1
      exact h1
    generalize idx.map (kAt L) = O at hO
    refine AFin.to (.tup []) [mB L bs ck, .cells 95 [.mp 0], .cells 100 [.ms 1 4 0 O.length], .loop b (LpR .ready #[7] asg body) E0, .cells 3 (O.map nV)] (Conv.ren [0, 1, 2, 3, 5] _ (by intro i hi; rcases i with _ | _ | _ | _ | i <;> first | rfl | (change i + 4 < 4 at hi; omega)) (by decide) (Fit.refl _) (.same ?_ (.same rfl (.same rfl (.same ?_ (.same ?_ .nil)))))) ⟨O, hO, rfl⟩
    · rw [mB_ren]; rfl
    · simp only [ABlk.ren, hE1]; rfl
    · simp only [ABlk.ren, nVs_ren]; rfl
  · have hi : i < L.length := by
      have := (List.getElem?_eq_some_iff.1 he).1
      simpa [em] using this
    have hLi : L[i]? = some (L.getD i (0, [])) := by rw [List.getD_eq_getElem?_getD, List.getElem?_eq_getElem hi]; rfl
    have hkv : (k, v) = (nV (kAt L i), cA (L.getD i (0, [])).2) := by
      have h1 : (em nV cA L)[i]? = some (nV (kAt L i), cA (L.getD i (0, [])).2) := by
        unfold em kAt; rw [List.getElem?_map, hLi]; rfl
      rw [h1] at he
      exact (Option.some.inj he).symm
    obtain ⟨rfl, rfl⟩ := Prod.mk.inj hkv
    have hsi : s = bs.getD i 0 := by rw [hst i hi] at hs; exact (Option.some.inj hs).symm
    subst hsi
    have hni : i ∉ idx := fun hc => hns (List.mem_map.2 ⟨i, hc, rfl⟩)
    have hnd3 : (idx ++ [i]).Nodup := by
      rw [List.nodup_append]
      exact ⟨hnd2, by simp, fun a ha b hb => by simp at hb; subst hb; rintro rfl; exact hni ha⟩
    have hlt3 : ∀ j ∈ idx ++ [i], j < L.length := fun j hj => (List.mem_append.1 hj).elim (hlt j) (fun h => by simp at h; omega)
    have hb3 := hbound _ hnd3 hlt3
    rw [List.length_append, List.length_singleton] at hb3
    conv => whnf
    repeat ((first | refine AO.cons hT ?_ | refine AO.nil ?_ | refine AW.seq ?_ | refine AW.region ?_ | refine AW.cond ?_ | refine AW.block ?_ | refine AW.loop ?_ | refine AW.skip ?_ | refine AW.exit ?_ | refine AW.ret ?_ | refine AW.label ?_ | refine AW.scope ?_ | refine AF.one hT rfl ?_ | refine AF.nil ?_ | refine AF.imm hT rfl rfl rfl ?_ | refine AH.of hT rfl ?_ | refine AD.cons hT rfl ?_ | refine AD.nil ?_ | refine AQ.cons hT rfl ?_ | refine AQ.nil ?_); conv => whnf)
    refine ACond.yes rfl ?_
    conv => whnf
    repeat ((first | refine AO.cons hT ?_ | refine AO.nil ?_ | refine AW.cond ?_ | refine AW.block ?_ | refine AW.loop ?_ | refine AW.skip ?_ | refine AW.exit ?_ | refine AW.ret ?_ | refine AW.label ?_ | refine AW.scope ?_ | refine AF.one hT rfl ?_ | refine AF.nil ?_ | refine AF.imm hT rfl rfl rfl ?_ | refine AH.of hT rfl ?_ | refine AD.cons hT rfl ?_ | refine AD.nil ?_ | refine AQ.cons hT rfl ?_ | refine AQ.nil ?_); conv => whnf)
    refine AW.seq ?_
    conv => whnf
    refine AW.region ?_
    conv => whnf
    repeat ((first | refine AO.cons hT ?_ | refine AO.nil ?_ | refine AW.cond ?_ | refine AW.block ?_ | refine AW.loop ?_ | refine AW.skip ?_ | refine AW.exit ?_ | refine AW.ret ?_ | refine AW.label ?_ | refine AW.scope ?_ | refine AF.one hT rfl ?_ | refine AF.nil ?_ | refine AF.imm hT rfl rfl rfl ?_ | refine AH.of hT rfl ?_ | refine AD.cons hT rfl ?_ | refine AD.nil ?_ | refine AQ.cons hT rfl ?_ | refine AQ.nil ?_); conv => whnf)
    refine AOp.entry (l := 0) (li := 4) (es := em nV cA L) (bs := bs) rfl rfl rfl he hs ?_
    conv => whnf
    repeat ((first | refine AO.cons hT ?_ | refine AO.nil ?_ | refine AW.cond ?_ | refine AW.block ?_ | refine AW.loop ?_ | refine AW.skip ?_ | refine AW.exit ?_ | refine AW.ret ?_ | refine AW.label ?_ | refine AW.scope ?_ | refine AF.one hT rfl ?_ | refine AF.nil ?_ | refine AF.imm hT rfl rfl rfl ?_ | refine AH.of hT rfl ?_ | refine AD.cons hT rfl ?_ | refine AD.nil ?_ | refine AQ.cons hT rfl ?_ | refine AQ.nil ?_); conv => whnf)
    refine AW.seq ?_
    conv => whnf
    refine AW.regionI ?_
    have hol : (idx.map (kAt L)).length = idx.length := List.length_map ..
    conv => whnf
    repeat ((first | refine AOI.yield 3 (fun H4 => H4 = [mB L bs ck, .cells 95 [.mp 0], .cells 100 [.ms 1 6 0 ((idx.map (kAt L)).length + 1)], .loop b (LpR .ready #[7] asg body) E0, _, .dead, .cells 3 ((idx.map (kAt L) ++ [kAt L i]).map nV)]) rfl rfl rfl rfl (hR (idx.map (kAt L)) (kAt L i) _ (by omega)) ?_ | refine AOI.cons hT rfl ?_ | refine AOI.nil ?_ | refine ARd.seq ?_ | refine ARd.region ?_ | refine ARd.block ?_ | refine ARd.skip ?_ | refine AW.cond ?_ | refine AW.block ?_ | refine AW.loop ?_ | refine AW.skip ?_ | refine AW.exit ?_ | refine AW.ret ?_ | refine AW.label ?_ | refine AW.scope ?_ | refine AF.one hT rfl ?_ | refine AF.nil ?_ | refine AF.imm hT rfl rfl rfl ?_ | refine AH.of hT rfl ?_ | refine AD.cons hT rfl ?_ | refine AD.nil ?_ | refine AQ.cons hT rfl ?_ | refine AQ.nil ?_); conv => whnf)
    rintro _ rfl
    conv => whnf
    repeat ((first | refine AOI.cons hT rfl ?_ | refine AOI.nil ?_ | refine ARd.seq ?_ | refine ARd.region ?_ | refine ARd.block ?_ | refine ARd.skip ?_ | refine AW.cond ?_ | refine AW.block ?_ | refine AW.loop ?_ | refine AW.skip ?_ | refine AW.exit ?_ | refine AW.ret ?_ | refine AW.label ?_ | refine AW.scope ?_ | refine AF.one hT rfl ?_ | refine AF.nil ?_ | refine AF.imm hT rfl rfl rfl ?_ | refine AH.of hT rfl ?_ | refine AD.cons hT rfl ?_ | refine AD.nil ?_ | refine AQ.cons hT rfl ?_ | refine AQ.nil ?_ | (refine ACond.no rfl ?_)); conv => whnf)
    conv => whnf
    repeat ((first | refine AO.cons hT ?_ | refine AO.nil ?_ | refine AW.seq ?_ | refine AW.region ?_ | refine AW.cond ?_ | refine AW.block ?_ | refine AW.loop ?_ | refine AW.skip ?_ | refine AW.exit ?_ | refine AW.ret ?_ | refine AW.label ?_ | refine AW.scope ?_ | refine AF.one hT rfl ?_ | refine AF.nil ?_ | refine AF.imm hT rfl rfl rfl ?_ | refine AH.of hT rfl ?_ | refine AD.cons hT rfl ?_ | refine AD.nil ?_ | refine AQ.cons hT rfl ?_ | refine AQ.nil ?_); conv => whnf)
    have e1 : (idx.map (kAt L)).length + 1 = ((idx ++ [i]).map (kAt L)).length := by simp
    have e2 : idx.map (kAt L) ++ [kAt L i] = (idx ++ [i]).map (kAt L) := by simp
    have e3 : (idx.map fun i => bs.getD i 0) ++ [bs.getD i 0] = (idx ++ [i]).map fun i => bs.getD i 0 := by simp
    rw [e1, e2, e3]
    refine AHead.mk (L.length - (idx ++ [i]).length) (pad [.v (.func (.yield b) #[] #[]), .ptr 1 0, .any, .any, .mp 0, .ptr 4 0] 14) (sH L bs ck (.loop b (LpR .ready #[7] asg body) E0) ((idx ++ [i]).map (kAt L)) (.iter 0 ck ((idx ++ [i]).map fun i => bs.getD i 0))) (by rw [List.length_append, List.length_singleton]; omega) ⟨idx ++ [i], hnd3, hlt3, rfl, rfl, rfl⟩
      (Conv.ren [0, 1, 2, 3, 4, 6] _ (by intro i hi; rcases i with _ | _ | _ | _ | i <;> first | rfl | (change i + 4 < 4 at hi; omega)) (by decide) ?_ (.same ?_ (.same rfl (.same rfl (.same ?_ (.same rfl (.same ?_ .nil)))))))
    · repeat' (first | exact Fit.nil | refine Fit.any ?_ | refine Fit.same ?_)
    · rw [mB_ren]; rfl
    · simp only [ABlk.ren, hE0]; rfl
    · simp only [ABlk.ren, nVs_ren]; rfl

theorem f112 (L : List (Int × List UInt8)) (bs : List Nat) (ck : Nat) (hL : L.length ≤ 1000000) : Spec P 112 [.v (.slice none 0 0), .fn 95 [] [.ptr 1 0]] [mB L bs ck, .cells 95 [.mp 0]]
    fun r H' => ∃ O : List Int, O.Perm (L.map (·.1)) ∧ r = .ms 1 2 0 O.length ∧ H' = [mB L bs ck, .cells 95 [.mp 0], .cells 3 (O.map nV)] := by
  refine spec_ofR hT (f := 112) (fn := Go.Proofs.Tryz.f112) (c := body Go.Proofs.Tryz.f112) (by kernel_rfl) (by kernel_rfl) ?_
  refine ARF.seq ?_
  refine ARF.aw ?_
  conv => whnf
  repeat ((first | refine AO.cons hT ?_ | refine AO.nil ?_ | refine AW.seq ?_ | refine AW.region ?_ | refine AW.cond ?_ | refine AW.block ?_ | refine AW.loop ?_ | refine AW.skip ?_ | refine AW.exit ?_ | refine AW.ret ?_ | refine AW.label ?_ | refine AW.scope ?_ | refine AF.one hT rfl ?_ | refine AF.nil ?_ | refine AF.imm hT rfl rfl rfl ?_ | refine AH.of hT rfl ?_ | refine AD.cons hT rfl ?_ | refine AD.nil ?_ | refine AQ.cons hT rfl ?_ | refine AQ.nil ?_); conv => whnf)
  refine ARF.seq ?_
  refine ARF.seq ?_
  refine ARF.aw ?_
  conv => whnf
  repeat ((first | refine AO.cons hT ?_ | refine AO.nil ?_ | refine AW.seq ?_ | refine AW.region ?_ | refine AW.cond ?_ | refine AW.block ?_ | refine AW.loop ?_ | refine AW.skip ?_ | refine AW.exit ?_ | refine AW.ret ?_ | refine AW.label ?_ | refine AW.scope ?_ | refine AF.one hT rfl ?_ | refine AF.nil ?_ | refine AF.imm hT rfl rfl rfl ?_ | refine AH.of hT rfl ?_ | refine AD.cons hT rfl ?_ | refine AD.nil ?_ | refine AQ.cons hT rfl ?_ | refine AQ.nil ?_); conv => whnf)
  refine ARF.range hT (fun H' => ∃ O : List Int, O.Perm (L.map (·.1)) ∧ H' = [mB L bs ck, .cells 95 [.mp 0], .cells 100 [.ms 1 4 0 O.length], .dead, .cells 3 (O.map nV)]) rfl (by kernel_rfl) (fun b => ?_) ?_
  · refine (f95 L bs ck hL b _ _ _ (fun N => rfl) (fun N => rfl) ?_).mono (by rintro _ _ ⟨O, hO, rfl⟩; exact ⟨rfl, O, hO, rfl⟩)
    intro O k y hO
    unfold sH
    conv => whnf
    repeat ((first | refine AOI.cons hT rfl ?_ | refine AOI.nil ?_ | refine ARd.seq ?_ | refine ARd.region ?_ | refine ARd.block ?_ | refine ARd.skip ?_ | refine AW.cond ?_ | refine AW.block ?_ | refine AW.loop ?_ | refine AW.skip ?_ | refine AW.exit ?_ | refine AW.ret ?_ | refine AW.label ?_ | refine AW.scope ?_ | refine AF.one hT rfl ?_ | refine AF.nil ?_ | refine AF.imm hT rfl rfl rfl ?_ | refine AH.of hT rfl ?_ | refine AD.cons hT rfl ?_ | refine AD.nil ?_ | refine AQ.cons hT rfl ?_ | refine AQ.nil ?_); conv => whnf)
    refine ⟨rfl, ?_⟩
    conv => whnf
    repeat ((first | refine AOI.cons hT rfl ?_ | refine AOI.nil ?_ | refine ARd.seq ?_ | refine ARd.region ?_ | refine ARd.block ?_ | refine ARd.skip ?_ | refine AW.cond ?_ | refine AW.block ?_ | refine AW.loop ?_ | refine AW.skip ?_ | refine AW.exit ?_ | refine AW.ret ?_ | refine AW.label ?_ | refine AW.scope ?_ | refine AF.one hT rfl ?_ | refine AF.nil ?_ | refine AF.imm hT rfl rfl rfl ?_ | refine AH.of hT rfl ?_ | refine AD.cons hT rfl ?_ | refine AD.nil ?_ | refine AQ.cons hT rfl ?_ | refine AQ.nil ?_); conv => whnf)
    refine AReq.mk ⟨by rw [List.length_map, Nat.mul_one], by rw [show (T 3).bytes = 8 from rfl]; omega⟩ ?_
    conv => whnf
    repeat ((first | refine AOI.cons hT rfl ?_ | refine AOI.nil ?_ | refine ARd.seq ?_ | refine ARd.region ?_ | refine ARd.block ?_ | refine ARd.skip ?_ | refine AW.cond ?_ | refine AW.block ?_ | refine AW.loop ?_ | refine AW.skip ?_ | refine AW.exit ?_ | refine AW.ret ?_ | refine AW.label ?_ | refine AW.scope ?_ | refine AF.one hT rfl ?_ | refine AF.nil ?_ | refine AF.imm hT rfl rfl rfl ?_ | refine AH.of hT rfl ?_ | refine AD.cons hT rfl ?_ | refine AD.nil ?_ | refine AQ.cons hT rfl ?_ | refine AQ.nil ?_); conv => whnf)
    exact ⟨rfl, by rw [List.map_append]; rfl⟩
  · rintro _ ⟨O, hO, rfl⟩
    conv => whnf
    repeat ((first | refine AO.cons hT ?_ | refine AO.nil ?_ | refine AW.seq ?_ | refine AW.region ?_ | refine AW.cond ?_ | refine AW.block ?_ | refine AW.loop ?_ | refine AW.skip ?_ | refine AW.exit ?_ | refine AW.ret ?_ | refine AW.label ?_ | refine AW.scope ?_ | refine AF.one hT rfl ?_ | refine AF.nil ?_ | refine AF.imm hT rfl rfl rfl ?_ | refine AH.of hT rfl ?_ | refine AD.cons hT rfl ?_ | refine AD.nil ?_ | refine AQ.cons hT rfl ?_ | refine AQ.nil ?_); conv => whnf)
    refine AFin.to (.ms 1 2 0 O.length) [mB L bs ck, .cells 95 [.mp 0], .cells 3 (O.map nV)] (Conv.ren [0, 1, 4] _ (by intro i hi; rcases i with _ | _ | i <;> first | rfl | (change i + 2 < 2 at hi; omega)) (by decide) (Fit.refl _) (.same ?_ (.same rfl (.same ?_ .nil)))) ⟨O, hO, rfl, rfl⟩
    · rw [mB_ren]; rfl
    · simp only [ABlk.ren, nVs_ren]; rfl
end Go.Aw.VE

set_option linter.unusedSimpArgs false
set_option linter.unusedVariables false
set_option maxHeartbeats 4000000
namespace Go.Aw.VE
open Go Go.Proofs

def kS (L : List (Int × List UInt8)) : List Int := (L.map (·.1)).mergeSort fun x y => decide (x ≤ y)
theorem ms_perm {O K : List Int} (h : O.Perm K) : (O.mergeSort fun x y => decide (x ≤ y)) = K.mergeSort fun x y => decide (x ≤ y) := by
  have hp : ∀ l : List Int, (l.mergeSort fun x y => decide (x ≤ y)).Pairwise (fun x y => x ≤ y) := fun l => by
    have := List.pairwise_mergeSort (le := fun (x y : Int) => decide (x ≤ y)) (fun a b c h1 h2 => by simp at *; omega) (fun a b => by simp; omega) l
    exact this.imp (by simp)
  exact List.Perm.eq_of_pairwise (le := fun x y => x ≤ y) (fun a b _ _ h1 h2 => by omega) (hp O) (hp K) (((List.mergeSort_perm O _).trans h).trans (List.mergeSort_perm K _).symm)

theorem cells_ren (ρ : Nat → Nat) (t : Nat) (xs : List AV) : (ABlk.cells t xs).ren ρ = .cells t (renL ρ xs) := rfl
theorem nv_eq : nV = nv := rfl
theorem f94 (l : List Int) (hl : l ≠ []) (hs : l.length < 4611686018427387904) : Spec P 94 [.ms 1 0 0 l.length] [.cells 3 (l.map nV)] (fun r H => r = .tup [] ∧ H = [.cells 3 ((l.mergeSort fun x y => decide (x ≤ y)).map nV)]) := by
  rw [nv_eq]
  exact Spec.sortI (fun blk cap zs w h1 h2 h3 => AnyM.slices_Sort_int Tryz.sortInt blk 0 cap zs w h1 h2 h3) l hl hs
theorem f94n : Spec P 94 [.ms 1 0 0 0] [.cells 3 []] (fun r H => r = .tup [] ∧ H = [.cells 3 []]) := by
  intro C m I w vs hs hr
  simp only [RepL, Rep] at hr
  obtain ⟨y, zs, rfl, ⟨hlt, hy⟩, rfl⟩ := hr
  have hgo : ∀ p cap, Calls P 94 ⟨[.slice p 0 cap]⟩ w fun e w' => ∃ (x : AV) (v : Value) (H' : List ABlk) (m' : Mu) (I' : Nat → Prop), e = .returned v ∧ (x = .tup [] ∧ H' = [.cells 3 []]) ∧ Rep w' m' I' x v ∧ St C m' I' H' w' ∧ Ext w m I w' m' I' := by
    intro p cap
    refine (AnyM.slices_Sort_int_none Tryz.sortInt p cap w).mono fun e w' ⟨he, hw⟩ => ?_
    subst hw
    exact ⟨.tup [], _, _, m, I, he, ⟨rfl, rfl⟩, by simp only [Rep, RepL]; exact ⟨[], rfl, rfl⟩, hs, .refl _ _ _⟩
  rcases hy with ⟨_, _, _, rfl⟩ | ⟨b, cap, o, _, rfl, _⟩
  · exact hgo _ _
  · exact hgo _ _
theorem f77 (L : List (Int × List UInt8)) (bs : List Nat) (ck : Nat) : Spec P 77 [.mp 0] [mB L bs ck] (fun r H => r = .fn 95 [] [.ptr 1 0] ∧ H = [mB L bs ck, .cells 95 [.mp 0]]) := by
  refine spec_of hT (f := 77) (fn := Go.Proofs.Tryz.f77) (c := body Go.Proofs.Tryz.f77) (by kernel_rfl) (by kernel_rfl) ?_
  conv => whnf
  repeat ((first | refine AO.cons hT ?_ | refine AO.nil ?_ | refine AW.seq ?_ | refine AW.region ?_ | refine AW.cond ?_ | refine AW.block ?_ | refine AW.loop ?_ | refine AW.skip ?_ | refine AW.exit ?_ | refine AW.ret ?_ | refine AW.label ?_ | refine AW.scope ?_ | refine AF.one hT rfl ?_ | refine AF.nil ?_ | refine AF.imm hT rfl rfl rfl ?_ | refine AH.of hT rfl ?_ | refine AD.cons hT rfl ?_ | refine AD.nil ?_ | refine AQ.cons hT rfl ?_ | refine AQ.nil ?_); conv => whnf)
  exact AFin.mk ⟨rfl, rfl⟩
theorem f93 (L : List (Int × List UInt8)) (bs : List Nat) (ck : Nat) (hL : L.length ≤ 1000000) : Spec P 93 [.fn 95 [] [.ptr 1 0]] [mB L bs ck, .cells 95 [.mp 0]]
    fun r H' => ∃ O : List Int, O.Perm (L.map (·.1)) ∧ r = .ms 1 2 0 O.length ∧ H' = [mB L bs ck, .cells 95 [.mp 0], .cells 3 (O.map nV)] := by
  refine spec_of hT (f := 93) (fn := Go.Proofs.Tryz.f93) (c := body Go.Proofs.Tryz.f93) (by kernel_rfl) (by kernel_rfl) ?_
  conv => whnf
  repeat ((first | refine AO.cons hT ?_ | refine AO.nil ?_ | refine AW.seq ?_ | refine AW.region ?_ | refine AW.cond ?_ | refine AW.block ?_ | refine AW.loop ?_ | refine AW.skip ?_ | refine AW.exit ?_ | refine AW.ret ?_ | refine AW.label ?_ | refine AW.scope ?_ | refine AF.one hT rfl ?_ | refine AF.nil ?_ | refine AF.imm hT rfl rfl rfl ?_ | refine AH.of hT rfl ?_ | refine AD.cons hT rfl ?_ | refine AD.nil ?_ | refine AQ.cons hT rfl ?_ | refine AQ.nil ?_); conv => whnf)
  refine ACall.of (by kernel_rfl) (f112 L bs ck hL) [0, 1] [] (by decide) (.same (by rw [mB_ren]; rfl) (.same rfl .nil)) (by simp) (by simp) (LendL.same [.v (.slice none 0 0), .fn 95 [] [.ptr 1 0]]) (.inl rfl) ?_
  rintro _ _ ⟨O, hO, rfl, rfl⟩
  simp only [mergeH, mB_ren, cells_ren, List.map_cons, List.map_nil, nVs_ren]
  conv => whnf
  repeat ((first | refine AO.cons hT ?_ | refine AO.nil ?_ | refine AW.seq ?_ | refine AW.region ?_ | refine AW.cond ?_ | refine AW.block ?_ | refine AW.loop ?_ | refine AW.skip ?_ | refine AW.exit ?_ | refine AW.ret ?_ | refine AW.label ?_ | refine AW.scope ?_ | refine AF.one hT rfl ?_ | refine AF.nil ?_ | refine AF.imm hT rfl rfl rfl ?_ | refine AH.of hT rfl ?_ | refine AD.cons hT rfl ?_ | refine AD.nil ?_ | refine AQ.cons hT rfl ?_ | refine AQ.nil ?_); conv => whnf)
  exact AFin.mk ⟨O, hO, rfl, rfl⟩
theorem f76 (L : List (Int × List UInt8)) (bs : List Nat) (ck : Nat) (hL : L.length ≤ 1000000) : Spec P 76 [.fn 95 [] [.ptr 1 0]] [mB L bs ck, .cells 95 [.mp 0]]
    fun r H' => r = .ms 1 2 0 (kS L).length ∧ H' = [mB L bs ck, .cells 95 [.mp 0], .cells 3 ((kS L).map nV)] := by
  refine spec_of hT (f := 76) (fn := Go.Proofs.Tryz.f76) (c := body Go.Proofs.Tryz.f76) (by kernel_rfl) (by kernel_rfl) ?_
  conv => whnf
  repeat ((first | refine AO.cons hT ?_ | refine AO.nil ?_ | refine AW.seq ?_ | refine AW.region ?_ | refine AW.cond ?_ | refine AW.block ?_ | refine AW.loop ?_ | refine AW.skip ?_ | refine AW.exit ?_ | refine AW.ret ?_ | refine AW.label ?_ | refine AW.scope ?_ | refine AF.one hT rfl ?_ | refine AF.nil ?_ | refine AF.imm hT rfl rfl rfl ?_ | refine AH.of hT rfl ?_ | refine AD.cons hT rfl ?_ | refine AD.nil ?_ | refine AQ.cons hT rfl ?_ | refine AQ.nil ?_); conv => whnf)
  refine ACall.of (by kernel_rfl) (f93 L bs ck hL) [0, 1] [] (by decide) (.same (by rw [mB_ren]; rfl) (.same rfl .nil)) (by simp) (by simp) (LendL.same [.fn 95 [] [.ptr 1 0]]) (.inl rfl) ?_
  rintro _ _ ⟨O, hO, rfl, rfl⟩
  have hk := ms_perm hO
  have hkl : (kS L).length = O.length := by unfold kS; rw [← hk, List.length_mergeSort]
  have hOl : O.length = L.length := by have := hO.length_eq; simpa using this
  simp only [mergeH, mB_ren, cells_ren, List.map_cons, List.map_nil, nVs_ren]
  conv => whnf
  repeat ((first | refine AO.cons hT ?_ | refine AO.nil ?_ | refine AW.seq ?_ | refine AW.region ?_ | refine AW.cond ?_ | refine AW.block ?_ | refine AW.loop ?_ | refine AW.skip ?_ | refine AW.exit ?_ | refine AW.ret ?_ | refine AW.label ?_ | refine AW.scope ?_ | refine AF.one hT rfl ?_ | refine AF.nil ?_ | refine AF.imm hT rfl rfl rfl ?_ | refine AH.of hT rfl ?_ | refine AD.cons hT rfl ?_ | refine AD.nil ?_ | refine AQ.cons hT rfl ?_ | refine AQ.nil ?_); conv => whnf)
  by_cases h0 : O = []
  · subst h0
    refine ACall.of (by kernel_rfl) f94n [2] [] (by decide) (.same rfl .nil) (by simp) (by simp) (LendL.same [.ms 1 0 0 0]) (.inl rfl) ?_
    rintro _ _ ⟨rfl, rfl⟩
    simp only [mergeH, cells_ren, renL, List.map_nil]
    conv => whnf
    repeat ((first | refine AO.cons hT ?_ | refine AO.nil ?_ | refine AW.seq ?_ | refine AW.region ?_ | refine AW.cond ?_ | refine AW.block ?_ | refine AW.loop ?_ | refine AW.skip ?_ | refine AW.exit ?_ | refine AW.ret ?_ | refine AW.label ?_ | refine AW.scope ?_ | refine AF.one hT rfl ?_ | refine AF.nil ?_ | refine AF.imm hT rfl rfl rfl ?_ | refine AH.of hT rfl ?_ | refine AD.cons hT rfl ?_ | refine AD.nil ?_ | refine AQ.cons hT rfl ?_ | refine AQ.nil ?_); conv => whnf)
    have : kS L = [] := List.eq_nil_of_length_eq_zero (by rw [hkl]; rfl)
    rw [this]
    exact AFin.mk ⟨rfl, rfl⟩
  · refine ACall.of (by kernel_rfl) (f94 O h0 (by omega)) [2] [] (by decide) (.same (by simp only [ABlk.ren, nVs_ren]; rfl) .nil) (by simp) (by simp) (LendL.same [.ms 1 0 0 O.length]) (.inl rfl) ?_
    rintro _ _ ⟨rfl, rfl⟩
    rw [hk]
    simp only [mergeH, cells_ren, List.map_nil, nVs_ren]
    conv => whnf
    repeat ((first | refine AO.cons hT ?_ | refine AO.nil ?_ | refine AW.seq ?_ | refine AW.region ?_ | refine AW.cond ?_ | refine AW.block ?_ | refine AW.loop ?_ | refine AW.skip ?_ | refine AW.exit ?_ | refine AW.ret ?_ | refine AW.label ?_ | refine AW.scope ?_ | refine AF.one hT rfl ?_ | refine AF.nil ?_ | refine AF.imm hT rfl rfl rfl ?_ | refine AH.of hT rfl ?_ | refine AD.cons hT rfl ?_ | refine AD.nil ?_ | refine AQ.cons hT rfl ?_ | refine AQ.nil ?_); conv => whnf)
    rw [hkl]
    exact AFin.mk ⟨rfl, rfl⟩
end Go.Aw.VE

set_option linter.unusedSimpArgs false
set_option linter.unusedVariables false
set_option maxHeartbeats 4000000
namespace Go.Aw.VE
open Go Go.Proofs

def iVs (l : List Int) : AV := .vs 1 l.length (l.map nV)
theorem iVs_ren (ρ : Nat → Nat) (l : List Int) : (iVs l).ren ρ = iVs l := by simp only [iVs, AV.ren, nVs_ren]
theorem keys_len (x : Dd) (hx : Dok x) : x.L.length ≤ 2000 := by
  have h := List.Nodup.length_le_of_subset hx.nd (l₂ := (List.range x.n).map fun i : Nat => (Int.ofNat i)) (fun k hk => by
    obtain ⟨p, hp, rfl⟩ := List.mem_map.1 hk
    have := hx.keys p hp
    exact List.mem_map.2 ⟨p.1.toNat, by rw [List.mem_range]; omega, by show ((p.1.toNat : Nat) : Int) = p.1; omega⟩)
  have := hx.le
  simp at h; omega

theorem f52 (x : Dd) (hx : Dok x) : DSpec 52 [] x fun r y => r = iVs (kS x.L) ∧ y = x := by
  intro bs ck
  have hkl := keys_len x hx
  refine spec_of hT (f := 52) (fn := Go.Proofs.Tryz.f52) (c := body Go.Proofs.Tryz.f52) (by kernel_rfl) (by kernel_rfl) ?_
  conv => whnf
  repeat ((first | refine AO.cons hT ?_ | refine AO.nil ?_ | refine AW.seq ?_ | refine AW.region ?_ | refine AW.cond ?_ | refine AW.block ?_ | refine AW.loop ?_ | refine AW.skip ?_ | refine AW.exit ?_ | refine AW.ret ?_ | refine AW.label ?_ | refine AW.scope ?_ | refine AF.one hT rfl ?_ | refine AF.nil ?_ | refine AF.imm hT rfl rfl rfl ?_ | refine AH.of hT rfl ?_ | refine AD.cons hT rfl ?_ | refine AD.nil ?_ | refine AQ.cons hT rfl ?_ | refine AQ.nil ?_); conv => whnf)
  refine ACall.of (by kernel_rfl) (f77 x.L bs ck) [2] [] (by decide) (.same (by rw [mB_ren]; rfl) .nil) (by simp) (by simp) (LendL.same [.mp 0]) (.inl rfl) ?_
  rintro _ _ ⟨rfl, rfl⟩
  simp only [mergeH, mB_ren, cells_ren, List.map_cons, List.map_nil]
  conv => whnf
  repeat ((first | refine AO.cons hT ?_ | refine AO.nil ?_ | refine AW.seq ?_ | refine AW.region ?_ | refine AW.cond ?_ | refine AW.block ?_ | refine AW.loop ?_ | refine AW.skip ?_ | refine AW.exit ?_ | refine AW.ret ?_ | refine AW.label ?_ | refine AW.scope ?_ | refine AF.one hT rfl ?_ | refine AF.nil ?_ | refine AF.imm hT rfl rfl rfl ?_ | refine AH.of hT rfl ?_ | refine AD.cons hT rfl ?_ | refine AD.nil ?_ | refine AQ.cons hT rfl ?_ | refine AQ.nil ?_); conv => whnf)
  refine ACall.of (by kernel_rfl) (f76 x.L bs ck (by omega)) [2, 3] [] (by decide) (.same (by rw [mB_ren]; rfl) (.same rfl .nil)) (by simp) (by simp) (LendL.same [.fn 95 [] [.ptr 1 0]]) (.inl rfl) ?_
  rintro _ _ ⟨rfl, rfl⟩
  simp only [mergeH, mB_ren, cells_ren, List.map_cons, List.map_nil, nVs_ren]
  conv => whnf
  repeat ((first | refine AO.cons hT ?_ | refine AO.nil ?_ | refine AW.seq ?_ | refine AW.region ?_ | refine AW.cond ?_ | refine AW.block ?_ | refine AW.loop ?_ | refine AW.skip ?_ | refine AW.exit ?_ | refine AW.ret ?_ | refine AW.label ?_ | refine AW.scope ?_ | refine AF.one hT rfl ?_ | refine AF.nil ?_ | refine AF.imm hT rfl rfl rfl ?_ | refine AH.of hT rfl ?_ | refine AD.cons hT rfl ?_ | refine AD.nil ?_ | refine AQ.cons hT rfl ?_ | refine AQ.nil ?_); conv => whnf)
  have h1 : kS x.L = kS x.L := rfl
  refine AFin.to (iVs (kS x.L)) (dvH x bs ck) (Conv.trans (Conv.freeze 4 (t := 3) (cs := (kS x.L).map nV) rfl) (Conv.trans (Conv.see (.cons (.sm rfl (by rw [List.length_map, Nat.mul_one])) .nil)) (Conv.ren [0, 1, 2] _ (fun _ h => three h) (by decide) (by simp only [renL, AV.ren, nVs_ren, iVs]; exact Fit.refl _) (.same rfl (.same ?_ (.same ?_ .nil)))))) ⟨_, bs, ck, ⟨rfl, rfl⟩, rfl⟩
  · rw [dC_ren]; rfl
  · rw [dM_ren]; rfl
end Go.Aw.VE

set_option linter.unusedSimpArgs false
set_option linter.unusedVariables false
set_option maxHeartbeats 4000000
namespace Go.Aw.VE
open Go Go.Proofs

def bV (b : Bool) : AV := .v (.bool b)
theorem bVs_ren (ρ : Nat → Nat) (l : List Bool) : renL ρ (l.map bV) = l.map bV := by
  rw [renL_map, List.map_map]; rfl
/-- what is left -/
structure Ch where
  keep : List Bool
  torn : Int
  cut : Int
def chC (c : Ch) : List AV := [.vs 1 c.keep.length (c.keep.map bV), nV c.torn, nV c.cut]
theorem chC_ren (ρ : Nat → Nat) (c : Ch) : renL ρ (chC c) = chC c := by simp only [chC, renL, AV.ren, bVs_ren, nV]
def clampN (c : Int) : Nat := (min (max c 0) 64).toNat
theorem clampN_le (c : Int) : clampN c ≤ 64 := by unfold clampN; omega
theorem clamp_eq (c : Int) : (if (64 : Int) < (if (0 : Int) > c then 0 else c) then 64 else (if (0 : Int) > c then 0 else c)) = (clampN c : Int) := by
  unfold clampN
  split <;> split <;> omega

def lookL (L : List (Int × List UInt8)) (k : Int) : List UInt8 := match L.find? (fun p => p.1 == k) with | some p => p.2 | none => []
def delL (L : List (Int × List UInt8)) (k : Int) : List (Int × List UInt8) := L.filter fun p => !(p.1 == k)
def tornC (cs : List UInt8) (k n : Nat) (s : List UInt8) : List UInt8 := cs.take (64 * k + n) ++ s.drop n ++ cs.drop (64 * k + n + (s.drop n).length)
def bootC (c : Ch) (i : Nat) (k : Nat) (cs s : List UInt8) : List UInt8 :=
  if (i : Int) = c.torn then tornC cs k (clampN c.cut) s else if c.keep.getD i false then cs else putC cs k s
def bootS (c : Ch) (i : Nat) (k : Int) (x : Dd) : Dd := { x with cs := bootC c i k.toNat x.cs (lookL x.L k), L := delL x.L k }
def bootL (c : Ch) : Nat → List Int → Dd → Dd
  | _, [], x => x
  | i, k :: ks, x => bootL c (i + 1) ks (bootS c i k x)

theorem look_at {L : List (Int × List UInt8)} (hn : (L.map (·.1)).Nodup) {j : Nat} {k : Int} {b : List UInt8} (h : L[j]? = some (k, b)) : lookL L k = b := by
  unfold lookL
  induction L generalizing j with
  | nil => simp at h
  | cons p L ih =>
    rw [List.map_cons, List.nodup_cons] at hn
    cases j with
    | zero => simp at h; subst h; simp
    | succ j =>
      have hm : (k, b) ∈ L := List.mem_of_getElem? (by simpa using h)
      have hne : p.1 ≠ k := fun e => hn.1 (List.mem_map.2 ⟨_, hm, e.symm⟩)
      rw [List.find?_cons_of_neg (by simpa using hne)]
      exact ih hn.2 (by simpa using h)
theorem del_at {L : List (Int × List UInt8)} (hn : (L.map (·.1)).Nodup) {j : Nat} {k : Int} {b : List UInt8} (h : L[j]? = some (k, b)) : L.eraseIdx j = delL L k := by
  unfold delL
  induction L generalizing j with
  | nil => simp at h
  | cons p L ih =>
    rw [List.map_cons, List.nodup_cons] at hn
    cases j with
    | zero =>
      simp at h; subst h
      rw [List.filter_cons_of_neg (by simp), List.eraseIdx_cons_zero, List.filter_eq_self.2]
      intro q hq
      have : q.1 ≠ k := fun e => hn.1 (List.mem_map.2 ⟨_, hq, e⟩)
      simpa using this
    | succ j =>
      have hm : (k, b) ∈ L := List.mem_of_getElem? (by simpa using h)
      have hne : p.1 ≠ k := fun e => hn.1 (List.mem_map.2 ⟨_, hm, e.symm⟩)
      rw [List.filter_cons_of_pos (by simpa using hne), List.eraseIdx_cons_succ, ih hn.2 (by simpa using h)]
theorem delL_sub (L : List (Int × List UInt8)) (k : Int) : (delL L k).Sublist L := List.filter_sublist
theorem tornC_len {cs s : List UInt8} {k n : Nat} (h : 64 * k + 64 ≤ cs.length) (hs : s.length = 64) (hn : n ≤ 64) : (tornC cs k n s).length = cs.length := by
  unfold tornC
  simp only [List.length_append, List.length_take, List.length_drop]; omega
theorem bootC_len {c : Ch} {i k : Nat} {cs s : List UInt8} (h : 64 * k + 64 ≤ cs.length) (hs : s.length = 64) : (bootC c i k cs s).length = cs.length := by
  unfold bootC
  split
  · exact tornC_len h hs (clampN_le _)
  · split
    · rfl
    · exact putC_len (by omega)
theorem Dok.boot {x : Dd} (h : Dok x) {c : Ch} {i : Nat} {k : Int} (hk : k ∈ x.L.map (·.1)) : Dok (bootS c i k x) := by
  obtain ⟨p, hp, rfl⟩ := List.mem_map.1 hk
  obtain ⟨j, hj⟩ := List.getElem?_of_mem hp
  have e : lookL x.L p.1 = p.2 := look_at h.nd (b := p.2) (j := j) hj
  have hkp := h.keys p hp
  have hl := h.len
  refine ⟨h.pos, h.le, ?_, fun q hq => h.keys q ((delL_sub _ _).subset hq), h.nd.sublist ((delL_sub _ _).map _)⟩
  show (bootC c i p.1.toNat x.cs (lookL x.L p.1)).length = _
  rw [bootC_len (by omega) (by rw [e]; exact hkp.2.2)]
  exact hl
theorem del_perm {L : List (Int × List UInt8)} {k : Int} {S : List Int} (hn : (L.map (·.1)).Nodup) (h : (L.map (·.1)).Perm (k :: S)) : ((delL L k).map (·.1)).Perm S := by
  have e : (delL L k).map (·.1) = (L.map (·.1)).filter fun a => !(a == k) := by
    unfold delL; rw [List.filter_map]; rfl
  rw [e]
  have h2 := h.filter (fun a => !(a == k))
  refine h2.trans ?_
  have hn2 : (k :: S).Nodup := h.nodup_iff.1 hn
  rw [List.nodup_cons] at hn2
  rw [List.filter_cons_of_neg (by simp), List.filter_eq_self.2]
  intro q hq
  have : q ≠ k := fun e => hn2.1 (e ▸ hq)
  simpa using this
end Go.Aw.VE

set_option linter.unusedSimpArgs false
set_option linter.unusedVariables false
set_option maxHeartbeats 4000000
namespace Go.Aw.VE
open Go Go.Proofs

theorem spl_torn (cs s : List UInt8) (k n : Nat) : spl (cs.map byteC) (64 * k + n) ((s.drop n).map byteC) = (tornC cs k n s).map byteC := by
  unfold spl tornC
  simp only [List.map_append, List.map_take, List.map_drop, List.length_map, List.length_drop]
theorem AUpd.torn {cs s : List UInt8} {i k n : Nat} {K : List AV → Prop} (e : i = 64 * k + n) (h : 64 * k + n + (s.drop n).length ≤ cs.length) (q : K ((tornC cs k n s).map byteC)) : AUpd (cs.map byteC) i ((s.drop n).map byteC) K := by
  subst e
  rw [AUpd.iff, List.length_map, List.length_map, spl_torn]
  exact ⟨h, q⟩
theorem ACut.drop {s : List UInt8} {n m : Nat} {K : List AV → Prop} (h : n + m = s.length) (k : K ((s.drop n).map byteC)) : ACut (s.map byteC) n m K := by
  rw [ACut.iff, List.length_map, ← List.map_drop, ← List.map_take, List.take_of_length_le (by rw [List.length_drop]; omega)]
  exact ⟨by omega, k⟩

theorem Fit.eq {x x' : AV} {xs xs' : List AV} (e : x' = x) (h : Fit xs xs') : Fit (x :: xs) (x' :: xs') := by
  subst e; exact .same h
def bootD (c : Ch) (x : Dd) : Dd := { bootL c 0 (kS x.L) x with f := false, a := 0 }
theorem f23 (x : Dd) (hx : Dok x) (c : Ch) (hc : c.keep.length ≤ 4611686018427387904) : DSpec 23 [.agg (chC c)] x fun r y => r = nV 0 ∧ y = bootD c x := by
  intro bs ck
  refine spec_of hT (f := 23) (fn := Go.Proofs.Tryz.f23) (c := body Go.Proofs.Tryz.f23) (by kernel_rfl) (by kernel_rfl) ?_
  conv => whnf
  repeat ((first | refine AW.plan (id := 10) hm (.one 0 (.one 4 (.one 6 (.one 8 (.one 9 (.one 1 (.one 2 (.one 3 (.one 5 (.one 7 (.one 10 .nil))))))))))) (by kernel_rfl) ?_ | refine AW.plan (id := 12) hm (.one 0 (.one 4 (.imm 5 (.one 1 (.one 2 (.one 3 (.one 6 (.one 7 .nil)))))))) (by kernel_rfl) ?_ | refine AO.cons hT ?_ | refine AO.nil ?_ | refine AW.seq ?_ | refine AW.region ?_ | refine AW.cond ?_ | refine AW.block ?_ | refine AW.loop ?_ | refine AW.skip ?_ | refine AW.exit ?_ | refine AW.ret ?_ | refine AW.label ?_ | refine AW.scope ?_ | refine AF.one hT rfl ?_ | refine AF.nil ?_ | refine AF.imm hT rfl rfl rfl ?_ | refine AH.of hT rfl ?_ | refine AD.cons hT rfl ?_ | refine AD.nil ?_ | refine AQ.cons hT rfl ?_ | refine AQ.nil ?_); conv => whnf)
  refine ACall.dev (by kernel_rfl) (f51 x hx.pos) rfl rfl rfl (by decide) (fun _ => rfl) (by rintro _ _ ⟨rfl, _⟩ _; rfl) ?_
  rintro _ x bs1 ck1 ⟨rfl, rfl⟩
  conv => whnf
  repeat (first | (refine AW.plan (id := 10) hm (.one 0 (.one 4 (.one 6 (.one 8 (.one 9 (.one 1 (.one 2 (.one 3 (.one 5 (.one 7 (.one 10 .nil))))))))))) (by kernel_rfl) ?_; conv => whnf) | (refine AW.plan (id := 12) hm (.one 0 (.one 4 (.imm 5 (.one 1 (.one 2 (.one 3 (.one 6 (.one 7 .nil)))))))) (by kernel_rfl) ?_; conv => whnf) | (refine AW.label ?_; conv => whnf) | (refine AW.scope ?_; conv => whnf) | (refine AO.cons hT ?_; conv => whnf) | (refine AO.nil ?_; conv => whnf) | (refine AW.seq ?_; conv => whnf) | (refine AW.region ?_; conv => whnf) | (refine AW.cond ?_; conv => whnf) | (refine AW.block ?_; conv => whnf) | (refine AW.loop ?_; conv => whnf) | (refine AW.skip ?_; conv => whnf) | (refine AW.exit ?_; conv => whnf) | (refine AW.ret ?_; conv => whnf) | (refine AF.one hT rfl ?_; conv => whnf) | (refine AF.nil ?_; conv => whnf) | (refine AF.imm hT rfl rfl rfl ?_; conv => whnf) | (refine AH.of hT rfl ?_; conv => whnf) | (refine ASplit.yes rfl ?_; conv => whnf) | (refine ACond.yes rfl ?_; conv => whnf) | (refine ASplit.no rfl ?_; conv => whnf) | (refine ACond.no rfl ?_; conv => whnf) | (refine ASplit.yes (by decide) ?_; conv => whnf) | (refine ACond.yes (by decide) ?_; conv => whnf) | (refine AReq.mk (by decide) ?_; conv => whnf) | (refine AIdx.iff.2 ⟨by decide, ?_⟩; conv => whnf))
  refine ACall.dev (by kernel_rfl) (f52 x hx) rfl rfl rfl (by decide) (fun _ => rfl) (by rintro _ _ ⟨rfl, _⟩ ρ; exact iVs_ren ρ _) ?_
  rintro _ x bs2 ck2 ⟨rfl, rfl⟩
  unfold bootD
  generalize hS : kS x.L = S
  have hperm : (x.L.map (·.1)).Perm S := by rw [← hS]; exact (List.mergeSort_perm _ _).symm
  have hSl : S.length = x.L.length := by have := hperm.length_eq; simpa using this.symm
  have hkl := keys_len x hx
  conv => whnf
  repeat ((first | refine AW.plan (id := 10) hm (.one 0 (.one 4 (.one 6 (.one 8 (.one 9 (.one 1 (.one 2 (.one 3 (.one 5 (.one 7 (.one 10 .nil))))))))))) (by kernel_rfl) ?_ | refine AW.plan (id := 12) hm (.one 0 (.one 4 (.imm 5 (.one 1 (.one 2 (.one 3 (.one 6 (.one 7 .nil)))))))) (by kernel_rfl) ?_ | refine AO.cons hT ?_ | refine AO.nil ?_ | refine AW.seq ?_ | refine AW.region ?_ | refine AW.cond ?_ | refine AW.block ?_ | refine AW.loop ?_ | refine AW.skip ?_ | refine AW.exit ?_ | refine AW.ret ?_ | refine AW.label ?_ | refine AW.scope ?_ | refine AF.one hT rfl ?_ | refine AF.nil ?_ | refine AF.imm hT rfl rfl rfl ?_ | refine AH.of hT rfl ?_ | refine AD.cons hT rfl ?_ | refine AD.nil ?_ | refine AQ.cons hT rfl ?_ | refine AQ.nil ?_); conv => whnf)
  refine ALoop.mk (fun j E H => ∃ (i : Nat) (y : Dd) (bs : List Nat) (ck : Nat), j + i = S.length ∧ Dok y ∧ (y.L.map (·.1)).Perm (S.drop i) ∧ bootL c i (S.drop i) y = bootL c 0 S x ∧ E = pad ([.ptr 0 0, .any, .any, .ptr 3 0, nV 0] ++ List.replicate 8 .any ++ [iVs S, nV S.length, nV i]) 79 ∧ H = dvH y bs ck ++ [.cells 38 (chC c)])
    (n := S.length) _ _ ⟨0, x, bs2, ck2, by omega, hx, hperm, rfl, rfl, rfl⟩ (Conv.fit ?_) ?_
  · repeat' (first | exact Fit.nil | refine Fit.any ?_ | refine Fit.same ?_)
  rintro j _ _ ⟨i, y, bs3, ck3, hj, hy, hyp, hyb, rfl, rfl⟩
  conv => whnf
  repeat ((first | refine AW.plan (id := 10) hm (.one 0 (.one 4 (.one 6 (.one 8 (.one 9 (.one 1 (.one 2 (.one 3 (.one 5 (.one 7 (.one 10 .nil))))))))))) (by kernel_rfl) ?_ | refine AW.plan (id := 12) hm (.one 0 (.one 4 (.imm 5 (.one 1 (.one 2 (.one 3 (.one 6 (.one 7 .nil)))))))) (by kernel_rfl) ?_ | refine AO.cons hT ?_ | refine AO.nil ?_ | refine AW.seq ?_ | refine AW.region ?_ | refine AW.cond ?_ | refine AW.block ?_ | refine AW.loop ?_ | refine AW.skip ?_ | refine AW.exit ?_ | refine AW.ret ?_ | refine AW.label ?_ | refine AW.scope ?_ | refine AF.one hT rfl ?_ | refine AF.nil ?_ | refine AF.imm hT rfl rfl rfl ?_ | refine AH.of hT rfl ?_ | refine AD.cons hT rfl ?_ | refine AD.nil ?_ | refine AQ.cons hT rfl ?_ | refine AQ.nil ?_); conv => whnf)
  refine ACond.dec (fun h4 => ?_) (fun h4 => ?_)
  · obtain ⟨j, rfl⟩ : ∃ i, j = i + 1 := ⟨j - 1, by omega⟩
    have hi : i < S.length := by omega
    have hdr : S.drop i = S[i] :: S.drop (i + 1) := List.drop_eq_getElem_cons hi
    rw [hdr] at hyp hyb
    have hkm : S[i] ∈ y.L.map (·.1) := hyp.mem_iff.2 (List.mem_cons_self ..)
    obtain ⟨p, hp, hpk⟩ := List.mem_map.1 hkm
    obtain ⟨k0, b0⟩ := p
    have hpk : k0 = S[i] := hpk
    have hk1 := hy.keys _ hp
    have hyl := hy.len
    have hyn := hy.le
    obtain ⟨k, hk⟩ : ∃ k : Nat, S[i] = (k : Int) := ⟨S[i].toNat, by rw [← hpk]; have := hk1.1; simp at this; omega⟩
    rw [hpk, hk] at hp hk1
    have hk2 : k < y.n := by have := hk1.2.1; simp at this; omega
    have hb0 : b0.length = 64 := hk1.2.2
    rw [hk] at hyp hyb hkm
    rw [bootL] at hyb
    have hyok := hy.boot (c := c) (i := i) hkm
    have hdp := del_perm hy.nd hyp
    obtain ⟨j0, hj0⟩ := List.getElem?_of_mem hp
    have hlk : lookL y.L (k : Int) = b0 := look_at hy.nd hj0
    conv => whnf
    repeat ((first | refine AW.plan (id := 10) hm (.one 0 (.one 4 (.one 6 (.one 8 (.one 9 (.one 1 (.one 2 (.one 3 (.one 5 (.one 7 (.one 10 .nil))))))))))) (by kernel_rfl) ?_ | refine AW.plan (id := 12) hm (.one 0 (.one 4 (.imm 5 (.one 1 (.one 2 (.one 3 (.one 6 (.one 7 .nil)))))))) (by kernel_rfl) ?_ | refine AO.cons hT ?_ | refine AO.nil ?_ | refine AW.seq ?_ | refine AW.region ?_ | refine AW.cond ?_ | refine AW.block ?_ | refine AW.loop ?_ | refine AW.skip ?_ | refine AW.exit ?_ | refine AW.ret ?_ | refine AW.label ?_ | refine AW.scope ?_ | refine AF.one hT rfl ?_ | refine AF.nil ?_ | refine AF.imm hT rfl rfl rfl ?_ | refine AH.of hT rfl ?_ | refine AD.cons hT rfl ?_ | refine AD.nil ?_ | refine AQ.cons hT rfl ?_ | refine AQ.nil ?_); conv => whnf)
    refine AReq.mk ⟨by omega, by omega⟩ ?_
    conv => whnf
    repeat ((first | refine AW.plan (id := 10) hm (.one 0 (.one 4 (.one 6 (.one 8 (.one 9 (.one 1 (.one 2 (.one 3 (.one 5 (.one 7 (.one 10 .nil))))))))))) (by kernel_rfl) ?_ | refine AW.plan (id := 12) hm (.one 0 (.one 4 (.imm 5 (.one 1 (.one 2 (.one 3 (.one 6 (.one 7 .nil)))))))) (by kernel_rfl) ?_ | refine AO.cons hT ?_ | refine AO.nil ?_ | refine AW.seq ?_ | refine AW.region ?_ | refine AW.cond ?_ | refine AW.block ?_ | refine AW.loop ?_ | refine AW.skip ?_ | refine AW.exit ?_ | refine AW.ret ?_ | refine AW.label ?_ | refine AW.scope ?_ | refine AF.one hT rfl ?_ | refine AF.nil ?_ | refine AF.imm hT rfl rfl rfl ?_ | refine AH.of hT rfl ?_ | refine AD.cons hT rfl ?_ | refine AD.nil ?_ | refine AQ.cons hT rfl ?_ | refine AQ.nil ?_); conv => whnf)
    refine AIdx.map1 (by omega) ?_
    conv => whnf
    repeat ((first | refine AW.plan (id := 10) hm (.one 0 (.one 4 (.one 6 (.one 8 (.one 9 (.one 1 (.one 2 (.one 3 (.one 5 (.one 7 (.one 10 .nil))))))))))) (by kernel_rfl) ?_ | refine AW.plan (id := 12) hm (.one 0 (.one 4 (.imm 5 (.one 1 (.one 2 (.one 3 (.one 6 (.one 7 .nil)))))))) (by kernel_rfl) ?_ | refine AO.cons hT ?_ | refine AO.nil ?_ | refine AW.seq ?_ | refine AW.region ?_ | refine AW.cond ?_ | refine AW.block ?_ | refine AW.loop ?_ | refine AW.skip ?_ | refine AW.exit ?_ | refine AW.ret ?_ | refine AW.label ?_ | refine AW.scope ?_ | refine AF.one hT rfl ?_ | refine AF.nil ?_ | refine AF.imm hT rfl rfl rfl ?_ | refine AH.of hT rfl ?_ | refine AD.cons hT rfl ?_ | refine AD.nil ?_ | refine AQ.cons hT rfl ?_ | refine AQ.nil ?_); conv => whnf)
    rw [show S[Int.toNat (i : Int)] = S[i] from rfl, hk]
    refine AOp.lookup (a := (k : Int)) hT nK und60 ne71 rfl rfl rfl hy.ok (nOk_of (by omega) (by omega)) (fun hno => absurd rfl (hno _ hp)) (fun jj b hjj => ?_)
    obtain rfl : b = b0 := (look_at hy.nd hjj).symm.trans hlk
    conv => whnf
    repeat ((first | refine AW.plan (id := 10) hm (.one 0 (.one 4 (.one 6 (.one 8 (.one 9 (.one 1 (.one 2 (.one 3 (.one 5 (.one 7 (.one 10 .nil))))))))))) (by kernel_rfl) ?_ | refine AW.plan (id := 12) hm (.one 0 (.one 4 (.imm 5 (.one 1 (.one 2 (.one 3 (.one 6 (.one 7 .nil)))))))) (by kernel_rfl) ?_ | refine AO.cons hT ?_ | refine AO.nil ?_ | refine AW.seq ?_ | refine AW.region ?_ | refine AW.cond ?_ | refine AW.block ?_ | refine AW.loop ?_ | refine AW.skip ?_ | refine AW.exit ?_ | refine AW.ret ?_ | refine AW.label ?_ | refine AW.scope ?_ | refine AF.one hT rfl ?_ | refine AF.nil ?_ | refine AF.imm hT rfl rfl rfl ?_ | refine AH.of hT rfl ?_ | refine AD.cons hT rfl ?_ | refine AD.nil ?_ | refine AQ.cons hT rfl ?_ | refine AQ.nil ?_); conv => whnf)
    refine AReq.mk (by rw [List.length_map, hb0]; rfl) ?_
    conv => whnf
    repeat ((first | refine AW.plan (id := 10) hm (.one 0 (.one 4 (.one 6 (.one 8 (.one 9 (.one 1 (.one 2 (.one 3 (.one 5 (.one 7 (.one 10 .nil))))))))))) (by kernel_rfl) ?_ | refine AW.plan (id := 12) hm (.one 0 (.one 4 (.imm 5 (.one 1 (.one 2 (.one 3 (.one 6 (.one 7 .nil)))))))) (by kernel_rfl) ?_ | refine AO.cons hT ?_ | refine AO.nil ?_ | refine AW.seq ?_ | refine AW.region ?_ | refine AW.cond ?_ | refine AW.block ?_ | refine AW.loop ?_ | refine AW.skip ?_ | refine AW.exit ?_ | refine AW.ret ?_ | refine AW.label ?_ | refine AW.scope ?_ | refine AF.one hT rfl ?_ | refine AF.nil ?_ | refine AF.imm hT rfl rfl rfl ?_ | refine AH.of hT rfl ?_ | refine AD.cons hT rfl ?_ | refine AD.nil ?_ | refine AQ.cons hT rfl ?_ | refine AQ.nil ?_); conv => whnf)
    refine AUpd.full (by rw [List.length_map, hb0, List.length_replicate]) ?_
    conv => whnf
    repeat ((first | refine AW.plan (id := 10) hm (.one 0 (.one 4 (.one 6 (.one 8 (.one 9 (.one 1 (.one 2 (.one 3 (.one 5 (.one 7 (.one 10 .nil))))))))))) (by kernel_rfl) ?_ | refine AW.plan (id := 12) hm (.one 0 (.one 4 (.imm 5 (.one 1 (.one 2 (.one 3 (.one 6 (.one 7 .nil)))))))) (by kernel_rfl) ?_ | refine AO.cons hT ?_ | refine AO.nil ?_ | refine AW.seq ?_ | refine AW.region ?_ | refine AW.cond ?_ | refine AW.block ?_ | refine AW.loop ?_ | refine AW.skip ?_ | refine AW.exit ?_ | refine AW.ret ?_ | refine AW.label ?_ | refine AW.scope ?_ | refine AF.one hT rfl ?_ | refine AF.nil ?_ | refine AF.imm hT rfl rfl rfl ?_ | refine AH.of hT rfl ?_ | refine AD.cons hT rfl ?_ | refine AD.nil ?_ | refine AQ.cons hT rfl ?_ | refine AQ.nil ?_); conv => whnf)
    refine AOp.delete (a := (k : Int)) nK und60 rfl rfl rfl rfl rfl hy.ok (nOk_of (by omega) (by omega)) (fun hno => absurd rfl (hno _ hp)) (fun jj b' hjj => ?_)
    rw [del_at hy.nd hjj]
    conv => whnf
    repeat ((first | refine AW.plan (id := 10) hm (.one 0 (.one 4 (.one 6 (.one 8 (.one 9 (.one 1 (.one 2 (.one 3 (.one 5 (.one 7 (.one 10 .nil))))))))))) (by kernel_rfl) ?_ | refine AW.plan (id := 12) hm (.one 0 (.one 4 (.imm 5 (.one 1 (.one 2 (.one 3 (.one 6 (.one 7 .nil)))))))) (by kernel_rfl) ?_ | refine AO.cons hT ?_ | refine AO.nil ?_ | refine AW.seq ?_ | refine AW.region ?_ | refine AW.cond ?_ | refine AW.block ?_ | refine AW.loop ?_ | refine AW.skip ?_ | refine AW.exit ?_ | refine AW.ret ?_ | refine AW.label ?_ | refine AW.scope ?_ | refine AF.one hT rfl ?_ | refine AF.nil ?_ | refine AF.imm hT rfl rfl rfl ?_ | refine AH.of hT rfl ?_ | refine AD.cons hT rfl ?_ | refine AD.nil ?_ | refine AQ.cons hT rfl ?_ | refine AQ.nil ?_); conv => whnf)
    have hCe : (bootS c i (k : Int) y).cs = bootC c i k y.cs b := by
      show bootC c i (Int.toNat (k : Int)) y.cs (lookL y.L (k : Int)) = _
      rw [hlk, Int.toNat_natCast]
    unfold bootC at hCe
    refine ACond.dec (fun h5 => ?_) (fun h5 => ?_)
    · rw [if_pos h5] at hCe
      conv => whnf
      repeat ((first | refine AW.plan (id := 10) hm (.one 0 (.one 4 (.one 6 (.one 8 (.one 9 (.one 1 (.one 2 (.one 3 (.one 5 (.one 7 (.one 10 .nil))))))))))) (by kernel_rfl) ?_ | refine AW.plan (id := 12) hm (.one 0 (.one 4 (.imm 5 (.one 1 (.one 2 (.one 3 (.one 6 (.one 7 .nil)))))))) (by kernel_rfl) ?_ | refine AO.cons hT ?_ | refine AO.nil ?_ | refine AW.seq ?_ | refine AW.region ?_ | refine AW.cond ?_ | refine AW.block ?_ | refine AW.loop ?_ | refine AW.skip ?_ | refine AW.exit ?_ | refine AW.ret ?_ | refine AW.label ?_ | refine AW.scope ?_ | refine AF.one hT rfl ?_ | refine AF.nil ?_ | refine AF.imm hT rfl rfl rfl ?_ | refine AH.of hT rfl ?_ | refine AD.cons hT rfl ?_ | refine AD.nil ?_ | refine AQ.cons hT rfl ?_ | refine AQ.nil ?_); conv => whnf)
      rw [clamp_eq]
      have hcl := clampN_le c.cut
      generalize clampN c.cut = n at *
      refine AReq.mk (by rw [List.length_map, hb0]; decide) ?_
      refine AReq.mk ⟨by omega, by omega⟩ ?_
      conv => whnf
      repeat ((first | refine AW.plan (id := 10) hm (.one 0 (.one 4 (.one 6 (.one 8 (.one 9 (.one 1 (.one 2 (.one 3 (.one 5 (.one 7 (.one 10 .nil))))))))))) (by kernel_rfl) ?_ | refine AW.plan (id := 12) hm (.one 0 (.one 4 (.imm 5 (.one 1 (.one 2 (.one 3 (.one 6 (.one 7 .nil)))))))) (by kernel_rfl) ?_ | refine AO.cons hT ?_ | refine AO.nil ?_ | refine AW.seq ?_ | refine AW.region ?_ | refine AW.cond ?_ | refine AW.block ?_ | refine AW.loop ?_ | refine AW.skip ?_ | refine AW.exit ?_ | refine AW.ret ?_ | refine AW.label ?_ | refine AW.scope ?_ | refine AF.one hT rfl ?_ | refine AF.nil ?_ | refine AF.imm hT rfl rfl rfl ?_ | refine AH.of hT rfl ?_ | refine AD.cons hT rfl ?_ | refine AD.nil ?_ | refine AQ.cons hT rfl ?_ | refine AQ.nil ?_); conv => whnf)
      refine AReq.mk ⟨by omega, by omega⟩ ?_
      conv => whnf
      repeat ((first | refine AW.plan (id := 10) hm (.one 0 (.one 4 (.one 6 (.one 8 (.one 9 (.one 1 (.one 2 (.one 3 (.one 5 (.one 7 (.one 10 .nil))))))))))) (by kernel_rfl) ?_ | refine AW.plan (id := 12) hm (.one 0 (.one 4 (.imm 5 (.one 1 (.one 2 (.one 3 (.one 6 (.one 7 .nil)))))))) (by kernel_rfl) ?_ | refine AO.cons hT ?_ | refine AO.nil ?_ | refine AW.seq ?_ | refine AW.region ?_ | refine AW.cond ?_ | refine AW.block ?_ | refine AW.loop ?_ | refine AW.skip ?_ | refine AW.exit ?_ | refine AW.ret ?_ | refine AW.label ?_ | refine AW.scope ?_ | refine AF.one hT rfl ?_ | refine AF.nil ?_ | refine AF.imm hT rfl rfl rfl ?_ | refine AH.of hT rfl ?_ | refine AD.cons hT rfl ?_ | refine AD.nil ?_ | refine AQ.cons hT rfl ?_ | refine AQ.nil ?_); conv => whnf)
      refine AReq.mk (by rw [List.length_map, hyl]; show 0 + k * 64 + 0 + 64 * 1 ≤ _; omega) ?_
      refine AReq.mk ⟨by omega, by omega⟩ ?_
      conv => whnf
      repeat ((first | refine AW.plan (id := 10) hm (.one 0 (.one 4 (.one 6 (.one 8 (.one 9 (.one 1 (.one 2 (.one 3 (.one 5 (.one 7 (.one 10 .nil))))))))))) (by kernel_rfl) ?_ | refine AW.plan (id := 12) hm (.one 0 (.one 4 (.imm 5 (.one 1 (.one 2 (.one 3 (.one 6 (.one 7 .nil)))))))) (by kernel_rfl) ?_ | refine AO.cons hT ?_ | refine AO.nil ?_ | refine AW.seq ?_ | refine AW.region ?_ | refine AW.cond ?_ | refine AW.block ?_ | refine AW.loop ?_ | refine AW.skip ?_ | refine AW.exit ?_ | refine AW.ret ?_ | refine AW.label ?_ | refine AW.scope ?_ | refine AF.one hT rfl ?_ | refine AF.nil ?_ | refine AF.imm hT rfl rfl rfl ?_ | refine AH.of hT rfl ?_ | refine AD.cons hT rfl ?_ | refine AD.nil ?_ | refine AQ.cons hT rfl ?_ | refine AQ.nil ?_); conv => whnf)
      refine ACut.drop (by rw [hb0]; show 0 + n * 1 + (64 - n) * 1 = 64; omega) ?_
      conv => whnf
      repeat ((first | refine AW.plan (id := 10) hm (.one 0 (.one 4 (.one 6 (.one 8 (.one 9 (.one 1 (.one 2 (.one 3 (.one 5 (.one 7 (.one 10 .nil))))))))))) (by kernel_rfl) ?_ | refine AW.plan (id := 12) hm (.one 0 (.one 4 (.imm 5 (.one 1 (.one 2 (.one 3 (.one 6 (.one 7 .nil)))))))) (by kernel_rfl) ?_ | refine AO.cons hT ?_ | refine AO.nil ?_ | refine AW.seq ?_ | refine AW.region ?_ | refine AW.cond ?_ | refine AW.block ?_ | refine AW.loop ?_ | refine AW.skip ?_ | refine AW.exit ?_ | refine AW.ret ?_ | refine AW.label ?_ | refine AW.scope ?_ | refine AF.one hT rfl ?_ | refine AF.nil ?_ | refine AF.imm hT rfl rfl rfl ?_ | refine AH.of hT rfl ?_ | refine AD.cons hT rfl ?_ | refine AD.nil ?_ | refine AQ.cons hT rfl ?_ | refine AQ.nil ?_); conv => whnf)
      have en : 0 + Int.toNat (n : Int) * (T 5).size = n := by show 0 + n * 1 = n; omega
      rw [en]
      have hdl : (b.drop n).length = 64 - n := by rw [List.length_drop, hb0]
      refine ACut.all (by rw [List.length_map, hdl]; show 64 - n = min (64 - n) (64 - n) * 1; omega) ?_
      conv => whnf
      repeat ((first | refine AW.plan (id := 10) hm (.one 0 (.one 4 (.one 6 (.one 8 (.one 9 (.one 1 (.one 2 (.one 3 (.one 5 (.one 7 (.one 10 .nil))))))))))) (by kernel_rfl) ?_ | refine AW.plan (id := 12) hm (.one 0 (.one 4 (.imm 5 (.one 1 (.one 2 (.one 3 (.one 6 (.one 7 .nil)))))))) (by kernel_rfl) ?_ | refine AO.cons hT ?_ | refine AO.nil ?_ | refine AW.seq ?_ | refine AW.region ?_ | refine AW.cond ?_ | refine AW.block ?_ | refine AW.loop ?_ | refine AW.skip ?_ | refine AW.exit ?_ | refine AW.ret ?_ | refine AW.label ?_ | refine AW.scope ?_ | refine AF.one hT rfl ?_ | refine AF.nil ?_ | refine AF.imm hT rfl rfl rfl ?_ | refine AH.of hT rfl ?_ | refine AD.cons hT rfl ?_ | refine AD.nil ?_ | refine AQ.cons hT rfl ?_ | refine AQ.nil ?_); conv => whnf)
      refine AUpd.torn (k := k) (n := n) (by show 0 + k * 64 + 0 + n * 1 = 64 * k + n; omega) (by rw [hdl]; omega) ?_
      conv => whnf
      repeat ((first | refine AW.plan (id := 10) hm (.one 0 (.one 4 (.one 6 (.one 8 (.one 9 (.one 1 (.one 2 (.one 3 (.one 5 (.one 7 (.one 10 .nil))))))))))) (by kernel_rfl) ?_ | refine AW.plan (id := 12) hm (.one 0 (.one 4 (.imm 5 (.one 1 (.one 2 (.one 3 (.one 6 (.one 7 .nil)))))))) (by kernel_rfl) ?_ | refine AO.cons hT ?_ | refine AO.nil ?_ | refine AW.seq ?_ | refine AW.region ?_ | refine AW.cond ?_ | refine AW.block ?_ | refine AW.loop ?_ | refine AW.skip ?_ | refine AW.exit ?_ | refine AW.ret ?_ | refine AW.label ?_ | refine AW.scope ?_ | refine AF.one hT rfl ?_ | refine AF.nil ?_ | refine AF.imm hT rfl rfl rfl ?_ | refine AH.of hT rfl ?_ | refine AD.cons hT rfl ?_ | refine AD.nil ?_ | refine AQ.cons hT rfl ?_ | refine AQ.nil ?_); conv => whnf)
      rw [wrap_i64 ((i : Int) + 1) (by omega) (by omega)]
      refine AHead.mk j _ _ (by omega) ⟨i + 1, bootS c i (k : Int) y, bs3.eraseIdx jj, ck3, by omega, hyok, hdp, hyb, rfl, rfl⟩ (Conv.ren [0, 1, 2, 3] _ (fun _ h => three h) (by decide) (by repeat' (first | exact Fit.nil | refine Fit.any ?_ | refine Fit.same ?_ | refine Fit.eq (iVs_ren _ _) ?_)) (.same ?_ (.same ?_ (.same ?_ (.same ?_ .nil)))))
      · rw [dD_ren]; rfl
      · rw [dC_ren]; show some (ABlk.cells 103 _) = some (ABlk.cells 103 _); rw [hCe]
      · rw [dM_ren]; rfl
      · rw [cells_ren, chC_ren]; rfl
    · rw [if_neg h5] at hCe
      conv => whnf
      repeat ((first | refine AW.plan (id := 10) hm (.one 0 (.one 4 (.one 6 (.one 8 (.one 9 (.one 1 (.one 2 (.one 3 (.one 5 (.one 7 (.one 10 .nil))))))))))) (by kernel_rfl) ?_ | refine AW.plan (id := 12) hm (.one 0 (.one 4 (.imm 5 (.one 1 (.one 2 (.one 3 (.one 6 (.one 7 .nil)))))))) (by kernel_rfl) ?_ | refine AO.cons hT ?_ | refine AO.nil ?_ | refine AW.seq ?_ | refine AW.region ?_ | refine AW.cond ?_ | refine AW.block ?_ | refine AW.loop ?_ | refine AW.skip ?_ | refine AW.exit ?_ | refine AW.ret ?_ | refine AW.label ?_ | refine AW.scope ?_ | refine AF.one hT rfl ?_ | refine AF.nil ?_ | refine AF.imm hT rfl rfl rfl ?_ | refine AH.of hT rfl ?_ | refine AD.cons hT rfl ?_ | refine AD.nil ?_ | refine AQ.cons hT rfl ?_ | refine AQ.nil ?_); conv => whnf)
      refine ASplit.dec (fun h6 => ?_) (fun h6 => ?_)
      · rw [if_neg (by rw [List.getD_eq_getElem?_getD, List.getElem?_eq_none (by omega)]; simp)] at hCe
        conv => whnf
        repeat ((first | refine AW.plan (id := 10) hm (.one 0 (.one 4 (.one 6 (.one 8 (.one 9 (.one 1 (.one 2 (.one 3 (.one 5 (.one 7 (.one 10 .nil))))))))))) (by kernel_rfl) ?_ | refine AW.plan (id := 12) hm (.one 0 (.one 4 (.imm 5 (.one 1 (.one 2 (.one 3 (.one 6 (.one 7 .nil)))))))) (by kernel_rfl) ?_ | refine AO.cons hT ?_ | refine AO.nil ?_ | refine AW.seq ?_ | refine AW.region ?_ | refine AW.cond ?_ | refine AW.block ?_ | refine AW.loop ?_ | refine AW.skip ?_ | refine AW.exit ?_ | refine AW.ret ?_ | refine AW.label ?_ | refine AW.scope ?_ | refine AF.one hT rfl ?_ | refine AF.nil ?_ | refine AF.imm hT rfl rfl rfl ?_ | refine AH.of hT rfl ?_ | refine AD.cons hT rfl ?_ | refine AD.nil ?_ | refine AQ.cons hT rfl ?_ | refine AQ.nil ?_); conv => whnf)
        refine ACond.yes rfl ?_
        refine AW.conv _ _ (Conv.freeze 4 (t := 103) (cs := b.map byteC) rfl) ?_
        conv => whnf
        repeat ((first | refine AW.plan (id := 10) hm (.one 0 (.one 4 (.one 6 (.one 8 (.one 9 (.one 1 (.one 2 (.one 3 (.one 5 (.one 7 (.one 10 .nil))))))))))) (by kernel_rfl) ?_ | refine AW.plan (id := 12) hm (.one 0 (.one 4 (.imm 5 (.one 1 (.one 2 (.one 3 (.one 6 (.one 7 .nil)))))))) (by kernel_rfl) ?_ | refine AO.cons hT ?_ | refine AO.nil ?_ | refine AW.seq ?_ | refine AW.region ?_ | refine AW.cond ?_ | refine AW.block ?_ | refine AW.loop ?_ | refine AW.skip ?_ | refine AW.exit ?_ | refine AW.ret ?_ | refine AW.label ?_ | refine AW.scope ?_ | refine AF.one hT rfl ?_ | refine AF.nil ?_ | refine AF.imm hT rfl rfl rfl ?_ | refine AH.of hT rfl ?_ | refine AD.cons hT rfl ?_ | refine AD.nil ?_ | refine AQ.cons hT rfl ?_ | refine AQ.nil ?_); conv => whnf)
        refine ACut.cell (cs := b) hb0 ?_
        conv => whnf
        repeat ((first | refine AW.plan (id := 10) hm (.one 0 (.one 4 (.one 6 (.one 8 (.one 9 (.one 1 (.one 2 (.one 3 (.one 5 (.one 7 (.one 10 .nil))))))))))) (by kernel_rfl) ?_ | refine AW.plan (id := 12) hm (.one 0 (.one 4 (.imm 5 (.one 1 (.one 2 (.one 3 (.one 6 (.one 7 .nil)))))))) (by kernel_rfl) ?_ | refine AO.cons hT ?_ | refine AO.nil ?_ | refine AW.seq ?_ | refine AW.region ?_ | refine AW.cond ?_ | refine AW.block ?_ | refine AW.loop ?_ | refine AW.skip ?_ | refine AW.exit ?_ | refine AW.ret ?_ | refine AW.label ?_ | refine AW.scope ?_ | refine AF.one hT rfl ?_ | refine AF.nil ?_ | refine AF.imm hT rfl rfl rfl ?_ | refine AH.of hT rfl ?_ | refine AD.cons hT rfl ?_ | refine AD.nil ?_ | refine AQ.cons hT rfl ?_ | refine AQ.nil ?_); conv => whnf)
        refine AReq.mk ⟨by omega, by omega⟩ ?_
        conv => whnf
        repeat ((first | refine AW.plan (id := 10) hm (.one 0 (.one 4 (.one 6 (.one 8 (.one 9 (.one 1 (.one 2 (.one 3 (.one 5 (.one 7 (.one 10 .nil))))))))))) (by kernel_rfl) ?_ | refine AW.plan (id := 12) hm (.one 0 (.one 4 (.imm 5 (.one 1 (.one 2 (.one 3 (.one 6 (.one 7 .nil)))))))) (by kernel_rfl) ?_ | refine AO.cons hT ?_ | refine AO.nil ?_ | refine AW.seq ?_ | refine AW.region ?_ | refine AW.cond ?_ | refine AW.block ?_ | refine AW.loop ?_ | refine AW.skip ?_ | refine AW.exit ?_ | refine AW.ret ?_ | refine AW.label ?_ | refine AW.scope ?_ | refine AF.one hT rfl ?_ | refine AF.nil ?_ | refine AF.imm hT rfl rfl rfl ?_ | refine AH.of hT rfl ?_ | refine AD.cons hT rfl ?_ | refine AD.nil ?_ | refine AQ.cons hT rfl ?_ | refine AQ.nil ?_); conv => whnf)
        refine AReq.mk (by rw [List.length_map, hb0]; rfl) ?_
        conv => whnf
        repeat ((first | refine AW.plan (id := 10) hm (.one 0 (.one 4 (.one 6 (.one 8 (.one 9 (.one 1 (.one 2 (.one 3 (.one 5 (.one 7 (.one 10 .nil))))))))))) (by kernel_rfl) ?_ | refine AW.plan (id := 12) hm (.one 0 (.one 4 (.imm 5 (.one 1 (.one 2 (.one 3 (.one 6 (.one 7 .nil)))))))) (by kernel_rfl) ?_ | refine AO.cons hT ?_ | refine AO.nil ?_ | refine AW.seq ?_ | refine AW.region ?_ | refine AW.cond ?_ | refine AW.block ?_ | refine AW.loop ?_ | refine AW.skip ?_ | refine AW.exit ?_ | refine AW.ret ?_ | refine AW.label ?_ | refine AW.scope ?_ | refine AF.one hT rfl ?_ | refine AF.nil ?_ | refine AF.imm hT rfl rfl rfl ?_ | refine AH.of hT rfl ?_ | refine AD.cons hT rfl ?_ | refine AD.nil ?_ | refine AQ.cons hT rfl ?_ | refine AQ.nil ?_); conv => whnf)
        refine AUpd.put (k := k) (by omega) (by omega) ?_
        conv => whnf
        repeat ((first | refine AW.plan (id := 10) hm (.one 0 (.one 4 (.one 6 (.one 8 (.one 9 (.one 1 (.one 2 (.one 3 (.one 5 (.one 7 (.one 10 .nil))))))))))) (by kernel_rfl) ?_ | refine AW.plan (id := 12) hm (.one 0 (.one 4 (.imm 5 (.one 1 (.one 2 (.one 3 (.one 6 (.one 7 .nil)))))))) (by kernel_rfl) ?_ | refine AO.cons hT ?_ | refine AO.nil ?_ | refine AW.seq ?_ | refine AW.region ?_ | refine AW.cond ?_ | refine AW.block ?_ | refine AW.loop ?_ | refine AW.skip ?_ | refine AW.exit ?_ | refine AW.ret ?_ | refine AW.label ?_ | refine AW.scope ?_ | refine AF.one hT rfl ?_ | refine AF.nil ?_ | refine AF.imm hT rfl rfl rfl ?_ | refine AH.of hT rfl ?_ | refine AD.cons hT rfl ?_ | refine AD.nil ?_ | refine AQ.cons hT rfl ?_ | refine AQ.nil ?_); conv => whnf)
        rw [wrap_i64 ((i : Int) + 1) (by omega) (by omega)]
        refine AHead.mk j _ _ (by omega) ⟨i + 1, bootS c i (k : Int) y, bs3.eraseIdx jj, ck3, by omega, hyok, hdp, hyb, rfl, rfl⟩ (Conv.ren [0, 1, 2, 3] _ (fun _ h => three h) (by decide) (by repeat' (first | exact Fit.nil | refine Fit.any ?_ | refine Fit.same ?_ | refine Fit.eq (iVs_ren _ _) ?_)) (.same ?_ (.same ?_ (.same ?_ (.same ?_ .nil)))))
        · rw [dD_ren]; rfl
        · rw [dC_ren]; show some (ABlk.cells 103 _) = some (ABlk.cells 103 _); rw [hCe]
        · rw [dM_ren]; rfl
        · rw [cells_ren, chC_ren]; rfl
      · conv => whnf
        repeat ((first | refine AW.plan (id := 10) hm (.one 0 (.one 4 (.one 6 (.one 8 (.one 9 (.one 1 (.one 2 (.one 3 (.one 5 (.one 7 (.one 10 .nil))))))))))) (by kernel_rfl) ?_ | refine AW.plan (id := 12) hm (.one 0 (.one 4 (.imm 5 (.one 1 (.one 2 (.one 3 (.one 6 (.one 7 .nil)))))))) (by kernel_rfl) ?_ | refine AO.cons hT ?_ | refine AO.nil ?_ | refine AW.seq ?_ | refine AW.region ?_ | refine AW.cond ?_ | refine AW.block ?_ | refine AW.loop ?_ | refine AW.skip ?_ | refine AW.exit ?_ | refine AW.ret ?_ | refine AW.label ?_ | refine AW.scope ?_ | refine AF.one hT rfl ?_ | refine AF.nil ?_ | refine AF.imm hT rfl rfl rfl ?_ | refine AH.of hT rfl ?_ | refine AD.cons hT rfl ?_ | refine AD.nil ?_ | refine AQ.cons hT rfl ?_ | refine AQ.nil ?_); conv => whnf)
        refine AReq.mk ⟨by omega, by omega⟩ ?_
        conv => whnf
        repeat ((first | refine AW.plan (id := 10) hm (.one 0 (.one 4 (.one 6 (.one 8 (.one 9 (.one 1 (.one 2 (.one 3 (.one 5 (.one 7 (.one 10 .nil))))))))))) (by kernel_rfl) ?_ | refine AW.plan (id := 12) hm (.one 0 (.one 4 (.imm 5 (.one 1 (.one 2 (.one 3 (.one 6 (.one 7 .nil)))))))) (by kernel_rfl) ?_ | refine AO.cons hT ?_ | refine AO.nil ?_ | refine AW.seq ?_ | refine AW.region ?_ | refine AW.cond ?_ | refine AW.block ?_ | refine AW.loop ?_ | refine AW.skip ?_ | refine AW.exit ?_ | refine AW.ret ?_ | refine AW.label ?_ | refine AW.scope ?_ | refine AF.one hT rfl ?_ | refine AF.nil ?_ | refine AF.imm hT rfl rfl rfl ?_ | refine AH.of hT rfl ?_ | refine AD.cons hT rfl ?_ | refine AD.nil ?_ | refine AQ.cons hT rfl ?_ | refine AQ.nil ?_); conv => whnf)
        refine AIdx.map1 (by omega) ?_
        conv => whnf
        repeat ((first | refine AW.plan (id := 10) hm (.one 0 (.one 4 (.one 6 (.one 8 (.one 9 (.one 1 (.one 2 (.one 3 (.one 5 (.one 7 (.one 10 .nil))))))))))) (by kernel_rfl) ?_ | refine AW.plan (id := 12) hm (.one 0 (.one 4 (.imm 5 (.one 1 (.one 2 (.one 3 (.one 6 (.one 7 .nil)))))))) (by kernel_rfl) ?_ | refine AO.cons hT ?_ | refine AO.nil ?_ | refine AW.seq ?_ | refine AW.region ?_ | refine AW.cond ?_ | refine AW.block ?_ | refine AW.loop ?_ | refine AW.skip ?_ | refine AW.exit ?_ | refine AW.ret ?_ | refine AW.label ?_ | refine AW.scope ?_ | refine AF.one hT rfl ?_ | refine AF.nil ?_ | refine AF.imm hT rfl rfl rfl ?_ | refine AH.of hT rfl ?_ | refine AD.cons hT rfl ?_ | refine AD.nil ?_ | refine AQ.cons hT rfl ?_ | refine AQ.nil ?_); conv => whnf)
        have hil : i < c.keep.length := by omega
        have hkd : c.keep.getD i false = c.keep[i] := by rw [List.getD_eq_getElem?_getD, List.getElem?_eq_getElem hil]; rfl
        rw [hkd] at hCe
        refine ACond.mk (fun h7 => ?_) (fun h7 => ?_)
        · have h7 : c.keep[i] = false := by simpa using h7
          rw [if_neg (by simp [h7])] at hCe
          refine AW.conv _ _ (Conv.freeze 4 (t := 103) (cs := b.map byteC) rfl) ?_
          conv => whnf
          repeat ((first | refine AW.plan (id := 10) hm (.one 0 (.one 4 (.one 6 (.one 8 (.one 9 (.one 1 (.one 2 (.one 3 (.one 5 (.one 7 (.one 10 .nil))))))))))) (by kernel_rfl) ?_ | refine AW.plan (id := 12) hm (.one 0 (.one 4 (.imm 5 (.one 1 (.one 2 (.one 3 (.one 6 (.one 7 .nil)))))))) (by kernel_rfl) ?_ | refine AO.cons hT ?_ | refine AO.nil ?_ | refine AW.seq ?_ | refine AW.region ?_ | refine AW.cond ?_ | refine AW.block ?_ | refine AW.loop ?_ | refine AW.skip ?_ | refine AW.exit ?_ | refine AW.ret ?_ | refine AW.label ?_ | refine AW.scope ?_ | refine AF.one hT rfl ?_ | refine AF.nil ?_ | refine AF.imm hT rfl rfl rfl ?_ | refine AH.of hT rfl ?_ | refine AD.cons hT rfl ?_ | refine AD.nil ?_ | refine AQ.cons hT rfl ?_ | refine AQ.nil ?_); conv => whnf)
          refine ACut.cell (cs := b) hb0 ?_
          conv => whnf
          repeat ((first | refine AW.plan (id := 10) hm (.one 0 (.one 4 (.one 6 (.one 8 (.one 9 (.one 1 (.one 2 (.one 3 (.one 5 (.one 7 (.one 10 .nil))))))))))) (by kernel_rfl) ?_ | refine AW.plan (id := 12) hm (.one 0 (.one 4 (.imm 5 (.one 1 (.one 2 (.one 3 (.one 6 (.one 7 .nil)))))))) (by kernel_rfl) ?_ | refine AO.cons hT ?_ | refine AO.nil ?_ | refine AW.seq ?_ | refine AW.region ?_ | refine AW.cond ?_ | refine AW.block ?_ | refine AW.loop ?_ | refine AW.skip ?_ | refine AW.exit ?_ | refine AW.ret ?_ | refine AW.label ?_ | refine AW.scope ?_ | refine AF.one hT rfl ?_ | refine AF.nil ?_ | refine AF.imm hT rfl rfl rfl ?_ | refine AH.of hT rfl ?_ | refine AD.cons hT rfl ?_ | refine AD.nil ?_ | refine AQ.cons hT rfl ?_ | refine AQ.nil ?_); conv => whnf)
          refine AReq.mk ⟨by omega, by omega⟩ ?_
          conv => whnf
          repeat ((first | refine AW.plan (id := 10) hm (.one 0 (.one 4 (.one 6 (.one 8 (.one 9 (.one 1 (.one 2 (.one 3 (.one 5 (.one 7 (.one 10 .nil))))))))))) (by kernel_rfl) ?_ | refine AW.plan (id := 12) hm (.one 0 (.one 4 (.imm 5 (.one 1 (.one 2 (.one 3 (.one 6 (.one 7 .nil)))))))) (by kernel_rfl) ?_ | refine AO.cons hT ?_ | refine AO.nil ?_ | refine AW.seq ?_ | refine AW.region ?_ | refine AW.cond ?_ | refine AW.block ?_ | refine AW.loop ?_ | refine AW.skip ?_ | refine AW.exit ?_ | refine AW.ret ?_ | refine AW.label ?_ | refine AW.scope ?_ | refine AF.one hT rfl ?_ | refine AF.nil ?_ | refine AF.imm hT rfl rfl rfl ?_ | refine AH.of hT rfl ?_ | refine AD.cons hT rfl ?_ | refine AD.nil ?_ | refine AQ.cons hT rfl ?_ | refine AQ.nil ?_); conv => whnf)
          refine AReq.mk (by rw [List.length_map, hb0]; rfl) ?_
          conv => whnf
          repeat ((first | refine AW.plan (id := 10) hm (.one 0 (.one 4 (.one 6 (.one 8 (.one 9 (.one 1 (.one 2 (.one 3 (.one 5 (.one 7 (.one 10 .nil))))))))))) (by kernel_rfl) ?_ | refine AW.plan (id := 12) hm (.one 0 (.one 4 (.imm 5 (.one 1 (.one 2 (.one 3 (.one 6 (.one 7 .nil)))))))) (by kernel_rfl) ?_ | refine AO.cons hT ?_ | refine AO.nil ?_ | refine AW.seq ?_ | refine AW.region ?_ | refine AW.cond ?_ | refine AW.block ?_ | refine AW.loop ?_ | refine AW.skip ?_ | refine AW.exit ?_ | refine AW.ret ?_ | refine AW.label ?_ | refine AW.scope ?_ | refine AF.one hT rfl ?_ | refine AF.nil ?_ | refine AF.imm hT rfl rfl rfl ?_ | refine AH.of hT rfl ?_ | refine AD.cons hT rfl ?_ | refine AD.nil ?_ | refine AQ.cons hT rfl ?_ | refine AQ.nil ?_); conv => whnf)
          refine AUpd.put (k := k) (by omega) (by omega) ?_
          conv => whnf
          repeat ((first | refine AW.plan (id := 10) hm (.one 0 (.one 4 (.one 6 (.one 8 (.one 9 (.one 1 (.one 2 (.one 3 (.one 5 (.one 7 (.one 10 .nil))))))))))) (by kernel_rfl) ?_ | refine AW.plan (id := 12) hm (.one 0 (.one 4 (.imm 5 (.one 1 (.one 2 (.one 3 (.one 6 (.one 7 .nil)))))))) (by kernel_rfl) ?_ | refine AO.cons hT ?_ | refine AO.nil ?_ | refine AW.seq ?_ | refine AW.region ?_ | refine AW.cond ?_ | refine AW.block ?_ | refine AW.loop ?_ | refine AW.skip ?_ | refine AW.exit ?_ | refine AW.ret ?_ | refine AW.label ?_ | refine AW.scope ?_ | refine AF.one hT rfl ?_ | refine AF.nil ?_ | refine AF.imm hT rfl rfl rfl ?_ | refine AH.of hT rfl ?_ | refine AD.cons hT rfl ?_ | refine AD.nil ?_ | refine AQ.cons hT rfl ?_ | refine AQ.nil ?_); conv => whnf)
          rw [wrap_i64 ((i : Int) + 1) (by omega) (by omega)]
          refine AHead.mk j _ _ (by omega) ⟨i + 1, bootS c i (k : Int) y, bs3.eraseIdx jj, ck3, by omega, hyok, hdp, hyb, rfl, rfl⟩ (Conv.ren [0, 1, 2, 3] _ (fun _ h => three h) (by decide) (by repeat' (first | exact Fit.nil | refine Fit.any ?_ | refine Fit.same ?_ | refine Fit.eq (iVs_ren _ _) ?_)) (.same ?_ (.same ?_ (.same ?_ (.same ?_ .nil)))))
          · rw [dD_ren]; rfl
          · rw [dC_ren]; show some (ABlk.cells 103 _) = some (ABlk.cells 103 _); rw [hCe]
          · rw [dM_ren]; rfl
          · rw [cells_ren, chC_ren]; rfl
        · have h7 : c.keep[i] = true := by simpa using h7
          rw [if_pos h7] at hCe
          conv => whnf
          repeat ((first | refine AW.plan (id := 10) hm (.one 0 (.one 4 (.one 6 (.one 8 (.one 9 (.one 1 (.one 2 (.one 3 (.one 5 (.one 7 (.one 10 .nil))))))))))) (by kernel_rfl) ?_ | refine AW.plan (id := 12) hm (.one 0 (.one 4 (.imm 5 (.one 1 (.one 2 (.one 3 (.one 6 (.one 7 .nil)))))))) (by kernel_rfl) ?_ | refine AO.cons hT ?_ | refine AO.nil ?_ | refine AW.seq ?_ | refine AW.region ?_ | refine AW.cond ?_ | refine AW.block ?_ | refine AW.loop ?_ | refine AW.skip ?_ | refine AW.exit ?_ | refine AW.ret ?_ | refine AW.label ?_ | refine AW.scope ?_ | refine AF.one hT rfl ?_ | refine AF.nil ?_ | refine AF.imm hT rfl rfl rfl ?_ | refine AH.of hT rfl ?_ | refine AD.cons hT rfl ?_ | refine AD.nil ?_ | refine AQ.cons hT rfl ?_ | refine AQ.nil ?_); conv => whnf)
          rw [wrap_i64 ((i : Int) + 1) (by omega) (by omega)]
          refine AHead.mk j _ _ (by omega) ⟨i + 1, bootS c i (k : Int) y, bs3.eraseIdx jj, ck3, by omega, hyok, hdp, hyb, rfl, rfl⟩ (Conv.ren [0, 1, 2, 3] _ (fun _ h => three h) (by decide) (by repeat' (first | exact Fit.nil | refine Fit.any ?_ | refine Fit.same ?_ | refine Fit.eq (iVs_ren _ _) ?_)) (.same ?_ (.same ?_ (.same ?_ (.same ?_ .nil)))))
          · rw [dD_ren]; rfl
          · rw [dC_ren]; show some (ABlk.cells 103 _) = some (ABlk.cells 103 _); rw [hCe]
          · rw [dM_ren]; rfl
          · rw [cells_ren, chC_ren]; rfl
  · obtain rfl : i = S.length := by omega
    rw [List.drop_length] at hyb hyp
    rw [bootL] at hyb
    conv => whnf
    repeat ((first | refine AW.plan (id := 10) hm (.one 0 (.one 4 (.one 6 (.one 8 (.one 9 (.one 1 (.one 2 (.one 3 (.one 5 (.one 7 (.one 10 .nil))))))))))) (by kernel_rfl) ?_ | refine AW.plan (id := 12) hm (.one 0 (.one 4 (.imm 5 (.one 1 (.one 2 (.one 3 (.one 6 (.one 7 .nil)))))))) (by kernel_rfl) ?_ | refine AO.cons hT ?_ | refine AO.nil ?_ | refine AW.seq ?_ | refine AW.region ?_ | refine AW.cond ?_ | refine AW.block ?_ | refine AW.loop ?_ | refine AW.skip ?_ | refine AW.exit ?_ | refine AW.ret ?_ | refine AW.label ?_ | refine AW.scope ?_ | refine AF.one hT rfl ?_ | refine AF.nil ?_ | refine AF.imm hT rfl rfl rfl ?_ | refine AH.of hT rfl ?_ | refine AD.cons hT rfl ?_ | refine AD.nil ?_ | refine AQ.cons hT rfl ?_ | refine AQ.nil ?_); conv => whnf)
    refine AOut.stay ?_
    conv => whnf
    repeat ((first | refine AW.plan (id := 10) hm (.one 0 (.one 4 (.one 6 (.one 8 (.one 9 (.one 1 (.one 2 (.one 3 (.one 5 (.one 7 (.one 10 .nil))))))))))) (by kernel_rfl) ?_ | refine AW.plan (id := 12) hm (.one 0 (.one 4 (.imm 5 (.one 1 (.one 2 (.one 3 (.one 6 (.one 7 .nil)))))))) (by kernel_rfl) ?_ | refine AO.cons hT ?_ | refine AO.nil ?_ | refine AW.seq ?_ | refine AW.region ?_ | refine AW.cond ?_ | refine AW.block ?_ | refine AW.loop ?_ | refine AW.skip ?_ | refine AW.exit ?_ | refine AW.ret ?_ | refine AW.label ?_ | refine AW.scope ?_ | refine AF.one hT rfl ?_ | refine AF.nil ?_ | refine AF.imm hT rfl rfl rfl ?_ | refine AH.of hT rfl ?_ | refine AD.cons hT rfl ?_ | refine AD.nil ?_ | refine AQ.cons hT rfl ?_ | refine AQ.nil ?_); conv => whnf)
    have hLn : y.L = [] := by have := hyp.length_eq; exact List.eq_nil_of_length_eq_zero (by simpa using this)
    rw [← hyb]
    exact AFin.dev (y := { y with f := false, a := 0 }) (fun _ => rfl) ⟨_, bs3, ck3, ⟨rfl, rfl⟩, rfl⟩
end Go.Aw.VE

set_option linter.unusedSimpArgs false
set_option linter.unusedVariables false
set_option maxHeartbeats 4000000
namespace Go.Aw.VE
open Go Go.Proofs

end Go.Aw.VE

