/-
  The statement VaultKeeps: opened again, a vault tells the text that was laid last, and all bodies behind that, without any condition.
-/
import Derived.Test.YtllchkemgjmjiaaGreatDoorVdC
import Derived.Test.YtllchkemgjmjiaaGreatDoorAwF
set_option linter.unusedSimpArgs false
set_option linter.unusedVariables false
set_option linter.unusedSimpArgs false
set_option linter.unusedVariables false
set_option maxHeartbeats 4000000
namespace Go.Aw.VD
open Go Go.Proofs
theorem strL : Go.Proofs.Lays.n169 Tryz.prog Tryz.repeatLaid_ren :=
  let L := Tryz.repeatLaid
  { mixed := L.mixed, f169 := L.f169, t0 := L.t0, a0 := L.a0, z0 := L.z0, v0 := L.v0, t3 := L.t3, a3 := L.a3, z3 := L.z3, v3 := L.v3, t9 := L.t9, a9 := L.a9, z9 := L.z9, v9 := L.v9, t37 := L.t37, a37 := L.a37, z37 := L.z37, v37 := L.v37, t70 := L.t70, a70 := L.a70, z70 := L.z70, v70 := L.v70, t72 := L.t72, a72 := L.a72, z72 := L.z72, v72 := L.v72, t127 := L.t127, a127 := L.a127, z127 := L.z127, v127 := L.v127 }
theorem chkL : Go.Proofs.Lays.n240 Tryz.prog Tryz.repeatLaid_ren :=
  let L := Tryz.repeatLaid
  { mixed := L.mixed, f240 := L.f240, f276 := L.f276, t20 := L.t20, a20 := L.a20, z20 := L.z20, v20 := L.v20, t0 := L.t0, a0 := L.a0, z0 := L.z0, v0 := L.v0, t4 := L.t4, a4 := L.a4, z4 := L.z4, v4 := L.v4, t9 := L.t9, a9 := L.a9, z9 := L.z9, v9 := L.v9, t70 := L.t70, a70 := L.a70, z70 := L.z70, v70 := L.v70, t72 := L.t72, a72 := L.a72, z72 := L.z72, v72 := L.v72, t164 := L.t164, a164 := L.a164, z164 := L.z164, v164 := L.v164 }

/-- a builder that holds bytes -/
def bld (ao : AV) (l : List UInt8) : List ABlk := [.cells 109 [ao, .ms 1 1 0 l.length], .cells 5 (l.map byteC)]
theorem f59 (a : AV) (l : List UInt8) (h0 : l ≠ []) (hm : l.length ≤ 9223372036854775807) : Spec P 59 [.ptr 0 0] (bld a l) fun r H => r = sV ⟨l.toArray⟩ ∧ H = [.cells 109 [a, .ms 1 1 0 l.length], .dead] :=
  Spec.builderString strL repeatExtra l h0 hm
theorem f79 (ao x : AV) (G : List ABlk) (hao : ao = .ptr 0 0 ∨ ao = .v (.pointer none)) : Spec P 79 [.ptr 0 0] (.cells 109 [ao, x] :: G) fun r H => r = .tup [] ∧ H = .cells 109 [.ptr 0 0, x] :: G :=
  Spec.builderCheck chkL repeatExtra.toX72 (by kernel_rfl) ao hao

theorem f57 (ao : AV) (hao : ao = .ptr 0 0 ∨ ao = .v (.pointer none)) (l : List UInt8) (s : ByteArray) (hl : l.length + s.size ≤ 100000000000) :
    Spec P 57 [.ptr 0 0, sV s] (bld ao l) fun r H => r = .tup [nV s.size, .v .nilIface] ∧ H = [.cells 109 [.ptr 0 0, .ms 1 2 0 (l.length + s.size)], .dead, .cells 5 ((l ++ s.data.toList).map byteC)] := by
  refine spec_of hT (f := 57) (fn := Go.Proofs.Tryz.f57) (c := body Go.Proofs.Tryz.f57) (by kernel_rfl) (by kernel_rfl) ?_
  unfold bld
  conv => whnf
  repeat ((first | refine AO.cons hT ?_ | refine AO.nil ?_ | refine AW.seq ?_ | refine AW.region ?_ | refine AW.cond ?_ | refine AW.block ?_ | refine AW.loop ?_ | refine AW.skip ?_ | refine AW.exit ?_ | refine AW.ret ?_ | refine AW.label ?_ | refine AW.scope ?_ | refine AF.one hT rfl ?_ | refine AF.nil ?_ | refine AF.imm hT rfl rfl rfl ?_ | refine AH.of hT rfl ?_ | refine AD.cons hT rfl ?_ | refine AD.nil ?_ | refine AQ.cons hT rfl ?_ | refine AQ.nil ?_); conv => whnf)
  refine ACall.all (by kernel_rfl) (f79 ao (.ms 1 1 0 l.length) [.cells 5 (l.map byteC)] hao) ?_
  rintro _ _ ⟨rfl, rfl⟩
  conv => whnf
  repeat ((first | refine AO.cons hT ?_ | refine AO.nil ?_ | refine AW.seq ?_ | refine AW.region ?_ | refine AW.cond ?_ | refine AW.block ?_ | refine AW.loop ?_ | refine AW.skip ?_ | refine AW.exit ?_ | refine AW.ret ?_ | refine AW.label ?_ | refine AW.scope ?_ | refine AF.one hT rfl ?_ | refine AF.nil ?_ | refine AF.imm hT rfl rfl rfl ?_ | refine AH.of hT rfl ?_ | refine AD.cons hT rfl ?_ | refine AD.nil ?_ | refine AQ.cons hT rfl ?_ | refine AQ.nil ?_); conv => whnf)
  refine AReq.mk ⟨by rw [List.length_map, Nat.mul_one], by rw [show (T 5).bytes = 1 from rfl, Nat.mul_one]; omega⟩ ?_
  conv => whnf
  repeat ((first | refine AO.cons hT ?_ | refine AO.nil ?_ | refine AW.seq ?_ | refine AW.region ?_ | refine AW.cond ?_ | refine AW.block ?_ | refine AW.loop ?_ | refine AW.skip ?_ | refine AW.exit ?_ | refine AW.ret ?_ | refine AW.label ?_ | refine AW.scope ?_ | refine AF.one hT rfl ?_ | refine AF.nil ?_ | refine AF.imm hT rfl rfl rfl ?_ | refine AH.of hT rfl ?_ | refine AD.cons hT rfl ?_ | refine AD.nil ?_ | refine AQ.cons hT rfl ?_ | refine AQ.nil ?_); conv => whnf)
  refine AFin.mk ⟨rfl, ?_⟩
  rw [List.map_append]

theorem f56 (ao : AV) (hao : ao = .ptr 0 0 ∨ ao = .v (.pointer none)) (l : List UInt8) (b : UInt8) (hl : l.length ≤ 100000000000) :
    Spec P 56 [.ptr 0 0, byteC b] (bld ao l) fun r H => r = .v .nilIface ∧ H = [.cells 109 [.ptr 0 0, .ms 1 2 0 (l.length + 1)], .dead, .cells 5 ((l ++ [b]).map byteC)] := by
  refine spec_of hT (f := 56) (fn := Go.Proofs.Tryz.f56) (c := body Go.Proofs.Tryz.f56) (by kernel_rfl) (by kernel_rfl) ?_
  unfold bld
  conv => whnf
  repeat ((first | refine AO.cons hT ?_ | refine AO.nil ?_ | refine AW.seq ?_ | refine AW.region ?_ | refine AW.cond ?_ | refine AW.block ?_ | refine AW.loop ?_ | refine AW.skip ?_ | refine AW.exit ?_ | refine AW.ret ?_ | refine AW.label ?_ | refine AW.scope ?_ | refine AF.one hT rfl ?_ | refine AF.nil ?_ | refine AF.imm hT rfl rfl rfl ?_ | refine AH.of hT rfl ?_ | refine AD.cons hT rfl ?_ | refine AD.nil ?_ | refine AQ.cons hT rfl ?_ | refine AQ.nil ?_); conv => whnf)
  refine ACall.all (by kernel_rfl) (f79 ao (.ms 1 1 0 l.length) [.cells 5 (l.map byteC)] hao) ?_
  rintro _ _ ⟨rfl, rfl⟩
  conv => whnf
  repeat ((first | refine AO.cons hT ?_ | refine AO.nil ?_ | refine AW.seq ?_ | refine AW.region ?_ | refine AW.cond ?_ | refine AW.block ?_ | refine AW.loop ?_ | refine AW.skip ?_ | refine AW.exit ?_ | refine AW.ret ?_ | refine AW.label ?_ | refine AW.scope ?_ | refine AF.one hT rfl ?_ | refine AF.nil ?_ | refine AF.imm hT rfl rfl rfl ?_ | refine AH.of hT rfl ?_ | refine AD.cons hT rfl ?_ | refine AD.nil ?_ | refine AQ.cons hT rfl ?_ | refine AQ.nil ?_); conv => whnf)
  refine AReq.mk ⟨by rw [List.length_map, Nat.mul_one], by rw [show (T 5).bytes = 1 from rfl, Nat.mul_one]; omega⟩ ?_
  conv => whnf
  repeat ((first | refine AO.cons hT ?_ | refine AO.nil ?_ | refine AW.seq ?_ | refine AW.region ?_ | refine AW.cond ?_ | refine AW.block ?_ | refine AW.loop ?_ | refine AW.skip ?_ | refine AW.exit ?_ | refine AW.ret ?_ | refine AW.label ?_ | refine AW.scope ?_ | refine AF.one hT rfl ?_ | refine AF.nil ?_ | refine AF.imm hT rfl rfl rfl ?_ | refine AH.of hT rfl ?_ | refine AD.cons hT rfl ?_ | refine AD.nil ?_ | refine AQ.cons hT rfl ?_ | refine AQ.nil ?_); conv => whnf)
  refine AFin.mk ⟨rfl, ?_⟩
  rw [List.map_append]; rfl

theorem bytes_ren (ρ : Nat → Nat) (l : List UInt8) : renL ρ (l.map byteC) = l.map byteC := by
  rw [renL_map, List.map_map]; rfl
theorem two_picks {H : List ABlk} {lb lx : Nat} {ao : AV} {l : List UInt8} {ao' : AV} (hao : ao = ao'.ren (nm [lb, lx] H.length)) (h1 : H[lb]? = some (.cells 109 [ao, .ms 1 lx 0 l.length])) (h2 : H[lx]? = some (.cells 5 (l.map byteC))) : Picks (nm [lb, lx] H.length) H [lb, lx] (bld ao' l) :=
  .same (by rw [h1, hao]; rfl) (.same (by rw [h2]; simp only [ABlk.ren, bytes_ren]) .nil)
/-- WriteString, called on own blocks lb (the builder) and lx (its bytes) -/
theorem call48 {H : List ABlk} {lb lx n : Nat} {ao : AV} {l : List UInt8} {s : ByteArray} {K : AV → List ABlk → Prop} (l' : List UInt8) (hne : lb ≠ lx) (h1 : H[lb]? = some (.cells 109 [ao, .ms 1 lx 0 n])) (h2 : H[lx]? = some (.cells 5 (l.map byteC))) (hn : n = l.length)
    (hao : ao = .ptr lb 0 ∨ ao = .v (.pointer none)) (hl : l.length + s.size ≤ 100000000000) (hl' : l ++ s.data.toList = l')
    (k : K (.tup [nV s.size, .v .nilIface]) (((H.set lb (.cells 109 [.ptr lb 0, .ms 1 H.length 0 l'.length])).set lx .dead) ++ [.cells 5 (l'.map byteC)])) : ACall P 57 [.ptr lb 0, sV s] H K := by
  subst hn
  obtain ⟨ao', e1, e2⟩ : ∃ ao' : AV, ao = ao'.ren (nm [lb, lx] H.length) ∧ (ao' = .ptr 0 0 ∨ ao' = .v (.pointer none)) := by
    rcases hao with rfl | rfl
    · exact ⟨.ptr 0 0, rfl, .inl rfl⟩
    · exact ⟨.v (.pointer none), rfl, .inr rfl⟩
  refine ACall.of (by kernel_rfl) (f57 ao' e2 l s hl) [lb, lx] [] (by simpa using hne) (two_picks e1 h1 h2) (by simp) (by simp) (.cons (.same rfl) (.cons (.same rfl) .nil)) (.inl rfl) ?_
  rintro _ _ ⟨rfl, rfl⟩
  subst hl'
  have e : (l ++ s.data.toList).length = l.length + s.size := by rw [List.length_append, size_list]
  rw [e] at k
  simp only [mergeH, ABlk.ren, renL, bytes_ren, List.map_cons, List.map_nil]
  exact k
theorem call47 {H : List ABlk} {lb lx n : Nat} {ao : AV} {l : List UInt8} {b : UInt8} {K : AV → List ABlk → Prop} (l' : List UInt8) (hne : lb ≠ lx) (h1 : H[lb]? = some (.cells 109 [ao, .ms 1 lx 0 n])) (h2 : H[lx]? = some (.cells 5 (l.map byteC))) (hn : n = l.length)
    (hao : ao = .ptr lb 0 ∨ ao = .v (.pointer none)) (hl : l.length ≤ 100000000000) (hl' : l ++ [b] = l')
    (k : K (.v .nilIface) (((H.set lb (.cells 109 [.ptr lb 0, .ms 1 H.length 0 l'.length])).set lx .dead) ++ [.cells 5 (l'.map byteC)])) : ACall P 56 [.ptr lb 0, byteC b] H K := by
  subst hn
  obtain ⟨ao', e1, e2⟩ : ∃ ao' : AV, ao = ao'.ren (nm [lb, lx] H.length) ∧ (ao' = .ptr 0 0 ∨ ao' = .v (.pointer none)) := by
    rcases hao with rfl | rfl
    · exact ⟨.ptr 0 0, rfl, .inl rfl⟩
    · exact ⟨.v (.pointer none), rfl, .inr rfl⟩
  refine ACall.of (by kernel_rfl) (f56 ao' e2 l b hl) [lb, lx] [] (by simpa using hne) (two_picks e1 h1 h2) (by simp) (by simp) (.cons (.same rfl) (.cons (.same rfl) .nil)) (.inl rfl) ?_
  rintro _ _ ⟨rfl, rfl⟩
  subst hl'
  have e : (l ++ [b]).length = l.length + 1 := by rw [List.length_append]; rfl
  rw [e] at k
  simp only [mergeH, ABlk.ren, renL, bytes_ren, List.map_cons, List.map_nil]
  exact k
theorem call49 {H : List ABlk} {lb lx n : Nat} {l : List UInt8} {K : AV → List ABlk → Prop} (hne : lb ≠ lx) (h1 : H[lb]? = some (.cells 109 [.ptr lb 0, .ms 1 lx 0 n])) (h2 : H[lx]? = some (.cells 5 (l.map byteC))) (hn : n = l.length)
    (h0 : l ≠ []) (hl : l.length ≤ 100000000000) (k : K (sV ⟨l.toArray⟩) ((H.set lb (.cells 109 [.ptr lb 0, .ms 1 lx 0 l.length])).set lx .dead)) : ACall P 59 [.ptr lb 0] H K := by
  subst hn
  refine ACall.of (by kernel_rfl) (f59 (.ptr 0 0) l h0 (by omega)) [lb, lx] [] (by simpa using hne) (two_picks rfl h1 h2) (by simp) (by simp) (.cons (.same rfl) .nil) (.inl rfl) ?_
  rintro _ _ ⟨rfl, rfl⟩
  simp only [mergeH, ABlk.ren, renL, List.map_nil, List.append_nil]
  exact k
end Go.Aw.VD

set_option linter.unusedSimpArgs false
set_option linter.unusedVariables false
set_option maxHeartbeats 4000000
namespace Go.Aw.VD
open Go Go.Proofs
def pcs (n : Nat) : Nat := (n + 82) / 63
theorem quo63 (m : Nat) : ((m : Int)).tdiv 63 = ((m / 63 : Nat) : Int) := rfl
theorem f50 (n : Nat) (hn : n ≤ 1000000000000) : Fun P 50 [nV n] (nV (pcs n)) := by
  refine spec_of hT (f := 50) (fn := Go.Proofs.Tryz.f50) (c := body Go.Proofs.Tryz.f50) (by kernel_rfl) (by kernel_rfl) ?_
  conv => whnf
  repeat ((first | refine AO.cons hT ?_ | refine AO.nil ?_ | refine AW.seq ?_ | refine AW.region ?_ | refine AW.cond ?_ | refine AW.block ?_ | refine AW.loop ?_ | refine AW.skip ?_ | refine AW.exit ?_ | refine AW.ret ?_ | refine AW.label ?_ | refine AW.scope ?_ | refine AF.one hT rfl ?_ | refine AF.nil ?_ | refine AF.imm hT rfl rfl rfl ?_ | refine AH.of hT rfl ?_ | refine AD.cons hT rfl ?_ | refine AD.nil ?_ | refine AQ.cons hT rfl ?_ | refine AQ.nil ?_); conv => whnf)
  refine AReq.mk (by decide) ?_
  conv => whnf
  repeat ((first | refine AO.cons hT ?_ | refine AO.nil ?_ | refine AW.seq ?_ | refine AW.region ?_ | refine AW.cond ?_ | refine AW.block ?_ | refine AW.loop ?_ | refine AW.skip ?_ | refine AW.exit ?_ | refine AW.ret ?_ | refine AW.label ?_ | refine AW.scope ?_ | refine AF.one hT rfl ?_ | refine AF.nil ?_ | refine AF.imm hT rfl rfl rfl ?_ | refine AH.of hT rfl ?_ | refine AD.cons hT rfl ?_ | refine AD.nil ?_ | refine AQ.cons hT rfl ?_ | refine AQ.nil ?_); conv => whnf)
  refine AFin.mk ⟨?_, rfl⟩
  rw [wrap_i64 (16 + (n : Int)) (by omega) (by omega), wrap_i64 (16 + (n : Int) + 4) (by omega) (by omega), wrap_i64 (16 + (n : Int) + 4 + 63) (by omega) (by omega), show 16 + (n : Int) + 4 + 63 - 1 = ((n + 82 : Nat) : Int) by omega, wrap_i64 ((n + 82 : Nat) : Int) (by omega) (by omega), quo63, wrap_i64 _ (by omega) (by omega)]
  rfl
theorem f21 (s : ByteArray) (hs : s.size ≤ 1000000000000) : Fun P 21 [sV s] (nV (pcs s.size)) := by
  refine spec_of hT (f := 21) (fn := Go.Proofs.Tryz.f21) (c := body Go.Proofs.Tryz.f21) (by kernel_rfl) (by kernel_rfl) ?_
  conv => whnf
  repeat ((first | refine AO.cons hT ?_ | refine AO.nil ?_ | refine AW.seq ?_ | refine AW.region ?_ | refine AW.cond ?_ | refine AW.block ?_ | refine AW.loop ?_ | refine AW.skip ?_ | refine AW.exit ?_ | refine AW.ret ?_ | refine AW.label ?_ | refine AW.scope ?_ | refine AF.one hT rfl ?_ | refine AF.nil ?_ | refine AF.imm hT rfl rfl rfl ?_ | refine AH.of hT rfl ?_ | refine AD.cons hT rfl ?_ | refine AD.nil ?_ | refine AQ.cons hT rfl ?_ | refine AQ.nil ?_ | (refine ACall.val (by kernel_rfl) (f50 s.size hs) rfl rfl ?_)); conv => whnf)
  exact AFin.val rfl ⟨rfl, rfl⟩
def mayF (e s n : Int) : Int := if e < 1 ∨ 1000000000 < e ∨ s < 1 ∨ 1000000 < s then 2 else if 3000 < n then 3 else 0
theorem f54 (e s n : Int) (b : ByteArray) : Fun P 54 [.agg [nV e, nV s, sV b], nV n] (nV (mayF e s n)) := by
  refine spec_of hT (f := 54) (fn := Go.Proofs.Tryz.f54) (c := body Go.Proofs.Tryz.f54) (by kernel_rfl) (by kernel_rfl) ?_
  conv => whnf
  repeat' (first | (refine AW.label ?_; conv => whnf) | (refine AW.scope ?_; conv => whnf) | (refine AO.cons hT ?_; conv => whnf) | (refine AO.nil ?_; conv => whnf) | (refine AW.seq ?_; conv => whnf) | (refine AW.region ?_; conv => whnf) | (refine AW.cond ?_; conv => whnf) | (refine AW.block ?_; conv => whnf) | (refine AW.loop ?_; conv => whnf) | (refine AW.skip ?_; conv => whnf) | (refine AW.exit ?_; conv => whnf) | (refine AW.ret ?_; conv => whnf) | (refine AF.one hT rfl ?_; conv => whnf) | (refine AF.nil ?_; conv => whnf) | (refine AF.imm hT rfl rfl rfl ?_; conv => whnf) | (refine AH.of hT rfl ?_; conv => whnf) | (refine ASplit.yes rfl ?_ <;> conv => whnf) | (refine ASplit.no rfl ?_ <;> conv => whnf) | (refine ACond.yes rfl ?_ <;> conv => whnf) | (refine ACond.no rfl ?_ <;> conv => whnf) | (refine ASplit.dec (fun _ => ?_) (fun _ => ?_) <;> conv => whnf) | (refine ASplit.ndec (fun _ => ?_) (fun _ => ?_) <;> conv => whnf) | (refine ACond.dec (fun _ => ?_) (fun _ => ?_) <;> conv => whnf) | (refine ACond.ndec (fun _ => ?_) (fun _ => ?_) <;> conv => whnf))
  all_goals (refine AFin.val rfl ⟨?_, rfl⟩; unfold mayF; (repeat' split) <;> first | rfl | omega)

def headL (e s : Nat) (b : ByteArray) : List UInt8 := be 8 e ++ be 4 s ++ be 4 b.size
def bodyF (e s : Nat) (b : ByteArray) : ByteArray := ofL (headL e s b) ++ b
theorem f55 (e s : Nat) (b : ByteArray) (he : e ≤ 1000000000) (hs : s ≤ 1000000) (hb : b.size ≤ 3100) : Fun P 55 [.agg [nV e, nV s, sV b]] (.tup [sV (sealS (bodyF e s b)), nV 0]) := by
  refine spec_of hT (f := 55) (fn := Go.Proofs.Tryz.f55) (c := body Go.Proofs.Tryz.f55) (by kernel_rfl) (by kernel_rfl) ?_
  conv => whnf
  repeat ((first | refine AO.cons hT ?_ | refine AO.nil ?_ | refine AW.seq ?_ | refine AW.region ?_ | refine AW.cond ?_ | refine AW.block ?_ | refine AW.loop ?_ | refine AW.skip ?_ | refine AW.exit ?_ | refine AW.ret ?_ | refine AW.label ?_ | refine AW.scope ?_ | refine AF.one hT rfl ?_ | refine AF.nil ?_ | refine AF.imm hT rfl rfl rfl ?_ | refine AH.of hT rfl ?_ | refine AD.cons hT rfl ?_ | refine AD.nil ?_ | refine AQ.cons hT rfl ?_ | refine AQ.nil ?_); conv => whnf)
  refine ALoop.un (ALp.conv _ [.cells 47 [nV e, nV s, sV b], .cells 109 [.v (.pointer none), .ms 1 2 0 0], .cells 5 []] (Conv.ownIn (sz := 1) 5 (l := 1) rfl (.same (.own .nil))) ?_)
  conv => whnf
  repeat ((first | refine AO.cons hT ?_ | refine AO.nil ?_ | refine AW.seq ?_ | refine AW.region ?_ | refine AW.cond ?_ | refine AW.block ?_ | refine AW.loop ?_ | refine AW.skip ?_ | refine AW.exit ?_ | refine AW.ret ?_ | refine AW.label ?_ | refine AW.scope ?_ | refine AF.one hT rfl ?_ | refine AF.nil ?_ | refine AF.imm hT rfl rfl rfl ?_ | refine AH.of hT rfl ?_ | refine AD.cons hT rfl ?_ | refine AD.nil ?_ | refine AQ.cons hT rfl ?_ | refine AQ.nil ?_ | (refine ALp.step (T := T) ?_) | (refine ACond.yes rfl ?_) | (refine ACond.no rfl ?_) | (refine AReq.mk (by decide) ?_) | (refine AIdx.iff.2 ⟨Nat.le_of_ble_eq_true rfl, ?_⟩) | (refine ACall.val (by kernel_rfl) (f70 e 8 (.inr rfl) he) rfl rfl ?_) | (refine ACall.val (by kernel_rfl) (f70 s 4 (.inl rfl) (by omega)) rfl rfl ?_) | (refine ACall.val (by kernel_rfl) (f70 b.size 4 (.inl rfl) (by omega)) rfl rfl ?_) | (refine call48 (lb := 1) (lx := 2) (l := []) (be 8 e) (by decide) rfl rfl rfl (.inr rfl) (by show 0 + (be 8 e).length ≤ _; rw [be_len]; omega) rfl ?_) | (refine call48 (lb := 1) (lx := 3) (l := be 8 e) (be 8 e ++ be 4 s) (by decide) rfl rfl rfl (.inl rfl) (by show (be 8 e).length + (be 4 s).length ≤ _; rw [be_len, be_len]; omega) rfl ?_) | (refine call48 (lb := 1) (lx := 4) (l := be 8 e ++ be 4 s) (headL e s b) (by decide) rfl rfl rfl (.inl rfl) (by show (be 8 e ++ be 4 s).length + (be 4 b.size).length ≤ _; rw [List.length_append, be_len, be_len, be_len]; omega) rfl ?_)); conv => whnf)
  refine AW.conv _ _ (Conv.freeze 0 (t := 47) (cs := [nV e, nV s, sV b]) rfl) ?_
  refine AW.plan hm (.one 1 (.imm 2 (.one 0 (.one 3 (.one 4 (.one 5 (.one 6 .nil))))))) (by kernel_rfl) ?_
  have hhl : (headL e s b).length = 16 := by unfold headL; rw [List.length_append, List.length_append, be_len, be_len, be_len]
  conv => whnf
  repeat ((first | refine AO.cons hT ?_ | refine AO.nil ?_ | refine AW.seq ?_ | refine AW.region ?_ | refine AW.cond ?_ | refine AW.block ?_ | refine AW.loop ?_ | refine AW.skip ?_ | refine AW.exit ?_ | refine AW.ret ?_ | refine AW.label ?_ | refine AW.scope ?_ | refine AF.one hT rfl ?_ | refine AF.nil ?_ | refine AF.imm hT rfl rfl rfl ?_ | refine AH.of hT rfl ?_ | refine AD.cons hT rfl ?_ | refine AD.nil ?_ | refine AQ.cons hT rfl ?_ | refine AQ.nil ?_ | (refine ALp.step (T := T) ?_) | (refine ACond.yes rfl ?_) | (refine ACond.no rfl ?_) | (refine AReq.mk (by decide) ?_) | (refine AIdx.iff.2 ⟨Nat.le_of_ble_eq_true rfl, ?_⟩) | (refine ACall.val (by kernel_rfl) (f70 e 8 (.inr rfl) he) rfl rfl ?_) | (refine ACall.val (by kernel_rfl) (f70 s 4 (.inl rfl) (by omega)) rfl rfl ?_) | (refine ACall.val (by kernel_rfl) (f70 b.size 4 (.inl rfl) (by omega)) rfl rfl ?_) | (refine call48 (lb := 1) (lx := 2) (l := []) (be 8 e) (by decide) rfl rfl rfl (.inr rfl) (by show 0 + (be 8 e).length ≤ _; rw [be_len]; omega) rfl ?_) | (refine call48 (lb := 1) (lx := 3) (l := be 8 e) (be 8 e ++ be 4 s) (by decide) rfl rfl rfl (.inl rfl) (by show (be 8 e).length + (be 4 s).length ≤ _; rw [be_len, be_len]; omega) rfl ?_) | (refine call48 (lb := 1) (lx := 4) (l := be 8 e ++ be 4 s) (headL e s b) (by decide) rfl rfl rfl (.inl rfl) (by show (be 8 e ++ be 4 s).length + (be 4 b.size).length ≤ _; rw [List.length_append, be_len, be_len, be_len]; omega) rfl ?_) | (refine call49 (lb := 1) (lx := 5) (l := headL e s b) (by decide) rfl rfl rfl (by intro h; rw [h] at hhl; cases hhl) (by omega) ?_) | (refine ACall.val (by kernel_rfl) (f71 (bodyF e s b) (by rw [bodyF, size_append, size_ofL]; omega)) rfl rfl ?_) | (refine AReq.mk (by show (headL e s b).length + b.size ≤ _; omega) ?_)); conv => whnf)
  exact AFin.val rfl ⟨rfl, rfl⟩
end Go.Aw.VD

set_option linter.unusedSimpArgs false
set_option linter.unusedVariables false
set_option maxHeartbeats 4000000
namespace Go.Aw.VD
open Go Go.Proofs
def mk (i : Nat) : UInt8 := if i = 0 then 1 else 2
def piece (l : List UInt8) (i : Nat) : List UInt8 := (l.drop (63 * i)).take 63
def layF (l : List UInt8) (k : Nat) : List UInt8 := (List.range k).flatMap fun i => mk i :: piece l i
theorem layF_succ (l : List UInt8) (k : Nat) : layF l (k + 1) = layF l k ++ [mk k] ++ piece l k := by
  unfold layF
  rw [List.range_succ, List.flatMap_append, List.append_assoc]
  simp
def padL (l : List UInt8) (k : Nat) : List UInt8 := l ++ zs (63 * k - l.length)
theorem padL_piece (l : List UInt8) (k i : Nat) (h1 : 63 * i < l.length) (h2 : l.length ≤ 63 * k) (hi : i < k) : piece (padL l k) i = (l.drop (63 * i)).take (min 63 (l.length - 63 * i)) ++ zs (63 - min 63 (l.length - 63 * i)) := by
  unfold piece padL
  rw [List.drop_append_of_le_length (by omega), List.take_append, List.length_drop]
  congr 1
  · by_cases h : l.length - 63 * i ≤ 63
    · rw [List.take_of_length_le (by rw [List.length_drop]; exact h), List.take_of_length_le (by rw [List.length_drop]; omega)]
    · rw [Nat.min_eq_left (by omega)]
  · unfold zs
    rw [List.take_replicate]
    congr 1
    omega
theorem layF_len (l : List UInt8) (k : Nat) (h : l.length = 63 * k) : ∀ i, i ≤ k → (layF l i).length = 64 * i
  | 0, _ => rfl
  | i + 1, hi => by
    rw [layF_succ, List.length_append, List.length_append, layF_len l k h i (by omega), piece, List.length_take, List.length_drop]
    simp; omega
def fputB (e s : Nat) (b : ByteArray) : ByteArray := ofL (layF (padL (sealS (bodyF e s b)).data.toList (pcs b.size)) (pcs b.size))
theorem bodyF_size (e s : Nat) (b : ByteArray) : (bodyF e s b).size = b.size + 16 := by
  unfold bodyF headL
  rw [size_append, size_ofL, List.length_append, List.length_append, be_len, be_len, be_len]; omega
theorem sealF_size (e s : Nat) (b : ByteArray) : (sealS (bodyF e s b)).size = b.size + 20 := by rw [sealS_size, bodyF_size]
def fputF (e s : Int) (b : ByteArray) : ByteArray × Int := if mayF e s b.size ≠ 0 then (e0, mayF e s b.size) else (fputB e.toNat s.toNat b, 0)
theorem mayF_ok {e s n : Int} (h : mayF e s n = 0) : 1 ≤ e ∧ e ≤ 1000000000 ∧ 1 ≤ s ∧ s ≤ 1000000 ∧ n ≤ 3000 := by
  unfold mayF at h
  split at h
  · cases h
  split at h
  · cases h
  · omega
def aoA (i : Nat) : AV := if i = 0 then .v (.pointer none) else .ptr 1 0
theorem f26 (e s : Int) (b : ByteArray) (hb : b.size ≤ 4000000) : Fun P 26 [.agg [nV e, nV s, sV b]] (.tup [sV (fputF e s b).1, nV (fputF e s b).2]) := by
  refine spec_of hT (f := 26) (fn := Go.Proofs.Tryz.f26) (c := body Go.Proofs.Tryz.f26) (by kernel_rfl) (by kernel_rfl) ?_
  unfold fputF
  conv => whnf
  repeat ((first | refine AO.cons hT ?_ | refine AO.nil ?_ | refine AW.seq ?_ | refine AW.region ?_ | refine AW.cond ?_ | refine AW.block ?_ | refine AW.loop ?_ | refine AW.skip ?_ | refine AW.exit ?_ | refine AW.ret ?_ | refine AW.label ?_ | refine AW.scope ?_ | refine AF.one hT rfl ?_ | refine AF.nil ?_ | refine AF.imm hT rfl rfl rfl ?_ | refine AH.of hT rfl ?_ | refine AD.cons hT rfl ?_ | refine AD.nil ?_ | refine AQ.cons hT rfl ?_ | refine AQ.nil ?_ | (refine ACall.val (by kernel_rfl) (f54 e s b.size b) rfl rfl ?_)); conv => whnf)
  refine ACond.ndec (fun h1 => ?_) (fun h1 => ?_)
  · rw [if_pos h1]
    conv => whnf
    repeat ((first | refine AO.cons hT ?_ | refine AO.nil ?_ | refine AW.seq ?_ | refine AW.region ?_ | refine AW.cond ?_ | refine AW.block ?_ | refine AW.loop ?_ | refine AW.skip ?_ | refine AW.exit ?_ | refine AW.ret ?_ | refine AW.label ?_ | refine AW.scope ?_ | refine AF.one hT rfl ?_ | refine AF.nil ?_ | refine AF.imm hT rfl rfl rfl ?_ | refine AH.of hT rfl ?_ | refine AD.cons hT rfl ?_ | refine AD.nil ?_ | refine AQ.cons hT rfl ?_ | refine AQ.nil ?_ | (refine ACall.val (by kernel_rfl) (f54 e s b.size b) rfl rfl ?_)); conv => whnf)
    exact AFin.val rfl ⟨rfl, rfl⟩
  rw [if_neg (by simpa using h1)]
  have hmy := mayF_ok h1
  obtain ⟨e, rfl⟩ : ∃ n : Nat, e = n := ⟨e.toNat, by omega⟩
  obtain ⟨s, rfl⟩ : ∃ n : Nat, s = n := ⟨s.toNat, by omega⟩
  have h46 := f55 e s b (by omega) (by omega) (by omega)
  have hts := sealF_size e s b
  rw [show fputB (Int.toNat (e : Int)) (Int.toNat (s : Int)) b = ofL (layF (padL (sealS (bodyF e s b)).data.toList (pcs b.size)) (pcs b.size)) from rfl]
  generalize sealS (bodyF e s b) = t at *
  have hpc : 63 * pcs b.size < b.size + 20 + 63 ∧ b.size + 20 ≤ 63 * pcs b.size := by unfold pcs; omega
  have hpb : pcs b.size ≤ 50 := by unfold pcs; omega
  generalize hk : pcs b.size = k at *
  have htl : t.data.toList.length = b.size + 20 := by rw [size_list, hts]
  have hpl : (padL t.data.toList k).length = 63 * k := by unfold padL zs; rw [List.length_append, List.length_replicate, htl]; omega
  conv => whnf
  repeat ((first | refine AO.cons hT ?_ | refine AO.nil ?_ | refine AW.seq ?_ | refine AW.region ?_ | refine AW.cond ?_ | refine AW.block ?_ | refine AW.loop ?_ | refine AW.skip ?_ | refine AW.exit ?_ | refine AW.ret ?_ | refine AW.label ?_ | refine AW.scope ?_ | refine AF.one hT rfl ?_ | refine AF.nil ?_ | refine AF.imm hT rfl rfl rfl ?_ | refine AH.of hT rfl ?_ | refine AD.cons hT rfl ?_ | refine AD.nil ?_ | refine AQ.cons hT rfl ?_ | refine AQ.nil ?_ | (refine ACall.val (by kernel_rfl) (f54 e s b.size b) rfl rfl ?_) | (refine ACall.val (by kernel_rfl) h46 rfl rfl ?_) | (refine ACond.no rfl ?_)); conv => whnf)
  refine ALoop.mk (fun j E H => ∃ i : Nat, i ≤ k ∧ j = k - i ∧ E = pad [.any, .ptr 0 0, sV e0, nV 0, .any, sV (t.extract (63 * i) t.size), .any, .ptr 1 0, byteC (mk i)] 46 ∧ H = [.cells 47 [nV e, nV s, sV b], .cells 109 [aoA i, .ms 1 2 0 (layF (padL t.data.toList k) i).length], .cells 5 ((layF (padL t.data.toList k) i).map byteC)]) (n := k) _ _ ⟨0, by omega, rfl, rfl, rfl⟩ (Conv.trans (Conv.fit ?_) (Conv.ownIn (sz := 1) 5 (l := 1) rfl (.same (.own .nil)))) ?_
  · rw [show t.extract (63 * 0) t.size = t by apply list_inj; rw [ext_list, Nat.mul_zero, List.drop_zero, Nat.sub_zero, List.take_of_length_le (by rw [size_list]; exact Nat.le_refl _)]]
    repeat' (first | exact Fit.nil | refine Fit.any ?_ | refine Fit.same ?_)
  rintro _ _ _ ⟨i, hi, rfl, rfl, rfl⟩
  have hss := size_extract t (63 * i) t.size
  have hsl := ext_list t (63 * i) t.size
  generalize hS : t.extract (63 * i) t.size = S at *
  conv => whnf
  repeat ((first | refine AO.cons hT ?_ | refine AO.nil ?_ | refine AW.seq ?_ | refine AW.region ?_ | refine AW.cond ?_ | refine AW.block ?_ | refine AW.loop ?_ | refine AW.skip ?_ | refine AW.exit ?_ | refine AW.ret ?_ | refine AW.label ?_ | refine AW.scope ?_ | refine AF.one hT rfl ?_ | refine AF.nil ?_ | refine AF.imm hT rfl rfl rfl ?_ | refine AH.of hT rfl ?_ | refine AD.cons hT rfl ?_ | refine AD.nil ?_ | refine AQ.cons hT rfl ?_ | refine AQ.nil ?_); conv => whnf)
  refine ACond.dec (fun h => ?_) (fun h => ?_)
  · have emin : (if (S.size : Int) < 63 then (S.size : Int) else 63) = ((min 63 S.size : Nat) : Int) := by split <;> omega
    have hik : i < k := by omega
    have hlen := layF_len _ k hpl i (by omega)
    have haoA : aoA i = .ptr 1 0 ∨ aoA i = .v (.pointer none) := by unfold aoA; split; exact .inr rfl; exact .inl rfl
    have hpp := padL_piece t.data.toList k i (by omega) (by omega) hik
    conv => whnf
    repeat ((first | refine AO.cons hT ?_ | refine AO.nil ?_ | refine AW.seq ?_ | refine AW.region ?_ | refine AW.cond ?_ | refine AW.block ?_ | refine AW.loop ?_ | refine AW.skip ?_ | refine AW.exit ?_ | refine AW.ret ?_ | refine AW.label ?_ | refine AW.scope ?_ | refine AF.one hT rfl ?_ | refine AF.nil ?_ | refine AF.imm hT rfl rfl rfl ?_ | refine AH.of hT rfl ?_ | refine AD.cons hT rfl ?_ | refine AD.nil ?_ | refine AQ.cons hT rfl ?_ | refine AQ.nil ?_); conv => whnf)
    rw [emin]
    refine call47 (lb := 1) (lx := 2) (l := layF (padL t.data.toList k) i) (layF (padL t.data.toList k) i ++ [mk i]) (by decide) rfl rfl rfl haoA (by omega) rfl ?_
    conv => whnf
    repeat ((first | refine AO.cons hT ?_ | refine AO.nil ?_ | refine AW.seq ?_ | refine AW.region ?_ | refine AW.cond ?_ | refine AW.block ?_ | refine AW.loop ?_ | refine AW.skip ?_ | refine AW.exit ?_ | refine AW.ret ?_ | refine AW.label ?_ | refine AW.scope ?_ | refine AF.one hT rfl ?_ | refine AF.nil ?_ | refine AF.imm hT rfl rfl rfl ?_ | refine AH.of hT rfl ?_ | refine AD.cons hT rfl ?_ | refine AD.nil ?_ | refine AQ.cons hT rfl ?_ | refine AQ.nil ?_); conv => whnf)
    refine AW.plan hm (.one 0 (.one 1 (.one 2 (.one 3 (.one 4 (.one 5 (.one 6 (.one 7 .nil)))))))) (by kernel_rfl) ?_
    conv => whnf
    repeat ((first | refine AO.cons hT ?_ | refine AO.nil ?_ | refine AW.seq ?_ | refine AW.region ?_ | refine AW.cond ?_ | refine AW.block ?_ | refine AW.loop ?_ | refine AW.skip ?_ | refine AW.exit ?_ | refine AW.ret ?_ | refine AW.label ?_ | refine AW.scope ?_ | refine AF.one hT rfl ?_ | refine AF.nil ?_ | refine AF.imm hT rfl rfl rfl ?_ | refine AH.of hT rfl ?_ | refine AD.cons hT rfl ?_ | refine AD.nil ?_ | refine AQ.cons hT rfl ?_ | refine AQ.nil ?_ | (refine AReq.mk (show 0 ≤ ((min 63 S.size : Nat) : Int) ∧ ((min 63 S.size : Nat) : Int) ≤ _ by omega) ?_)); conv => whnf)
    rw [wrap_i64 (63 - ((min 63 S.size : Nat) : Int)) (by omega) (by omega), show 63 - ((min 63 S.size : Nat) : Int) = ((63 - min 63 S.size : Nat) : Int) by omega]
    refine ACall.val (by kernel_rfl) (f58 _ (by omega)) rfl rfl ?_
    conv => whnf
    repeat ((first | refine AO.cons hT ?_ | refine AO.nil ?_ | refine AW.seq ?_ | refine AW.region ?_ | refine AW.cond ?_ | refine AW.block ?_ | refine AW.loop ?_ | refine AW.skip ?_ | refine AW.exit ?_ | refine AW.ret ?_ | refine AW.label ?_ | refine AW.scope ?_ | refine AF.one hT rfl ?_ | refine AF.nil ?_ | refine AF.imm hT rfl rfl rfl ?_ | refine AH.of hT rfl ?_ | refine AD.cons hT rfl ?_ | refine AD.nil ?_ | refine AQ.cons hT rfl ?_ | refine AQ.nil ?_ | (refine AReq.mk (show 0 ≤ ((min 63 S.size : Nat) : Int) ∧ ((min 63 S.size : Nat) : Int) ≤ _ by omega) ?_)); conv => whnf)
    have hzl : (⟨(zs (63 - min 63 S.size)).toArray⟩ : ByteArray).size = 63 - min 63 S.size := by show (zs _).toArray.size = _; simp [zs]
    have hxs := size_extract S 0 (min 63 S.size)
    refine AReq.mk (by rw [hzl]; show (S.extract 0 (min 63 S.size)).size + _ ≤ _; omega) ?_
    conv => whnf
    repeat ((first | refine AO.cons hT ?_ | refine AO.nil ?_ | refine AW.seq ?_ | refine AW.region ?_ | refine AW.cond ?_ | refine AW.block ?_ | refine AW.loop ?_ | refine AW.skip ?_ | refine AW.exit ?_ | refine AW.ret ?_ | refine AW.label ?_ | refine AW.scope ?_ | refine AF.one hT rfl ?_ | refine AF.nil ?_ | refine AF.imm hT rfl rfl rfl ?_ | refine AH.of hT rfl ?_ | refine AD.cons hT rfl ?_ | refine AD.nil ?_ | refine AQ.cons hT rfl ?_ | refine AQ.nil ?_ | (refine AReq.mk (show 0 ≤ ((min 63 S.size : Nat) : Int) ∧ ((min 63 S.size : Nat) : Int) ≤ _ by omega) ?_)); conv => whnf)
    have hnew : layF (padL t.data.toList k) i ++ [mk i] ++ (S.extract 0 (min 63 S.size) ++ ⟨(zs (63 - min 63 S.size)).toArray⟩).data.toList = layF (padL t.data.toList k) (i + 1) := by
      rw [layF_succ, hpp, app_list, ext_list, hsl, List.drop_zero, Nat.sub_zero, List.take_take]
      rw [show min (min 63 S.size) (t.size - 63 * i) = min 63 (t.data.toList.length - 63 * i) by omega, show 63 - min 63 S.size = 63 - min 63 (t.data.toList.length - 63 * i) by omega]
    refine call48 (lb := 1) (lx := 3) (l := layF (padL t.data.toList k) i ++ [mk i]) (layF (padL t.data.toList k) (i + 1)) (by decide) rfl rfl rfl (.inl rfl) (by rw [List.length_append, size_append, hzl]; show _ + 1 + ((S.extract 0 (min 63 S.size)).size + _) ≤ _; omega) hnew ?_
    conv => whnf
    repeat ((first | refine AO.cons hT ?_ | refine AO.nil ?_ | refine AW.seq ?_ | refine AW.region ?_ | refine AW.cond ?_ | refine AW.block ?_ | refine AW.loop ?_ | refine AW.skip ?_ | refine AW.exit ?_ | refine AW.ret ?_ | refine AW.label ?_ | refine AW.scope ?_ | refine AF.one hT rfl ?_ | refine AF.nil ?_ | refine AF.imm hT rfl rfl rfl ?_ | refine AH.of hT rfl ?_ | refine AD.cons hT rfl ?_ | refine AD.nil ?_ | refine AQ.cons hT rfl ?_ | refine AQ.nil ?_ | (refine AReq.mk (show 0 ≤ ((min 63 S.size : Nat) : Int) ∧ ((min 63 S.size : Nat) : Int) ≤ _ by omega) ?_)); conv => whnf)
    have hrest : S.extract (min 63 S.size) S.size = t.extract (63 * (i + 1)) t.size := by
      apply list_inj
      rw [ext_list, ext_list, hsl, List.drop_take, List.drop_drop, List.take_take]
      by_cases h63 : S.size ≤ 63
      · rw [Nat.min_eq_right h63, List.drop_eq_nil_of_le (by omega), List.drop_eq_nil_of_le (by omega)]
        simp
      · rw [Nat.min_eq_left (show 63 ≤ S.size by omega), show 63 * i + 63 = 63 * (i + 1) by omega]
        congr 1
        omega
    rw [show (((min 63 S.size : Nat) : Int)).toNat = min 63 S.size from rfl, hrest]
    refine AHead.mk (k - (i + 1)) _ _ (by omega) ⟨i + 1, by omega, rfl, rfl, rfl⟩ (Conv.ren [0, 1, 4] _ (by simp) (by simp) ?_ (.same rfl (.same (by rw [show aoA (i + 1) = .ptr 1 0 by unfold aoA; rw [if_neg (by omega)]]; rfl) (.same (by simp only [ABlk.ren, bytes_ren]; rfl) .nil))))
    repeat' (first | exact Fit.nil | refine Fit.any ?_ | refine Fit.same ?_)
  · obtain rfl : i = k := by omega
    rw [show aoA i = .ptr 1 0 by unfold aoA; rw [if_neg (by omega)]]
    conv => whnf
    repeat ((first | refine AO.cons hT ?_ | refine AO.nil ?_ | refine AW.seq ?_ | refine AW.region ?_ | refine AW.cond ?_ | refine AW.block ?_ | refine AW.loop ?_ | refine AW.skip ?_ | refine AW.exit ?_ | refine AW.ret ?_ | refine AW.label ?_ | refine AW.scope ?_ | refine AF.one hT rfl ?_ | refine AF.nil ?_ | refine AF.imm hT rfl rfl rfl ?_ | refine AH.of hT rfl ?_ | refine AD.cons hT rfl ?_ | refine AD.nil ?_ | refine AQ.cons hT rfl ?_ | refine AQ.nil ?_); conv => whnf)
    refine AOut.stay ?_
    have hlen := layF_len _ i hpl i (by omega)
    conv => whnf
    repeat ((first | refine AO.cons hT ?_ | refine AO.nil ?_ | refine AW.seq ?_ | refine AW.region ?_ | refine AW.cond ?_ | refine AW.block ?_ | refine AW.loop ?_ | refine AW.skip ?_ | refine AW.exit ?_ | refine AW.ret ?_ | refine AW.label ?_ | refine AW.scope ?_ | refine AF.one hT rfl ?_ | refine AF.nil ?_ | refine AF.imm hT rfl rfl rfl ?_ | refine AH.of hT rfl ?_ | refine AD.cons hT rfl ?_ | refine AD.nil ?_ | refine AQ.cons hT rfl ?_ | refine AQ.nil ?_ | (refine call49 (lb := 1) (lx := 2) (l := layF (padL t.data.toList i) i) (by decide) rfl rfl rfl (by intro h; rw [h] at hlen; simp at hlen; omega) (by omega) ?_)); conv => whnf)
    exact AFin.val rfl ⟨rfl, rfl⟩
end Go.Aw.VD

set_option linter.unusedSimpArgs false
set_option linter.unusedVariables false
set_option maxHeartbeats 4000000
namespace Go.Aw.VD
open Go Go.Proofs
theorem getV4_lt (s : ByteArray) (o : Nat) : getV s o 4 < 4294967296 := by
  unfold getV
  have h := beVal_lt (bytesAt s o 4)
  have h2 : (bytesAt s o 4).length ≤ 4 := by rw [bytesAt, List.length_take]; omega
  have h3 : (256 : Nat) ^ (bytesAt s o 4).length ≤ 256 ^ 4 := Nat.pow_le_pow_right (by decide) h2
  omega
theorem getR4 (s : ByteArray) (o : Nat) : getR s o 4 = .tup [.agg [nV (getV s o 4), nV ((o + 4 : Nat) : Int)], nV 0] := by
  have := getV4_lt s o
  unfold getR; rw [if_neg (by omega)]
def frA (e s : Int) (b : ByteArray) : AV := .agg [nV e, nV s, sV b]
def numR (s : ByteArray) (o : Nat) : AV :=
  if 9223372036854775807 < getV s o 8 then .tup [frA 0 0 e0, nV 0, nV 8] else .tup [frA (getV s o 8) (getV s (o + 8) 4) e0, nV (getV s (o + 12) 4), nV (mayF (getV s o 8) (getV s (o + 8) 4) (getV s (o + 12) 4))]
theorem f85 (s : ByteArray) (h1 : 16 ≤ s.size) (h2 : s.size ≤ 4611686018427387904) : Fun P 85 [sV s] (numR s 0) := by
  refine spec_of hT (f := 85) (fn := Go.Proofs.Tryz.f85) (c := body Go.Proofs.Tryz.f85) (by kernel_rfl) (by kernel_rfl) ?_
  have g1 := f102 s 0 8 (.inr rfl) (by omega) h2
  have g2 := f102 s 8 4 (.inl rfl) (by omega) h2
  have g3 := f102 s 12 4 (.inl rfl) (by omega) h2
  rw [getR4] at g2 g3
  unfold getR at g1
  unfold numR
  rw [Nat.zero_add, Nat.zero_add]
  by_cases hc : 9223372036854775807 < getV s 0 8
  · rw [if_pos hc] at g1 ⊢
    conv => whnf
    repeat ((first | refine AO.cons hT ?_ | refine AO.nil ?_ | refine AW.seq ?_ | refine AW.region ?_ | refine AW.cond ?_ | refine AW.block ?_ | refine AW.loop ?_ | refine AW.skip ?_ | refine AW.exit ?_ | refine AW.ret ?_ | refine AW.label ?_ | refine AW.scope ?_ | refine AF.one hT rfl ?_ | refine AF.nil ?_ | refine AF.imm hT rfl rfl rfl ?_ | refine AH.of hT rfl ?_ | refine AD.cons hT rfl ?_ | refine AD.nil ?_ | refine AQ.cons hT rfl ?_ | refine AQ.nil ?_ | (refine ALoop.un ?_) | (refine AUpd.sp ?_) | (refine AIdx.sp rfl ?_) | (refine AReq.mk rfl ?_) | (refine ALp.step (T := T) ?_) | (refine ACond.yes rfl ?_) | (refine AReq.mk (by decide) ?_) | (refine ACall.val (by kernel_rfl) g1 rfl rfl ?_)); conv => whnf)
    exact AFin.val rfl ⟨rfl, rfl⟩
  rw [if_neg hc] at g1 ⊢
  conv => whnf
  repeat ((first | refine AO.cons hT ?_ | refine AO.nil ?_ | refine AW.seq ?_ | refine AW.region ?_ | refine AW.cond ?_ | refine AW.block ?_ | refine AW.loop ?_ | refine AW.skip ?_ | refine AW.exit ?_ | refine AW.ret ?_ | refine AW.label ?_ | refine AW.scope ?_ | refine AF.one hT rfl ?_ | refine AF.nil ?_ | refine AF.imm hT rfl rfl rfl ?_ | refine AH.of hT rfl ?_ | refine AD.cons hT rfl ?_ | refine AD.nil ?_ | refine AQ.cons hT rfl ?_ | refine AQ.nil ?_ | (refine ALoop.un ?_) | (refine AUpd.sp ?_) | (refine AIdx.sp rfl ?_) | (refine AReq.mk rfl ?_) | (refine ALp.step (T := T) ?_) | (refine ACond.yes rfl ?_) | (refine AReq.mk (by decide) ?_) | (refine ACall.val (by kernel_rfl) g1 rfl rfl ?_) | (refine ACall.val (by kernel_rfl) g2 rfl rfl ?_) | (refine ACall.val (by kernel_rfl) g3 rfl rfl ?_) | (refine ACond.no rfl ?_)); conv => whnf)
  refine AW.conv _ _ (Conv.freeze 2 (t := 169) (cs := [nV (getV s 0 8), nV 8]) rfl) ?_
  refine AW.plan hm (.one 0 (.one 1 (.one 3 (.one 2 (.one 5 (.imm 4 (.one 6 (.one 7 .nil)))))))) (by kernel_rfl) ?_
  conv => whnf
  repeat ((first | refine AO.cons hT ?_ | refine AO.nil ?_ | refine AW.seq ?_ | refine AW.region ?_ | refine AW.cond ?_ | refine AW.block ?_ | refine AW.loop ?_ | refine AW.skip ?_ | refine AW.exit ?_ | refine AW.ret ?_ | refine AW.label ?_ | refine AW.scope ?_ | refine AF.one hT rfl ?_ | refine AF.nil ?_ | refine AF.imm hT rfl rfl rfl ?_ | refine AH.of hT rfl ?_ | refine AD.cons hT rfl ?_ | refine AD.nil ?_ | refine AQ.cons hT rfl ?_ | refine AQ.nil ?_ | (refine ALoop.un ?_) | (refine AUpd.sp ?_) | (refine AIdx.sp rfl ?_) | (refine AReq.mk rfl ?_) | (refine ALp.step (T := T) ?_) | (refine ACond.yes rfl ?_) | (refine AReq.mk (by decide) ?_) | (refine ACall.val (by kernel_rfl) g1 rfl rfl ?_) | (refine ACall.val (by kernel_rfl) g2 rfl rfl ?_) | (refine ACall.val (by kernel_rfl) g3 rfl rfl ?_) | (refine ACond.no rfl ?_)); conv => whnf)
  refine AW.conv _ _ (Conv.freeze 3 (t := 169) (cs := [nV (getV s 8 4), nV 12]) rfl) ?_
  refine AW.plan hm (.one 0 (.one 1 (.one 3 (.one 2 (.one 5 (.imm 4 (.one 6 (.one 7 .nil)))))))) (by kernel_rfl) ?_
  conv => whnf
  repeat ((first | refine AO.cons hT ?_ | refine AO.nil ?_ | refine AW.seq ?_ | refine AW.region ?_ | refine AW.cond ?_ | refine AW.block ?_ | refine AW.loop ?_ | refine AW.skip ?_ | refine AW.exit ?_ | refine AW.ret ?_ | refine AW.label ?_ | refine AW.scope ?_ | refine AF.one hT rfl ?_ | refine AF.nil ?_ | refine AF.imm hT rfl rfl rfl ?_ | refine AH.of hT rfl ?_ | refine AD.cons hT rfl ?_ | refine AD.nil ?_ | refine AQ.cons hT rfl ?_ | refine AQ.nil ?_ | (refine ALoop.un ?_) | (refine AUpd.sp ?_) | (refine AIdx.sp rfl ?_) | (refine AReq.mk rfl ?_) | (refine ALp.step (T := T) ?_) | (refine ACond.yes rfl ?_) | (refine AReq.mk (by decide) ?_) | (refine ACall.val (by kernel_rfl) g1 rfl rfl ?_) | (refine ACall.val (by kernel_rfl) g2 rfl rfl ?_) | (refine ACall.val (by kernel_rfl) g3 rfl rfl ?_) | (refine ACond.no rfl ?_)); conv => whnf)
  refine AW.conv _ _ (Conv.freeze 4 (t := 169) (cs := [nV (getV s 12 4), nV 16]) rfl) ?_
  refine AW.plan hm (.one 0 (.one 1 (.one 3 (.one 2 (.one 5 (.imm 4 (.one 6 (.one 7 .nil)))))))) (by kernel_rfl) ?_
  conv => whnf
  repeat ((first | refine AO.cons hT ?_ | refine AO.nil ?_ | refine AW.seq ?_ | refine AW.region ?_ | refine AW.cond ?_ | refine AW.block ?_ | refine AW.loop ?_ | refine AW.skip ?_ | refine AW.exit ?_ | refine AW.ret ?_ | refine AW.label ?_ | refine AW.scope ?_ | refine AF.one hT rfl ?_ | refine AF.nil ?_ | refine AF.imm hT rfl rfl rfl ?_ | refine AH.of hT rfl ?_ | refine AD.cons hT rfl ?_ | refine AD.nil ?_ | refine AQ.cons hT rfl ?_ | refine AQ.nil ?_ | (refine ALoop.un ?_) | (refine AUpd.sp ?_) | (refine AIdx.sp rfl ?_) | (refine AReq.mk rfl ?_) | (refine ALp.step (T := T) ?_) | (refine ACond.yes rfl ?_) | (refine AReq.mk (by decide) ?_) | (refine ACall.val (by kernel_rfl) g1 rfl rfl ?_) | (refine ACall.val (by kernel_rfl) g2 rfl rfl ?_) | (refine ACall.val (by kernel_rfl) g3 rfl rfl ?_) | (refine ACond.no rfl ?_)); conv => whnf)
  refine AW.conv _ _ (Conv.freeze 1 (t := 167) (cs := [nV (getV s 0 8), nV (getV s 8 4), nV (getV s 12 4)]) rfl) ?_
  refine AW.plan hm (.one 1 (.one 4 (.one 3 (.one 5 (.imm 2 (.fork 0 (.one 6 .nil) 6 (.one 0 .nil) (.one 7 (.one 8 (.one 9 .nil))))))))) (by kernel_rfl) ?_
  conv => whnf
  repeat ((first | refine AO.cons hT ?_ | refine AO.nil ?_ | refine AW.seq ?_ | refine AW.region ?_ | refine AW.cond ?_ | refine AW.block ?_ | refine AW.loop ?_ | refine AW.skip ?_ | refine AW.exit ?_ | refine AW.ret ?_ | refine AW.label ?_ | refine AW.scope ?_ | refine AF.one hT rfl ?_ | refine AF.nil ?_ | refine AF.imm hT rfl rfl rfl ?_ | refine AH.of hT rfl ?_ | refine AD.cons hT rfl ?_ | refine AD.nil ?_ | refine AQ.cons hT rfl ?_ | refine AQ.nil ?_ | (refine ALoop.un ?_) | (refine AUpd.sp ?_) | (refine AIdx.sp rfl ?_) | (refine AReq.mk rfl ?_) | (refine ALp.step (T := T) ?_) | (refine ACond.yes rfl ?_) | (refine AReq.mk (by decide) ?_) | (refine ACall.val (by kernel_rfl) g1 rfl rfl ?_) | (refine ACall.val (by kernel_rfl) g2 rfl rfl ?_) | (refine ACall.val (by kernel_rfl) g3 rfl rfl ?_) | (refine ACond.no rfl ?_) | (refine ACall.val (by kernel_rfl) (f54 (getV s 0 8) (getV s 8 4) (getV s 12 4) e0) rfl rfl ?_)); conv => whnf)
  apply AF.forkE
  · conv => whnf
    repeat ((first | refine AO.cons hT ?_ | refine AO.nil ?_ | refine AW.seq ?_ | refine AW.region ?_ | refine AW.cond ?_ | refine AW.block ?_ | refine AW.loop ?_ | refine AW.skip ?_ | refine AW.exit ?_ | refine AW.ret ?_ | refine AW.label ?_ | refine AW.scope ?_ | refine AF.one hT rfl ?_ | refine AF.nil ?_ | refine AF.imm hT rfl rfl rfl ?_ | refine AH.of hT rfl ?_ | refine AD.cons hT rfl ?_ | refine AD.nil ?_ | refine AQ.cons hT rfl ?_ | refine AQ.nil ?_ | (refine ALoop.un ?_) | (refine AUpd.sp ?_) | (refine AIdx.sp rfl ?_) | (refine AReq.mk rfl ?_) | (refine ALp.step (T := T) ?_) | (refine ACond.yes rfl ?_) | (refine AReq.mk (by decide) ?_) | (refine ACall.val (by kernel_rfl) g1 rfl rfl ?_) | (refine ACall.val (by kernel_rfl) g2 rfl rfl ?_) | (refine ACall.val (by kernel_rfl) g3 rfl rfl ?_) | (refine ACond.no rfl ?_) | (refine ACall.val (by kernel_rfl) (f54 (getV s 0 8) (getV s 8 4) (getV s 12 4) e0) rfl rfl ?_)); conv => whnf)
    exact ⟨rfl, rfl, rfl⟩
  · conv => whnf
    repeat ((first | refine AO.cons hT ?_ | refine AO.nil ?_ | refine AW.seq ?_ | refine AW.region ?_ | refine AW.cond ?_ | refine AW.block ?_ | refine AW.loop ?_ | refine AW.skip ?_ | refine AW.exit ?_ | refine AW.ret ?_ | refine AW.label ?_ | refine AW.scope ?_ | refine AF.one hT rfl ?_ | refine AF.nil ?_ | refine AF.imm hT rfl rfl rfl ?_ | refine AH.of hT rfl ?_ | refine AD.cons hT rfl ?_ | refine AD.nil ?_ | refine AQ.cons hT rfl ?_ | refine AQ.nil ?_ | (refine ALoop.un ?_) | (refine AUpd.sp ?_) | (refine AIdx.sp rfl ?_) | (refine AReq.mk rfl ?_) | (refine ALp.step (T := T) ?_) | (refine ACond.yes rfl ?_) | (refine AReq.mk (by decide) ?_) | (refine ACall.val (by kernel_rfl) g1 rfl rfl ?_) | (refine ACall.val (by kernel_rfl) g2 rfl rfl ?_) | (refine ACall.val (by kernel_rfl) g3 rfl rfl ?_) | (refine ACond.no rfl ?_) | (refine ACall.val (by kernel_rfl) (f54 (getV s 0 8) (getV s 8 4) (getV s 12 4) e0) rfl rfl ?_)); conv => whnf)
    exact ⟨rfl, rfl, rfl⟩
  conv => whnf
  repeat ((first | refine AO.cons hT ?_ | refine AO.nil ?_ | refine AW.seq ?_ | refine AW.region ?_ | refine AW.cond ?_ | refine AW.block ?_ | refine AW.loop ?_ | refine AW.skip ?_ | refine AW.exit ?_ | refine AW.ret ?_ | refine AW.label ?_ | refine AW.scope ?_ | refine AF.one hT rfl ?_ | refine AF.nil ?_ | refine AF.imm hT rfl rfl rfl ?_ | refine AH.of hT rfl ?_ | refine AD.cons hT rfl ?_ | refine AD.nil ?_ | refine AQ.cons hT rfl ?_ | refine AQ.nil ?_ | (refine ALoop.un ?_) | (refine AUpd.sp ?_) | (refine AIdx.sp rfl ?_) | (refine AReq.mk rfl ?_) | (refine ALp.step (T := T) ?_) | (refine ACond.yes rfl ?_) | (refine AReq.mk (by decide) ?_) | (refine ACall.val (by kernel_rfl) g1 rfl rfl ?_) | (refine ACall.val (by kernel_rfl) g2 rfl rfl ?_) | (refine ACall.val (by kernel_rfl) g3 rfl rfl ?_) | (refine ACond.no rfl ?_) | (refine ACall.val (by kernel_rfl) (f54 (getV s 0 8) (getV s 8 4) (getV s 12 4) e0) rfl rfl ?_)); conv => whnf)
  exact AFin.val rfl ⟨rfl, rfl⟩
end Go.Aw.VD

