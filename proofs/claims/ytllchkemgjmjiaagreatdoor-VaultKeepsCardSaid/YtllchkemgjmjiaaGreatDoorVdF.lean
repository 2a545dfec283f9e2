/-
  The statement VaultKeeps: opened again, a vault tells the text that was laid last, and all bodies behind that, without any condition.
-/
import Derived.Test.YtllchkemgjmjiaaGreatDoorVdE
import Derived.Test.YtllchkemgjmjiaaGreatDoorAwF
set_option linter.unusedSimpArgs false
set_option linter.unusedVariables false
set_option linter.unusedSimpArgs false
set_option linter.unusedVariables false
set_option maxHeartbeats 4000000
namespace Go.Aw.VD
open Go Go.Proofs
noncomputable def scanF (s : ByteArray) (ep : Int) : Nat → Nat → Nat → List ByteArray × Nat
  | 0, a, _ => ([], a)
  | f + 1, a, c => if (fgetF s a).2.2 ≠ 0 ∨ ((fgetF s a).1.1 : Int) ≠ ep ∨ (fgetF s a).1.2.1 ≠ c + 1 then ([], a) else
    ((fgetF s a).1.2.2 :: (scanF s ep f (fgetF s a).2.1.toNat (c + 1)).1, (scanF s ep f (fgetF s a).2.1.toNat (c + 1)).2)
def tV (l : List ByteArray) : AV := .vs 1 l.length (l.map sV)
theorem texts_ren (ρ : Nat → Nat) (l : List ByteArray) : renL ρ (l.map sV) = l.map sV := by
  rw [renL_map, List.map_map]; rfl
theorem fget3_cases (t : List UInt8) (a e q n : Nat) : (fget3 t a e q n).2.2 ≠ 0 ∧ (fget3 t a e q n).1 = (0, 0, e0) ∧ (fget3 t a e q n).2.1 = 0 ∨ (fget3 t a e q n).2 = (((a + pcs n : Nat) : Int), 0) ∧ (fget3 t a e q n).1.1 = e ∧ (fget3 t a e q n).1.2.1 = q := by
  unfold fget3
  split
  · rename_i h; exact .inl ⟨h, rfl, rfl⟩
  split
  · exact .inl ⟨by decide, rfl, rfl⟩
  · exact .inr ⟨rfl, rfl, rfl⟩
theorem fget_cases (s : ByteArray) (at_ : Int) : (fgetF s at_).2.2 ≠ 0 ∧ (fgetF s at_).1 = (0, 0, e0) ∧ (fgetF s at_).2.1 = 0 ∨
    (fgetF s at_).2.2 = 0 ∧ s.size % 64 = 0 ∧ (∃ a k : Nat, at_ = a ∧ 1 ≤ k ∧ k ≤ 49 ∧ (fgetF s at_).2.1 = ((a + k : Nat) : Int) ∧ a + k ≤ s.size / 64) ∧ 1 ≤ (fgetF s at_).1.1 ∧ (fgetF s at_).1.1 ≤ 1000000000 ∧ 1 ≤ (fgetF s at_).1.2.1 ∧ (fgetF s at_).1.2.1 ≤ 1000000 := by
  unfold fgetF
  split
  · exact .inl ⟨by decide, rfl, rfl⟩
  rename_i h1
  split
  · exact .inl ⟨by decide, rfl, rfl⟩
  rename_i h2
  unfold fget1
  split
  · exact .inl ⟨by decide, rfl, rfl⟩
  split
  · exact .inl ⟨by decide, rfl, rfl⟩
  unfold fget2
  generalize getV s (64 * at_.toNat + 1) 8 = e
  generalize getV s (64 * at_.toNat + 9) 4 = q
  generalize getV s (64 * at_.toNat + 13) 4 = n
  split
  · rename_i h; exact .inl ⟨h, rfl, rfl⟩
  rename_i h3
  have hm := mayF_ok (show mayF e q n = 0 by simpa using h3)
  split
  · exact .inl ⟨by decide, rfl, rfl⟩
  rename_i h4
  split
  · exact .inl ⟨by decide, rfl, rfl⟩
  rcases fget3_cases (joinL (s.data.toList.drop (64 * at_.toNat)) (pcs n)) at_.toNat e q n with h | ⟨g1, g2, g3⟩
  · exact .inl h
  · refine .inr ⟨by rw [g1], by omega, ⟨at_.toNat, pcs n, by omega, by unfold pcs; omega, by unfold pcs; omega, by rw [g1], by omega⟩, ?_, ?_, ?_, ?_⟩
    · rw [g2]; omega
    · rw [g2]; omega
    · rw [g3]; omega
    · rw [g3]; omega

def scanJ (s : ByteArray) (ep : Int) (F f : Nat) (L : List ByteArray) (a : Nat) : Prop :=
  scanF s ep F 0 0 = (L ++ (scanF s ep f a L.length).1, (scanF s ep f a L.length).2) ∧ a ≤ s.size / 64 ∧ s.size / 64 < a + f ∧ L.length ≤ a
theorem scanJ_step {s : ByteArray} {ep : Int} {F f : Nat} {L : List ByteArray} {a : Nat} (h : scanJ s ep F (f + 1) L a) (hs : ¬ ((fgetF s a).2.2 ≠ 0 ∨ ((fgetF s a).1.1 : Int) ≠ ep ∨ (fgetF s a).1.2.1 ≠ L.length + 1)) :
    scanJ s ep F f (L ++ [(fgetF s a).1.2.2]) (fgetF s a).2.1.toNat ∧ (fgetF s a).2.1 = ((fgetF s a).2.1.toNat : Int) := by
  obtain ⟨h1, h2, h3, h4⟩ := h
  rw [scanF, if_neg hs] at h1
  rcases fget_cases s a with g | ⟨g1, g0, ⟨b, k, g2, g3, g4, g5, g6⟩, _⟩
  · exact absurd (.inl g.1) hs
  · obtain rfl : b = a := by omega
    rw [g5] at h1 ⊢
    rw [Int.toNat_natCast] at h1 ⊢
    refine ⟨⟨?_, by omega, by omega, by rw [List.length_append]; simp only [List.length_cons, List.length_nil]; omega⟩, rfl⟩
    rw [h1, List.length_append, List.append_assoc]
    rfl
theorem scanJ_end {s : ByteArray} {ep : Int} {F f : Nat} {L : List ByteArray} {a : Nat} (h : scanJ s ep F (f + 1) L a) (hs : (fgetF s a).2.2 ≠ 0 ∨ ((fgetF s a).1.1 : Int) ≠ ep ∨ (fgetF s a).1.2.1 ≠ L.length + 1) :
    scanF s ep F 0 0 = (L, a) := by
  rw [h.1, scanF, if_pos hs, List.append_nil]
noncomputable def scanA (s : ByteArray) (ep : Int) : List ByteArray × Nat := scanF s ep (s.size / 64 + 1) 0 0
noncomputable def scanR (s : ByteArray) (ep : Int) : AV := .tup [tV (scanA s ep).1, nV (scanA s ep).2]
end Go.Aw.VD

set_option linter.unusedSimpArgs false
set_option linter.unusedVariables false
set_option maxHeartbeats 4000000
namespace Go.Aw.VD
open Go Go.Proofs
theorem f25 (l m : List ByteArray) (hl : l.length ≤ 1000000000) (hml : m.length ≤ 1000000000) : Fun P 25 [tV l, tV m] (.v (.bool (decide (l = m)))) := by
  refine spec_of hT (f := 25) (fn := Go.Proofs.Tryz.f25) (c := body Go.Proofs.Tryz.f25) (by kernel_rfl) (by kernel_rfl) ?_
  unfold tV
  conv => whnf
  repeat ((first | refine AW.plan (id := 6) hm (.one 0 (.one 1 (.one 2 (.one 4 (.one 5 (.one 6 (.one 3 (.one 7 (.one 8 .nil))))))))) (by kernel_rfl) ?_ | refine AO.cons hT ?_ | refine AO.nil ?_ | refine AW.seq ?_ | refine AW.region ?_ | refine AW.cond ?_ | refine AW.block ?_ | refine AW.loop ?_ | refine AW.skip ?_ | refine AW.exit ?_ | refine AW.ret ?_ | refine AW.label ?_ | refine AW.scope ?_ | refine AF.one hT rfl ?_ | refine AF.nil ?_ | refine AF.imm hT rfl rfl rfl ?_ | refine AH.of hT rfl ?_ | refine AD.cons hT rfl ?_ | refine AD.nil ?_ | refine AQ.cons hT rfl ?_ | refine AQ.nil ?_); conv => whnf)
  refine ACond.ndec (fun h1 => ?_) (fun h1 => ?_)
  · conv => whnf
    repeat ((first | refine AW.plan (id := 6) hm (.one 0 (.one 1 (.one 2 (.one 4 (.one 5 (.one 6 (.one 3 (.one 7 (.one 8 .nil))))))))) (by kernel_rfl) ?_ | refine AO.cons hT ?_ | refine AO.nil ?_ | refine AW.seq ?_ | refine AW.region ?_ | refine AW.cond ?_ | refine AW.block ?_ | refine AW.loop ?_ | refine AW.skip ?_ | refine AW.exit ?_ | refine AW.ret ?_ | refine AW.label ?_ | refine AW.scope ?_ | refine AF.one hT rfl ?_ | refine AF.nil ?_ | refine AF.imm hT rfl rfl rfl ?_ | refine AH.of hT rfl ?_ | refine AD.cons hT rfl ?_ | refine AD.nil ?_ | refine AQ.cons hT rfl ?_ | refine AQ.nil ?_); conv => whnf)
    refine AFin.val rfl ⟨?_, rfl⟩
    rw [decide_eq_false (fun h => h1 (by rw [h]))]
  conv => whnf
  repeat ((first | refine AW.plan (id := 6) hm (.one 0 (.one 1 (.one 2 (.one 4 (.one 5 (.one 6 (.one 3 (.one 7 (.one 8 .nil))))))))) (by kernel_rfl) ?_ | refine AO.cons hT ?_ | refine AO.nil ?_ | refine AW.seq ?_ | refine AW.region ?_ | refine AW.cond ?_ | refine AW.block ?_ | refine AW.loop ?_ | refine AW.skip ?_ | refine AW.exit ?_ | refine AW.ret ?_ | refine AW.label ?_ | refine AW.scope ?_ | refine AF.one hT rfl ?_ | refine AF.nil ?_ | refine AF.imm hT rfl rfl rfl ?_ | refine AH.of hT rfl ?_ | refine AD.cons hT rfl ?_ | refine AD.nil ?_ | refine AQ.cons hT rfl ?_ | refine AQ.nil ?_); conv => whnf)
  refine ALoop.mk (fun n E H => ∃ i : Nat, i ≤ l.length ∧ (∀ j : Nat, j < i → l[j]? = m[j]?) ∧ n = l.length - i ∧ E = pad [tV l, tV m, .any, .any, .v (.bool false), nV i] 26 ∧ H = []) (n := l.length) _ _ ⟨0, by omega, (fun _ h => by omega), rfl, rfl, rfl⟩ (Conv.fit ?_) ?_
  · unfold tV
    repeat' (first | exact Fit.nil | refine Fit.any ?_ | refine Fit.same ?_)
  rintro _ _ _ ⟨i, hi, hz, rfl, rfl, rfl⟩
  unfold tV
  conv => whnf
  repeat ((first | refine AW.plan (id := 6) hm (.one 0 (.one 1 (.one 2 (.one 4 (.one 5 (.one 6 (.one 3 (.one 7 (.one 8 .nil))))))))) (by kernel_rfl) ?_ | refine AO.cons hT ?_ | refine AO.nil ?_ | refine AW.seq ?_ | refine AW.region ?_ | refine AW.cond ?_ | refine AW.block ?_ | refine AW.loop ?_ | refine AW.skip ?_ | refine AW.exit ?_ | refine AW.ret ?_ | refine AW.label ?_ | refine AW.scope ?_ | refine AF.one hT rfl ?_ | refine AF.nil ?_ | refine AF.imm hT rfl rfl rfl ?_ | refine AH.of hT rfl ?_ | refine AD.cons hT rfl ?_ | refine AD.nil ?_ | refine AQ.cons hT rfl ?_ | refine AQ.nil ?_); conv => whnf)
  refine ACond.dec (fun h2 => ?_) (fun h2 => ?_)
  · have hil : i < l.length := by omega
    have him : i < m.length := by omega
    conv => whnf
    repeat ((first | refine AW.plan (id := 6) hm (.one 0 (.one 1 (.one 2 (.one 4 (.one 5 (.one 6 (.one 3 (.one 7 (.one 8 .nil))))))))) (by kernel_rfl) ?_ | refine AO.cons hT ?_ | refine AO.nil ?_ | refine AW.seq ?_ | refine AW.region ?_ | refine AW.cond ?_ | refine AW.block ?_ | refine AW.loop ?_ | refine AW.skip ?_ | refine AW.exit ?_ | refine AW.ret ?_ | refine AW.label ?_ | refine AW.scope ?_ | refine AF.one hT rfl ?_ | refine AF.nil ?_ | refine AF.imm hT rfl rfl rfl ?_ | refine AH.of hT rfl ?_ | refine AD.cons hT rfl ?_ | refine AD.nil ?_ | refine AQ.cons hT rfl ?_ | refine AQ.nil ?_ | (refine AReq.mk ⟨by omega, by omega⟩ ?_) | (refine AIdx.map1 hil ?_) | (refine AIdx.map1 him ?_)); conv => whnf)
    rw [str_eq]
    refine ACond.ndec (fun h3 => ?_) (fun h3 => ?_)
    · conv => whnf
      repeat ((first | refine AW.plan (id := 6) hm (.one 0 (.one 1 (.one 2 (.one 4 (.one 5 (.one 6 (.one 3 (.one 7 (.one 8 .nil))))))))) (by kernel_rfl) ?_ | refine AO.cons hT ?_ | refine AO.nil ?_ | refine AW.seq ?_ | refine AW.region ?_ | refine AW.cond ?_ | refine AW.block ?_ | refine AW.loop ?_ | refine AW.skip ?_ | refine AW.exit ?_ | refine AW.ret ?_ | refine AW.label ?_ | refine AW.scope ?_ | refine AF.one hT rfl ?_ | refine AF.nil ?_ | refine AF.imm hT rfl rfl rfl ?_ | refine AH.of hT rfl ?_ | refine AD.cons hT rfl ?_ | refine AD.nil ?_ | refine AQ.cons hT rfl ?_ | refine AQ.nil ?_ | (refine AReq.mk ⟨by omega, by omega⟩ ?_) | (refine AIdx.map1 hil ?_) | (refine AIdx.map1 him ?_)); conv => whnf)
      refine AOut.stay ?_
      conv => whnf
      repeat ((first | refine AW.plan (id := 6) hm (.one 0 (.one 1 (.one 2 (.one 4 (.one 5 (.one 6 (.one 3 (.one 7 (.one 8 .nil))))))))) (by kernel_rfl) ?_ | refine AO.cons hT ?_ | refine AO.nil ?_ | refine AW.seq ?_ | refine AW.region ?_ | refine AW.cond ?_ | refine AW.block ?_ | refine AW.loop ?_ | refine AW.skip ?_ | refine AW.exit ?_ | refine AW.ret ?_ | refine AW.label ?_ | refine AW.scope ?_ | refine AF.one hT rfl ?_ | refine AF.nil ?_ | refine AF.imm hT rfl rfl rfl ?_ | refine AH.of hT rfl ?_ | refine AD.cons hT rfl ?_ | refine AD.nil ?_ | refine AQ.cons hT rfl ?_ | refine AQ.nil ?_ | (refine AReq.mk ⟨by omega, by omega⟩ ?_) | (refine AIdx.map1 hil ?_) | (refine AIdx.map1 him ?_)); conv => whnf)
      refine AFin.val rfl ⟨?_, rfl⟩
      rw [decide_eq_false (fun h => h3 (by simp [h]))]
    · conv => whnf
      repeat ((first | refine AW.plan (id := 6) hm (.one 0 (.one 1 (.one 2 (.one 4 (.one 5 (.one 6 (.one 3 (.one 7 (.one 8 .nil))))))))) (by kernel_rfl) ?_ | refine AO.cons hT ?_ | refine AO.nil ?_ | refine AW.seq ?_ | refine AW.region ?_ | refine AW.cond ?_ | refine AW.block ?_ | refine AW.loop ?_ | refine AW.skip ?_ | refine AW.exit ?_ | refine AW.ret ?_ | refine AW.label ?_ | refine AW.scope ?_ | refine AF.one hT rfl ?_ | refine AF.nil ?_ | refine AF.imm hT rfl rfl rfl ?_ | refine AH.of hT rfl ?_ | refine AD.cons hT rfl ?_ | refine AD.nil ?_ | refine AQ.cons hT rfl ?_ | refine AQ.nil ?_ | (refine AReq.mk ⟨by omega, by omega⟩ ?_) | (refine AIdx.map1 hil ?_) | (refine AIdx.map1 him ?_)); conv => whnf)
      rw [wrap_i64 ((i : Int) + 1) (by omega) (by omega)]
      refine AHead.mk (l.length - (i + 1)) (pad [tV l, tV m, .any, .any, .v (.bool false), nV (i + 1 : Nat)] 26) _ (by omega) ⟨i + 1, by omega, (fun j hj => by rcases Nat.lt_succ_iff_lt_or_eq.1 hj with hj | rfl; exact hz j hj; rw [List.getElem?_eq_getElem hil, List.getElem?_eq_getElem him]; exact congrArg some h3), rfl, rfl, rfl⟩ (Conv.fit ?_)
      unfold tV
      repeat' (first | exact Fit.nil | refine Fit.any ?_ | refine Fit.same ?_)
  · obtain rfl : i = l.length := by omega
    conv => whnf
    repeat ((first | refine AW.plan (id := 6) hm (.one 0 (.one 1 (.one 2 (.one 4 (.one 5 (.one 6 (.one 3 (.one 7 (.one 8 .nil))))))))) (by kernel_rfl) ?_ | refine AO.cons hT ?_ | refine AO.nil ?_ | refine AW.seq ?_ | refine AW.region ?_ | refine AW.cond ?_ | refine AW.block ?_ | refine AW.loop ?_ | refine AW.skip ?_ | refine AW.exit ?_ | refine AW.ret ?_ | refine AW.label ?_ | refine AW.scope ?_ | refine AF.one hT rfl ?_ | refine AF.nil ?_ | refine AF.imm hT rfl rfl rfl ?_ | refine AH.of hT rfl ?_ | refine AD.cons hT rfl ?_ | refine AD.nil ?_ | refine AQ.cons hT rfl ?_ | refine AQ.nil ?_ | (refine AReq.mk ⟨by omega, by omega⟩ ?_) | (refine AIdx.map1 hil ?_) | (refine AIdx.map1 him ?_)); conv => whnf)
    refine AOut.stay ?_
    conv => whnf
    repeat ((first | refine AW.plan (id := 6) hm (.one 0 (.one 1 (.one 2 (.one 4 (.one 5 (.one 6 (.one 3 (.one 7 (.one 8 .nil))))))))) (by kernel_rfl) ?_ | refine AO.cons hT ?_ | refine AO.nil ?_ | refine AW.seq ?_ | refine AW.region ?_ | refine AW.cond ?_ | refine AW.block ?_ | refine AW.loop ?_ | refine AW.skip ?_ | refine AW.exit ?_ | refine AW.ret ?_ | refine AW.label ?_ | refine AW.scope ?_ | refine AF.one hT rfl ?_ | refine AF.nil ?_ | refine AF.imm hT rfl rfl rfl ?_ | refine AH.of hT rfl ?_ | refine AD.cons hT rfl ?_ | refine AD.nil ?_ | refine AQ.cons hT rfl ?_ | refine AQ.nil ?_ | (refine AReq.mk ⟨by omega, by omega⟩ ?_) | (refine AIdx.map1 hil ?_) | (refine AIdx.map1 him ?_)); conv => whnf)
    refine AFin.val rfl ⟨?_, rfl⟩
    rw [decide_eq_true]
    apply List.ext_getElem? 
    intro j
    by_cases hj : j < l.length
    · exact hz j hj
    · rw [List.getElem?_eq_none (by omega), List.getElem?_eq_none (by omega)]
theorem f78 (s : ByteArray) (ep : Int) : Spec P 78 [sV s, nV ep] [] fun r H => r = .fn 96 [] [.ptr 0 0, .ptr 1 0] ∧ H = [.cells 9 [sV s], .cells 3 [nV ep]] := by
  refine spec_of hT (f := 78) (fn := Go.Proofs.Tryz.f78) (c := body Go.Proofs.Tryz.f78) (by kernel_rfl) (by kernel_rfl) ?_
  conv => whnf
  repeat ((first | refine AW.plan (id := 6) hm (.one 0 (.one 1 (.one 2 (.one 4 (.one 5 (.one 6 (.one 3 (.one 7 (.one 8 .nil))))))))) (by kernel_rfl) ?_ | refine AO.cons hT ?_ | refine AO.nil ?_ | refine AW.seq ?_ | refine AW.region ?_ | refine AW.cond ?_ | refine AW.block ?_ | refine AW.loop ?_ | refine AW.skip ?_ | refine AW.exit ?_ | refine AW.ret ?_ | refine AW.label ?_ | refine AW.scope ?_ | refine AF.one hT rfl ?_ | refine AF.nil ?_ | refine AF.imm hT rfl rfl rfl ?_ | refine AH.of hT rfl ?_ | refine AD.cons hT rfl ?_ | refine AD.nil ?_ | refine AQ.cons hT rfl ?_ | refine AQ.nil ?_ | (refine AReq.mk ⟨by omega, by omega⟩ ?_) | (refine AIdx.map1 hil ?_) | (refine AIdx.map1 him ?_)); conv => whnf)
  exact AFin.mk ⟨rfl, rfl⟩
end Go.Aw.VD

set_option linter.unusedSimpArgs false
set_option linter.unusedVariables false
set_option maxHeartbeats 4000000
namespace Go.Aw.VD
open Go Go.Proofs
/-- what Scan's loop has made -/
def scH (s : ByteArray) (ep : Int) (x : ABlk) (L : List ByteArray) (a : Nat) : List ABlk := [.cells 32 [.ms 1 5 0 L.length], .cells 3 [nV a], .cells 9 [sV s], .cells 3 [nV ep], x, .cells 9 (L.map sV)]
theorem f96 (s : ByteArray) (ep : Int) (hs : s.size ≤ 1000000) (b : Nat) (E0 : List AV) (asg body : Code) (hE0 : ∀ N, renL (nm [0, 1, 2, 3, 4, 7] N) E0 = E0) (hE1 : ∀ N, renL (nm [0, 1, 2, 3, 4, 5] N) E0 = E0)
    (hR : ∀ (L : List ByteArray) (a q : Nat) (x : ByteArray) (y : ABlk), L.length ≤ 1000000 → ARd P T b asg (fun E2 H2 => H2 = scH s ep (.loop b (LpR .ready #[13, 14] asg body) E0) L a ++ [y] ∧
      ARd P T b body (fun E3 H3 => H3[4]? = some (.loop b (LpR .busy #[13, 14] asg body) E0) ∧ H3.set 4 (.loop b (LpR .ready #[13, 14] asg body) E0) = [.cells 32 [.ms 1 7 0 (L.length + 1)], .cells 3 [nV q], .cells 9 [sV s], .cells 3 [nV ep], .loop b (LpR .ready #[13, 14] asg body) E0, .dead, y, .cells 9 ((L ++ [x]).map sV)]) E2 (scH s ep (.loop b (LpR .busy #[13, 14] asg body) E0) L a ++ [y])) (setPs [13, 14] [nV q, sV x] E0) (scH s ep (.loop b (LpR .ready #[13, 14] asg body) E0) L a ++ [y])) :
    Spec P 96 [.v (.func (.yield b) #[] #[]), .ptr 2 0, .ptr 3 0] [.cells 32 [.v (.slice none 0 0)], .cells 3 [nV 0], .cells 9 [sV s], .cells 3 [nV ep], .loop b (LpR .ready #[13, 14] asg body) E0]
      fun _ H' => H' = scH s ep (.loop b (LpR .ready #[13, 14] asg body) E0) (scanA s ep).1 (scanA s ep).2 := by
  refine spec_of hT (f := 96) (fn := Go.Proofs.Tryz.f96) (c := Go.Aw.VD.body Go.Proofs.Tryz.f96) (by kernel_rfl) (by kernel_rfl) ?_
  conv => whnf
  repeat ((first | refine AO.cons hT ?_ | refine AO.nil ?_ | refine AW.seq ?_ | refine AW.region ?_ | refine AW.cond ?_ | refine AW.block ?_ | refine AW.loop ?_ | refine AW.skip ?_ | refine AW.exit ?_ | refine AW.ret ?_ | refine AW.label ?_ | refine AW.scope ?_ | refine AF.one hT rfl ?_ | refine AF.nil ?_ | refine AF.imm hT rfl rfl rfl ?_ | refine AH.of hT rfl ?_ | refine AD.cons hT rfl ?_ | refine AD.nil ?_ | refine AQ.cons hT rfl ?_ | refine AQ.nil ?_); conv => whnf)
  refine ALoop.mk (fun j E H => ∃ (L : List ByteArray) (a : Nat), scanJ s ep (s.size / 64 + 1) j L a ∧ E = pad [.v (.func (.yield b) #[] #[]), .ptr 2 0, .ptr 3 0, .any, nV a, nV (L.length + 1)] 41 ∧ H = scH s ep (.loop b (LpR .ready #[13, 14] asg body) E0) L a) (n := s.size / 64 + 1) _ _ ⟨[], 0, ⟨rfl, by omega, by omega, by simp⟩, rfl, rfl⟩ (Conv.trans (Conv.fit ?_) (Conv.ownIn (sz := 1) 9 (l := 0) rfl (.own .nil))) ?_
  · repeat' (first | exact Fit.nil | refine Fit.any ?_ | refine Fit.same ?_)
  rintro j _ _ ⟨L, a, hJ, rfl, rfl⟩
  obtain ⟨j, rfl⟩ : ∃ i, j = i + 1 := ⟨j - 1, by have := hJ.2.1; have := hJ.2.2.1; omega⟩
  have hst := fun h => scanJ_step hJ h
  have hen := fun h => scanJ_end hJ h
  have hla := hJ.2.2.2
  have hlb := hJ.2.1
  have h20 := f66 s a hs (by omega)
  have hRL := hR L a
  unfold scH at hRL ⊢
  unfold scanA
  generalize fgetF s a = x at *
  conv => whnf
  repeat ((first | refine AO.cons hT ?_ | refine AO.nil ?_ | refine AW.cond ?_ | refine AW.block ?_ | refine AW.loop ?_ | refine AW.skip ?_ | refine AW.exit ?_ | refine AW.ret ?_ | refine AW.label ?_ | refine AW.scope ?_ | refine AF.one hT rfl ?_ | refine AF.nil ?_ | refine AF.imm hT rfl rfl rfl ?_ | refine AH.of hT rfl ?_ | refine AD.cons hT rfl ?_ | refine AD.nil ?_ | refine AQ.cons hT rfl ?_ | refine AQ.nil ?_ | (refine ACall.val (by kernel_rfl) h20 rfl rfl ?_)); conv => whnf)
  refine AW.seq ?_
  conv => whnf
  conv => whnf
  repeat ((first | refine AO.cons hT ?_ | refine AO.nil ?_ | refine AW.cond ?_ | refine AW.block ?_ | refine AW.loop ?_ | refine AW.skip ?_ | refine AW.exit ?_ | refine AW.ret ?_ | refine AW.label ?_ | refine AW.scope ?_ | refine AF.one hT rfl ?_ | refine AF.nil ?_ | refine AF.imm hT rfl rfl rfl ?_ | refine AH.of hT rfl ?_ | refine AD.cons hT rfl ?_ | refine AD.nil ?_ | refine AQ.cons hT rfl ?_ | refine AQ.nil ?_ | (refine ACall.val (by kernel_rfl) h20 rfl rfl ?_)); conv => whnf)
  refine AW.seq ?_
  conv => whnf
  refine AW.region ?_
  conv => whnf
  repeat ((first | refine AO.cons hT ?_ | refine AO.nil ?_ | refine AW.cond ?_ | refine AW.block ?_ | refine AW.loop ?_ | refine AW.skip ?_ | refine AW.exit ?_ | refine AW.ret ?_ | refine AW.label ?_ | refine AW.scope ?_ | refine AF.one hT rfl ?_ | refine AF.nil ?_ | refine AF.imm hT rfl rfl rfl ?_ | refine AH.of hT rfl ?_ | refine AD.cons hT rfl ?_ | refine AD.nil ?_ | refine AQ.cons hT rfl ?_ | refine AQ.nil ?_ | (refine ACall.val (by kernel_rfl) h20 rfl rfl ?_)); conv => whnf)
  refine AW.seq ?_
  conv => whnf
  refine AW.seq ?_
  conv => whnf
  refine AW.regionI ?_
  conv => whnf
  repeat ((first | refine AOI.cons hT rfl ?_ | refine AOI.nil ?_ | refine ARd.seq ?_ | refine ARd.region ?_ | refine ARd.block ?_ | refine ARd.skip ?_ | refine AW.cond ?_ | refine AW.block ?_ | refine AW.loop ?_ | refine AW.skip ?_ | refine AW.exit ?_ | refine AW.ret ?_ | refine AW.label ?_ | refine AW.scope ?_ | refine AF.one hT rfl ?_ | refine AF.nil ?_ | refine AF.imm hT rfl rfl rfl ?_ | refine AH.of hT rfl ?_ | refine AD.cons hT rfl ?_ | refine AD.nil ?_ | refine AQ.cons hT rfl ?_ | refine AQ.nil ?_); conv => whnf)
  have hend : ∀ (h : x.2.2 ≠ 0 ∨ (x.1.1 : Int) ≠ ep ∨ x.1.2.1 ≠ L.length + 1) {l : ABlk}, AFin 5 (.tup []) [.cells 32 [.ms 1 5 0 L.length], .cells 3 [nV a], .cells 9 [sV s], .cells 3 [nV ep], .loop b (LpR .ready #[13, 14] asg body) E0, .cells 9 (L.map sV), l]
      (fun _ H' => H' = [.cells 32 [.ms 1 5 0 (scanF s ep (s.size / 64 + 1) 0 0).1.length], .cells 3 [nV (scanF s ep (s.size / 64 + 1) 0 0).2], .cells 9 [sV s], .cells 3 [nV ep], .loop b (LpR .ready #[13, 14] asg body) E0, .cells 9 ((scanF s ep (s.size / 64 + 1) 0 0).1.map sV)]) := by
    intro h l
    rw [hen h]
    exact AFin.to (.tup []) _ (Conv.ren [0, 1, 2, 3, 4, 5] [.tup []] (by intro i hi; rcases i with _ | _ | _ | _ | _ | i <;> first | rfl | omega) (by decide) (Fit.refl _) (.same rfl (.same rfl (.same rfl (.same rfl (.same (by simp only [ABlk.ren, hE1]; rfl) (.same (by rw [ABlk.ren, texts_ren]; rfl) .nil))))))) rfl
  refine ASplit.ndec (fun h1 => ?_) (fun h1 => ?_)
  · skip
    conv => whnf
    repeat ((first | refine AOI.cons hT rfl ?_ | refine AOI.nil ?_ | refine ARd.seq ?_ | refine ARd.region ?_ | refine ARd.block ?_ | refine ARd.skip ?_ | refine AW.cond ?_ | refine AW.block ?_ | refine AW.loop ?_ | refine AW.skip ?_ | refine AW.exit ?_ | refine AW.ret ?_ | refine AW.label ?_ | refine AW.scope ?_ | refine AF.one hT rfl ?_ | refine AF.nil ?_ | refine AF.imm hT rfl rfl rfl ?_ | refine AH.of hT rfl ?_ | refine AD.cons hT rfl ?_ | refine AD.nil ?_ | refine AQ.cons hT rfl ?_ | refine AQ.nil ?_ | (refine ASplit.yes rfl ?_) | (refine ASplit.no rfl ?_)); conv => whnf)
    conv => whnf
    repeat (first | (refine AW.label ?_; conv => whnf) | (refine AW.scope ?_; conv => whnf) | (refine AO.cons hT ?_; conv => whnf) | (refine AO.nil ?_; conv => whnf) | (refine AW.seq ?_; conv => whnf) | (refine AW.region ?_; conv => whnf) | (refine AW.cond ?_; conv => whnf) | (refine AW.block ?_; conv => whnf) | (refine AW.loop ?_; conv => whnf) | (refine AW.skip ?_; conv => whnf) | (refine AW.exit ?_; conv => whnf) | (refine AW.ret ?_; conv => whnf) | (refine AF.one hT rfl ?_; conv => whnf) | (refine AF.nil ?_; conv => whnf) | (refine AF.imm hT rfl rfl rfl ?_; conv => whnf) | (refine AH.of hT rfl ?_; conv => whnf) | (refine ASplit.yes rfl ?_; conv => whnf) | (refine ACond.yes rfl ?_; conv => whnf) | (refine ASplit.no rfl ?_; conv => whnf) | (refine ACond.no rfl ?_; conv => whnf) | (refine ASplit.yes (by decide) ?_; conv => whnf) | (refine ACond.yes (by decide) ?_; conv => whnf) | (refine AReq.mk (by decide) ?_; conv => whnf) | (refine AIdx.iff.2 ⟨by decide, ?_⟩; conv => whnf) | (refine ASplit.yes rfl ?_; conv => whnf) | (refine ASplit.no rfl ?_; conv => whnf))
    refine AOut.stay ?_
    conv => whnf
    repeat (first | (refine AW.label ?_; conv => whnf) | (refine AW.scope ?_; conv => whnf) | (refine AO.cons hT ?_; conv => whnf) | (refine AO.nil ?_; conv => whnf) | (refine AW.seq ?_; conv => whnf) | (refine AW.region ?_; conv => whnf) | (refine AW.cond ?_; conv => whnf) | (refine AW.block ?_; conv => whnf) | (refine AW.loop ?_; conv => whnf) | (refine AW.skip ?_; conv => whnf) | (refine AW.exit ?_; conv => whnf) | (refine AW.ret ?_; conv => whnf) | (refine AF.one hT rfl ?_; conv => whnf) | (refine AF.nil ?_; conv => whnf) | (refine AF.imm hT rfl rfl rfl ?_; conv => whnf) | (refine AH.of hT rfl ?_; conv => whnf) | (refine ASplit.yes rfl ?_; conv => whnf) | (refine ACond.yes rfl ?_; conv => whnf) | (refine ASplit.no rfl ?_; conv => whnf) | (refine ACond.no rfl ?_; conv => whnf) | (refine ASplit.yes (by decide) ?_; conv => whnf) | (refine ACond.yes (by decide) ?_; conv => whnf) | (refine AReq.mk (by decide) ?_; conv => whnf) | (refine AIdx.iff.2 ⟨by decide, ?_⟩; conv => whnf) | (refine ASplit.yes rfl ?_; conv => whnf) | (refine ASplit.no rfl ?_; conv => whnf))
    exact hend (.inl h1)
  conv => whnf
  repeat ((first | refine AOI.cons hT rfl ?_ | refine AOI.nil ?_ | refine ARd.seq ?_ | refine ARd.region ?_ | refine ARd.block ?_ | refine ARd.skip ?_ | refine AW.cond ?_ | refine AW.block ?_ | refine AW.loop ?_ | refine AW.skip ?_ | refine AW.exit ?_ | refine AW.ret ?_ | refine AW.label ?_ | refine AW.scope ?_ | refine AF.one hT rfl ?_ | refine AF.nil ?_ | refine AF.imm hT rfl rfl rfl ?_ | refine AH.of hT rfl ?_ | refine AD.cons hT rfl ?_ | refine AD.nil ?_ | refine AQ.cons hT rfl ?_ | refine AQ.nil ?_); conv => whnf)
  refine ASplit.ndec (fun h2 => ?_) (fun h2 => ?_)
  · skip
    conv => whnf
    repeat ((first | refine AOI.cons hT rfl ?_ | refine AOI.nil ?_ | refine ARd.seq ?_ | refine ARd.region ?_ | refine ARd.block ?_ | refine ARd.skip ?_ | refine AW.cond ?_ | refine AW.block ?_ | refine AW.loop ?_ | refine AW.skip ?_ | refine AW.exit ?_ | refine AW.ret ?_ | refine AW.label ?_ | refine AW.scope ?_ | refine AF.one hT rfl ?_ | refine AF.nil ?_ | refine AF.imm hT rfl rfl rfl ?_ | refine AH.of hT rfl ?_ | refine AD.cons hT rfl ?_ | refine AD.nil ?_ | refine AQ.cons hT rfl ?_ | refine AQ.nil ?_ | (refine ASplit.yes rfl ?_) | (refine ASplit.no rfl ?_)); conv => whnf)
    conv => whnf
    repeat (first | (refine AW.label ?_; conv => whnf) | (refine AW.scope ?_; conv => whnf) | (refine AO.cons hT ?_; conv => whnf) | (refine AO.nil ?_; conv => whnf) | (refine AW.seq ?_; conv => whnf) | (refine AW.region ?_; conv => whnf) | (refine AW.cond ?_; conv => whnf) | (refine AW.block ?_; conv => whnf) | (refine AW.loop ?_; conv => whnf) | (refine AW.skip ?_; conv => whnf) | (refine AW.exit ?_; conv => whnf) | (refine AW.ret ?_; conv => whnf) | (refine AF.one hT rfl ?_; conv => whnf) | (refine AF.nil ?_; conv => whnf) | (refine AF.imm hT rfl rfl rfl ?_; conv => whnf) | (refine AH.of hT rfl ?_; conv => whnf) | (refine ASplit.yes rfl ?_; conv => whnf) | (refine ACond.yes rfl ?_; conv => whnf) | (refine ASplit.no rfl ?_; conv => whnf) | (refine ACond.no rfl ?_; conv => whnf) | (refine ASplit.yes (by decide) ?_; conv => whnf) | (refine ACond.yes (by decide) ?_; conv => whnf) | (refine AReq.mk (by decide) ?_; conv => whnf) | (refine AIdx.iff.2 ⟨by decide, ?_⟩; conv => whnf) | (refine ASplit.yes rfl ?_; conv => whnf) | (refine ASplit.no rfl ?_; conv => whnf))
    refine AOut.stay ?_
    conv => whnf
    repeat (first | (refine AW.label ?_; conv => whnf) | (refine AW.scope ?_; conv => whnf) | (refine AO.cons hT ?_; conv => whnf) | (refine AO.nil ?_; conv => whnf) | (refine AW.seq ?_; conv => whnf) | (refine AW.region ?_; conv => whnf) | (refine AW.cond ?_; conv => whnf) | (refine AW.block ?_; conv => whnf) | (refine AW.loop ?_; conv => whnf) | (refine AW.skip ?_; conv => whnf) | (refine AW.exit ?_; conv => whnf) | (refine AW.ret ?_; conv => whnf) | (refine AF.one hT rfl ?_; conv => whnf) | (refine AF.nil ?_; conv => whnf) | (refine AF.imm hT rfl rfl rfl ?_; conv => whnf) | (refine AH.of hT rfl ?_; conv => whnf) | (refine ASplit.yes rfl ?_; conv => whnf) | (refine ACond.yes rfl ?_; conv => whnf) | (refine ASplit.no rfl ?_; conv => whnf) | (refine ACond.no rfl ?_; conv => whnf) | (refine ASplit.yes (by decide) ?_; conv => whnf) | (refine ACond.yes (by decide) ?_; conv => whnf) | (refine AReq.mk (by decide) ?_; conv => whnf) | (refine AIdx.iff.2 ⟨by decide, ?_⟩; conv => whnf) | (refine ASplit.yes rfl ?_; conv => whnf) | (refine ASplit.no rfl ?_; conv => whnf))
    exact hend (.inr (.inl h2))
  conv => whnf
  repeat ((first | refine AOI.cons hT rfl ?_ | refine AOI.nil ?_ | refine ARd.seq ?_ | refine ARd.region ?_ | refine ARd.block ?_ | refine ARd.skip ?_ | refine AW.cond ?_ | refine AW.block ?_ | refine AW.loop ?_ | refine AW.skip ?_ | refine AW.exit ?_ | refine AW.ret ?_ | refine AW.label ?_ | refine AW.scope ?_ | refine AF.one hT rfl ?_ | refine AF.nil ?_ | refine AF.imm hT rfl rfl rfl ?_ | refine AH.of hT rfl ?_ | refine AD.cons hT rfl ?_ | refine AD.nil ?_ | refine AQ.cons hT rfl ?_ | refine AQ.nil ?_); conv => whnf)
  refine ASplit.ndec (fun h3 => ?_) (fun h3 => ?_)
  · skip
    conv => whnf
    repeat ((first | refine AOI.cons hT rfl ?_ | refine AOI.nil ?_ | refine ARd.seq ?_ | refine ARd.region ?_ | refine ARd.block ?_ | refine ARd.skip ?_ | refine AW.cond ?_ | refine AW.block ?_ | refine AW.loop ?_ | refine AW.skip ?_ | refine AW.exit ?_ | refine AW.ret ?_ | refine AW.label ?_ | refine AW.scope ?_ | refine AF.one hT rfl ?_ | refine AF.nil ?_ | refine AF.imm hT rfl rfl rfl ?_ | refine AH.of hT rfl ?_ | refine AD.cons hT rfl ?_ | refine AD.nil ?_ | refine AQ.cons hT rfl ?_ | refine AQ.nil ?_ | (refine ASplit.yes rfl ?_) | (refine ASplit.no rfl ?_)); conv => whnf)
    conv => whnf
    repeat (first | (refine AW.label ?_; conv => whnf) | (refine AW.scope ?_; conv => whnf) | (refine AO.cons hT ?_; conv => whnf) | (refine AO.nil ?_; conv => whnf) | (refine AW.seq ?_; conv => whnf) | (refine AW.region ?_; conv => whnf) | (refine AW.cond ?_; conv => whnf) | (refine AW.block ?_; conv => whnf) | (refine AW.loop ?_; conv => whnf) | (refine AW.skip ?_; conv => whnf) | (refine AW.exit ?_; conv => whnf) | (refine AW.ret ?_; conv => whnf) | (refine AF.one hT rfl ?_; conv => whnf) | (refine AF.nil ?_; conv => whnf) | (refine AF.imm hT rfl rfl rfl ?_; conv => whnf) | (refine AH.of hT rfl ?_; conv => whnf) | (refine ASplit.yes rfl ?_; conv => whnf) | (refine ACond.yes rfl ?_; conv => whnf) | (refine ASplit.no rfl ?_; conv => whnf) | (refine ACond.no rfl ?_; conv => whnf) | (refine ASplit.yes (by decide) ?_; conv => whnf) | (refine ACond.yes (by decide) ?_; conv => whnf) | (refine AReq.mk (by decide) ?_; conv => whnf) | (refine AIdx.iff.2 ⟨by decide, ?_⟩; conv => whnf) | (refine ASplit.yes rfl ?_; conv => whnf) | (refine ASplit.no rfl ?_; conv => whnf))
    refine AOut.stay ?_
    conv => whnf
    repeat (first | (refine AW.label ?_; conv => whnf) | (refine AW.scope ?_; conv => whnf) | (refine AO.cons hT ?_; conv => whnf) | (refine AO.nil ?_; conv => whnf) | (refine AW.seq ?_; conv => whnf) | (refine AW.region ?_; conv => whnf) | (refine AW.cond ?_; conv => whnf) | (refine AW.block ?_; conv => whnf) | (refine AW.loop ?_; conv => whnf) | (refine AW.skip ?_; conv => whnf) | (refine AW.exit ?_; conv => whnf) | (refine AW.ret ?_; conv => whnf) | (refine AF.one hT rfl ?_; conv => whnf) | (refine AF.nil ?_; conv => whnf) | (refine AF.imm hT rfl rfl rfl ?_; conv => whnf) | (refine AH.of hT rfl ?_; conv => whnf) | (refine ASplit.yes rfl ?_; conv => whnf) | (refine ACond.yes rfl ?_; conv => whnf) | (refine ASplit.no rfl ?_; conv => whnf) | (refine ACond.no rfl ?_; conv => whnf) | (refine ASplit.yes (by decide) ?_; conv => whnf) | (refine ACond.yes (by decide) ?_; conv => whnf) | (refine AReq.mk (by decide) ?_; conv => whnf) | (refine AIdx.iff.2 ⟨by decide, ?_⟩; conv => whnf) | (refine ASplit.yes rfl ?_; conv => whnf) | (refine ASplit.no rfl ?_; conv => whnf))
    exact hend (.inr (.inr (by omega)))
  have hs1 := hst (fun h => by rcases h with h | h | h; exact h h1; exact h h2; omega)
  generalize hq : x.2.1.toNat = q at hs1
  rw [hs1.2]
  conv => whnf
  repeat ((first | refine AOI.yield 4 (fun H4 => H4 = [.cells 32 [.ms 1 7 0 (L.length + 1)], .cells 3 [nV q], .cells 9 [sV s], .cells 3 [nV ep], .loop b (LpR .ready #[13, 14] asg body) E0, .dead, _, .cells 9 ((L ++ [x.1.2.2]).map sV)]) rfl rfl rfl rfl (hRL q x.1.2.2 _ (by omega)) ?_ | refine AOI.cons hT rfl ?_ | refine AOI.nil ?_ | refine ARd.seq ?_ | refine ARd.region ?_ | refine ARd.block ?_ | refine ARd.skip ?_ | refine AW.cond ?_ | refine AW.block ?_ | refine AW.loop ?_ | refine AW.skip ?_ | refine AW.exit ?_ | refine AW.ret ?_ | refine AW.label ?_ | refine AW.scope ?_ | refine AF.one hT rfl ?_ | refine AF.nil ?_ | refine AF.imm hT rfl rfl rfl ?_ | refine AH.of hT rfl ?_ | refine AD.cons hT rfl ?_ | refine AD.nil ?_ | refine AQ.cons hT rfl ?_ | refine AQ.nil ?_); conv => whnf)
  rintro _ rfl
  conv => whnf
  repeat ((first | refine AOI.cons hT rfl ?_ | refine AOI.nil ?_ | refine ARd.seq ?_ | refine ARd.region ?_ | refine ARd.block ?_ | refine ARd.skip ?_ | refine AW.cond ?_ | refine AW.block ?_ | refine AW.loop ?_ | refine AW.skip ?_ | refine AW.exit ?_ | refine AW.ret ?_ | refine AW.label ?_ | refine AW.scope ?_ | refine AF.one hT rfl ?_ | refine AF.nil ?_ | refine AF.imm hT rfl rfl rfl ?_ | refine AH.of hT rfl ?_ | refine AD.cons hT rfl ?_ | refine AD.nil ?_ | refine AQ.cons hT rfl ?_ | refine AQ.nil ?_ | (refine ACond.no rfl ?_)); conv => whnf)
  conv => whnf
  repeat ((first | refine AO.cons hT ?_ | refine AO.nil ?_ | refine AW.seq ?_ | refine AW.region ?_ | refine AW.cond ?_ | refine AW.block ?_ | refine AW.loop ?_ | refine AW.skip ?_ | refine AW.exit ?_ | refine AW.ret ?_ | refine AW.label ?_ | refine AW.scope ?_ | refine AF.one hT rfl ?_ | refine AF.nil ?_ | refine AF.imm hT rfl rfl rfl ?_ | refine AH.of hT rfl ?_ | refine AD.cons hT rfl ?_ | refine AD.nil ?_ | refine AQ.cons hT rfl ?_ | refine AQ.nil ?_); conv => whnf)
  rw [wrap_i64 ((L.length : Int) + 1 + 1) (by omega) (by omega)]
  refine AHead.mk j (pad [.v (.func (.yield b) #[] #[]), .ptr 2 0, .ptr 3 0, .any, nV q, nV ((L.length : Int) + 1 + 1)] 41) (scH s ep (.loop b (LpR .ready #[13, 14] asg body) E0) (L ++ [x.1.2.2]) q) (by omega) ⟨_, _, hs1.1, by rw [List.length_append]; rfl, rfl⟩
    (Conv.ren [0, 1, 2, 3, 4, 7] _ (by intro i hi; rcases i with _ | _ | _ | _ | _ | i <;> first | rfl | (change i + 5 < 5 at hi; omega)) (by decide) ?_ (.same (by rw [List.length_append]; rfl) (.same rfl (.same rfl (.same rfl (.same (by simp only [ABlk.ren, hE0]; rfl) (.same (by rw [ABlk.ren, texts_ren]; rfl) .nil)))))))
  repeat' (first | exact Fit.nil | refine Fit.any ?_ | refine Fit.same ?_)
end Go.Aw.VD

set_option linter.unusedSimpArgs false
set_option linter.unusedVariables false
set_option maxHeartbeats 4000000
namespace Go.Aw.VD
open Go Go.Proofs
theorem f53 (s : ByteArray) (ep : Int) (hs : s.size ≤ 1000000) : Fun P 53 [sV s, nV ep] (scanR s ep) := by
  refine spec_ofR hT (f := 53) (fn := Go.Proofs.Tryz.f53) (c := body Go.Proofs.Tryz.f53) (by kernel_rfl) (by kernel_rfl) ?_
  refine ARF.seq ?_
  refine ARF.aw ?_
  conv => whnf
  repeat ((first | refine AO.cons hT ?_ | refine AO.nil ?_ | refine AW.seq ?_ | refine AW.region ?_ | refine AW.cond ?_ | refine AW.block ?_ | refine AW.loop ?_ | refine AW.skip ?_ | refine AW.exit ?_ | refine AW.ret ?_ | refine AW.label ?_ | refine AW.scope ?_ | refine AF.one hT rfl ?_ | refine AF.nil ?_ | refine AF.imm hT rfl rfl rfl ?_ | refine AH.of hT rfl ?_ | refine AD.cons hT rfl ?_ | refine AD.nil ?_ | refine AQ.cons hT rfl ?_ | refine AQ.nil ?_); conv => whnf)
  refine ARF.seq ?_
  refine ARF.aw ?_
  conv => whnf
  repeat ((first | refine AO.cons hT ?_ | refine AO.nil ?_ | refine AW.seq ?_ | refine AW.region ?_ | refine AW.cond ?_ | refine AW.block ?_ | refine AW.loop ?_ | refine AW.skip ?_ | refine AW.exit ?_ | refine AW.ret ?_ | refine AW.label ?_ | refine AW.scope ?_ | refine AF.one hT rfl ?_ | refine AF.nil ?_ | refine AF.imm hT rfl rfl rfl ?_ | refine AH.of hT rfl ?_ | refine AD.cons hT rfl ?_ | refine AD.nil ?_ | refine AQ.cons hT rfl ?_ | refine AQ.nil ?_); conv => whnf)
  refine ARF.seq ?_
  refine ARF.aw ?_
  conv => whnf
  repeat ((first | refine AO.cons hT ?_ | refine AO.nil ?_ | refine AW.seq ?_ | refine AW.region ?_ | refine AW.cond ?_ | refine AW.block ?_ | refine AW.loop ?_ | refine AW.skip ?_ | refine AW.exit ?_ | refine AW.ret ?_ | refine AW.label ?_ | refine AW.scope ?_ | refine AF.one hT rfl ?_ | refine AF.nil ?_ | refine AF.imm hT rfl rfl rfl ?_ | refine AH.of hT rfl ?_ | refine AD.cons hT rfl ?_ | refine AD.nil ?_ | refine AQ.cons hT rfl ?_ | refine AQ.nil ?_); conv => whnf)
  refine ARF.seq ?_
  refine ARF.seq ?_
  refine ARF.aw ?_
  conv => whnf
  repeat ((first | refine AO.cons hT ?_ | refine AO.nil ?_ | refine AW.seq ?_ | refine AW.region ?_ | refine AW.cond ?_ | refine AW.block ?_ | refine AW.loop ?_ | refine AW.skip ?_ | refine AW.exit ?_ | refine AW.ret ?_ | refine AW.label ?_ | refine AW.scope ?_ | refine AF.one hT rfl ?_ | refine AF.nil ?_ | refine AF.imm hT rfl rfl rfl ?_ | refine AH.of hT rfl ?_ | refine AD.cons hT rfl ?_ | refine AD.nil ?_ | refine AQ.cons hT rfl ?_ | refine AQ.nil ?_); conv => whnf)
  refine ACall.spec (by kernel_rfl) (f78 s ep) rfl ?_
  rintro _ _ ⟨rfl, rfl⟩
  conv => whnf
  repeat ((first | refine AO.cons hT ?_ | refine AO.nil ?_ | refine AW.seq ?_ | refine AW.region ?_ | refine AW.cond ?_ | refine AW.block ?_ | refine AW.loop ?_ | refine AW.skip ?_ | refine AW.exit ?_ | refine AW.ret ?_ | refine AW.label ?_ | refine AW.scope ?_ | refine AF.one hT rfl ?_ | refine AF.nil ?_ | refine AF.imm hT rfl rfl rfl ?_ | refine AH.of hT rfl ?_ | refine AD.cons hT rfl ?_ | refine AD.nil ?_ | refine AQ.cons hT rfl ?_ | refine AQ.nil ?_); conv => whnf)
  refine ARF.range hT (fun H' => H' = [.cells 32 [.ms 1 5 0 (scanA s ep).1.length], .cells 3 [nV (scanA s ep).2], .cells 9 [sV s], .cells 3 [nV ep], .dead, .cells 9 ((scanA s ep).1.map sV)]) rfl (by kernel_rfl) (fun b => ?_) ?_
  · refine (f96 s ep hs b _ _ _ (fun N => rfl) (fun N => rfl) ?_).mono (by rintro _ _ rfl; exact ⟨rfl, rfl⟩)
    intro L a q x y hL
    unfold scH
    conv => whnf
    repeat ((first | refine AOI.cons hT rfl ?_ | refine AOI.nil ?_ | refine ARd.seq ?_ | refine ARd.region ?_ | refine ARd.block ?_ | refine ARd.skip ?_ | refine AW.cond ?_ | refine AW.block ?_ | refine AW.loop ?_ | refine AW.skip ?_ | refine AW.exit ?_ | refine AW.ret ?_ | refine AW.label ?_ | refine AW.scope ?_ | refine AF.one hT rfl ?_ | refine AF.nil ?_ | refine AF.imm hT rfl rfl rfl ?_ | refine AH.of hT rfl ?_ | refine AD.cons hT rfl ?_ | refine AD.nil ?_ | refine AQ.cons hT rfl ?_ | refine AQ.nil ?_); conv => whnf)
    refine ⟨rfl, ?_⟩
    conv => whnf
    repeat ((first | refine AOI.cons hT rfl ?_ | refine AOI.nil ?_ | refine ARd.seq ?_ | refine ARd.region ?_ | refine ARd.block ?_ | refine ARd.skip ?_ | refine AW.cond ?_ | refine AW.block ?_ | refine AW.loop ?_ | refine AW.skip ?_ | refine AW.exit ?_ | refine AW.ret ?_ | refine AW.label ?_ | refine AW.scope ?_ | refine AF.one hT rfl ?_ | refine AF.nil ?_ | refine AF.imm hT rfl rfl rfl ?_ | refine AH.of hT rfl ?_ | refine AD.cons hT rfl ?_ | refine AD.nil ?_ | refine AQ.cons hT rfl ?_ | refine AQ.nil ?_); conv => whnf)
    refine AReq.mk ⟨by rw [List.length_map, Nat.mul_one], by rw [show (T 9).bytes = 16 from rfl]; omega⟩ ?_
    conv => whnf
    repeat ((first | refine AOI.cons hT rfl ?_ | refine AOI.nil ?_ | refine ARd.seq ?_ | refine ARd.region ?_ | refine ARd.block ?_ | refine ARd.skip ?_ | refine AW.cond ?_ | refine AW.block ?_ | refine AW.loop ?_ | refine AW.skip ?_ | refine AW.exit ?_ | refine AW.ret ?_ | refine AW.label ?_ | refine AW.scope ?_ | refine AF.one hT rfl ?_ | refine AF.nil ?_ | refine AF.imm hT rfl rfl rfl ?_ | refine AH.of hT rfl ?_ | refine AD.cons hT rfl ?_ | refine AD.nil ?_ | refine AQ.cons hT rfl ?_ | refine AQ.nil ?_); conv => whnf)
    exact ⟨rfl, by rw [List.map_append]; rfl⟩
  · rintro _ rfl
    conv => whnf
    repeat ((first | refine AO.cons hT ?_ | refine AO.nil ?_ | refine AW.seq ?_ | refine AW.region ?_ | refine AW.cond ?_ | refine AW.block ?_ | refine AW.loop ?_ | refine AW.skip ?_ | refine AW.exit ?_ | refine AW.ret ?_ | refine AW.label ?_ | refine AW.scope ?_ | refine AF.one hT rfl ?_ | refine AF.nil ?_ | refine AF.imm hT rfl rfl rfl ?_ | refine AH.of hT rfl ?_ | refine AD.cons hT rfl ?_ | refine AD.nil ?_ | refine AQ.cons hT rfl ?_ | refine AQ.nil ?_); conv => whnf)
    refine AW.plan hm (.one 0 (.one 2 (.one 1 (.one 3 .nil)))) (by kernel_rfl) ?_
    conv => whnf
    repeat ((first | refine AO.cons hT ?_ | refine AO.nil ?_ | refine AW.seq ?_ | refine AW.region ?_ | refine AW.cond ?_ | refine AW.block ?_ | refine AW.loop ?_ | refine AW.skip ?_ | refine AW.exit ?_ | refine AW.ret ?_ | refine AW.label ?_ | refine AW.scope ?_ | refine AF.one hT rfl ?_ | refine AF.nil ?_ | refine AF.imm hT rfl rfl rfl ?_ | refine AH.of hT rfl ?_ | refine AD.cons hT rfl ?_ | refine AD.nil ?_ | refine AQ.cons hT rfl ?_ | refine AQ.nil ?_); conv => whnf)
    unfold scanR
    exact AFin.to _ [] (Conv.out (.tup (.cons (.sm rfl (by rw [List.length_map, Nat.mul_one])) (.cons (Lend.it _) .nil))) (fun ρ => by simp only [AV.ren, renL, texts_ren, nV, tV])) ⟨rfl, rfl⟩
end Go.Aw.VD

