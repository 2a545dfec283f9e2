/-
  Walks of the functions that the laws of stock reach, second part, no condition.
-/
import Derived.Test.YtdhafeekjbnapaaStkA
import Derived.Test.YtdhafeekjbnapaaAwE
import Derived.Shelf.SlSortCmp.WholeK
import Derived.Shelf.SlSortCmp.NoneTotal
import Derived.Shelf.SlicesG.Cmp
import Derived.Test.YtdhafeekjbnapaaShelfP
set_option linter.unusedSimpArgs false
set_option linter.unusedVariables false
set_option linter.unusedSimpArgs false
set_option linter.unusedVariables false
set_option maxHeartbeats 4000000
namespace Go.Aw.R1
open Go

theorem flat_set {α : Type} {enc : α → List AV} {sz : Nat} (hs : ∀ x, (enc x).length = sz) : ∀ {xs : List α} {i : Nat} {v : α}, i < xs.length → spl (xs.flatMap enc) (i * sz) (enc v) = (xs.set i v).flatMap enc
  | [], _, _, h => by simp at h
  | x :: xs, 0, v, _ => by
    unfold spl
    rw [Nat.zero_mul, List.take_zero, List.nil_append, Nat.zero_add, List.flatMap_cons, List.set_cons_zero, List.flatMap_cons, hs v, ← hs x, List.drop_left]
  | x :: xs, i + 1, v, h => by
    have ih := flat_set hs (xs := xs) (i := i) (v := v) (by simpa using h)
    unfold spl at ih ⊢
    rw [List.set_cons_succ, List.flatMap_cons, List.flatMap_cons, ← ih, Nat.add_mul, Nat.one_mul]
    have h1 : (enc x ++ xs.flatMap enc).take (i * sz + sz) = enc x ++ (xs.flatMap enc).take (i * sz) := by
      rw [← hs x, Nat.add_comm, List.take_length_add_append]
    have h2 : (enc x ++ xs.flatMap enc).drop (i * sz + sz + (enc v).length) = (xs.flatMap enc).drop (i * sz + (enc v).length) := by
      rw [show i * sz + sz + (enc v).length = (enc x).length + (i * sz + (enc v).length) by rw [hs x]; omega, List.drop_length_add_append]
    rw [h1, h2]
    simp [List.append_assoc]

theorem AUpd.flat {α : Type} {enc : α → List AV} {sz : Nat} (hs : ∀ x, (enc x).length = sz) {xs : List α} {i o : Nat} {cs : List AV} {K : List AV → Prop} (v : α) (hc : cs = enc v) (hi : i < xs.length) (ho : o = i * sz) (k : K ((xs.set i v).flatMap enc)) : AUpd (xs.flatMap enc) o cs K := by
  subst hc; subst ho
  refine AUpd.to _ ?_ (flat_set hs hi) k
  rw [flat_length hs, hs]
  have := Nat.mul_le_mul_right sz (show i + 1 ≤ xs.length from hi)
  rw [Nat.add_mul] at this; omega

/-- Clone's answer -/
def CloneR (l : List Mv) (r : AV) (H : List ABlk) : Prop := (l = [] ∧ r = .vs 3 0 [] ∧ H = []) ∨ (l ≠ [] ∧ r = .ms 3 0 0 l.length ∧ H = [.cells 41 (l.flatMap mvC)])

theorem f48 (l : List Mv) (hl : l.length ≤ 100000) : Spec P 48 [mvs l] [] (CloneR l) := by
  refine spec_of hT (f := 48) (fn := Go.Proofs.Try.f48) (c := body Go.Proofs.Try.f48) (by kernel_rfl) (by kernel_rfl) ?_
  conv => whnf
  repeat ((first | refine AO.cons hT ?_ | refine AO.nil ?_ | refine AW.seq ?_ | refine AW.region ?_ | refine AW.cond ?_ | refine AW.block ?_ | refine AW.loop ?_ | refine AW.skip ?_ | refine AW.exit ?_ | refine AW.ret ?_ | refine AF.one hT rfl ?_ | refine AF.nil ?_ | refine AF.imm hT rfl rfl rfl ?_ | refine AH.of hT rfl ?_ | refine AD.cons hT rfl ?_ | refine AD.nil ?_ | refine AQ.cons hT rfl ?_ | refine AQ.nil ?_); conv => whnf)
  refine AAny.iff.2 (fun b hb => ?_)
  have eb : (T 41).bytes = 24 := rfl
  cases b with
  | true =>
    have hnil : l = [] := by
      apply List.eq_nil_of_length_eq_zero
      apply Classical.byContradiction
      intro hc
      exact absurd (hb hc) (by decide)
    conv => whnf
    repeat ((first | refine AO.cons hT ?_ | refine AO.nil ?_ | refine AW.seq ?_ | refine AW.region ?_ | refine AW.cond ?_ | refine AW.block ?_ | refine AW.loop ?_ | refine AW.skip ?_ | refine AW.exit ?_ | refine AW.ret ?_ | refine AF.one hT rfl ?_ | refine AF.nil ?_ | refine AF.imm hT rfl rfl rfl ?_ | refine AH.of hT rfl ?_ | refine AD.cons hT rfl ?_ | refine AD.nil ?_ | refine AQ.cons hT rfl ?_ | refine AQ.nil ?_); conv => whnf)
    refine ACond.yes rfl ?_
    conv => whnf
    repeat ((first | refine AO.cons hT ?_ | refine AO.nil ?_ | refine AW.seq ?_ | refine AW.region ?_ | refine AW.cond ?_ | refine AW.block ?_ | refine AW.loop ?_ | refine AW.skip ?_ | refine AW.exit ?_ | refine AW.ret ?_ | refine AF.one hT rfl ?_ | refine AF.nil ?_ | refine AF.imm hT rfl rfl rfl ?_ | refine AH.of hT rfl ?_ | refine AD.cons hT rfl ?_ | refine AD.nil ?_ | refine AQ.cons hT rfl ?_ | refine AQ.nil ?_); conv => whnf)
    exact AFin.to (.vs 3 0 []) [] (Conv.trans (Conv.see (.cons .nil .nil)) (Conv.ren [] _ (by simp) (by simp) (Fit.refl _) .nil)) (.inl ⟨hnil, rfl, rfl⟩)
  | false =>
    conv => whnf
    repeat ((first | refine AO.cons hT ?_ | refine AO.nil ?_ | refine AW.seq ?_ | refine AW.region ?_ | refine AW.cond ?_ | refine AW.block ?_ | refine AW.loop ?_ | refine AW.skip ?_ | refine AW.exit ?_ | refine AW.ret ?_ | refine AF.one hT rfl ?_ | refine AF.nil ?_ | refine AF.imm hT rfl rfl rfl ?_ | refine AH.of hT rfl ?_ | refine AD.cons hT rfl ?_ | refine AD.nil ?_ | refine AQ.cons hT rfl ?_ | refine AQ.nil ?_); conv => whnf)
    refine ACond.no rfl ?_
    conv => whnf
    repeat ((first | refine AO.cons hT ?_ | refine AO.nil ?_ | refine AW.seq ?_ | refine AW.region ?_ | refine AW.cond ?_ | refine AW.block ?_ | refine AW.loop ?_ | refine AW.skip ?_ | refine AW.exit ?_ | refine AW.ret ?_ | refine AF.one hT rfl ?_ | refine AF.nil ?_ | refine AF.imm hT rfl rfl rfl ?_ | refine AH.of hT rfl ?_ | refine AD.cons hT rfl ?_ | refine AD.nil ?_ | refine AQ.cons hT rfl ?_ | refine AQ.nil ?_); conv => whnf)
    refine AReq.mk (by rw [eb]; omega) ?_
    refine ASplit.mk (fun h => ?_) (fun h => ?_)
    · have hnil : l = [] := List.eq_nil_of_length_eq_zero (of_decide_eq_true h)
      conv => whnf
      repeat ((first | refine AO.cons hT ?_ | refine AO.nil ?_ | refine AW.seq ?_ | refine AW.region ?_ | refine AW.cond ?_ | refine AW.block ?_ | refine AW.loop ?_ | refine AW.skip ?_ | refine AW.exit ?_ | refine AW.ret ?_ | refine AF.one hT rfl ?_ | refine AF.nil ?_ | refine AF.imm hT rfl rfl rfl ?_ | refine AH.of hT rfl ?_ | refine AD.cons hT rfl ?_ | refine AD.nil ?_ | refine AQ.cons hT rfl ?_ | refine AQ.nil ?_); conv => whnf)
      exact AFin.to (.vs 3 0 []) [] (Conv.trans (Conv.see (.cons (.vx (cs' := []) rfl) .nil)) (Conv.ren [] _ (by simp) (by simp) (Fit.refl _) .nil)) (.inl ⟨hnil, rfl, rfl⟩)
    · conv => whnf
      repeat ((first | refine AO.cons hT ?_ | refine AO.nil ?_ | refine AW.seq ?_ | refine AW.region ?_ | refine AW.cond ?_ | refine AW.block ?_ | refine AW.loop ?_ | refine AW.skip ?_ | refine AW.exit ?_ | refine AW.ret ?_ | refine AF.one hT rfl ?_ | refine AF.nil ?_ | refine AF.imm hT rfl rfl rfl ?_ | refine AH.of hT rfl ?_ | refine AD.cons hT rfl ?_ | refine AD.nil ?_ | refine AQ.cons hT rfl ?_ | refine AQ.nil ?_); conv => whnf)
      rw [List.nil_append, Nat.zero_add]
      exact AFin.mk (.inr ⟨fun hc => by subst hc; simp at h, rfl, rfl⟩)

theorem f49n : Fun P 49 [.vs 3 0 []] (.tup []) := by
  refine spec_of hT (f := 49) (fn := Go.Proofs.Try.f49) (c := body Go.Proofs.Try.f49) (by kernel_rfl) (by kernel_rfl) ?_
  conv => whnf
  repeat ((first | refine AO.cons hT ?_ | refine AO.nil ?_ | refine AW.seq ?_ | refine AW.region ?_ | refine AW.cond ?_ | refine AW.block ?_ | refine AW.loop ?_ | refine AW.skip ?_ | refine AW.exit ?_ | refine AW.ret ?_ | refine AF.one hT rfl ?_ | refine AF.nil ?_ | refine AF.imm hT rfl rfl rfl ?_ | refine AH.of hT rfl ?_ | refine AD.cons hT rfl ?_ | refine AD.nil ?_ | refine AQ.cons hT rfl ?_ | refine AQ.nil ?_); conv => whnf)
  refine ALoop.mk (fun n E H => E = pad [.vs 3 0 [], .any, .v (.int .i64 0), .v (.int .i64 (-1))] 28 ∧ H = []) (n := 0) _ _ ⟨rfl, rfl⟩ (Conv.fit ?_) ?_
  · rw [show IntKind.wrap .i64 ((0 : Nat) - 1 : Int) = -1 from by decide]
    repeat' (first | exact Fit.nil | refine Fit.any ?_ | refine Fit.same ?_)
  rintro _ _ _ ⟨rfl, rfl⟩
  conv => whnf
  repeat ((first | refine AO.cons hT ?_ | refine AO.nil ?_ | refine AW.seq ?_ | refine AW.region ?_ | refine AW.cond ?_ | refine AW.block ?_ | refine AW.loop ?_ | refine AW.skip ?_ | refine AW.exit ?_ | refine AW.ret ?_ | refine AF.one hT rfl ?_ | refine AF.nil ?_ | refine AF.imm hT rfl rfl rfl ?_ | refine AH.of hT rfl ?_ | refine AD.cons hT rfl ?_ | refine AD.nil ?_ | refine AQ.cons hT rfl ?_ | refine AQ.nil ?_); conv => whnf)
  refine ACond.no (by decide) ?_
  conv => whnf
  repeat ((first | refine AO.cons hT ?_ | refine AO.nil ?_ | refine AW.seq ?_ | refine AW.region ?_ | refine AW.cond ?_ | refine AW.block ?_ | refine AW.loop ?_ | refine AW.skip ?_ | refine AW.exit ?_ | refine AW.ret ?_ | refine AF.one hT rfl ?_ | refine AF.nil ?_ | refine AF.imm hT rfl rfl rfl ?_ | refine AH.of hT rfl ?_ | refine AD.cons hT rfl ?_ | refine AD.nil ?_ | refine AQ.cons hT rfl ?_ | refine AQ.nil ?_); conv => whnf)
  refine AOut.stay ?_
  exact AFin.val rfl ⟨rfl, rfl⟩

def m0 : Mv := ⟨false, 0, 0⟩
def rvAt (l : List Mv) (i t : Nat) : Mv := if t < i ∨ l.length ≤ t + i then l.getD (l.length - 1 - t) m0 else l.getD t m0
def rvL (l : List Mv) (i : Nat) : List Mv := (List.range l.length).map (rvAt l i)
theorem rvL_len (l : List Mv) (i : Nat) : (rvL l i).length = l.length := by simp [rvL]
theorem rvL_get (l : List Mv) (i t : Nat) (h : t < l.length) : (rvL l i)[t]'(by rw [rvL_len]; exact h) = rvAt l i t := by simp [rvL]
theorem rvL_zero (l : List Mv) : rvL l 0 = l := by
  apply List.ext_getElem (rvL_len l 0)
  intro t h1 h2
  rw [rvL_get l 0 t h2, rvAt, if_neg (by omega), List.getD_eq_getElem?_getD, List.getElem?_eq_getElem h2]; rfl
theorem rvL_step (l : List Mv) (i : Nat) (h : i + i + 1 < l.length) : ((rvL l i).set i (rvAt l i (l.length - 1 - i))).set (l.length - 1 - i) (rvAt l i i) = rvL l (i + 1) := by
  apply List.ext_getElem (by simp [rvL_len])
  intro t h1 h2
  have ht : t < l.length := by simpa [rvL_len] using h2
  rw [rvL_get l (i + 1) t ht, List.getElem_set, List.getElem_set, rvL_get l i t ht]
  unfold rvAt
  by_cases e1 : l.length - 1 - i = t
  · rw [if_pos e1, if_neg (by omega), if_pos (by omega)]
    congr 1; omega
  · rw [if_neg e1]
    by_cases e2 : i = t
    · subst e2
      rw [if_pos rfl, if_neg (by omega), if_pos (by omega)]
    · rw [if_neg e2]
      by_cases e3 : t < i ∨ l.length ≤ t + i
      · rw [if_pos e3, if_pos (by omega)]
      · rw [if_neg e3, if_neg (by omega)]
theorem rvL_end (l : List Mv) (i : Nat) (h : l.length ≤ i + i + 1) : rvL l i = l.reverse := by
  apply List.ext_getElem (by simp [rvL_len])
  intro t h1 h2
  have ht : t < l.length := by simpa [rvL_len] using h1
  rw [rvL_get l i t ht, List.getElem_reverse]
  unfold rvAt
  have hg : ∀ k, (hk : k < l.length) → l.getD k m0 = l[k] := fun k hk => by rw [List.getD_eq_getElem?_getD, List.getElem?_eq_getElem hk]; rfl
  split
  · rw [hg _ (by omega)]
  · rw [hg _ ht]
    congr 1; omega

theorem f49 (l : List Mv) (hl : l.length ≤ 100000) : Spec P 49 [.ms 3 0 0 l.length] [.cells 41 (l.flatMap mvC)] (fun r H => r = .tup [] ∧ H = [.cells 41 (l.reverse.flatMap mvC)]) := by
  refine spec_of hT (f := 49) (fn := Go.Proofs.Try.f49) (c := body Go.Proofs.Try.f49) (by kernel_rfl) (by kernel_rfl) ?_
  conv => whnf
  repeat ((first | refine AO.cons hT ?_ | refine AO.nil ?_ | refine AW.seq ?_ | refine AW.region ?_ | refine AW.cond ?_ | refine AW.block ?_ | refine AW.loop ?_ | refine AW.skip ?_ | refine AW.exit ?_ | refine AW.ret ?_ | refine AF.one hT rfl ?_ | refine AF.nil ?_ | refine AF.imm hT rfl rfl rfl ?_ | refine AH.of hT rfl ?_ | refine AD.cons hT rfl ?_ | refine AD.nil ?_ | refine AQ.cons hT rfl ?_ | refine AQ.nil ?_); conv => whnf)
  rw [wrap_i64 ((l.length : Int) - 1) (by omega) (by omega)]
  refine ALoop.mk (fun n E H => ∃ i : Nat, i + i ≤ l.length + 1 ∧ n = l.length + 1 - i ∧ E = pad [.ms 3 0 0 l.length, .any, .v (.int .i64 i), .v (.int .i64 ((l.length : Int) - 1 - i))] 28 ∧ H = [.cells 41 ((rvL l i).flatMap mvC)]) (n := l.length + 1) _ _ ⟨0, by omega, rfl, rfl, rfl⟩ ?_ ?_
  · rw [rvL_zero, show ((l.length : Int) - 1 - (0 : Nat)) = (l.length : Int) - 1 by omega]
    refine Conv.fit ?_
    repeat' (first | exact Fit.nil | refine Fit.any ?_ | refine Fit.same ?_)
  rintro _ _ _ ⟨i, hi, rfl, rfl, rfl⟩
  conv => whnf
  repeat ((first | refine AO.cons hT ?_ | refine AO.nil ?_ | refine AW.seq ?_ | refine AW.region ?_ | refine AW.cond ?_ | refine AW.block ?_ | refine AW.loop ?_ | refine AW.skip ?_ | refine AW.exit ?_ | refine AW.ret ?_ | refine AF.one hT rfl ?_ | refine AF.nil ?_ | refine AF.imm hT rfl rfl rfl ?_ | refine AH.of hT rfl ?_ | refine AD.cons hT rfl ?_ | refine AD.nil ?_ | refine AQ.cons hT rfl ?_ | refine AQ.nil ?_); conv => whnf)
  refine ACond.dec (fun h => ?_) (fun h => ?_)
  · have hij : i + i + 1 < l.length := by omega
    have ej : ((l.length : Int) - 1 - i) = ((l.length - 1 - i : Nat) : Int) := by omega
    rw [ej]
    have hlen := rvL_len l i
    conv => whnf
    repeat ((first | refine AO.cons hT ?_ | refine AO.nil ?_ | refine AW.seq ?_ | refine AW.region ?_ | refine AW.cond ?_ | refine AW.block ?_ | refine AW.loop ?_ | refine AW.skip ?_ | refine AW.exit ?_ | refine AW.ret ?_ | refine AF.one hT rfl ?_ | refine AF.nil ?_ | refine AF.imm hT rfl rfl rfl ?_ | refine AH.of hT rfl ?_ | refine AD.cons hT rfl ?_ | refine AD.nil ?_ | refine AQ.cons hT rfl ?_ | refine AQ.nil ?_); conv => whnf)
    refine AW.plan hm (.one 0 (.one 1 (.one 2 (.one 3 (.one 4 (.one 5 (.one 6 (.one 8 (.one 9 (.one 10 (.one 7 (.one 11 (.one 12 (.one 13 (.one 14 (.one 15 .nil)))))))))))))))) (by kernel_rfl) ?_
    conv => whnf
    repeat ((first | refine AO.cons hT ?_ | refine AO.nil ?_ | refine AW.seq ?_ | refine AW.region ?_ | refine AW.cond ?_ | refine AW.block ?_ | refine AW.loop ?_ | refine AW.skip ?_ | refine AW.exit ?_ | refine AW.ret ?_ | refine AF.one hT rfl ?_ | refine AF.nil ?_ | refine AF.imm hT rfl rfl rfl ?_ | refine AH.of hT rfl ?_ | refine AD.cons hT rfl ?_ | refine AD.nil ?_ | refine AQ.cons hT rfl ?_ | refine AQ.nil ?_); conv => whnf)
    refine AReq.mk (by omega) ?_
    conv => whnf
    repeat ((first | refine AO.cons hT ?_ | refine AO.nil ?_ | refine AW.seq ?_ | refine AW.region ?_ | refine AW.cond ?_ | refine AW.block ?_ | refine AW.loop ?_ | refine AW.skip ?_ | refine AW.exit ?_ | refine AW.ret ?_ | refine AF.one hT rfl ?_ | refine AF.nil ?_ | refine AF.imm hT rfl rfl rfl ?_ | refine AH.of hT rfl ?_ | refine AD.cons hT rfl ?_ | refine AD.nil ?_ | refine AQ.cons hT rfl ?_ | refine AQ.nil ?_); conv => whnf)
    refine AReq.mk (by omega) ?_
    conv => whnf
    repeat ((first | refine AO.cons hT ?_ | refine AO.nil ?_ | refine AW.seq ?_ | refine AW.region ?_ | refine AW.cond ?_ | refine AW.block ?_ | refine AW.loop ?_ | refine AW.skip ?_ | refine AW.exit ?_ | refine AW.ret ?_ | refine AF.one hT rfl ?_ | refine AF.nil ?_ | refine AF.imm hT rfl rfl rfl ?_ | refine AH.of hT rfl ?_ | refine AD.cons hT rfl ?_ | refine AD.nil ?_ | refine AQ.cons hT rfl ?_ | refine AQ.nil ?_); conv => whnf)
    refine AIdx.flat (enc := mvC) mvC_len (xs := rvL l i) (i := l.length - 1 - i) (by omega) ?_
    conv => whnf
    repeat ((first | refine AO.cons hT ?_ | refine AO.nil ?_ | refine AW.seq ?_ | refine AW.region ?_ | refine AW.cond ?_ | refine AW.block ?_ | refine AW.loop ?_ | refine AW.skip ?_ | refine AW.exit ?_ | refine AW.ret ?_ | refine AF.one hT rfl ?_ | refine AF.nil ?_ | refine AF.imm hT rfl rfl rfl ?_ | refine AH.of hT rfl ?_ | refine AD.cons hT rfl ?_ | refine AD.nil ?_ | refine AQ.cons hT rfl ?_ | refine AQ.nil ?_); conv => whnf)
    refine AIdx.flat (enc := mvC) mvC_len (xs := rvL l i) (i := i) (by omega) ?_
    conv => whnf
    repeat ((first | refine AO.cons hT ?_ | refine AO.nil ?_ | refine AW.seq ?_ | refine AW.region ?_ | refine AW.cond ?_ | refine AW.block ?_ | refine AW.loop ?_ | refine AW.skip ?_ | refine AW.exit ?_ | refine AW.ret ?_ | refine AF.one hT rfl ?_ | refine AF.nil ?_ | refine AF.imm hT rfl rfl rfl ?_ | refine AH.of hT rfl ?_ | refine AD.cons hT rfl ?_ | refine AD.nil ?_ | refine AQ.cons hT rfl ?_ | refine AQ.nil ?_); conv => whnf)
    refine AReq.mk (by omega) ?_
    conv => whnf
    repeat ((first | refine AO.cons hT ?_ | refine AO.nil ?_ | refine AW.seq ?_ | refine AW.region ?_ | refine AW.cond ?_ | refine AW.block ?_ | refine AW.loop ?_ | refine AW.skip ?_ | refine AW.exit ?_ | refine AW.ret ?_ | refine AF.one hT rfl ?_ | refine AF.nil ?_ | refine AF.imm hT rfl rfl rfl ?_ | refine AH.of hT rfl ?_ | refine AD.cons hT rfl ?_ | refine AD.nil ?_ | refine AQ.cons hT rfl ?_ | refine AQ.nil ?_); conv => whnf)
    refine AReq.mk rfl ?_
    have ea : ∀ t, (ht : t < l.length) → (rvL l i)[t]'(by rw [hlen]; exact ht) = rvAt l i t := fun t ht => rvL_get l i t ht
    refine AUpd.flat mvC_len (xs := rvL l i) (i := i) (rvAt l i (l.length - 1 - i)) (by rw [ea _ (by omega)]; rfl) (by omega) (by show 0 + Int.toNat (i : Int) * 3 + 0 = _; omega) ?_
    conv => whnf
    repeat ((first | refine AO.cons hT ?_ | refine AO.nil ?_ | refine AW.seq ?_ | refine AW.region ?_ | refine AW.cond ?_ | refine AW.block ?_ | refine AW.loop ?_ | refine AW.skip ?_ | refine AW.exit ?_ | refine AW.ret ?_ | refine AF.one hT rfl ?_ | refine AF.nil ?_ | refine AF.imm hT rfl rfl rfl ?_ | refine AH.of hT rfl ?_ | refine AD.cons hT rfl ?_ | refine AD.nil ?_ | refine AQ.cons hT rfl ?_ | refine AQ.nil ?_); conv => whnf)
    refine AReq.mk (by omega) ?_
    conv => whnf
    repeat ((first | refine AO.cons hT ?_ | refine AO.nil ?_ | refine AW.seq ?_ | refine AW.region ?_ | refine AW.cond ?_ | refine AW.block ?_ | refine AW.loop ?_ | refine AW.skip ?_ | refine AW.exit ?_ | refine AW.ret ?_ | refine AF.one hT rfl ?_ | refine AF.nil ?_ | refine AF.imm hT rfl rfl rfl ?_ | refine AH.of hT rfl ?_ | refine AD.cons hT rfl ?_ | refine AD.nil ?_ | refine AQ.cons hT rfl ?_ | refine AQ.nil ?_); conv => whnf)
    refine AReq.mk rfl ?_
    refine AUpd.flat mvC_len (xs := (rvL l i).set i (rvAt l i (l.length - 1 - i))) (i := l.length - 1 - i) (rvAt l i i) (by rw [ea _ (by omega)]; rfl) (by rw [List.length_set]; omega) (by show 0 + Int.toNat ((l.length - 1 - i : Nat) : Int) * 3 + 0 = _; omega) ?_
    rw [rvL_step l i hij]
    conv => whnf
    repeat ((first | refine AO.cons hT ?_ | refine AO.nil ?_ | refine AW.seq ?_ | refine AW.region ?_ | refine AW.cond ?_ | refine AW.block ?_ | refine AW.loop ?_ | refine AW.skip ?_ | refine AW.exit ?_ | refine AW.ret ?_ | refine AF.one hT rfl ?_ | refine AF.nil ?_ | refine AF.imm hT rfl rfl rfl ?_ | refine AH.of hT rfl ?_ | refine AD.cons hT rfl ?_ | refine AD.nil ?_ | refine AQ.cons hT rfl ?_ | refine AQ.nil ?_); conv => whnf)
    rw [wrap_i64 ((i : Int) + 1) (by omega) (by omega), wrap_i64 (((l.length - 1 - i : Nat) : Int) - 1) (by omega) (by omega), show ((l.length - 1 - i : Nat) : Int) - 1 = (l.length : Int) - 1 - ((i + 1 : Nat) : Int) by omega]
    refine AHead.mk (l.length + 1 - (i + 1)) _ _ (by omega) ⟨i + 1, by omega, rfl, rfl, rfl⟩ (Conv.fit ?_)
    repeat' (first | exact Fit.nil | refine Fit.any ?_ | refine Fit.same ?_)
  · conv => whnf
    repeat ((first | refine AO.cons hT ?_ | refine AO.nil ?_ | refine AW.seq ?_ | refine AW.region ?_ | refine AW.cond ?_ | refine AW.block ?_ | refine AW.loop ?_ | refine AW.skip ?_ | refine AW.exit ?_ | refine AW.ret ?_ | refine AF.one hT rfl ?_ | refine AF.nil ?_ | refine AF.imm hT rfl rfl rfl ?_ | refine AH.of hT rfl ?_ | refine AD.cons hT rfl ?_ | refine AD.nil ?_ | refine AQ.cons hT rfl ?_ | refine AQ.nil ?_); conv => whnf)
    refine AOut.stay ?_
    rw [rvL_end l i (by omega)]
    exact AFin.mk ⟨rfl, rfl⟩
end Go.Aw.R1

set_option linter.unusedSimpArgs false
set_option linter.unusedVariables false
set_option maxHeartbeats 4000000
namespace Go.Aw.R1
open Go

def neg (m : Mv) : Mv := ⟨m.p, m.i, -m.q⟩
def turnF (l : List Mv) : List Mv := l.reverse.map neg

theorem mvs_map_len (l : List Mv) : (l.map neg).length = l.length := List.length_map ..

theorem f31 (l : List Mv) (hl : l.length ≤ 4611686018427387904) : Spec P 31 [mvs l] [] fun r H => (good l ∧ r = .tup [.ms 3 0 0 l.length, nV 0] ∧ H = [.cells 41 ((turnF l).flatMap mvC)]) ∨ (¬ good l ∧ r = .tup [.v (.slice none 0 0), nV 40] ∧ H = []) := by
  refine spec_of hT (f := 31) (fn := Go.Proofs.Try.f31) (c := body Go.Proofs.Try.f31) (by kernel_rfl) (by kernel_rfl) ?_
  conv => whnf
  repeat ((first | refine AO.cons hT ?_ | refine AO.nil ?_ | refine AW.seq ?_ | refine AW.region ?_ | refine AW.cond ?_ | refine AW.block ?_ | refine AW.loop ?_ | refine AW.skip ?_ | refine AW.exit ?_ | refine AW.ret ?_ | refine AF.one hT rfl ?_ | refine AF.nil ?_ | refine AF.imm hT rfl rfl rfl ?_ | refine AH.of hT rfl ?_ | refine AD.cons hT rfl ?_ | refine AD.nil ?_ | refine AQ.cons hT rfl ?_ | refine AQ.nil ?_); conv => whnf)
  refine ACall.val (by kernel_rfl) (f26 l hl) (by simp [renL, AV.ren, renL_mvs, mvs]) rfl ?_
  by_cases hg : good l
  · rw [chkF_yes hg]
    have hlen := hg.1
    conv => whnf
    repeat ((first | refine AO.cons hT ?_ | refine AO.nil ?_ | refine AW.seq ?_ | refine AW.region ?_ | refine AW.cond ?_ | refine AW.block ?_ | refine AW.loop ?_ | refine AW.skip ?_ | refine AW.exit ?_ | refine AW.ret ?_ | refine AF.one hT rfl ?_ | refine AF.nil ?_ | refine AF.imm hT rfl rfl rfl ?_ | refine AH.of hT rfl ?_ | refine AD.cons hT rfl ?_ | refine AD.nil ?_ | refine AQ.cons hT rfl ?_ | refine AQ.nil ?_); conv => whnf)
    refine ACond.no rfl ?_
    conv => whnf
    repeat ((first | refine AO.cons hT ?_ | refine AO.nil ?_ | refine AW.seq ?_ | refine AW.region ?_ | refine AW.cond ?_ | refine AW.block ?_ | refine AW.loop ?_ | refine AW.skip ?_ | refine AW.exit ?_ | refine AW.ret ?_ | refine AF.one hT rfl ?_ | refine AF.nil ?_ | refine AF.imm hT rfl rfl rfl ?_ | refine AH.of hT rfl ?_ | refine AD.cons hT rfl ?_ | refine AD.nil ?_ | refine AQ.cons hT rfl ?_ | refine AQ.nil ?_); conv => whnf)
    rw [wrap_i64 ((l.length : Int) - 1) (by omega) (by omega)]
    refine ALoop.mk (fun n E H => ∃ k : Nat, k ≤ l.length ∧ n = l.length - k ∧ E = pad [mvs l, .any, .v (.slice none 0 0), .v (.int .i64 0), .ms 3 0 0 k, .v (.int .i64 ((l.length : Int) - 1 - k))] 37 ∧ H = [.cells 41 (((l.reverse.take k).map neg).flatMap mvC)])
      (n := l.length) _ _ ⟨0, by omega, rfl, rfl, rfl⟩ ?_ ?_
    · rw [show ((l.length : Int) - 1 - (0 : Nat)) = (l.length : Int) - 1 by omega]
      refine Conv.trans (Conv.fit (xs' := pad [mvs l, .any, .v (.slice none 0 0), .v (.int .i64 0), .v (.slice none 0 0), .v (.int .i64 ((l.length : Int) - 1))] 37) ?_) (Conv.own (sz := 3) 41 (.same (.any (.same (.same (.own (.same ?_)))))))
      · repeat' (first | exact Fit.nil | refine Fit.any ?_ | refine Fit.same ?_)
      · repeat' (first | exact FitN.nil | refine FitN.any ?_)
    rintro _ _ _ ⟨k, hk, rfl, rfl, rfl⟩
    conv => whnf
    repeat ((first | refine AO.cons hT ?_ | refine AO.nil ?_ | refine AW.seq ?_ | refine AW.region ?_ | refine AW.cond ?_ | refine AW.block ?_ | refine AW.loop ?_ | refine AW.skip ?_ | refine AW.exit ?_ | refine AW.ret ?_ | refine AF.one hT rfl ?_ | refine AF.nil ?_ | refine AF.imm hT rfl rfl rfl ?_ | refine AH.of hT rfl ?_ | refine AD.cons hT rfl ?_ | refine AD.nil ?_ | refine AQ.cons hT rfl ?_ | refine AQ.nil ?_); conv => whnf)
    refine ACond.dec (fun h => ?_) (fun h => ?_)
    · have hkl : k < l.length := by omega
      have hir : l.length - 1 - k < l.length := by omega
      have ej : ((l.length : Int) - 1 - k) = ((l.length - 1 - k : Nat) : Int) := by omega
      rw [ej]
      have hq := (hg.2 (l.length - 1 - k) hir).1
      have hq' := hq
      unfold mok at hq'
      conv => whnf
      repeat ((first | refine AO.cons hT ?_ | refine AO.nil ?_ | refine AW.seq ?_ | refine AW.region ?_ | refine AW.cond ?_ | refine AW.block ?_ | refine AW.loop ?_ | refine AW.skip ?_ | refine AW.exit ?_ | refine AW.ret ?_ | refine AF.one hT rfl ?_ | refine AF.nil ?_ | refine AF.imm hT rfl rfl rfl ?_ | refine AH.of hT rfl ?_ | refine AD.cons hT rfl ?_ | refine AD.nil ?_ | refine AQ.cons hT rfl ?_ | refine AQ.nil ?_); conv => whnf)
      refine AW.plan hm (.one 0 (.one 1 (.one 2 (.one 3 (.one 4 (.one 6 (.one 7 (.one 8 (.one 9 (.one 11 (.one 12 (.one 13 (.one 14 (.one 15 (.one 16 (.one 5 (.one 10 (.one 17 (.one 18 (.one 19 (.one 20 .nil))))))))))))))))))))) (by kernel_rfl) ?_
      conv => whnf
      repeat ((first | refine AO.cons hT ?_ | refine AO.nil ?_ | refine AW.seq ?_ | refine AW.region ?_ | refine AW.cond ?_ | refine AW.block ?_ | refine AW.loop ?_ | refine AW.skip ?_ | refine AW.exit ?_ | refine AW.ret ?_ | refine AF.one hT rfl ?_ | refine AF.nil ?_ | refine AF.imm hT rfl rfl rfl ?_ | refine AH.of hT rfl ?_ | refine AD.cons hT rfl ?_ | refine AD.nil ?_ | refine AQ.cons hT rfl ?_ | refine AQ.nil ?_); conv => whnf)
      refine AReq.mk (by omega) ?_
      refine AIdx.flat (enc := mvC) mvC_len (xs := l) (i := l.length - 1 - k) hir ?_
      conv => whnf
      repeat ((first | refine AO.cons hT ?_ | refine AO.nil ?_ | refine AW.seq ?_ | refine AW.region ?_ | refine AW.cond ?_ | refine AW.block ?_ | refine AW.loop ?_ | refine AW.skip ?_ | refine AW.exit ?_ | refine AW.ret ?_ | refine AF.one hT rfl ?_ | refine AF.nil ?_ | refine AF.imm hT rfl rfl rfl ?_ | refine AH.of hT rfl ?_ | refine AD.cons hT rfl ?_ | refine AD.nil ?_ | refine AQ.cons hT rfl ?_ | refine AQ.nil ?_); conv => whnf)
      refine AReq.mk (by omega) ?_
      refine AIdx.flat (enc := mvC) mvC_len (xs := l) (i := l.length - 1 - k) hir ?_
      conv => whnf
      repeat ((first | refine AO.cons hT ?_ | refine AO.nil ?_ | refine AW.seq ?_ | refine AW.region ?_ | refine AW.cond ?_ | refine AW.block ?_ | refine AW.loop ?_ | refine AW.skip ?_ | refine AW.exit ?_ | refine AW.ret ?_ | refine AF.one hT rfl ?_ | refine AF.nil ?_ | refine AF.imm hT rfl rfl rfl ?_ | refine AH.of hT rfl ?_ | refine AD.cons hT rfl ?_ | refine AD.nil ?_ | refine AQ.cons hT rfl ?_ | refine AQ.nil ?_); conv => whnf)
      refine AReq.mk (by omega) ?_
      refine AIdx.flat (enc := mvC) mvC_len (xs := l) (i := l.length - 1 - k) hir ?_
      conv => whnf
      repeat ((first | refine AO.cons hT ?_ | refine AO.nil ?_ | refine AW.seq ?_ | refine AW.region ?_ | refine AW.cond ?_ | refine AW.block ?_ | refine AW.loop ?_ | refine AW.skip ?_ | refine AW.exit ?_ | refine AW.ret ?_ | refine AF.one hT rfl ?_ | refine AF.nil ?_ | refine AF.imm hT rfl rfl rfl ?_ | refine AH.of hT rfl ?_ | refine AD.cons hT rfl ?_ | refine AD.nil ?_ | refine AQ.cons hT rfl ?_ | refine AQ.nil ?_); conv => whnf)
      rw [wrap_i64 (0 - l[l.length - 1 - k].q) (by omega) (by omega)]
      have eb : (T 41).bytes = 24 := rfl
      refine AReq.mk ⟨by rw [mvs_len]; simp [show (T 41).size = 3 from rfl]; omega, by rw [eb]; omega⟩ ?_
      conv => whnf
      repeat ((first | refine AO.cons hT ?_ | refine AO.nil ?_ | refine AW.seq ?_ | refine AW.region ?_ | refine AW.cond ?_ | refine AW.block ?_ | refine AW.loop ?_ | refine AW.skip ?_ | refine AW.exit ?_ | refine AW.ret ?_ | refine AF.one hT rfl ?_ | refine AF.nil ?_ | refine AF.imm hT rfl rfl rfl ?_ | refine AH.of hT rfl ?_ | refine AD.cons hT rfl ?_ | refine AD.nil ?_ | refine AQ.cons hT rfl ?_ | refine AQ.nil ?_); conv => whnf)
      rw [wrap_i64 (((l.length - 1 - k : Nat) : Int) - 1) (by omega) (by omega)]
      have ecell : ((l.reverse.take k).map neg).flatMap mvC ++ [.v (.bool l[l.length - 1 - k].p), .v (.int .i64 l[l.length - 1 - k].i), .v (.int .i64 (0 - l[l.length - 1 - k].q))] = ((l.reverse.take (k + 1)).map neg).flatMap mvC := by
        rw [take_snoc l.reverse k (by simpa using hkl), List.map_append, List.flatMap_append]
        simp [List.getElem_reverse, neg, mvC]
      rw [ecell]
      have hx : renL (nm [1] 2) (pad [mvs l, .any, .v (.slice none 0 0), .v (.int .i64 0), .ms 3 0 0 (k + 1), .v (.int .i64 (((l.length - 1 - k : Nat) : Int) - 1))] 37) = pad [mvs l, .any, .v (.slice none 0 0), .v (.int .i64 0), .ms 3 (0 + 1) 0 (k + 1), .v (.int .i64 (((l.length - 1 - k : Nat) : Int) - 1))] 37 := by
        simp [pad, renL, AV.ren, ren_mvs, nm]
      rw [show ((l.length - 1 - k : Nat) : Int) - 1 = (l.length : Int) - 1 - ((k + 1 : Nat) : Int) by omega] at hx ⊢
      refine AHead.mk (l.length - (k + 1)) _ _ (by omega) ⟨k + 1, by omega, rfl, rfl, rfl⟩ (Conv.trans (Conv.fit (xs' := pad [mvs l, .any, .v (.slice none 0 0), .v (.int .i64 0), .ms 3 (0 + 1) 0 (k + 1), .v (.int .i64 ((l.length : Int) - 1 - ((k + 1 : Nat) : Int)))] 37) ?_) (Conv.ren [1] _ (by simp) (by simp) (by rw [← hx]; exact Fit.refl _) (.same (by show some (ABlk.cells 41 _) = some (ABlk.cells 41 (renL _ _)); rw [renL_mvs]) .nil)))
      repeat' (first | exact Fit.nil | refine Fit.any ?_ | refine Fit.same ?_)
    · obtain rfl : k = l.length := by omega
      conv => whnf
      repeat ((first | refine AO.cons hT ?_ | refine AO.nil ?_ | refine AW.seq ?_ | refine AW.region ?_ | refine AW.cond ?_ | refine AW.block ?_ | refine AW.loop ?_ | refine AW.skip ?_ | refine AW.exit ?_ | refine AW.ret ?_ | refine AF.one hT rfl ?_ | refine AF.nil ?_ | refine AF.imm hT rfl rfl rfl ?_ | refine AH.of hT rfl ?_ | refine AD.cons hT rfl ?_ | refine AD.nil ?_ | refine AQ.cons hT rfl ?_ | refine AQ.nil ?_); conv => whnf)
      refine AOut.stay ?_
      conv => whnf
      repeat ((first | refine AO.cons hT ?_ | refine AO.nil ?_ | refine AW.seq ?_ | refine AW.region ?_ | refine AW.cond ?_ | refine AW.block ?_ | refine AW.loop ?_ | refine AW.skip ?_ | refine AW.exit ?_ | refine AW.ret ?_ | refine AF.one hT rfl ?_ | refine AF.nil ?_ | refine AF.imm hT rfl rfl rfl ?_ | refine AH.of hT rfl ?_ | refine AD.cons hT rfl ?_ | refine AD.nil ?_ | refine AQ.cons hT rfl ?_ | refine AQ.nil ?_); conv => whnf)
      refine AFin.mk (.inl ⟨hg, rfl, ?_⟩)
      rw [List.take_of_length_le (by simp)]; rfl
  · rw [chkF_no hg]
    conv => whnf
    repeat ((first | refine AO.cons hT ?_ | refine AO.nil ?_ | refine AW.seq ?_ | refine AW.region ?_ | refine AW.cond ?_ | refine AW.block ?_ | refine AW.loop ?_ | refine AW.skip ?_ | refine AW.exit ?_ | refine AW.ret ?_ | refine AF.one hT rfl ?_ | refine AF.nil ?_ | refine AF.imm hT rfl rfl rfl ?_ | refine AH.of hT rfl ?_ | refine AD.cons hT rfl ?_ | refine AD.nil ?_ | refine AQ.cons hT rfl ?_ | refine AQ.nil ?_); conv => whnf)
    refine ACond.yes rfl ?_
    conv => whnf
    repeat ((first | refine AO.cons hT ?_ | refine AO.nil ?_ | refine AW.seq ?_ | refine AW.region ?_ | refine AW.cond ?_ | refine AW.block ?_ | refine AW.loop ?_ | refine AW.skip ?_ | refine AW.exit ?_ | refine AW.ret ?_ | refine AF.one hT rfl ?_ | refine AF.nil ?_ | refine AF.imm hT rfl rfl rfl ?_ | refine AH.of hT rfl ?_ | refine AD.cons hT rfl ?_ | refine AD.nil ?_ | refine AQ.cons hT rfl ?_ | refine AQ.nil ?_); conv => whnf)
    exact AFin.to (.tup [.v (.slice none 0 0), nV 40]) [] (Conv.ren [] _ (by simp) (by simp) (Fit.refl _) .nil) (.inr ⟨hg, rfl, rfl⟩)
end Go.Aw.R1

set_option linter.unusedSimpArgs false
set_option linter.unusedVariables false
set_option maxHeartbeats 4000000
namespace Go.Aw.R1
open Go

theorem flat_setq (q : Int) : ∀ (xs : List Mv) (i : Nat) (h : i < xs.length), (xs.flatMap mvC).set (i * 3 + 2) (.v (.int .i64 q)) = (xs.set i ⟨xs[i].p, xs[i].i, q⟩).flatMap mvC
  | [], _, h => by simp at h
  | x :: xs, 0, _ => rfl
  | x :: xs, i + 1, h => by
    have ih := flat_setq q xs i (by simpa using h)
    rw [List.set_cons_succ, List.flatMap_cons, List.flatMap_cons, List.getElem_cons_succ, ← ih, show (i + 1) * 3 + 2 = i * 3 + 2 + 1 + 1 + 1 by omega]
    rfl

/-- the first k turned about -/
def ngL (l : List Mv) (k : Nat) : List Mv := (l.take k).map neg ++ l.drop k
theorem ngL_len (l : List Mv) (k : Nat) : (ngL l k).length = l.length := by simp [ngL]; omega
theorem ngL_get (l : List Mv) (k t : Nat) (h : t < l.length) : (ngL l k)[t]'(by rw [ngL_len]; exact h) = if t < k then neg l[t] else l[t] := by
  unfold ngL
  by_cases e : t < k
  · rw [if_pos e, List.getElem_append_left (by simp; omega)]
    simp
  · rw [if_neg e, List.getElem_append_right (by simp; omega)]
    simp [show t - min k l.length = t - k by omega, show k + (t - k) = t by omega]
theorem ngL_step (l : List Mv) (k : Nat) (h : k < l.length) : (ngL l k).set k (neg l[k]) = ngL l (k + 1) := by
  apply List.ext_getElem (by simp [ngL_len])
  intro t h1 h2
  have ht : t < l.length := by simpa [ngL_len] using h2
  rw [ngL_get l (k + 1) t ht, List.getElem_set, ngL_get l k t ht]
  by_cases e : k = t
  · subst e; rw [if_pos rfl, if_pos (by omega)]
  · rw [if_neg e]
    by_cases e2 : t < k
    · rw [if_pos e2, if_pos (by omega)]
    · rw [if_neg e2, if_neg (by omega)]

/-- Turn's answer -/
def TurnR (l : List Mv) (r : AV) (H : List ABlk) : Prop :=
  (good l ∧ l = [] ∧ r = .tup [.vs 3 0 [], nV 0] ∧ H = []) ∨ (good l ∧ l ≠ [] ∧ r = .tup [.ms 3 0 0 l.length, nV 0] ∧ H = [.cells 41 ((turnF l).flatMap mvC)]) ∨ (¬ good l ∧ r = .tup [.v (.slice none 0 0), nV 40] ∧ H = [])

theorem f30 (l : List Mv) (hl : l.length ≤ 4611686018427387904) : Spec P 30 [mvs l] [] (TurnR l) := by
  refine spec_of hT (f := 30) (fn := Go.Proofs.Try.f30) (c := body Go.Proofs.Try.f30) (by kernel_rfl) (by kernel_rfl) ?_
  conv => whnf
  repeat ((first | refine AO.cons hT ?_ | refine AO.nil ?_ | refine AW.seq ?_ | refine AW.region ?_ | refine AW.cond ?_ | refine AW.block ?_ | refine AW.loop ?_ | refine AW.skip ?_ | refine AW.exit ?_ | refine AW.ret ?_ | refine AF.one hT rfl ?_ | refine AF.nil ?_ | refine AF.imm hT rfl rfl rfl ?_ | refine AH.of hT rfl ?_ | refine AD.cons hT rfl ?_ | refine AD.nil ?_ | refine AQ.cons hT rfl ?_ | refine AQ.nil ?_); conv => whnf)
  refine ACall.val (by kernel_rfl) (f25 l hl) (by simp [renL, AV.ren, renL_mvs, mvs]) rfl ?_
  by_cases hg : good l
  · rw [chkF_yes hg]
    have hlen := hg.1
    conv => whnf
    repeat ((first | refine AO.cons hT ?_ | refine AO.nil ?_ | refine AW.seq ?_ | refine AW.region ?_ | refine AW.cond ?_ | refine AW.block ?_ | refine AW.loop ?_ | refine AW.skip ?_ | refine AW.exit ?_ | refine AW.ret ?_ | refine AF.one hT rfl ?_ | refine AF.nil ?_ | refine AF.imm hT rfl rfl rfl ?_ | refine AH.of hT rfl ?_ | refine AD.cons hT rfl ?_ | refine AD.nil ?_ | refine AQ.cons hT rfl ?_ | refine AQ.nil ?_); conv => whnf)
    refine ACond.no rfl ?_
    conv => whnf
    repeat ((first | refine AO.cons hT ?_ | refine AO.nil ?_ | refine AW.seq ?_ | refine AW.region ?_ | refine AW.cond ?_ | refine AW.block ?_ | refine AW.loop ?_ | refine AW.skip ?_ | refine AW.exit ?_ | refine AW.ret ?_ | refine AF.one hT rfl ?_ | refine AF.nil ?_ | refine AF.imm hT rfl rfl rfl ?_ | refine AH.of hT rfl ?_ | refine AD.cons hT rfl ?_ | refine AD.nil ?_ | refine AQ.cons hT rfl ?_ | refine AQ.nil ?_); conv => whnf)
    refine ACall.spec (by kernel_rfl) (f48 l (by omega)) (by simp [renL, AV.ren, renL_mvs, mvs]) ?_
    rintro _ _ (⟨hnil, rfl, rfl⟩ | ⟨hne, rfl, rfl⟩)
    · subst hnil
      conv => whnf
      repeat ((first | refine AO.cons hT ?_ | refine AO.nil ?_ | refine AW.seq ?_ | refine AW.region ?_ | refine AW.cond ?_ | refine AW.block ?_ | refine AW.loop ?_ | refine AW.skip ?_ | refine AW.exit ?_ | refine AW.ret ?_ | refine AF.one hT rfl ?_ | refine AF.nil ?_ | refine AF.imm hT rfl rfl rfl ?_ | refine AH.of hT rfl ?_ | refine AD.cons hT rfl ?_ | refine AD.nil ?_ | refine AQ.cons hT rfl ?_ | refine AQ.nil ?_); conv => whnf)
      refine ACall.val (by kernel_rfl) f49n rfl rfl ?_
      conv => whnf
      repeat ((first | refine AO.cons hT ?_ | refine AO.nil ?_ | refine AW.seq ?_ | refine AW.region ?_ | refine AW.cond ?_ | refine AW.block ?_ | refine AW.loop ?_ | refine AW.skip ?_ | refine AW.exit ?_ | refine AW.ret ?_ | refine AF.one hT rfl ?_ | refine AF.nil ?_ | refine AF.imm hT rfl rfl rfl ?_ | refine AH.of hT rfl ?_ | refine AD.cons hT rfl ?_ | refine AD.nil ?_ | refine AQ.cons hT rfl ?_ | refine AQ.nil ?_); conv => whnf)
      refine ALoop.mk (fun n E H => E = pad [.any, .any, .v (.slice none 0 0), .v (.int .i64 0), .any, .vs 3 0 [], .any, .any, .any, .any, .any, .any, .any, .any, .any, .any, .any, .v (.int .i64 0), .v (.int .i64 0)] 33 ∧ H = []) (n := 0) _ _ ⟨rfl, rfl⟩ (Conv.fit ?_) ?_
      · repeat' (first | exact Fit.nil | refine Fit.any ?_ | refine Fit.same ?_)
      rintro _ _ _ ⟨rfl, rfl⟩
      conv => whnf
      repeat ((first | refine AO.cons hT ?_ | refine AO.nil ?_ | refine AW.seq ?_ | refine AW.region ?_ | refine AW.cond ?_ | refine AW.block ?_ | refine AW.loop ?_ | refine AW.skip ?_ | refine AW.exit ?_ | refine AW.ret ?_ | refine AF.one hT rfl ?_ | refine AF.nil ?_ | refine AF.imm hT rfl rfl rfl ?_ | refine AH.of hT rfl ?_ | refine AD.cons hT rfl ?_ | refine AD.nil ?_ | refine AQ.cons hT rfl ?_ | refine AQ.nil ?_); conv => whnf)
      refine ACond.no (by decide) ?_
      conv => whnf
      repeat ((first | refine AO.cons hT ?_ | refine AO.nil ?_ | refine AW.seq ?_ | refine AW.region ?_ | refine AW.cond ?_ | refine AW.block ?_ | refine AW.loop ?_ | refine AW.skip ?_ | refine AW.exit ?_ | refine AW.ret ?_ | refine AF.one hT rfl ?_ | refine AF.nil ?_ | refine AF.imm hT rfl rfl rfl ?_ | refine AH.of hT rfl ?_ | refine AD.cons hT rfl ?_ | refine AD.nil ?_ | refine AQ.cons hT rfl ?_ | refine AQ.nil ?_); conv => whnf)
      refine AOut.stay ?_
      conv => whnf
      repeat ((first | refine AO.cons hT ?_ | refine AO.nil ?_ | refine AW.seq ?_ | refine AW.region ?_ | refine AW.cond ?_ | refine AW.block ?_ | refine AW.loop ?_ | refine AW.skip ?_ | refine AW.exit ?_ | refine AW.ret ?_ | refine AF.one hT rfl ?_ | refine AF.nil ?_ | refine AF.imm hT rfl rfl rfl ?_ | refine AH.of hT rfl ?_ | refine AD.cons hT rfl ?_ | refine AD.nil ?_ | refine AQ.cons hT rfl ?_ | refine AQ.nil ?_); conv => whnf)
      exact AFin.mk (.inl ⟨hg, rfl, rfl, rfl⟩)
    · simp only [List.map_cons, List.map_nil, ABlk.ren, renL_mvs]
      conv => whnf
      repeat ((first | refine AO.cons hT ?_ | refine AO.nil ?_ | refine AW.seq ?_ | refine AW.region ?_ | refine AW.cond ?_ | refine AW.block ?_ | refine AW.loop ?_ | refine AW.skip ?_ | refine AW.exit ?_ | refine AW.ret ?_ | refine AF.one hT rfl ?_ | refine AF.nil ?_ | refine AF.imm hT rfl rfl rfl ?_ | refine AH.of hT rfl ?_ | refine AD.cons hT rfl ?_ | refine AD.nil ?_ | refine AQ.cons hT rfl ?_ | refine AQ.nil ?_); conv => whnf)
      refine ACall.of (by kernel_rfl) (f49 l (by omega)) [0] [] (by simp) (.same (by show some (ABlk.cells 41 _) = some (ABlk.cells 41 (renL _ _)); rw [renL_mvs]) .nil) (by simp) (by simp) (LendL.same [.ms 3 0 0 l.length]) (.inl rfl) ?_
      rintro _ _ ⟨rfl, rfl⟩
      have hm1 : ∀ ρ (xs : List AV), mergeH ρ [ABlk.cells 41 xs] [0] [.cells 41 (l.reverse.flatMap mvC)] = [.cells 41 (l.reverse.flatMap mvC)] := by
        intro ρ xs
        simp [mergeH, ABlk.ren, renL_mvs]
      rw [show ([] ++ [ABlk.cells 41 (l.flatMap mvC)]) = [ABlk.cells 41 (l.flatMap mvC)] from rfl, hm1]
      conv => whnf
      repeat ((first | refine AO.cons hT ?_ | refine AO.nil ?_ | refine AW.seq ?_ | refine AW.region ?_ | refine AW.cond ?_ | refine AW.block ?_ | refine AW.loop ?_ | refine AW.skip ?_ | refine AW.exit ?_ | refine AW.ret ?_ | refine AF.one hT rfl ?_ | refine AF.nil ?_ | refine AF.imm hT rfl rfl rfl ?_ | refine AH.of hT rfl ?_ | refine AD.cons hT rfl ?_ | refine AD.nil ?_ | refine AQ.cons hT rfl ?_ | refine AQ.nil ?_); conv => whnf)
      refine ALoop.mk (fun n E H => ∃ k : Nat, k ≤ l.length ∧ n = l.length - k ∧ E = pad [.any, .any, .v (.slice none 0 0), .v (.int .i64 0), .any, .ms 3 0 0 l.length, .any, .any, .any, .any, .any, .any, .any, .any, .any, .any, .any, .v (.int .i64 l.length), .v (.int .i64 k)] 33 ∧ H = [.cells 41 ((ngL l.reverse k).flatMap mvC)]) (n := l.length) _ _ ⟨0, by omega, rfl, rfl, rfl⟩ (Conv.fit ?_) ?_
      · repeat' (first | exact Fit.nil | refine Fit.any ?_ | refine Fit.same ?_)
      rintro _ _ _ ⟨k, hk, rfl, rfl, rfl⟩
      have hnl := ngL_len l.reverse k
      rw [List.length_reverse] at hnl
      conv => whnf
      repeat ((first | refine AO.cons hT ?_ | refine AO.nil ?_ | refine AW.seq ?_ | refine AW.region ?_ | refine AW.cond ?_ | refine AW.block ?_ | refine AW.loop ?_ | refine AW.skip ?_ | refine AW.exit ?_ | refine AW.ret ?_ | refine AF.one hT rfl ?_ | refine AF.nil ?_ | refine AF.imm hT rfl rfl rfl ?_ | refine AH.of hT rfl ?_ | refine AD.cons hT rfl ?_ | refine AD.nil ?_ | refine AQ.cons hT rfl ?_ | refine AQ.nil ?_); conv => whnf)
      refine ACond.dec (fun h => ?_) (fun h => ?_)
      · have hkl : k < l.length := by omega
        have hkr : k < l.reverse.length := by simpa using hkl
        have hq := (hg.2 (l.length - 1 - k) (by omega)).1
        have er : l.reverse[k] = l[l.length - 1 - k]'(by omega) := by simp [List.getElem_reverse]
        rw [← er] at hq
        unfold mok at hq
        have eg := ngL_get l.reverse k k hkr
        rw [if_neg (by omega)] at eg
        conv => whnf
        repeat ((first | refine AO.cons hT ?_ | refine AO.nil ?_ | refine AW.seq ?_ | refine AW.region ?_ | refine AW.cond ?_ | refine AW.block ?_ | refine AW.loop ?_ | refine AW.skip ?_ | refine AW.exit ?_ | refine AW.ret ?_ | refine AF.one hT rfl ?_ | refine AF.nil ?_ | refine AF.imm hT rfl rfl rfl ?_ | refine AH.of hT rfl ?_ | refine AD.cons hT rfl ?_ | refine AD.nil ?_ | refine AQ.cons hT rfl ?_ | refine AQ.nil ?_); conv => whnf)
        refine AReq.mk (by omega) ?_
        conv => whnf
        repeat ((first | refine AO.cons hT ?_ | refine AO.nil ?_ | refine AW.seq ?_ | refine AW.region ?_ | refine AW.cond ?_ | refine AW.block ?_ | refine AW.loop ?_ | refine AW.skip ?_ | refine AW.exit ?_ | refine AW.ret ?_ | refine AF.one hT rfl ?_ | refine AF.nil ?_ | refine AF.imm hT rfl rfl rfl ?_ | refine AH.of hT rfl ?_ | refine AD.cons hT rfl ?_ | refine AD.nil ?_ | refine AQ.cons hT rfl ?_ | refine AQ.nil ?_); conv => whnf)
        refine AIdx.flat (enc := mvC) mvC_len (xs := ngL l.reverse k) (i := k) (by omega) ?_
        rw [eg]
        conv => whnf
        repeat ((first | refine AO.cons hT ?_ | refine AO.nil ?_ | refine AW.seq ?_ | refine AW.region ?_ | refine AW.cond ?_ | refine AW.block ?_ | refine AW.loop ?_ | refine AW.skip ?_ | refine AW.exit ?_ | refine AW.ret ?_ | refine AF.one hT rfl ?_ | refine AF.nil ?_ | refine AF.imm hT rfl rfl rfl ?_ | refine AH.of hT rfl ?_ | refine AD.cons hT rfl ?_ | refine AD.nil ?_ | refine AQ.cons hT rfl ?_ | refine AQ.nil ?_); conv => whnf)
        refine AReq.mk (by omega) ?_
        conv => whnf
        repeat ((first | refine AO.cons hT ?_ | refine AO.nil ?_ | refine AW.seq ?_ | refine AW.region ?_ | refine AW.cond ?_ | refine AW.block ?_ | refine AW.loop ?_ | refine AW.skip ?_ | refine AW.exit ?_ | refine AW.ret ?_ | refine AF.one hT rfl ?_ | refine AF.nil ?_ | refine AF.imm hT rfl rfl rfl ?_ | refine AH.of hT rfl ?_ | refine AD.cons hT rfl ?_ | refine AD.nil ?_ | refine AQ.cons hT rfl ?_ | refine AQ.nil ?_); conv => whnf)
        refine AReq.mk rfl ?_
        rw [wrap_i64 (0 - l.reverse[k].q) (by omega) (by omega)]
        refine AUpd.setAt (xs := (ngL l.reverse k).flatMap mvC) (k * 3 + 2) (by show 0 + Int.toNat (k : Int) * 3 + (1 + 1) = _; omega) (by rw [mvs_len]; omega) ?_
        rw [flat_setq _ _ k (by omega), eg, show (⟨l.reverse[k].p, l.reverse[k].i, 0 - l.reverse[k].q⟩ : Mv) = neg l.reverse[k] by simp [neg], ngL_step l.reverse k hkr]
        conv => whnf
        repeat ((first | refine AO.cons hT ?_ | refine AO.nil ?_ | refine AW.seq ?_ | refine AW.region ?_ | refine AW.cond ?_ | refine AW.block ?_ | refine AW.loop ?_ | refine AW.skip ?_ | refine AW.exit ?_ | refine AW.ret ?_ | refine AF.one hT rfl ?_ | refine AF.nil ?_ | refine AF.imm hT rfl rfl rfl ?_ | refine AH.of hT rfl ?_ | refine AD.cons hT rfl ?_ | refine AD.nil ?_ | refine AQ.cons hT rfl ?_ | refine AQ.nil ?_); conv => whnf)
        rw [wrap_i64 ((k : Int) + 1) (by omega) (by omega)]
        refine AHead.mk (l.length - (k + 1)) _ _ (by omega) ⟨k + 1, by omega, rfl, rfl, rfl⟩ (Conv.fit ?_)
        repeat' (first | exact Fit.nil | refine Fit.any ?_ | refine Fit.same ?_)
      · obtain rfl : k = l.length := by omega
        conv => whnf
        repeat ((first | refine AO.cons hT ?_ | refine AO.nil ?_ | refine AW.seq ?_ | refine AW.region ?_ | refine AW.cond ?_ | refine AW.block ?_ | refine AW.loop ?_ | refine AW.skip ?_ | refine AW.exit ?_ | refine AW.ret ?_ | refine AF.one hT rfl ?_ | refine AF.nil ?_ | refine AF.imm hT rfl rfl rfl ?_ | refine AH.of hT rfl ?_ | refine AD.cons hT rfl ?_ | refine AD.nil ?_ | refine AQ.cons hT rfl ?_ | refine AQ.nil ?_); conv => whnf)
        refine AOut.stay ?_
        conv => whnf
        repeat ((first | refine AO.cons hT ?_ | refine AO.nil ?_ | refine AW.seq ?_ | refine AW.region ?_ | refine AW.cond ?_ | refine AW.block ?_ | refine AW.loop ?_ | refine AW.skip ?_ | refine AW.exit ?_ | refine AW.ret ?_ | refine AF.one hT rfl ?_ | refine AF.nil ?_ | refine AF.imm hT rfl rfl rfl ?_ | refine AH.of hT rfl ?_ | refine AD.cons hT rfl ?_ | refine AD.nil ?_ | refine AQ.cons hT rfl ?_ | refine AQ.nil ?_); conv => whnf)
        refine AFin.mk (.inr (.inl ⟨hg, hne, rfl, ?_⟩))
        congr 3
        unfold ngL turnF
        rw [List.take_of_length_le (by simp), List.drop_eq_nil_of_le (by simp), List.append_nil]
  · rw [chkF_no hg]
    conv => whnf
    repeat ((first | refine AO.cons hT ?_ | refine AO.nil ?_ | refine AW.seq ?_ | refine AW.region ?_ | refine AW.cond ?_ | refine AW.block ?_ | refine AW.loop ?_ | refine AW.skip ?_ | refine AW.exit ?_ | refine AW.ret ?_ | refine AF.one hT rfl ?_ | refine AF.nil ?_ | refine AF.imm hT rfl rfl rfl ?_ | refine AH.of hT rfl ?_ | refine AD.cons hT rfl ?_ | refine AD.nil ?_ | refine AQ.cons hT rfl ?_ | refine AQ.nil ?_); conv => whnf)
    refine ACond.yes rfl ?_
    conv => whnf
    repeat ((first | refine AO.cons hT ?_ | refine AO.nil ?_ | refine AW.seq ?_ | refine AW.region ?_ | refine AW.cond ?_ | refine AW.block ?_ | refine AW.loop ?_ | refine AW.skip ?_ | refine AW.exit ?_ | refine AW.ret ?_ | refine AF.one hT rfl ?_ | refine AF.nil ?_ | refine AF.imm hT rfl rfl rfl ?_ | refine AH.of hT rfl ?_ | refine AD.cons hT rfl ?_ | refine AD.nil ?_ | refine AQ.cons hT rfl ?_ | refine AQ.nil ?_); conv => whnf)
    exact AFin.to (.tup [.v (.slice none 0 0), nV 40]) [] (Conv.ren [] _ (by simp) (by simp) (Fit.refl _) .nil) (.inr (.inr ⟨hg, rfl, rfl⟩))
end Go.Aw.R1

set_option linter.unusedSimpArgs false
set_option linter.unusedVariables false
set_option maxHeartbeats 4000000
namespace Go.Aw.R1
open Go

abbrev Hd := Bool × Int × Int
def hdC (x : Hd) : List AV := [.v (.bool x.1), .v (.int .i64 x.2.1), .v (.int .i64 x.2.2)]
def hdLt (x y : Hd) : Bool := decide ((x.1 = y.1 ∧ x.2.1 < y.2.1) ∨ (x.1 = false ∧ y.1 = true))
theorem hdC_len (x : Hd) : (hdC x).length = 3 := rfl
theorem hd_len (l : List Hd) : (l.flatMap hdC).length = l.length * 3 := flat_length hdC_len l
theorem renL_hd (ρ : Nat → Nat) (l : List Hd) : renL ρ (l.flatMap hdC) = l.flatMap hdC := by
  induction l with
  | nil => rfl
  | cons m l ih => rw [List.flatMap_cons, renL_append, ih]; rfl

/-- what the sort does -/
def SortOk : Prop := ∀ l : List Hd, l ≠ [] → l.length ≤ 1000 → Spec P 45 [.ms 3 0 0 l.length, .fn 46 [] []] [.cells 61 (l.flatMap hdC)] (fun r H => r = .tup [] ∧ ∃ l' : List Hd, l'.Perm l ∧ l'.Pairwise (fun x y => hdLt y x = false) ∧ H = [.cells 61 (l'.flatMap hdC)])
def SortNil : Prop := Fun P 45 [.v (.slice none 0 0), .fn 46 [] []] (.tup [])

structure AllOf (l : List Mv) (d : List Hd) : Prop where
  lt : d.Pairwise (fun x y => hdLt x y = true)
  mem : ∀ x, x ∈ d ↔ (∃ m ∈ l, m.p = x.1 ∧ m.i = x.2.1) ∧ x.2.2 = sumOf l x.1 x.2.1

def toHd (x : Th × Int) : Hd := (x.1.1, x.1.2, x.2)

theorem toHd_mem {L : List (Th × Int)} {l : List Mv} (h : Held L l) (x : Hd) : x ∈ L.map toHd ↔ (∃ m ∈ l, m.p = x.1 ∧ m.i = x.2.1) ∧ x.2.2 = sumOf l x.1 x.2.1 := by
  obtain ⟨p, i, n⟩ := x
  have h1 := h.mem (p, i)
  have h2 := h.sum (p, i)
  simp only at h1 h2 ⊢
  rw [← h1, ← h2]
  constructor
  · intro hx
    obtain ⟨⟨⟨p', i'⟩, n'⟩, hy, e⟩ := List.mem_map.1 hx
    simp only [toHd, Prod.mk.injEq] at e
    obtain ⟨rfl, rfl, rfl⟩ := e
    obtain ⟨j, hj⟩ := List.getElem?_of_mem hy
    exact ⟨List.mem_map.2 ⟨_, hy, rfl⟩, (look_at h.nd hj).symm⟩
  · rintro ⟨hk, rfl⟩
    obtain ⟨⟨k, n'⟩, hy, e⟩ := List.mem_map.1 hk
    simp only at e
    subst e
    obtain ⟨j, hj⟩ := List.getElem?_of_mem hy
    rw [look_at h.nd hj]
    exact List.mem_map.2 ⟨_, hy, rfl⟩

theorem allOf_of {L : List (Th × Int)} {l : List Mv} (h : Held L l) {d : List Hd} (hp : d.Perm (L.map toHd)) (hs : d.Pairwise (fun x y => hdLt y x = false)) : AllOf l d where
  lt := by
    have hkeys : (d.map fun x => (x.1, x.2.1)).Nodup := by
      have h1 : ((L.map toHd).map fun x => (x.1, x.2.1)) = L.map (·.1) := by simp [toHd, Function.comp_def]
      have h2 := (hp.map fun x => (x.1, x.2.1)).nodup_iff
      rw [h1] at h2
      exact h2.2 h.nd
    have hn : d.Pairwise (fun x y => (x.1, x.2.1) ≠ (y.1, y.2.1)) := by
      rw [List.Nodup, List.pairwise_map] at hkeys
      exact hkeys
    refine (hs.and hn).imp ?_
    rintro ⟨p, i, n⟩ ⟨p', i', n'⟩ ⟨h1, h2⟩
    simp only [hdLt, decide_eq_false_iff_not, ne_eq, Prod.mk.injEq, not_and, decide_eq_true_eq] at h1 h2 ⊢
    cases p <;> cases p' <;> simp at h1 h2 ⊢ <;> omega
  mem := fun x => by rw [hp.mem_iff, toHd_mem h]

/-- All's answer -/
def AllR (l : List Mv) (r : AV) (H : List ABlk) : Prop :=
  (good l ∧ ∃ d, AllOf l d ∧ ((d = [] ∧ r = .tup [.v (.slice none 0 0), nV 0] ∧ H = []) ∨ (d ≠ [] ∧ r = .tup [.ms 3 0 0 d.length, nV 0] ∧ H = [.cells 61 (d.flatMap hdC)]))) ∨
  (¬ good l ∧ r = .tup [.v (.slice none 0 0), nV 40] ∧ H = [])

theorem f28 (hso : SortOk) (hsn : SortNil) (l : List Mv) (hl : l.length ≤ 4611686018427387904) : Spec P 28 [mvs l] [] (AllR l) := by
  refine spec_of hT (f := 28) (fn := Go.Proofs.Try.f28) (c := body Go.Proofs.Try.f28) (by kernel_rfl) (by kernel_rfl) ?_
  conv => whnf
  repeat ((first | refine AO.cons hT ?_ | refine AO.nil ?_ | refine AW.seq ?_ | refine AW.region ?_ | refine AW.cond ?_ | refine AW.block ?_ | refine AW.loop ?_ | refine AW.skip ?_ | refine AW.exit ?_ | refine AW.ret ?_ | refine AF.one hT rfl ?_ | refine AF.nil ?_ | refine AF.imm hT rfl rfl rfl ?_ | refine AH.of hT rfl ?_ | refine AD.cons hT rfl ?_ | refine AD.nil ?_ | refine AQ.cons hT rfl ?_ | refine AQ.nil ?_); conv => whnf)
  refine ACall.spec (by kernel_rfl) (f42 l hl) (by simp [renL, AV.ren, renL_mvs, mvs]) ?_
  have hu : P.underlying 72 = some (.map 76 3) := by kernel_rfl
  rintro _ _ (⟨hg, L, bs, clk, hH, rfl, rfl⟩ | ⟨hg, rfl, rfl⟩)
  · simp only [List.map_cons, List.map_nil, ABlk.ren, ren_em, List.nil_append]
    conv => whnf
    repeat ((first | refine AO.cons hT ?_ | refine AO.nil ?_ | refine AW.seq ?_ | refine AW.region ?_ | refine AW.cond ?_ | refine AW.block ?_ | refine AW.loop ?_ | refine AW.skip ?_ | refine AW.exit ?_ | refine AW.ret ?_ | refine AF.one hT rfl ?_ | refine AF.nil ?_ | refine AF.imm hT rfl rfl rfl ?_ | refine AH.of hT rfl ?_ | refine AD.cons hT rfl ?_ | refine AD.nil ?_ | refine AQ.cons hT rfl ?_ | refine AQ.nil ?_); conv => whnf)
    refine ACond.no rfl ?_
    conv => whnf
    repeat ((first | refine AO.cons hT ?_ | refine AO.nil ?_ | refine AW.seq ?_ | refine AW.region ?_ | refine AW.cond ?_ | refine AW.block ?_ | refine AW.loop ?_ | refine AW.skip ?_ | refine AW.exit ?_ | refine AW.ret ?_ | refine AF.one hT rfl ?_ | refine AF.nil ?_ | refine AF.imm hT rfl rfl rfl ?_ | refine AH.of hT rfl ?_ | refine AD.cons hT rfl ?_ | refine AD.nil ?_ | refine AQ.cons hT rfl ?_ | refine AQ.nil ?_); conv => whnf)
    refine AOp.range hu rfl rfl ?_
    conv => whnf
    repeat ((first | refine AO.cons hT ?_ | refine AO.nil ?_ | refine AW.seq ?_ | refine AW.region ?_ | refine AW.cond ?_ | refine AW.block ?_ | refine AW.loop ?_ | refine AW.skip ?_ | refine AW.exit ?_ | refine AW.ret ?_ | refine AF.one hT rfl ?_ | refine AF.nil ?_ | refine AF.imm hT rfl rfl rfl ?_ | refine AH.of hT rfl ?_ | refine AD.cons hT rfl ?_ | refine AD.nil ?_ | refine AQ.cons hT rfl ?_ | refine AQ.nil ?_); conv => whnf)
    by_cases hL : L = []
    · subst hL
      refine ALoop.mk (fun n E H => E = pad [mvs l, .any, .v (.slice none 0 0), .v (.int .i64 0), .mp 0, .v (.bool true), .v (.slice none 0 0), .any, .any, .any, .any, .any, .any, .any, .any, .any, .mp 0, .ptr 1 0] 35 ∧ H = [.map [] bs clk, .iter 0 clk []]) (n := 0) _ _ ⟨rfl, rfl⟩ (Conv.fit ?_) ?_
      · repeat' (first | exact Fit.nil | refine Fit.any ?_ | refine Fit.same ?_)
      rintro _ _ _ ⟨rfl, rfl⟩
      conv => whnf
      repeat ((first | refine AO.cons hT ?_ | refine AO.nil ?_ | refine AW.seq ?_ | refine AW.region ?_ | refine AW.cond ?_ | refine AW.block ?_ | refine AW.loop ?_ | refine AW.skip ?_ | refine AW.exit ?_ | refine AW.ret ?_ | refine AF.one hT rfl ?_ | refine AF.nil ?_ | refine AF.imm hT rfl rfl rfl ?_ | refine AH.of hT rfl ?_ | refine AD.cons hT rfl ?_ | refine AD.nil ?_ | refine AQ.cons hT rfl ?_ | refine AQ.nil ?_); conv => whnf)
      refine AOp.next (l := 0) (li := 1) (es := []) rfl rfl rfl (fun _ => ?_) (fun i s k v he => by simp at he)
      conv => whnf
      repeat ((first | refine AO.cons hT ?_ | refine AO.nil ?_ | refine AW.seq ?_ | refine AW.region ?_ | refine AW.cond ?_ | refine AW.block ?_ | refine AW.loop ?_ | refine AW.skip ?_ | refine AW.exit ?_ | refine AW.ret ?_ | refine AF.one hT rfl ?_ | refine AF.nil ?_ | refine AF.imm hT rfl rfl rfl ?_ | refine AH.of hT rfl ?_ | refine AD.cons hT rfl ?_ | refine AD.nil ?_ | refine AQ.cons hT rfl ?_ | refine AQ.nil ?_); conv => whnf)
      refine ACond.no rfl ?_
      conv => whnf
      repeat ((first | refine AO.cons hT ?_ | refine AO.nil ?_ | refine AW.seq ?_ | refine AW.region ?_ | refine AW.cond ?_ | refine AW.block ?_ | refine AW.loop ?_ | refine AW.skip ?_ | refine AW.exit ?_ | refine AW.ret ?_ | refine AF.one hT rfl ?_ | refine AF.nil ?_ | refine AF.imm hT rfl rfl rfl ?_ | refine AH.of hT rfl ?_ | refine AD.cons hT rfl ?_ | refine AD.nil ?_ | refine AQ.cons hT rfl ?_ | refine AQ.nil ?_); conv => whnf)
      refine AOut.stay ?_
      conv => whnf
      repeat ((first | refine AO.cons hT ?_ | refine AO.nil ?_ | refine AW.seq ?_ | refine AW.region ?_ | refine AW.cond ?_ | refine AW.block ?_ | refine AW.loop ?_ | refine AW.skip ?_ | refine AW.exit ?_ | refine AW.ret ?_ | refine AF.one hT rfl ?_ | refine AF.nil ?_ | refine AF.imm hT rfl rfl rfl ?_ | refine AH.of hT rfl ?_ | refine AD.cons hT rfl ?_ | refine AD.nil ?_ | refine AQ.cons hT rfl ?_ | refine AQ.nil ?_); conv => whnf)
      refine ACall.val (by kernel_rfl) hsn rfl rfl ?_
      conv => whnf
      repeat ((first | refine AO.cons hT ?_ | refine AO.nil ?_ | refine AW.seq ?_ | refine AW.region ?_ | refine AW.cond ?_ | refine AW.block ?_ | refine AW.loop ?_ | refine AW.skip ?_ | refine AW.exit ?_ | refine AW.ret ?_ | refine AF.one hT rfl ?_ | refine AF.nil ?_ | refine AF.imm hT rfl rfl rfl ?_ | refine AH.of hT rfl ?_ | refine AD.cons hT rfl ?_ | refine AD.nil ?_ | refine AQ.cons hT rfl ?_ | refine AQ.nil ?_); conv => whnf)
      exact AFin.to (.tup [.v (.slice none 0 0), nV 0]) [] (Conv.ren [] _ (by simp) (by simp) (Fit.refl _) .nil) (.inl ⟨hg, [], allOf_of hH (by simp) (by simp), .inl ⟨rfl, rfl, rfl⟩⟩)
    · have hl0 : l ≠ [] := by
        rintro rfl
        obtain ⟨x, hx⟩ := List.exists_mem_of_ne_nil L hL
        obtain ⟨m, hm, _⟩ := (hH.mem x.1).1 (List.mem_map.2 ⟨x, hx, rfl⟩)
        simp at hm
      have hLl : L.length ≤ l.length := by
        have h1 := List.Nodup.length_le_of_subset hH.nd (l₂ := l.map fun m => (m.p, m.i)) (fun k hk => by
          obtain ⟨m, hm, e1, e2⟩ := (hH.mem k).1 hk
          exact List.mem_map.2 ⟨m, hm, by rw [e1, e2]⟩)
        simpa using h1
      have hL1000 : L.length ≤ 1000 := by have := hg.1; omega
      have hLpos : 0 < L.length := List.length_pos_iff.2 hL
      refine ALoop.mapLen (l := 0) rfl (fun hlen hnd => ?_)
      have hlen : bs.length = L.length := by simpa [em] using hlen
      have hst : ∀ i, i < L.length → bs[i]? = some (bs.getD i 0) := fun i hi => by
        rw [List.getD_eq_getElem?_getD, List.getElem?_eq_getElem (by omega)]; rfl
      refine ALoop.mk (fun n E H => ∃ idx : List Nat, idx.Nodup ∧ (∀ i ∈ idx, i < L.length) ∧ n = L.length - idx.length ∧ E = pad [mvs l, .any, .v (.slice none 0 0), .v (.int .i64 0), .mp 0, .v (.bool true), .ms 3 2 0 idx.length, .any, .any, .any, .any, .any, .any, .any, .any, .any, .mp 0, .ptr 1 0] 35 ∧
          H = [.map (em thA nV L) bs clk, .iter 0 clk (idx.map fun i => bs.getD i 0), .cells 61 ((idx.map fun i => toHd (L.getD i ((false, 0), 0))).flatMap hdC)]) (n := L.length) _ _ ⟨[], by simp, by simp, by simp, rfl, rfl⟩ ?_ ?_
      · refine Conv.trans (Conv.fit (xs' := pad [mvs l, .any, .v (.slice none 0 0), .v (.int .i64 0), .mp 0, .v (.bool true), .v (.slice none 0 0), .any, .any, .any, .any, .any, .any, .any, .any, .any, .mp 0, .ptr 1 0] 35) ?_) (Conv.own (sz := 3) 61 (.same (.any (.same (.same (.same (.same (.own ?_))))))))
        · repeat' (first | exact Fit.nil | refine Fit.any ?_ | refine Fit.same ?_)
        · repeat' (first | exact FitN.nil | refine FitN.any ?_ | refine FitN.same ?_)
      rintro _ _ _ ⟨idx, hnd2, hlt, rfl, rfl, rfl⟩
      have hbound : ∀ idx : List Nat, idx.Nodup → (∀ i ∈ idx, i < L.length) → idx.length ≤ L.length := fun idx h1 h2 => by
        have := List.Nodup.length_le_of_subset h1 (l₂ := List.range L.length) (fun x hx => by simpa using h2 x hx)
        simpa using this
      conv => whnf
      repeat ((first | refine AO.cons hT ?_ | refine AO.nil ?_ | refine AW.seq ?_ | refine AW.region ?_ | refine AW.cond ?_ | refine AW.block ?_ | refine AW.loop ?_ | refine AW.skip ?_ | refine AW.exit ?_ | refine AW.ret ?_ | refine AF.one hT rfl ?_ | refine AF.nil ?_ | refine AF.imm hT rfl rfl rfl ?_ | refine AH.of hT rfl ?_ | refine AD.cons hT rfl ?_ | refine AD.nil ?_ | refine AQ.cons hT rfl ?_ | refine AQ.nil ?_); conv => whnf)
      refine AOp.next (l := 0) (li := 1) (es := em thA nV L) (bs := bs) rfl rfl rfl (fun hall => ?_) (fun i s k v he hs hns => ?_)
      · conv => whnf
        repeat ((first | refine AO.cons hT ?_ | refine AO.nil ?_ | refine AW.seq ?_ | refine AW.region ?_ | refine AW.cond ?_ | refine AW.block ?_ | refine AW.loop ?_ | refine AW.skip ?_ | refine AW.exit ?_ | refine AW.ret ?_ | refine AF.one hT rfl ?_ | refine AF.nil ?_ | refine AF.imm hT rfl rfl rfl ?_ | refine AH.of hT rfl ?_ | refine AD.cons hT rfl ?_ | refine AD.nil ?_ | refine AQ.cons hT rfl ?_ | refine AQ.nil ?_); conv => whnf)
        refine ACond.no rfl ?_
        conv => whnf
        repeat ((first | refine AO.cons hT ?_ | refine AO.nil ?_ | refine AW.seq ?_ | refine AW.region ?_ | refine AW.cond ?_ | refine AW.block ?_ | refine AW.loop ?_ | refine AW.skip ?_ | refine AW.exit ?_ | refine AW.ret ?_ | refine AF.one hT rfl ?_ | refine AF.nil ?_ | refine AF.imm hT rfl rfl rfl ?_ | refine AH.of hT rfl ?_ | refine AD.cons hT rfl ?_ | refine AD.nil ?_ | refine AQ.cons hT rfl ?_ | refine AQ.nil ?_); conv => whnf)
        refine AOut.stay ?_
        conv => whnf
        repeat ((first | refine AO.cons hT ?_ | refine AO.nil ?_ | refine AW.seq ?_ | refine AW.region ?_ | refine AW.cond ?_ | refine AW.block ?_ | refine AW.loop ?_ | refine AW.skip ?_ | refine AW.exit ?_ | refine AW.ret ?_ | refine AF.one hT rfl ?_ | refine AF.nil ?_ | refine AF.imm hT rfl rfl rfl ?_ | refine AH.of hT rfl ?_ | refine AD.cons hT rfl ?_ | refine AD.nil ?_ | refine AQ.cons hT rfl ?_ | refine AQ.nil ?_); conv => whnf)
        have hmem : ∀ i, i < L.length → i ∈ idx := fun i hi => by
          have h1 : bs.getD i 0 ∈ idx.map fun i => bs.getD i 0 := hall _ (List.mem_of_getElem? (hst i hi))
          obtain ⟨j, hj, e⟩ := List.mem_map.1 h1
          have h2 := hst j (hlt j hj)
          rw [e] at h2
          rw [← nodup_at hnd h2 (hst i hi)]; exact hj
        have hperm : idx.Perm (List.range L.length) := (List.perm_ext_iff_of_nodup hnd2 List.nodup_range).2 (fun a => ⟨fun h => by simpa using hlt a h, fun h => hmem a (by simpa using h)⟩)
        have hO : (idx.map fun i => toHd (L.getD i ((false, 0), 0))).Perm (L.map toHd) := by
          have h1 := hperm.map fun i => toHd (L.getD i ((false, 0), 0))
          have h2 : (List.range L.length).map (fun i => toHd (L.getD i ((false, 0), 0))) = L.map toHd := by
            apply List.ext_getElem (by simp)
            intro k hk1 hk2
            simp only [List.getElem_map, List.getElem_range]
            rw [List.getD_eq_getElem?_getD, List.getElem?_eq_getElem (by simpa using hk2)]; rfl
          rw [h2] at h1
          exact h1
        have hOl : (idx.map fun i => toHd (L.getD i ((false, 0), 0))).length = idx.length := List.length_map ..
        have hil : idx.length = L.length := by have := hperm.length_eq; simpa using this
        generalize (idx.map fun i => toHd (L.getD i ((false, 0), 0))) = O at hO hOl
        rw [← hOl]
        have hOn : O ≠ [] := by rintro rfl; simp at hOl; omega
        refine ACall.of (by kernel_rfl) (hso O hOn (by omega)) [2] [] (by simp) (.same (by show some (ABlk.cells 61 _) = some (ABlk.cells 61 (renL _ _)); rw [renL_hd]) .nil) (by simp) (by simp) (LendL.same [.ms 3 0 0 O.length, .fn 46 [] []]) (.inl rfl) ?_
        rintro _ _ ⟨rfl, d, hd, hsrt, rfl⟩
        have hm1 : ∀ ρ (x y : ABlk) (xs : List AV), mergeH ρ [x, y, ABlk.cells 61 xs] [2] [.cells 61 (d.flatMap hdC)] = [x, y, .cells 61 (d.flatMap hdC)] := by
          intro ρ x y xs
          simp [mergeH, ABlk.ren, renL_hd]
        rw [hm1]
        conv => whnf
        repeat ((first | refine AO.cons hT ?_ | refine AO.nil ?_ | refine AW.seq ?_ | refine AW.region ?_ | refine AW.cond ?_ | refine AW.block ?_ | refine AW.loop ?_ | refine AW.skip ?_ | refine AW.exit ?_ | refine AW.ret ?_ | refine AF.one hT rfl ?_ | refine AF.nil ?_ | refine AF.imm hT rfl rfl rfl ?_ | refine AH.of hT rfl ?_ | refine AD.cons hT rfl ?_ | refine AD.nil ?_ | refine AQ.cons hT rfl ?_ | refine AQ.nil ?_); conv => whnf)
        have hdl : d.length = O.length := hd.length_eq
        have hdn : d ≠ [] := by rintro rfl; simp at hdl; exact hOn (List.eq_nil_of_length_eq_zero hdl.symm)
        rw [← hdl]
        refine AFin.to (.tup [.ms 3 0 0 d.length, nV 0]) [.cells 61 (d.flatMap hdC)] (Conv.ren [2] _ (by simp) (by simp) (Fit.refl _) (.same (by show some (ABlk.cells 61 _) = some (ABlk.cells 61 (renL _ _)); rw [renL_hd]) .nil)) (.inl ⟨hg, d, allOf_of hH (hd.trans hO) hsrt, .inr ⟨hdn, rfl, rfl⟩⟩)
      · have hi : i < L.length := by
          have := (List.getElem?_eq_some_iff.1 he).1
          simpa [em] using this
        have hLi : L[i]? = some (L.getD i ((false, 0), 0)) := by rw [List.getD_eq_getElem?_getD, List.getElem?_eq_getElem hi]; rfl
        have hkv : (k, v) = (thA (L.getD i ((false, 0), 0)).1, nV (L.getD i ((false, 0), 0)).2) := by
          have h1 : (em thA nV L)[i]? = some (thA (L.getD i ((false, 0), 0)).1, nV (L.getD i ((false, 0), 0)).2) := by
            unfold em; rw [List.getElem?_map, hLi]; rfl
          rw [h1] at he
          exact (Option.some.inj he).symm
        obtain ⟨rfl, rfl⟩ := Prod.mk.inj hkv
        have hsi : s = bs.getD i 0 := by rw [hst i hi] at hs; exact (Option.some.inj hs).symm
        subst hsi
        have hni : i ∉ idx := fun hc => hns (List.mem_map.2 ⟨i, hc, rfl⟩)
        have hnd3 : (idx ++ [i]).Nodup := by
          rw [List.nodup_append]
          exact ⟨hnd2, by simp, fun a ha b hb => by simp at hb; subst hb; rintro rfl; exact hni ha⟩
        have hlt3 : ∀ j ∈ idx ++ [i], j < L.length := fun j hj => (List.mem_append.1 hj).elim (hlt j) (fun h => by simp at h; omega)
        have hb3 := hbound _ hnd3 hlt3
        rw [List.length_append, List.length_singleton] at hb3
        conv => whnf
        repeat ((first | refine AO.cons hT ?_ | refine AO.nil ?_ | refine AW.seq ?_ | refine AW.region ?_ | refine AW.cond ?_ | refine AW.block ?_ | refine AW.loop ?_ | refine AW.skip ?_ | refine AW.exit ?_ | refine AW.ret ?_ | refine AF.one hT rfl ?_ | refine AF.nil ?_ | refine AF.imm hT rfl rfl rfl ?_ | refine AH.of hT rfl ?_ | refine AD.cons hT rfl ?_ | refine AD.nil ?_ | refine AQ.cons hT rfl ?_ | refine AQ.nil ?_); conv => whnf)
        refine ACond.yes rfl ?_
        conv => whnf
        repeat ((first | refine AO.cons hT ?_ | refine AO.nil ?_ | refine AW.seq ?_ | refine AW.region ?_ | refine AW.cond ?_ | refine AW.block ?_ | refine AW.loop ?_ | refine AW.skip ?_ | refine AW.exit ?_ | refine AW.ret ?_ | refine AF.one hT rfl ?_ | refine AF.nil ?_ | refine AF.imm hT rfl rfl rfl ?_ | refine AH.of hT rfl ?_ | refine AD.cons hT rfl ?_ | refine AD.nil ?_ | refine AQ.cons hT rfl ?_ | refine AQ.nil ?_); conv => whnf)
        refine AOp.entry (l := 0) (li := 1) (es := em thA nV L) (bs := bs) rfl rfl rfl he hs ?_
        conv => whnf
        repeat ((first | refine AO.cons hT ?_ | refine AO.nil ?_ | refine AW.seq ?_ | refine AW.region ?_ | refine AW.cond ?_ | refine AW.block ?_ | refine AW.loop ?_ | refine AW.skip ?_ | refine AW.exit ?_ | refine AW.ret ?_ | refine AF.one hT rfl ?_ | refine AF.nil ?_ | refine AF.imm hT rfl rfl rfl ?_ | refine AH.of hT rfl ?_ | refine AD.cons hT rfl ?_ | refine AD.nil ?_ | refine AQ.cons hT rfl ?_ | refine AQ.nil ?_); conv => whnf)
        have eb : (T 61).bytes = 24 := rfl
        refine AReq.mk ⟨by rw [hd_len]; simp, by rw [eb]; omega⟩ ?_
        conv => whnf
        repeat ((first | refine AO.cons hT ?_ | refine AO.nil ?_ | refine AW.seq ?_ | refine AW.region ?_ | refine AW.cond ?_ | refine AW.block ?_ | refine AW.loop ?_ | refine AW.skip ?_ | refine AW.exit ?_ | refine AW.ret ?_ | refine AF.one hT rfl ?_ | refine AF.nil ?_ | refine AF.imm hT rfl rfl rfl ?_ | refine AH.of hT rfl ?_ | refine AD.cons hT rfl ?_ | refine AD.nil ?_ | refine AQ.cons hT rfl ?_ | refine AQ.nil ?_); conv => whnf)
        have ecell : (idx.map fun i => toHd (L.getD i ((false, 0), 0))).flatMap hdC ++ [.v (.bool (L.getD i ((false, 0), 0)).1.1), .v (.int .i64 (L.getD i ((false, 0), 0)).1.2), .v (.int .i64 (L.getD i ((false, 0), 0)).2)] = ((idx ++ [i]).map fun i => toHd (L.getD i ((false, 0), 0))).flatMap hdC := by
          rw [List.map_append, List.flatMap_append]; simp [toHd, hdC]
        rw [ecell]
        have hx : renL (nm [0, 1, 4] 5) (pad [mvs l, .any, .v (.slice none 0 0), .v (.int .i64 0), .mp 0, .v (.bool true), .ms 3 2 0 (idx ++ [i]).length, .any, .any, .any, .any, .any, .any, .any, .any, .any, .mp 0, .ptr 1 0] 35) = pad [mvs l, .any, .v (.slice none 0 0), .v (.int .i64 0), .mp 0, .v (.bool true), .ms 3 4 0 (idx.length + 1), .any, .any, .any, .any, .any, .any, .any, .any, .any, .mp 0, .ptr 1 0] 35 := by
          simp [pad, renL, AV.ren, ren_mvs, nm]
        refine AHead.mk (L.length - (idx ++ [i]).length) _ _ (by rw [List.length_append, List.length_singleton]; omega) ⟨idx ++ [i], hnd3, hlt3, rfl, rfl, rfl⟩ (Conv.trans (Conv.fit (xs' := pad [mvs l, .any, .v (.slice none 0 0), .v (.int .i64 0), .mp 0, .v (.bool true), .ms 3 4 0 (idx.length + 1), .any, .any, .any, .any, .any, .any, .any, .any, .any, .mp 0, .ptr 1 0] 35) ?_) (Conv.ren [0, 1, 4] _ (by simp) (by simp) (by rw [← hx]; exact Fit.refl _) (.same ?_ (.same ?_ (.same ?_ .nil)))))
        · repeat' (first | exact Fit.nil | refine Fit.any ?_ | refine Fit.same ?_)
        · simp [ABlk.ren, ren_em]
        · simp [ABlk.ren, nm]
        · show some (ABlk.cells 61 _) = some (ABlk.cells 61 (renL _ _)); rw [renL_hd]
  · conv => whnf
    repeat ((first | refine AO.cons hT ?_ | refine AO.nil ?_ | refine AW.seq ?_ | refine AW.region ?_ | refine AW.cond ?_ | refine AW.block ?_ | refine AW.loop ?_ | refine AW.skip ?_ | refine AW.exit ?_ | refine AW.ret ?_ | refine AF.one hT rfl ?_ | refine AF.nil ?_ | refine AF.imm hT rfl rfl rfl ?_ | refine AH.of hT rfl ?_ | refine AD.cons hT rfl ?_ | refine AD.nil ?_ | refine AQ.cons hT rfl ?_ | refine AQ.nil ?_); conv => whnf)
    refine ACond.yes rfl ?_
    conv => whnf
    repeat ((first | refine AO.cons hT ?_ | refine AO.nil ?_ | refine AW.seq ?_ | refine AW.region ?_ | refine AW.cond ?_ | refine AW.block ?_ | refine AW.loop ?_ | refine AW.skip ?_ | refine AW.exit ?_ | refine AW.ret ?_ | refine AF.one hT rfl ?_ | refine AF.nil ?_ | refine AF.imm hT rfl rfl rfl ?_ | refine AH.of hT rfl ?_ | refine AD.cons hT rfl ?_ | refine AD.nil ?_ | refine AQ.cons hT rfl ?_ | refine AQ.nil ?_); conv => whnf)
    exact AFin.to (.tup [.v (.slice none 0 0), nV 40]) [] (Conv.ren [] _ (by simp) (by simp) (Fit.refl _) .nil) (.inr ⟨hg, rfl, rfl⟩)
end Go.Aw.R1

set_option linter.unusedSimpArgs false
set_option linter.unusedVariables false
set_option maxHeartbeats 4000000
namespace Go.Aw.R1
open Go

def t3 : List Mv := [⟨false, 5, 3⟩, ⟨true, 5, 9⟩, ⟨false, 5, -2⟩]

theorem f41 : Fun P 41 [] (mvs t3) := by
  refine spec_of hT (f := 41) (fn := Go.Proofs.Try.f41) (c := body Go.Proofs.Try.f41) (by kernel_rfl) (by kernel_rfl) ?_
  conv => whnf
  repeat ((first | refine AO.cons hT ?_ | refine AO.nil ?_ | refine AW.seq ?_ | refine AW.region ?_ | refine AW.cond ?_ | refine AW.block ?_ | refine AW.loop ?_ | refine AW.skip ?_ | refine AW.exit ?_ | refine AW.ret ?_ | refine AF.one hT rfl ?_ | refine AF.nil ?_ | refine AF.imm hT rfl rfl rfl ?_ | refine AH.of hT rfl ?_ | refine AD.cons hT rfl ?_ | refine AD.nil ?_ | refine AQ.cons hT rfl ?_ | refine AQ.nil ?_); conv => whnf)
  exact AFin.to (mvs t3) [] (Conv.trans (Conv.see (.cons (.vx (cs' := t3.flatMap mvC) rfl) .nil)) (Conv.ren [] _ (by simp) (by simp) (Fit.refl _) .nil)) ⟨rfl, rfl⟩

theorem good3 : good t3 := by
  refine ⟨by decide, fun k hk => ?_⟩
  have hk : k < 3 := hk
  match k, hk with
  | 0, _ => decide +revert
  | 1, _ => decide +revert
  | 2, _ => decide +revert

theorem add31 : addF t3 ⟨false, 5, -1⟩ = 0 := by
  unfold addF
  rw [if_neg (by simpa using good3), if_neg (by decide), if_neg (by decide), if_neg (by decide), if_neg (by decide)]
theorem add32 : addF t3 ⟨false, 5, -2⟩ = 34 := by
  unfold addF
  rw [if_neg (by simpa using good3), if_neg (by decide), if_neg (by decide), if_pos (by decide)]

theorem hdLt_trans {x y z : Hd} (h1 : hdLt x y = true) (h2 : hdLt y z = true) : hdLt x z = true := by
  obtain ⟨p, i, n⟩ := x; obtain ⟨p', i', n'⟩ := y; obtain ⟨p'', i'', n''⟩ := z
  simp only [hdLt, decide_eq_true_eq] at *
  cases p <;> cases p' <;> cases p'' <;> simp at h1 h2 ⊢ <;> omega
theorem hdLt_irrefl (x : Hd) : hdLt x x = false := by
  obtain ⟨p, i, n⟩ := x
  simp [hdLt]

theorem strict_unique : ∀ {d d' : List Hd}, d.Pairwise (fun x y => hdLt x y = true) → d'.Pairwise (fun x y => hdLt x y = true) → (∀ x, x ∈ d ↔ x ∈ d') → d = d'
  | [], [], _, _, _ => rfl
  | [], y :: d', _, _, h => absurd ((h y).2 (by simp)) (by simp)
  | x :: d, [], _, _, h => absurd ((h x).1 (by simp)) (by simp)
  | x :: d, y :: d', h1, h2, h => by
    obtain ⟨a1, a2⟩ := List.pairwise_cons.1 h1
    obtain ⟨b1, b2⟩ := List.pairwise_cons.1 h2
    have hxy : x = y := by
      rcases List.mem_cons.1 ((h x).1 (by simp)) with e | hx
      · exact e
      · rcases List.mem_cons.1 ((h y).2 (by simp)) with e | hy
        · exact e.symm
        · have := hdLt_trans (a1 y hy) (b1 x hx)
          rw [hdLt_irrefl] at this; cases this
    subst hxy
    rw [strict_unique a2 b2]
    intro z
    constructor
    · intro hz
      rcases List.mem_cons.1 ((h z).1 (by simp [hz])) with rfl | h3
      · have := a1 z hz; rw [hdLt_irrefl] at this; cases this
      · exact h3
    · intro hz
      rcases List.mem_cons.1 ((h z).2 (by simp [hz])) with rfl | h3
      · have := b1 z hz; rw [hdLt_irrefl] at this; cases this
      · exact h3

theorem allOf_unique {l : List Mv} {d d' : List Hd} (h : AllOf l d) (h' : AllOf l d') : d = d' := strict_unique h.lt h'.lt (fun x => by rw [h.mem, h'.mem])

theorem all3 : AllOf t3 [(false, 5, 1), (true, 5, 9)] where
  lt := by decide
  mem := by
    rintro ⟨p, i, n⟩
    simp only [t3, List.mem_cons, List.not_mem_nil, or_false, Prod.mk.injEq, exists_eq_or_imp, exists_eq_left]
    constructor
    · rintro (⟨rfl, rfl, rfl⟩ | ⟨rfl, rfl, rfl⟩)
      · exact ⟨.inl ⟨rfl, rfl⟩, by decide⟩
      · exact ⟨.inr (.inl ⟨rfl, rfl⟩), by decide⟩
    · rintro ⟨⟨rfl, rfl⟩ | ⟨rfl, rfl⟩ | ⟨rfl, rfl⟩, rfl⟩
      · exact .inl ⟨rfl, rfl, by decide⟩
      · exact .inr ⟨rfl, rfl, by decide⟩
      · exact .inl ⟨rfl, rfl, by decide⟩

theorem of31 : ofF' t3 false 5 = 1 := by rw [ofF', if_pos good3]; decide
theorem of32 : ofF' t3 true 5 = 9 := by rw [ofF', if_pos good3]; decide
theorem bad1 : ¬ good [⟨false, 1, -1⟩] := fun h => absurd (h.2 0 (by decide)).2.1 (by decide)

theorem f20 (hso : SortOk) (hsn : SortNil) : Fun P 20 [] (.v (.bool true)) := by
  refine spec_of hT (f := 20) (fn := Go.Proofs.Try.f20) (c := body Go.Proofs.Try.f20) (by kernel_rfl) (by kernel_rfl) ?_
  conv => whnf
  repeat ((first | refine AO.cons hT ?_ | refine AO.nil ?_ | refine AW.seq ?_ | refine AW.region ?_ | refine AW.cond ?_ | refine AW.block ?_ | refine AW.loop ?_ | refine AW.skip ?_ | refine AW.exit ?_ | refine AW.ret ?_ | refine AF.one hT rfl ?_ | refine AF.nil ?_ | refine AF.imm hT rfl rfl rfl ?_ | refine AH.of hT rfl ?_ | refine AD.cons hT rfl ?_ | refine AD.nil ?_ | refine AQ.cons hT rfl ?_ | refine AQ.nil ?_); conv => whnf)
  refine ACall.val (by kernel_rfl) f41 rfl rfl ?_
  conv => whnf
  repeat ((first | refine AO.cons hT ?_ | refine AO.nil ?_ | refine AW.seq ?_ | refine AW.region ?_ | refine AW.cond ?_ | refine AW.block ?_ | refine AW.loop ?_ | refine AW.skip ?_ | refine AW.exit ?_ | refine AW.ret ?_ | refine AF.one hT rfl ?_ | refine AF.nil ?_ | refine AF.imm hT rfl rfl rfl ?_ | refine AH.of hT rfl ?_ | refine AD.cons hT rfl ?_ | refine AD.nil ?_ | refine AQ.cons hT rfl ?_ | refine AQ.nil ?_); conv => whnf)
  have h21 := f21 t3 ⟨false, 5, -1⟩ (by decide)
  refine ACall.spec (by kernel_rfl) h21 rfl ?_
  rintro _ _ (⟨_, rfl, rfl⟩ | ⟨he, _⟩)
  rotate_left
  · exact absurd add31 he
  conv => whnf
  repeat ((first | refine AO.cons hT ?_ | refine AO.nil ?_ | refine AW.seq ?_ | refine AW.region ?_ | refine AW.cond ?_ | refine AW.block ?_ | refine AW.loop ?_ | refine AW.skip ?_ | refine AW.exit ?_ | refine AW.ret ?_ | refine AF.one hT rfl ?_ | refine AF.nil ?_ | refine AF.imm hT rfl rfl rfl ?_ | refine AH.of hT rfl ?_ | refine AD.cons hT rfl ?_ | refine AD.nil ?_ | refine AQ.cons hT rfl ?_ | refine AQ.nil ?_); conv => whnf)
  refine ACall.val (by kernel_rfl) f41 rfl rfl ?_
  conv => whnf
  repeat ((first | refine AO.cons hT ?_ | refine AO.nil ?_ | refine AW.seq ?_ | refine AW.region ?_ | refine AW.cond ?_ | refine AW.block ?_ | refine AW.loop ?_ | refine AW.skip ?_ | refine AW.exit ?_ | refine AW.ret ?_ | refine AF.one hT rfl ?_ | refine AF.nil ?_ | refine AF.imm hT rfl rfl rfl ?_ | refine AH.of hT rfl ?_ | refine AD.cons hT rfl ?_ | refine AD.nil ?_ | refine AQ.cons hT rfl ?_ | refine AQ.nil ?_); conv => whnf)
  have h21' := f21 t3 ⟨false, 5, -2⟩ (by decide)
  refine ACall.spec (by kernel_rfl) h21' rfl ?_
  rintro _ _ (⟨he, _⟩ | ⟨_, rfl, rfl⟩)
  · rw [add32] at he; exact absurd he (by decide)
  rw [add32]
  conv => whnf
  repeat ((first | refine AO.cons hT ?_ | refine AO.nil ?_ | refine AW.seq ?_ | refine AW.region ?_ | refine AW.cond ?_ | refine AW.block ?_ | refine AW.loop ?_ | refine AW.skip ?_ | refine AW.exit ?_ | refine AW.ret ?_ | refine AF.one hT rfl ?_ | refine AF.nil ?_ | refine AF.imm hT rfl rfl rfl ?_ | refine AH.of hT rfl ?_ | refine AD.cons hT rfl ?_ | refine AD.nil ?_ | refine AQ.cons hT rfl ?_ | refine AQ.nil ?_); conv => whnf)
  refine ACall.val (by kernel_rfl) f41 rfl rfl ?_
  conv => whnf
  repeat ((first | refine AO.cons hT ?_ | refine AO.nil ?_ | refine AW.seq ?_ | refine AW.region ?_ | refine AW.cond ?_ | refine AW.block ?_ | refine AW.loop ?_ | refine AW.skip ?_ | refine AW.exit ?_ | refine AW.ret ?_ | refine AF.one hT rfl ?_ | refine AF.nil ?_ | refine AF.imm hT rfl rfl rfl ?_ | refine AH.of hT rfl ?_ | refine AD.cons hT rfl ?_ | refine AD.nil ?_ | refine AQ.cons hT rfl ?_ | refine AQ.nil ?_); conv => whnf)
  refine ACall.spec (by kernel_rfl) (f28 hso hsn t3 (by decide)) rfl ?_
  rintro _ _ (⟨_, d, hd, ⟨rfl, _⟩ | ⟨_, rfl, rfl⟩⟩ | ⟨hng, _⟩)
  · exact absurd (allOf_unique hd all3) (by decide)
  rotate_left
  · exact absurd good3 hng
  obtain rfl := allOf_unique hd all3
  conv => whnf
  repeat ((first | refine AO.cons hT ?_ | refine AO.nil ?_ | refine AW.seq ?_ | refine AW.region ?_ | refine AW.cond ?_ | refine AW.block ?_ | refine AW.loop ?_ | refine AW.skip ?_ | refine AW.exit ?_ | refine AW.ret ?_ | refine AF.one hT rfl ?_ | refine AF.nil ?_ | refine AF.imm hT rfl rfl rfl ?_ | refine AH.of hT rfl ?_ | refine AD.cons hT rfl ?_ | refine AD.nil ?_ | refine AQ.cons hT rfl ?_ | refine AQ.nil ?_); conv => whnf)
  refine ACall.val (by kernel_rfl) f41 rfl rfl ?_
  conv => whnf
  repeat ((first | refine AO.cons hT ?_ | refine AO.nil ?_ | refine AW.seq ?_ | refine AW.region ?_ | refine AW.cond ?_ | refine AW.block ?_ | refine AW.loop ?_ | refine AW.skip ?_ | refine AW.exit ?_ | refine AW.ret ?_ | refine AF.one hT rfl ?_ | refine AF.nil ?_ | refine AF.imm hT rfl rfl rfl ?_ | refine AH.of hT rfl ?_ | refine AD.cons hT rfl ?_ | refine AD.nil ?_ | refine AQ.cons hT rfl ?_ | refine AQ.nil ?_); conv => whnf)
  refine ACall.spec (by kernel_rfl) (f30 t3 (by decide)) rfl ?_
  rintro _ _ (⟨_, hnil, _⟩ | ⟨_, _, rfl, rfl⟩ | ⟨hng, _⟩)
  · exact absurd hnil (by decide)
  rotate_left
  · exact absurd good3 hng
  conv => whnf
  repeat (first | (refine AO.cons hT ?_; conv => whnf) | (refine AO.nil ?_; conv => whnf) | (refine AW.seq ?_; conv => whnf) | (refine AW.region ?_; conv => whnf) | (refine AW.cond ?_; conv => whnf) | (refine AW.block ?_; conv => whnf) | (refine AW.loop ?_; conv => whnf) | (refine AW.skip ?_; conv => whnf) | (refine AW.exit ?_; conv => whnf) | (refine AW.ret ?_; conv => whnf) | (refine AF.one hT rfl ?_; conv => whnf) | (refine AF.nil ?_; conv => whnf) | (refine AF.imm hT rfl rfl rfl ?_; conv => whnf) | (refine AH.of hT rfl ?_; conv => whnf) | (refine ASplit.yes rfl ?_; conv => whnf) | (refine ACond.yes rfl ?_; conv => whnf) | (refine ASplit.no rfl ?_; conv => whnf) | (refine ACond.no rfl ?_; conv => whnf) | (refine ASplit.yes (by decide) ?_; conv => whnf) | (refine ACond.yes (by decide) ?_; conv => whnf) | (refine AReq.mk (by decide) ?_; conv => whnf) | (refine AIdx.iff.2 ⟨by decide, ?_⟩; conv => whnf))
  refine AEqs.eql (ks := mvK) (by kernel_rfl) (by kernel_rfl) rfl rfl rfl rfl ?_
  conv => whnf
  repeat (first | (refine AO.cons hT ?_; conv => whnf) | (refine AO.nil ?_; conv => whnf) | (refine AW.seq ?_; conv => whnf) | (refine AW.region ?_; conv => whnf) | (refine AW.cond ?_; conv => whnf) | (refine AW.block ?_; conv => whnf) | (refine AW.loop ?_; conv => whnf) | (refine AW.skip ?_; conv => whnf) | (refine AW.exit ?_; conv => whnf) | (refine AW.ret ?_; conv => whnf) | (refine AF.one hT rfl ?_; conv => whnf) | (refine AF.nil ?_; conv => whnf) | (refine AF.imm hT rfl rfl rfl ?_; conv => whnf) | (refine AH.of hT rfl ?_; conv => whnf) | (refine ASplit.yes rfl ?_; conv => whnf) | (refine ACond.yes rfl ?_; conv => whnf) | (refine ASplit.no rfl ?_; conv => whnf) | (refine ACond.no rfl ?_; conv => whnf) | (refine ASplit.yes (by decide) ?_; conv => whnf) | (refine ACond.yes (by decide) ?_; conv => whnf) | (refine AReq.mk (by decide) ?_; conv => whnf) | (refine AIdx.iff.2 ⟨by decide, ?_⟩; conv => whnf))
  refine AEqs.eql (ks := mvK) (by kernel_rfl) (by kernel_rfl) rfl rfl rfl rfl ?_
  conv => whnf
  repeat (first | (refine AO.cons hT ?_; conv => whnf) | (refine AO.nil ?_; conv => whnf) | (refine AW.seq ?_; conv => whnf) | (refine AW.region ?_; conv => whnf) | (refine AW.cond ?_; conv => whnf) | (refine AW.block ?_; conv => whnf) | (refine AW.loop ?_; conv => whnf) | (refine AW.skip ?_; conv => whnf) | (refine AW.exit ?_; conv => whnf) | (refine AW.ret ?_; conv => whnf) | (refine AF.one hT rfl ?_; conv => whnf) | (refine AF.nil ?_; conv => whnf) | (refine AF.imm hT rfl rfl rfl ?_; conv => whnf) | (refine AH.of hT rfl ?_; conv => whnf) | (refine ASplit.yes rfl ?_; conv => whnf) | (refine ACond.yes rfl ?_; conv => whnf) | (refine ASplit.no rfl ?_; conv => whnf) | (refine ACond.no rfl ?_; conv => whnf) | (refine ASplit.yes (by decide) ?_; conv => whnf) | (refine ACond.yes (by decide) ?_; conv => whnf) | (refine AReq.mk (by decide) ?_; conv => whnf) | (refine AIdx.iff.2 ⟨by decide, ?_⟩; conv => whnf))
  refine ACall.val (by kernel_rfl) f41 rfl rfl ?_
  conv => whnf
  repeat (first | (refine AO.cons hT ?_; conv => whnf) | (refine AO.nil ?_; conv => whnf) | (refine AW.seq ?_; conv => whnf) | (refine AW.region ?_; conv => whnf) | (refine AW.cond ?_; conv => whnf) | (refine AW.block ?_; conv => whnf) | (refine AW.loop ?_; conv => whnf) | (refine AW.skip ?_; conv => whnf) | (refine AW.exit ?_; conv => whnf) | (refine AW.ret ?_; conv => whnf) | (refine AF.one hT rfl ?_; conv => whnf) | (refine AF.nil ?_; conv => whnf) | (refine AF.imm hT rfl rfl rfl ?_; conv => whnf) | (refine AH.of hT rfl ?_; conv => whnf) | (refine ASplit.yes rfl ?_; conv => whnf) | (refine ACond.yes rfl ?_; conv => whnf) | (refine ASplit.no rfl ?_; conv => whnf) | (refine ACond.no rfl ?_; conv => whnf) | (refine ASplit.yes (by decide) ?_; conv => whnf) | (refine ACond.yes (by decide) ?_; conv => whnf) | (refine AReq.mk (by decide) ?_; conv => whnf) | (refine AIdx.iff.2 ⟨by decide, ?_⟩; conv => whnf))
  refine ACall.val (by kernel_rfl) (f32 t3 false 5 (by decide) rfl) rfl rfl ?_
  rw [of31]
  conv => whnf
  repeat (first | (refine AO.cons hT ?_; conv => whnf) | (refine AO.nil ?_; conv => whnf) | (refine AW.seq ?_; conv => whnf) | (refine AW.region ?_; conv => whnf) | (refine AW.cond ?_; conv => whnf) | (refine AW.block ?_; conv => whnf) | (refine AW.loop ?_; conv => whnf) | (refine AW.skip ?_; conv => whnf) | (refine AW.exit ?_; conv => whnf) | (refine AW.ret ?_; conv => whnf) | (refine AF.one hT rfl ?_; conv => whnf) | (refine AF.nil ?_; conv => whnf) | (refine AF.imm hT rfl rfl rfl ?_; conv => whnf) | (refine AH.of hT rfl ?_; conv => whnf) | (refine ASplit.yes rfl ?_; conv => whnf) | (refine ACond.yes rfl ?_; conv => whnf) | (refine ASplit.no rfl ?_; conv => whnf) | (refine ACond.no rfl ?_; conv => whnf) | (refine ASplit.yes (by decide) ?_; conv => whnf) | (refine ACond.yes (by decide) ?_; conv => whnf) | (refine AReq.mk (by decide) ?_; conv => whnf) | (refine AIdx.iff.2 ⟨by decide, ?_⟩; conv => whnf))
  refine ACall.val (by kernel_rfl) f41 rfl rfl ?_
  conv => whnf
  repeat (first | (refine AO.cons hT ?_; conv => whnf) | (refine AO.nil ?_; conv => whnf) | (refine AW.seq ?_; conv => whnf) | (refine AW.region ?_; conv => whnf) | (refine AW.cond ?_; conv => whnf) | (refine AW.block ?_; conv => whnf) | (refine AW.loop ?_; conv => whnf) | (refine AW.skip ?_; conv => whnf) | (refine AW.exit ?_; conv => whnf) | (refine AW.ret ?_; conv => whnf) | (refine AF.one hT rfl ?_; conv => whnf) | (refine AF.nil ?_; conv => whnf) | (refine AF.imm hT rfl rfl rfl ?_; conv => whnf) | (refine AH.of hT rfl ?_; conv => whnf) | (refine ASplit.yes rfl ?_; conv => whnf) | (refine ACond.yes rfl ?_; conv => whnf) | (refine ASplit.no rfl ?_; conv => whnf) | (refine ACond.no rfl ?_; conv => whnf) | (refine ASplit.yes (by decide) ?_; conv => whnf) | (refine ACond.yes (by decide) ?_; conv => whnf) | (refine AReq.mk (by decide) ?_; conv => whnf) | (refine AIdx.iff.2 ⟨by decide, ?_⟩; conv => whnf))
  refine ACall.val (by kernel_rfl) (f32 t3 true 5 (by decide) rfl) rfl rfl ?_
  rw [of32]
  conv => whnf
  repeat (first | (refine AO.cons hT ?_; conv => whnf) | (refine AO.nil ?_; conv => whnf) | (refine AW.seq ?_; conv => whnf) | (refine AW.region ?_; conv => whnf) | (refine AW.cond ?_; conv => whnf) | (refine AW.block ?_; conv => whnf) | (refine AW.loop ?_; conv => whnf) | (refine AW.skip ?_; conv => whnf) | (refine AW.exit ?_; conv => whnf) | (refine AW.ret ?_; conv => whnf) | (refine AF.one hT rfl ?_; conv => whnf) | (refine AF.nil ?_; conv => whnf) | (refine AF.imm hT rfl rfl rfl ?_; conv => whnf) | (refine AH.of hT rfl ?_; conv => whnf) | (refine ASplit.yes rfl ?_; conv => whnf) | (refine ACond.yes rfl ?_; conv => whnf) | (refine ASplit.no rfl ?_; conv => whnf) | (refine ACond.no rfl ?_; conv => whnf) | (refine ASplit.yes (by decide) ?_; conv => whnf) | (refine ACond.yes (by decide) ?_; conv => whnf) | (refine AReq.mk (by decide) ?_; conv => whnf) | (refine AIdx.iff.2 ⟨by decide, ?_⟩; conv => whnf))
  refine ACall.fun (by kernel_rfl) (f25 [⟨false, 1, -1⟩] (by decide)) [] (by simp) (.cons (.vx rfl) .nil) (.inl rfl) rfl ?_
  rw [chkF_no bad1]
  conv => whnf
  repeat (first | (refine AO.cons hT ?_; conv => whnf) | (refine AO.nil ?_; conv => whnf) | (refine AW.seq ?_; conv => whnf) | (refine AW.region ?_; conv => whnf) | (refine AW.cond ?_; conv => whnf) | (refine AW.block ?_; conv => whnf) | (refine AW.loop ?_; conv => whnf) | (refine AW.skip ?_; conv => whnf) | (refine AW.exit ?_; conv => whnf) | (refine AW.ret ?_; conv => whnf) | (refine AF.one hT rfl ?_; conv => whnf) | (refine AF.nil ?_; conv => whnf) | (refine AF.imm hT rfl rfl rfl ?_; conv => whnf) | (refine AH.of hT rfl ?_; conv => whnf) | (refine ASplit.yes rfl ?_; conv => whnf) | (refine ACond.yes rfl ?_; conv => whnf) | (refine ASplit.no rfl ?_; conv => whnf) | (refine ACond.no rfl ?_; conv => whnf) | (refine ASplit.yes (by decide) ?_; conv => whnf) | (refine ACond.yes (by decide) ?_; conv => whnf) | (refine AReq.mk (by decide) ?_; conv => whnf) | (refine AIdx.iff.2 ⟨by decide, ?_⟩; conv => whnf))
  refine ACall.val (by kernel_rfl) (f23 ⟨false, 0, 0⟩) rfl rfl ?_
  conv => whnf
  repeat (first | (refine AO.cons hT ?_; conv => whnf) | (refine AO.nil ?_; conv => whnf) | (refine AW.seq ?_; conv => whnf) | (refine AW.region ?_; conv => whnf) | (refine AW.cond ?_; conv => whnf) | (refine AW.block ?_; conv => whnf) | (refine AW.loop ?_; conv => whnf) | (refine AW.skip ?_; conv => whnf) | (refine AW.exit ?_; conv => whnf) | (refine AW.ret ?_; conv => whnf) | (refine AF.one hT rfl ?_; conv => whnf) | (refine AF.nil ?_; conv => whnf) | (refine AF.imm hT rfl rfl rfl ?_; conv => whnf) | (refine AH.of hT rfl ?_; conv => whnf) | (refine ASplit.yes rfl ?_; conv => whnf) | (refine ACond.yes rfl ?_; conv => whnf) | (refine ASplit.no rfl ?_; conv => whnf) | (refine ACond.no rfl ?_; conv => whnf) | (refine ASplit.yes (by decide) ?_; conv => whnf) | (refine ACond.yes (by decide) ?_; conv => whnf) | (refine AReq.mk (by decide) ?_; conv => whnf) | (refine AIdx.iff.2 ⟨by decide, ?_⟩; conv => whnf))
  exact AFin.val rfl ⟨rfl, rfl⟩
end Go.Aw.R1

set_option linter.unusedSimpArgs false
set_option linter.unusedVariables false
set_option maxHeartbeats 4000000
namespace Go.Aw.R1
open Go

theorem f6 (hso : SortOk) (hsn : SortNil) (l : List Mv) (m : Mv) : Spec P 6 [mvs l, .agg (mvC m)] [] fun r _ => r = .v (.bool true) := by
  refine spec_of hT (f := 6) (fn := Go.Proofs.Try.f6) (c := body Go.Proofs.Try.f6) (by kernel_rfl) (by kernel_rfl) ?_
  have hawake := f20 hso hsn
  have hfin : ∀ {H : List ABlk}, AFin 0 (.v (.bool true)) H (fun r _ => r = .v (.bool true)) := AFin.mk rfl
  conv => whnf
  repeat ((first | refine AO.cons hT ?_ | refine AO.nil ?_ | refine AW.seq ?_ | refine AW.region ?_ | refine AW.cond ?_ | refine AW.block ?_ | refine AW.loop ?_ | refine AW.skip ?_ | refine AW.exit ?_ | refine AW.ret ?_ | refine AF.one hT rfl ?_ | refine AF.nil ?_ | refine AF.imm hT rfl rfl rfl ?_ | refine AH.of hT rfl ?_ | refine AD.cons hT rfl ?_ | refine AD.nil ?_ | refine AQ.cons hT rfl ?_ | refine AQ.nil ?_); conv => whnf)
  rcases Classical.em ((300 < (l.length : Int) ∧ (l.length : Int) < 999) ∨ 1001 < (l.length : Int)) with hsh | hsh
  · refine ASplit.dec (fun h1 => ?_) (fun h1 => ?_)
    · conv => whnf
      repeat ((first | refine AO.cons hT ?_ | refine AO.nil ?_ | refine AW.seq ?_ | refine AW.region ?_ | refine AW.cond ?_ | refine AW.block ?_ | refine AW.loop ?_ | refine AW.skip ?_ | refine AW.exit ?_ | refine AW.ret ?_ | refine AF.one hT rfl ?_ | refine AF.nil ?_ | refine AF.imm hT rfl rfl rfl ?_ | refine AH.of hT rfl ?_ | refine AD.cons hT rfl ?_ | refine AD.nil ?_ | refine AQ.cons hT rfl ?_ | refine AQ.nil ?_); conv => whnf)
      refine ASplit.dec (fun h2 => ?_) (fun h2 => ?_)
      · conv => whnf
        repeat (first | (refine AO.cons hT ?_; conv => whnf) | (refine AO.nil ?_; conv => whnf) | (refine AW.seq ?_; conv => whnf) | (refine AW.region ?_; conv => whnf) | (refine AW.cond ?_; conv => whnf) | (refine AW.block ?_; conv => whnf) | (refine AW.loop ?_; conv => whnf) | (refine AW.skip ?_; conv => whnf) | (refine AW.exit ?_; conv => whnf) | (refine AW.ret ?_; conv => whnf) | (refine AF.one hT rfl ?_; conv => whnf) | (refine AF.nil ?_; conv => whnf) | (refine AF.imm hT rfl rfl rfl ?_; conv => whnf) | (refine AH.of hT rfl ?_; conv => whnf) | (refine ASplit.yes rfl ?_; conv => whnf) | (refine ACond.yes rfl ?_; conv => whnf) | (refine ASplit.no rfl ?_; conv => whnf) | (refine ACond.no rfl ?_; conv => whnf) | (refine ASplit.yes (by decide) ?_; conv => whnf) | (refine ACond.yes (by decide) ?_; conv => whnf) | (refine AReq.mk (by decide) ?_; conv => whnf) | (refine AIdx.iff.2 ⟨by decide, ?_⟩; conv => whnf))
        refine ACall.val (by kernel_rfl) hawake rfl rfl ?_
        conv => whnf
        repeat ((first | refine AO.cons hT ?_ | refine AO.nil ?_ | refine AW.seq ?_ | refine AW.region ?_ | refine AW.cond ?_ | refine AW.block ?_ | refine AW.loop ?_ | refine AW.skip ?_ | refine AW.exit ?_ | refine AW.ret ?_ | refine AF.one hT rfl ?_ | refine AF.nil ?_ | refine AF.imm hT rfl rfl rfl ?_ | refine AH.of hT rfl ?_ | refine AD.cons hT rfl ?_ | refine AD.nil ?_ | refine AQ.cons hT rfl ?_ | refine AQ.nil ?_); conv => whnf)
        exact hfin
      · conv => whnf
        repeat ((first | refine AO.cons hT ?_ | refine AO.nil ?_ | refine AW.seq ?_ | refine AW.region ?_ | refine AW.cond ?_ | refine AW.block ?_ | refine AW.loop ?_ | refine AW.skip ?_ | refine AW.exit ?_ | refine AW.ret ?_ | refine AF.one hT rfl ?_ | refine AF.nil ?_ | refine AF.imm hT rfl rfl rfl ?_ | refine AH.of hT rfl ?_ | refine AD.cons hT rfl ?_ | refine AD.nil ?_ | refine AQ.cons hT rfl ?_ | refine AQ.nil ?_); conv => whnf)
        refine ACond.yes (by rw [decide_eq_true_iff]; omega) ?_
        conv => whnf
        repeat ((first | refine AO.cons hT ?_ | refine AO.nil ?_ | refine AW.seq ?_ | refine AW.region ?_ | refine AW.cond ?_ | refine AW.block ?_ | refine AW.loop ?_ | refine AW.skip ?_ | refine AW.exit ?_ | refine AW.ret ?_ | refine AF.one hT rfl ?_ | refine AF.nil ?_ | refine AF.imm hT rfl rfl rfl ?_ | refine AH.of hT rfl ?_ | refine AD.cons hT rfl ?_ | refine AD.nil ?_ | refine AQ.cons hT rfl ?_ | refine AQ.nil ?_); conv => whnf)
        refine ACall.val (by kernel_rfl) hawake rfl rfl ?_
        conv => whnf
        repeat ((first | refine AO.cons hT ?_ | refine AO.nil ?_ | refine AW.seq ?_ | refine AW.region ?_ | refine AW.cond ?_ | refine AW.block ?_ | refine AW.loop ?_ | refine AW.skip ?_ | refine AW.exit ?_ | refine AW.ret ?_ | refine AF.one hT rfl ?_ | refine AF.nil ?_ | refine AF.imm hT rfl rfl rfl ?_ | refine AH.of hT rfl ?_ | refine AD.cons hT rfl ?_ | refine AD.nil ?_ | refine AQ.cons hT rfl ?_ | refine AQ.nil ?_); conv => whnf)
        exact hfin
    · exfalso; omega
  · have hl : l.length ≤ 1001 := by omega
    have h21 := f21 l m (by omega)
    have h22 := f22 l m (by omega)
    have hsm := f27 (l ++ [m]) (l ++ [m]) (by simp; omega) (by simp; omega)
    have hsn0 := f27 [] [] (by decide) (by decide)
    simp only [decide_true] at hsm hsn0
    have hln : (l ++ [m]).length = l.length + 1 := by simp
    unfold mvs at hsm
    rw [hln] at hsm
    have hor : l.length ≤ 300 ∨ 999 ≤ l.length := by omega
    rcases hor with h | h
    · refine ASplit.no (by simp only [decide_eq_false_iff_not]; omega) ?_
      conv => whnf
      repeat ((first | refine AO.cons hT ?_ | refine AO.nil ?_ | refine AW.seq ?_ | refine AW.region ?_ | refine AW.cond ?_ | refine AW.block ?_ | refine AW.loop ?_ | refine AW.skip ?_ | refine AW.exit ?_ | refine AW.ret ?_ | refine AF.one hT rfl ?_ | refine AF.nil ?_ | refine AF.imm hT rfl rfl rfl ?_ | refine AH.of hT rfl ?_ | refine AD.cons hT rfl ?_ | refine AD.nil ?_ | refine AQ.cons hT rfl ?_ | refine AQ.nil ?_); conv => whnf)
      refine ASplit.no rfl ?_
      conv => whnf
      repeat ((first | refine AO.cons hT ?_ | refine AO.nil ?_ | refine AW.seq ?_ | refine AW.region ?_ | refine AW.cond ?_ | refine AW.block ?_ | refine AW.loop ?_ | refine AW.skip ?_ | refine AW.exit ?_ | refine AW.ret ?_ | refine AF.one hT rfl ?_ | refine AF.nil ?_ | refine AF.imm hT rfl rfl rfl ?_ | refine AH.of hT rfl ?_ | refine AD.cons hT rfl ?_ | refine AD.nil ?_ | refine AQ.cons hT rfl ?_ | refine AQ.nil ?_); conv => whnf)
      refine ACond.no (by simp only [decide_eq_false_iff_not]; omega) ?_
      conv => whnf
      repeat ((first | refine AO.cons hT ?_ | refine AO.nil ?_ | refine AW.seq ?_ | refine AW.region ?_ | refine AW.cond ?_ | refine AW.block ?_ | refine AW.loop ?_ | refine AW.skip ?_ | refine AW.exit ?_ | refine AW.ret ?_ | refine AF.one hT rfl ?_ | refine AF.nil ?_ | refine AF.imm hT rfl rfl rfl ?_ | refine AH.of hT rfl ?_ | refine AD.cons hT rfl ?_ | refine AD.nil ?_ | refine AQ.cons hT rfl ?_ | refine AQ.nil ?_); conv => whnf)
      refine ACall.spec (by kernel_rfl) h21 (by simp [renL, AV.ren, renL_mvs, mvs, mvC]) ?_
      rintro _ _ (⟨hz, rfl, rfl⟩ | ⟨hz, rfl, rfl⟩)
      · conv => whnf
        repeat ((first | refine AO.cons hT ?_ | refine AO.nil ?_ | refine AW.seq ?_ | refine AW.region ?_ | refine AW.cond ?_ | refine AW.block ?_ | refine AW.loop ?_ | refine AW.skip ?_ | refine AW.exit ?_ | refine AW.ret ?_ | refine AF.one hT rfl ?_ | refine AF.nil ?_ | refine AF.imm hT rfl rfl rfl ?_ | refine AH.of hT rfl ?_ | refine AD.cons hT rfl ?_ | refine AD.nil ?_ | refine AQ.cons hT rfl ?_ | refine AQ.nil ?_); conv => whnf)
        refine ACall.spec (by kernel_rfl) h22 (by simp [renL, AV.ren, renL_mvs, mvs, mvC]) ?_
        rintro _ _ (⟨_, rfl, rfl⟩ | ⟨hz', _⟩)
        rotate_left
        · exact absurd hz hz'
        conv => whnf
        repeat ((first | refine AO.cons hT ?_ | refine AO.nil ?_ | refine AW.seq ?_ | refine AW.region ?_ | refine AW.cond ?_ | refine AW.block ?_ | refine AW.loop ?_ | refine AW.skip ?_ | refine AW.exit ?_ | refine AW.ret ?_ | refine AF.one hT rfl ?_ | refine AF.nil ?_ | refine AF.imm hT rfl rfl rfl ?_ | refine AH.of hT rfl ?_ | refine AD.cons hT rfl ?_ | refine AD.nil ?_ | refine AQ.cons hT rfl ?_ | refine AQ.nil ?_); conv => whnf)
        refine AW.conv _ _ (Conv.freeze 0 rfl) ?_
        refine AW.plan hm (.one 0 (.imm 2 (.one 1 (.one 3 (.one 4 (.one 5 (.one 6 (.one 8 (.one 7 (.one 9 (.one 10 (.one 11 (.one 12 (.one 13 (.one 14 (.one 15 (.one 16 (.one 17 (.one 18 (.one 19 (.one 20 (.one 21 (.one 22 (.one 23 (.one 24 (.one 25 .nil)))))))))))))))))))))))))) (by kernel_rfl) ?_
        conv => whnf
        repeat ((first | refine AO.cons hT ?_ | refine AO.nil ?_ | refine AW.seq ?_ | refine AW.region ?_ | refine AW.cond ?_ | refine AW.block ?_ | refine AW.loop ?_ | refine AW.skip ?_ | refine AW.exit ?_ | refine AW.ret ?_ | refine AF.one hT rfl ?_ | refine AF.nil ?_ | refine AF.imm hT rfl rfl rfl ?_ | refine AH.of hT rfl ?_ | refine AD.cons hT rfl ?_ | refine AD.nil ?_ | refine AQ.cons hT rfl ?_ | refine AQ.nil ?_); conv => whnf)
        refine ACall.val (by kernel_rfl) (f23 m) (by simp [renL, AV.ren, mvC]) rfl ?_
        conv => whnf
        repeat ((first | refine AO.cons hT ?_ | refine AO.nil ?_ | refine AW.seq ?_ | refine AW.region ?_ | refine AW.cond ?_ | refine AW.block ?_ | refine AW.loop ?_ | refine AW.skip ?_ | refine AW.exit ?_ | refine AW.ret ?_ | refine AF.one hT rfl ?_ | refine AF.nil ?_ | refine AF.imm hT rfl rfl rfl ?_ | refine AH.of hT rfl ?_ | refine AD.cons hT rfl ?_ | refine AD.nil ?_ | refine AQ.cons hT rfl ?_ | refine AQ.nil ?_); conv => whnf)
        refine ACall.val (by kernel_rfl) (f24 m) (by simp [renL, AV.ren, mvC]) rfl ?_
        conv => whnf
        repeat ((first | refine AO.cons hT ?_ | refine AO.nil ?_ | refine AW.seq ?_ | refine AW.region ?_ | refine AW.cond ?_ | refine AW.block ?_ | refine AW.loop ?_ | refine AW.skip ?_ | refine AW.exit ?_ | refine AW.ret ?_ | refine AF.one hT rfl ?_ | refine AF.nil ?_ | refine AF.imm hT rfl rfl rfl ?_ | refine AH.of hT rfl ?_ | refine AD.cons hT rfl ?_ | refine AD.nil ?_ | refine AQ.cons hT rfl ?_ | refine AQ.nil ?_); conv => whnf)
        refine ASplit.yes (by simp) ?_
        conv => whnf
        repeat ((first | refine AO.cons hT ?_ | refine AO.nil ?_ | refine AW.seq ?_ | refine AW.region ?_ | refine AW.cond ?_ | refine AW.block ?_ | refine AW.loop ?_ | refine AW.skip ?_ | refine AW.exit ?_ | refine AW.ret ?_ | refine AF.one hT rfl ?_ | refine AF.nil ?_ | refine AF.imm hT rfl rfl rfl ?_ | refine AH.of hT rfl ?_ | refine AD.cons hT rfl ?_ | refine AD.nil ?_ | refine AQ.cons hT rfl ?_ | refine AQ.nil ?_); conv => whnf)
        refine ACall.val (by kernel_rfl) (f25 l (by omega)) (by simp [renL, AV.ren, renL_mvs, mvs]) rfl ?_
        conv => whnf
        repeat ((first | refine AO.cons hT ?_ | refine AO.nil ?_ | refine AW.seq ?_ | refine AW.region ?_ | refine AW.cond ?_ | refine AW.block ?_ | refine AW.loop ?_ | refine AW.skip ?_ | refine AW.exit ?_ | refine AW.ret ?_ | refine AF.one hT rfl ?_ | refine AF.nil ?_ | refine AF.imm hT rfl rfl rfl ?_ | refine AH.of hT rfl ?_ | refine AD.cons hT rfl ?_ | refine AD.nil ?_ | refine AQ.cons hT rfl ?_ | refine AQ.nil ?_); conv => whnf)
        refine ACall.val (by kernel_rfl) (f26 l (by omega)) (by simp [renL, AV.ren, renL_mvs, mvs]) rfl ?_
        conv => whnf
        repeat ((first | refine AO.cons hT ?_ | refine AO.nil ?_ | refine AW.seq ?_ | refine AW.region ?_ | refine AW.cond ?_ | refine AW.block ?_ | refine AW.loop ?_ | refine AW.skip ?_ | refine AW.exit ?_ | refine AW.ret ?_ | refine AF.one hT rfl ?_ | refine AF.nil ?_ | refine AF.imm hT rfl rfl rfl ?_ | refine AH.of hT rfl ?_ | refine AD.cons hT rfl ?_ | refine AD.nil ?_ | refine AQ.cons hT rfl ?_ | refine AQ.nil ?_); conv => whnf)
        refine ASplit.yes (by simp) ?_
        conv => whnf
        repeat ((first | refine AO.cons hT ?_ | refine AO.nil ?_ | refine AW.seq ?_ | refine AW.region ?_ | refine AW.cond ?_ | refine AW.block ?_ | refine AW.loop ?_ | refine AW.skip ?_ | refine AW.exit ?_ | refine AW.ret ?_ | refine AF.one hT rfl ?_ | refine AF.nil ?_ | refine AF.imm hT rfl rfl rfl ?_ | refine AH.of hT rfl ?_ | refine AD.cons hT rfl ?_ | refine AD.nil ?_ | refine AQ.cons hT rfl ?_ | refine AQ.nil ?_); conv => whnf)
        refine ACall.fun (by kernel_rfl) hsm [1, 2] (by intro l' hl'; simp at hl'; rcases hl' with rfl | rfl <;> exact ⟨_, _, rfl⟩) (.cons (.ms (.inl ⟨by show (1 : Nat) ∈ [1, 2]; simp, rfl⟩) ?_ ?_) (.cons (.ms (.inl ⟨by show (2 : Nat) ∈ [1, 2]; simp, rfl⟩) ?_ ?_) .nil)) (.inr trivial) rfl ?_
        · rw [renL_mvs, mvs_len, hln]; omega
        · rw [renL_mvs, renL_mvs, List.drop_zero, List.take_of_length_le (by rw [mvs_len, hln]; exact Nat.le_refl _)]
        · rw [renL_mvs, mvs_len, hln]; omega
        · rw [renL_mvs, renL_mvs, List.drop_zero, List.take_of_length_le (by rw [mvs_len, hln]; exact Nat.le_refl _)]
        conv => whnf
        repeat (first | (refine AO.cons hT ?_; conv => whnf) | (refine AO.nil ?_; conv => whnf) | (refine AW.seq ?_; conv => whnf) | (refine AW.region ?_; conv => whnf) | (refine AW.cond ?_; conv => whnf) | (refine AW.block ?_; conv => whnf) | (refine AW.loop ?_; conv => whnf) | (refine AW.skip ?_; conv => whnf) | (refine AW.exit ?_; conv => whnf) | (refine AW.ret ?_; conv => whnf) | (refine AF.one hT rfl ?_; conv => whnf) | (refine AF.nil ?_; conv => whnf) | (refine AF.imm hT rfl rfl rfl ?_; conv => whnf) | (refine AH.of hT rfl ?_; conv => whnf) | (refine ASplit.yes rfl ?_; conv => whnf) | (refine ACond.yes rfl ?_; conv => whnf) | (refine ASplit.no rfl ?_; conv => whnf) | (refine ACond.no rfl ?_; conv => whnf) | (refine ASplit.yes (by decide) ?_; conv => whnf) | (refine ACond.yes (by decide) ?_; conv => whnf) | (refine AReq.mk (by decide) ?_; conv => whnf) | (refine AIdx.iff.2 ⟨by decide, ?_⟩; conv => whnf))
        refine ACall.val (by kernel_rfl) hawake rfl rfl ?_
        conv => whnf
        repeat ((first | refine AO.cons hT ?_ | refine AO.nil ?_ | refine AW.seq ?_ | refine AW.region ?_ | refine AW.cond ?_ | refine AW.block ?_ | refine AW.loop ?_ | refine AW.skip ?_ | refine AW.exit ?_ | refine AW.ret ?_ | refine AF.one hT rfl ?_ | refine AF.nil ?_ | refine AF.imm hT rfl rfl rfl ?_ | refine AH.of hT rfl ?_ | refine AD.cons hT rfl ?_ | refine AD.nil ?_ | refine AQ.cons hT rfl ?_ | refine AQ.nil ?_); conv => whnf)
        exact hfin
      · conv => whnf
        repeat ((first | refine AO.cons hT ?_ | refine AO.nil ?_ | refine AW.seq ?_ | refine AW.region ?_ | refine AW.cond ?_ | refine AW.block ?_ | refine AW.loop ?_ | refine AW.skip ?_ | refine AW.exit ?_ | refine AW.ret ?_ | refine AF.one hT rfl ?_ | refine AF.nil ?_ | refine AF.imm hT rfl rfl rfl ?_ | refine AH.of hT rfl ?_ | refine AD.cons hT rfl ?_ | refine AD.nil ?_ | refine AQ.cons hT rfl ?_ | refine AQ.nil ?_); conv => whnf)
        refine ACall.spec (by kernel_rfl) h22 (by simp [renL, AV.ren, renL_mvs, mvs, mvC]) ?_
        rintro _ _ (⟨hz', _⟩ | ⟨_, rfl, rfl⟩)
        · exact absurd hz' hz
        conv => whnf
        repeat ((first | refine AO.cons hT ?_ | refine AO.nil ?_ | refine AW.seq ?_ | refine AW.region ?_ | refine AW.cond ?_ | refine AW.block ?_ | refine AW.loop ?_ | refine AW.skip ?_ | refine AW.exit ?_ | refine AW.ret ?_ | refine AF.one hT rfl ?_ | refine AF.nil ?_ | refine AF.imm hT rfl rfl rfl ?_ | refine AH.of hT rfl ?_ | refine AD.cons hT rfl ?_ | refine AD.nil ?_ | refine AQ.cons hT rfl ?_ | refine AQ.nil ?_); conv => whnf)
        refine AW.conv _ _ (Conv.freeze 0 rfl) ?_
        refine AW.plan hm (.one 0 (.imm 2 (.one 1 (.one 3 (.one 4 (.one 5 (.one 6 (.one 8 (.one 7 (.one 9 (.one 10 (.one 11 (.one 12 (.one 13 (.one 14 (.one 15 (.one 16 (.one 17 (.one 18 (.one 19 (.one 20 (.one 21 (.one 22 (.one 23 (.one 24 (.one 25 .nil)))))))))))))))))))))))))) (by kernel_rfl) ?_
        conv => whnf
        repeat ((first | refine AO.cons hT ?_ | refine AO.nil ?_ | refine AW.seq ?_ | refine AW.region ?_ | refine AW.cond ?_ | refine AW.block ?_ | refine AW.loop ?_ | refine AW.skip ?_ | refine AW.exit ?_ | refine AW.ret ?_ | refine AF.one hT rfl ?_ | refine AF.nil ?_ | refine AF.imm hT rfl rfl rfl ?_ | refine AH.of hT rfl ?_ | refine AD.cons hT rfl ?_ | refine AD.nil ?_ | refine AQ.cons hT rfl ?_ | refine AQ.nil ?_); conv => whnf)
        refine ACall.val (by kernel_rfl) (f23 m) (by simp [renL, AV.ren, mvC]) rfl ?_
        conv => whnf
        repeat ((first | refine AO.cons hT ?_ | refine AO.nil ?_ | refine AW.seq ?_ | refine AW.region ?_ | refine AW.cond ?_ | refine AW.block ?_ | refine AW.loop ?_ | refine AW.skip ?_ | refine AW.exit ?_ | refine AW.ret ?_ | refine AF.one hT rfl ?_ | refine AF.nil ?_ | refine AF.imm hT rfl rfl rfl ?_ | refine AH.of hT rfl ?_ | refine AD.cons hT rfl ?_ | refine AD.nil ?_ | refine AQ.cons hT rfl ?_ | refine AQ.nil ?_); conv => whnf)
        refine ACall.val (by kernel_rfl) (f24 m) (by simp [renL, AV.ren, mvC]) rfl ?_
        conv => whnf
        repeat ((first | refine AO.cons hT ?_ | refine AO.nil ?_ | refine AW.seq ?_ | refine AW.region ?_ | refine AW.cond ?_ | refine AW.block ?_ | refine AW.loop ?_ | refine AW.skip ?_ | refine AW.exit ?_ | refine AW.ret ?_ | refine AF.one hT rfl ?_ | refine AF.nil ?_ | refine AF.imm hT rfl rfl rfl ?_ | refine AH.of hT rfl ?_ | refine AD.cons hT rfl ?_ | refine AD.nil ?_ | refine AQ.cons hT rfl ?_ | refine AQ.nil ?_); conv => whnf)
        refine ASplit.yes (by simp) ?_
        conv => whnf
        repeat ((first | refine AO.cons hT ?_ | refine AO.nil ?_ | refine AW.seq ?_ | refine AW.region ?_ | refine AW.cond ?_ | refine AW.block ?_ | refine AW.loop ?_ | refine AW.skip ?_ | refine AW.exit ?_ | refine AW.ret ?_ | refine AF.one hT rfl ?_ | refine AF.nil ?_ | refine AF.imm hT rfl rfl rfl ?_ | refine AH.of hT rfl ?_ | refine AD.cons hT rfl ?_ | refine AD.nil ?_ | refine AQ.cons hT rfl ?_ | refine AQ.nil ?_); conv => whnf)
        refine ACall.val (by kernel_rfl) (f25 l (by omega)) (by simp [renL, AV.ren, renL_mvs, mvs]) rfl ?_
        conv => whnf
        repeat ((first | refine AO.cons hT ?_ | refine AO.nil ?_ | refine AW.seq ?_ | refine AW.region ?_ | refine AW.cond ?_ | refine AW.block ?_ | refine AW.loop ?_ | refine AW.skip ?_ | refine AW.exit ?_ | refine AW.ret ?_ | refine AF.one hT rfl ?_ | refine AF.nil ?_ | refine AF.imm hT rfl rfl rfl ?_ | refine AH.of hT rfl ?_ | refine AD.cons hT rfl ?_ | refine AD.nil ?_ | refine AQ.cons hT rfl ?_ | refine AQ.nil ?_); conv => whnf)
        refine ACall.val (by kernel_rfl) (f26 l (by omega)) (by simp [renL, AV.ren, renL_mvs, mvs]) rfl ?_
        conv => whnf
        repeat ((first | refine AO.cons hT ?_ | refine AO.nil ?_ | refine AW.seq ?_ | refine AW.region ?_ | refine AW.cond ?_ | refine AW.block ?_ | refine AW.loop ?_ | refine AW.skip ?_ | refine AW.exit ?_ | refine AW.ret ?_ | refine AF.one hT rfl ?_ | refine AF.nil ?_ | refine AF.imm hT rfl rfl rfl ?_ | refine AH.of hT rfl ?_ | refine AD.cons hT rfl ?_ | refine AD.nil ?_ | refine AQ.cons hT rfl ?_ | refine AQ.nil ?_); conv => whnf)
        refine ASplit.yes (by simp) ?_
        conv => whnf
        repeat ((first | refine AO.cons hT ?_ | refine AO.nil ?_ | refine AW.seq ?_ | refine AW.region ?_ | refine AW.cond ?_ | refine AW.block ?_ | refine AW.loop ?_ | refine AW.skip ?_ | refine AW.exit ?_ | refine AW.ret ?_ | refine AF.one hT rfl ?_ | refine AF.nil ?_ | refine AF.imm hT rfl rfl rfl ?_ | refine AH.of hT rfl ?_ | refine AD.cons hT rfl ?_ | refine AD.nil ?_ | refine AQ.cons hT rfl ?_ | refine AQ.nil ?_); conv => whnf)
        refine ACall.fun (by kernel_rfl) hsn0 [] (by simp) (.cons .nil (.cons .nil .nil)) (.inl rfl) rfl ?_
        conv => whnf
        repeat (first | (refine AO.cons hT ?_; conv => whnf) | (refine AO.nil ?_; conv => whnf) | (refine AW.seq ?_; conv => whnf) | (refine AW.region ?_; conv => whnf) | (refine AW.cond ?_; conv => whnf) | (refine AW.block ?_; conv => whnf) | (refine AW.loop ?_; conv => whnf) | (refine AW.skip ?_; conv => whnf) | (refine AW.exit ?_; conv => whnf) | (refine AW.ret ?_; conv => whnf) | (refine AF.one hT rfl ?_; conv => whnf) | (refine AF.nil ?_; conv => whnf) | (refine AF.imm hT rfl rfl rfl ?_; conv => whnf) | (refine AH.of hT rfl ?_; conv => whnf) | (refine ASplit.yes rfl ?_; conv => whnf) | (refine ACond.yes rfl ?_; conv => whnf) | (refine ASplit.no rfl ?_; conv => whnf) | (refine ACond.no rfl ?_; conv => whnf) | (refine ASplit.yes (by decide) ?_; conv => whnf) | (refine ACond.yes (by decide) ?_; conv => whnf) | (refine AReq.mk (by decide) ?_; conv => whnf) | (refine AIdx.iff.2 ⟨by decide, ?_⟩; conv => whnf))
        refine ASplit.yes (by simp) ?_
        conv => whnf
        repeat (first | (refine AO.cons hT ?_; conv => whnf) | (refine AO.nil ?_; conv => whnf) | (refine AW.seq ?_; conv => whnf) | (refine AW.region ?_; conv => whnf) | (refine AW.cond ?_; conv => whnf) | (refine AW.block ?_; conv => whnf) | (refine AW.loop ?_; conv => whnf) | (refine AW.skip ?_; conv => whnf) | (refine AW.exit ?_; conv => whnf) | (refine AW.ret ?_; conv => whnf) | (refine AF.one hT rfl ?_; conv => whnf) | (refine AF.nil ?_; conv => whnf) | (refine AF.imm hT rfl rfl rfl ?_; conv => whnf) | (refine AH.of hT rfl ?_; conv => whnf) | (refine ASplit.yes rfl ?_; conv => whnf) | (refine ACond.yes rfl ?_; conv => whnf) | (refine ASplit.no rfl ?_; conv => whnf) | (refine ACond.no rfl ?_; conv => whnf) | (refine ASplit.yes (by decide) ?_; conv => whnf) | (refine ACond.yes (by decide) ?_; conv => whnf) | (refine AReq.mk (by decide) ?_; conv => whnf) | (refine AIdx.iff.2 ⟨by decide, ?_⟩; conv => whnf))
        refine ACall.val (by kernel_rfl) hawake rfl rfl ?_
        conv => whnf
        repeat ((first | refine AO.cons hT ?_ | refine AO.nil ?_ | refine AW.seq ?_ | refine AW.region ?_ | refine AW.cond ?_ | refine AW.block ?_ | refine AW.loop ?_ | refine AW.skip ?_ | refine AW.exit ?_ | refine AW.ret ?_ | refine AF.one hT rfl ?_ | refine AF.nil ?_ | refine AF.imm hT rfl rfl rfl ?_ | refine AH.of hT rfl ?_ | refine AD.cons hT rfl ?_ | refine AD.nil ?_ | refine AQ.cons hT rfl ?_ | refine AQ.nil ?_); conv => whnf)
        exact hfin
    · refine ASplit.yes (by rw [decide_eq_true_iff]; omega) ?_
      conv => whnf
      repeat ((first | refine AO.cons hT ?_ | refine AO.nil ?_ | refine AW.seq ?_ | refine AW.region ?_ | refine AW.cond ?_ | refine AW.block ?_ | refine AW.loop ?_ | refine AW.skip ?_ | refine AW.exit ?_ | refine AW.ret ?_ | refine AF.one hT rfl ?_ | refine AF.nil ?_ | refine AF.imm hT rfl rfl rfl ?_ | refine AH.of hT rfl ?_ | refine AD.cons hT rfl ?_ | refine AD.nil ?_ | refine AQ.cons hT rfl ?_ | refine AQ.nil ?_); conv => whnf)
      refine ASplit.no (by simp only [decide_eq_false_iff_not]; omega) ?_
      conv => whnf
      repeat ((first | refine AO.cons hT ?_ | refine AO.nil ?_ | refine AW.seq ?_ | refine AW.region ?_ | refine AW.cond ?_ | refine AW.block ?_ | refine AW.loop ?_ | refine AW.skip ?_ | refine AW.exit ?_ | refine AW.ret ?_ | refine AF.one hT rfl ?_ | refine AF.nil ?_ | refine AF.imm hT rfl rfl rfl ?_ | refine AH.of hT rfl ?_ | refine AD.cons hT rfl ?_ | refine AD.nil ?_ | refine AQ.cons hT rfl ?_ | refine AQ.nil ?_); conv => whnf)
      refine ACond.no (by simp only [decide_eq_false_iff_not]; omega) ?_
      conv => whnf
      repeat ((first | refine AO.cons hT ?_ | refine AO.nil ?_ | refine AW.seq ?_ | refine AW.region ?_ | refine AW.cond ?_ | refine AW.block ?_ | refine AW.loop ?_ | refine AW.skip ?_ | refine AW.exit ?_ | refine AW.ret ?_ | refine AF.one hT rfl ?_ | refine AF.nil ?_ | refine AF.imm hT rfl rfl rfl ?_ | refine AH.of hT rfl ?_ | refine AD.cons hT rfl ?_ | refine AD.nil ?_ | refine AQ.cons hT rfl ?_ | refine AQ.nil ?_); conv => whnf)
      refine ACall.spec (by kernel_rfl) h21 (by simp [renL, AV.ren, renL_mvs, mvs, mvC]) ?_
      rintro _ _ (⟨hz, rfl, rfl⟩ | ⟨hz, rfl, rfl⟩)
      · conv => whnf
        repeat ((first | refine AO.cons hT ?_ | refine AO.nil ?_ | refine AW.seq ?_ | refine AW.region ?_ | refine AW.cond ?_ | refine AW.block ?_ | refine AW.loop ?_ | refine AW.skip ?_ | refine AW.exit ?_ | refine AW.ret ?_ | refine AF.one hT rfl ?_ | refine AF.nil ?_ | refine AF.imm hT rfl rfl rfl ?_ | refine AH.of hT rfl ?_ | refine AD.cons hT rfl ?_ | refine AD.nil ?_ | refine AQ.cons hT rfl ?_ | refine AQ.nil ?_); conv => whnf)
        refine ACall.spec (by kernel_rfl) h22 (by simp [renL, AV.ren, renL_mvs, mvs, mvC]) ?_
        rintro _ _ (⟨_, rfl, rfl⟩ | ⟨hz', _⟩)
        rotate_left
        · exact absurd hz hz'
        conv => whnf
        repeat ((first | refine AO.cons hT ?_ | refine AO.nil ?_ | refine AW.seq ?_ | refine AW.region ?_ | refine AW.cond ?_ | refine AW.block ?_ | refine AW.loop ?_ | refine AW.skip ?_ | refine AW.exit ?_ | refine AW.ret ?_ | refine AF.one hT rfl ?_ | refine AF.nil ?_ | refine AF.imm hT rfl rfl rfl ?_ | refine AH.of hT rfl ?_ | refine AD.cons hT rfl ?_ | refine AD.nil ?_ | refine AQ.cons hT rfl ?_ | refine AQ.nil ?_); conv => whnf)
        refine AW.conv _ _ (Conv.freeze 0 rfl) ?_
        refine AW.plan hm (.one 0 (.imm 2 (.one 1 (.one 3 (.one 4 (.one 5 (.one 6 (.one 8 (.one 7 (.one 9 (.one 10 (.one 11 (.one 12 (.one 13 (.one 14 (.one 15 (.one 16 (.one 17 (.one 18 (.one 19 (.one 20 (.one 21 (.one 22 (.one 23 (.one 24 (.one 25 .nil)))))))))))))))))))))))))) (by kernel_rfl) ?_
        conv => whnf
        repeat ((first | refine AO.cons hT ?_ | refine AO.nil ?_ | refine AW.seq ?_ | refine AW.region ?_ | refine AW.cond ?_ | refine AW.block ?_ | refine AW.loop ?_ | refine AW.skip ?_ | refine AW.exit ?_ | refine AW.ret ?_ | refine AF.one hT rfl ?_ | refine AF.nil ?_ | refine AF.imm hT rfl rfl rfl ?_ | refine AH.of hT rfl ?_ | refine AD.cons hT rfl ?_ | refine AD.nil ?_ | refine AQ.cons hT rfl ?_ | refine AQ.nil ?_); conv => whnf)
        refine ACall.val (by kernel_rfl) (f23 m) (by simp [renL, AV.ren, mvC]) rfl ?_
        conv => whnf
        repeat ((first | refine AO.cons hT ?_ | refine AO.nil ?_ | refine AW.seq ?_ | refine AW.region ?_ | refine AW.cond ?_ | refine AW.block ?_ | refine AW.loop ?_ | refine AW.skip ?_ | refine AW.exit ?_ | refine AW.ret ?_ | refine AF.one hT rfl ?_ | refine AF.nil ?_ | refine AF.imm hT rfl rfl rfl ?_ | refine AH.of hT rfl ?_ | refine AD.cons hT rfl ?_ | refine AD.nil ?_ | refine AQ.cons hT rfl ?_ | refine AQ.nil ?_); conv => whnf)
        refine ACall.val (by kernel_rfl) (f24 m) (by simp [renL, AV.ren, mvC]) rfl ?_
        conv => whnf
        repeat ((first | refine AO.cons hT ?_ | refine AO.nil ?_ | refine AW.seq ?_ | refine AW.region ?_ | refine AW.cond ?_ | refine AW.block ?_ | refine AW.loop ?_ | refine AW.skip ?_ | refine AW.exit ?_ | refine AW.ret ?_ | refine AF.one hT rfl ?_ | refine AF.nil ?_ | refine AF.imm hT rfl rfl rfl ?_ | refine AH.of hT rfl ?_ | refine AD.cons hT rfl ?_ | refine AD.nil ?_ | refine AQ.cons hT rfl ?_ | refine AQ.nil ?_); conv => whnf)
        refine ASplit.yes (by simp) ?_
        conv => whnf
        repeat ((first | refine AO.cons hT ?_ | refine AO.nil ?_ | refine AW.seq ?_ | refine AW.region ?_ | refine AW.cond ?_ | refine AW.block ?_ | refine AW.loop ?_ | refine AW.skip ?_ | refine AW.exit ?_ | refine AW.ret ?_ | refine AF.one hT rfl ?_ | refine AF.nil ?_ | refine AF.imm hT rfl rfl rfl ?_ | refine AH.of hT rfl ?_ | refine AD.cons hT rfl ?_ | refine AD.nil ?_ | refine AQ.cons hT rfl ?_ | refine AQ.nil ?_); conv => whnf)
        refine ACall.val (by kernel_rfl) (f25 l (by omega)) (by simp [renL, AV.ren, renL_mvs, mvs]) rfl ?_
        conv => whnf
        repeat ((first | refine AO.cons hT ?_ | refine AO.nil ?_ | refine AW.seq ?_ | refine AW.region ?_ | refine AW.cond ?_ | refine AW.block ?_ | refine AW.loop ?_ | refine AW.skip ?_ | refine AW.exit ?_ | refine AW.ret ?_ | refine AF.one hT rfl ?_ | refine AF.nil ?_ | refine AF.imm hT rfl rfl rfl ?_ | refine AH.of hT rfl ?_ | refine AD.cons hT rfl ?_ | refine AD.nil ?_ | refine AQ.cons hT rfl ?_ | refine AQ.nil ?_); conv => whnf)
        refine ACall.val (by kernel_rfl) (f26 l (by omega)) (by simp [renL, AV.ren, renL_mvs, mvs]) rfl ?_
        conv => whnf
        repeat ((first | refine AO.cons hT ?_ | refine AO.nil ?_ | refine AW.seq ?_ | refine AW.region ?_ | refine AW.cond ?_ | refine AW.block ?_ | refine AW.loop ?_ | refine AW.skip ?_ | refine AW.exit ?_ | refine AW.ret ?_ | refine AF.one hT rfl ?_ | refine AF.nil ?_ | refine AF.imm hT rfl rfl rfl ?_ | refine AH.of hT rfl ?_ | refine AD.cons hT rfl ?_ | refine AD.nil ?_ | refine AQ.cons hT rfl ?_ | refine AQ.nil ?_); conv => whnf)
        refine ASplit.yes (by simp) ?_
        conv => whnf
        repeat ((first | refine AO.cons hT ?_ | refine AO.nil ?_ | refine AW.seq ?_ | refine AW.region ?_ | refine AW.cond ?_ | refine AW.block ?_ | refine AW.loop ?_ | refine AW.skip ?_ | refine AW.exit ?_ | refine AW.ret ?_ | refine AF.one hT rfl ?_ | refine AF.nil ?_ | refine AF.imm hT rfl rfl rfl ?_ | refine AH.of hT rfl ?_ | refine AD.cons hT rfl ?_ | refine AD.nil ?_ | refine AQ.cons hT rfl ?_ | refine AQ.nil ?_); conv => whnf)
        refine ACall.fun (by kernel_rfl) hsm [1, 2] (by intro l' hl'; simp at hl'; rcases hl' with rfl | rfl <;> exact ⟨_, _, rfl⟩) (.cons (.ms (.inl ⟨by show (1 : Nat) ∈ [1, 2]; simp, rfl⟩) ?_ ?_) (.cons (.ms (.inl ⟨by show (2 : Nat) ∈ [1, 2]; simp, rfl⟩) ?_ ?_) .nil)) (.inr trivial) rfl ?_
        · rw [renL_mvs, mvs_len, hln]; omega
        · rw [renL_mvs, renL_mvs, List.drop_zero, List.take_of_length_le (by rw [mvs_len, hln]; exact Nat.le_refl _)]
        · rw [renL_mvs, mvs_len, hln]; omega
        · rw [renL_mvs, renL_mvs, List.drop_zero, List.take_of_length_le (by rw [mvs_len, hln]; exact Nat.le_refl _)]
        conv => whnf
        repeat (first | (refine AO.cons hT ?_; conv => whnf) | (refine AO.nil ?_; conv => whnf) | (refine AW.seq ?_; conv => whnf) | (refine AW.region ?_; conv => whnf) | (refine AW.cond ?_; conv => whnf) | (refine AW.block ?_; conv => whnf) | (refine AW.loop ?_; conv => whnf) | (refine AW.skip ?_; conv => whnf) | (refine AW.exit ?_; conv => whnf) | (refine AW.ret ?_; conv => whnf) | (refine AF.one hT rfl ?_; conv => whnf) | (refine AF.nil ?_; conv => whnf) | (refine AF.imm hT rfl rfl rfl ?_; conv => whnf) | (refine AH.of hT rfl ?_; conv => whnf) | (refine ASplit.yes rfl ?_; conv => whnf) | (refine ACond.yes rfl ?_; conv => whnf) | (refine ASplit.no rfl ?_; conv => whnf) | (refine ACond.no rfl ?_; conv => whnf) | (refine ASplit.yes (by decide) ?_; conv => whnf) | (refine ACond.yes (by decide) ?_; conv => whnf) | (refine AReq.mk (by decide) ?_; conv => whnf) | (refine AIdx.iff.2 ⟨by decide, ?_⟩; conv => whnf))
        refine ACall.val (by kernel_rfl) hawake rfl rfl ?_
        conv => whnf
        repeat ((first | refine AO.cons hT ?_ | refine AO.nil ?_ | refine AW.seq ?_ | refine AW.region ?_ | refine AW.cond ?_ | refine AW.block ?_ | refine AW.loop ?_ | refine AW.skip ?_ | refine AW.exit ?_ | refine AW.ret ?_ | refine AF.one hT rfl ?_ | refine AF.nil ?_ | refine AF.imm hT rfl rfl rfl ?_ | refine AH.of hT rfl ?_ | refine AD.cons hT rfl ?_ | refine AD.nil ?_ | refine AQ.cons hT rfl ?_ | refine AQ.nil ?_); conv => whnf)
        exact hfin
      · conv => whnf
        repeat ((first | refine AO.cons hT ?_ | refine AO.nil ?_ | refine AW.seq ?_ | refine AW.region ?_ | refine AW.cond ?_ | refine AW.block ?_ | refine AW.loop ?_ | refine AW.skip ?_ | refine AW.exit ?_ | refine AW.ret ?_ | refine AF.one hT rfl ?_ | refine AF.nil ?_ | refine AF.imm hT rfl rfl rfl ?_ | refine AH.of hT rfl ?_ | refine AD.cons hT rfl ?_ | refine AD.nil ?_ | refine AQ.cons hT rfl ?_ | refine AQ.nil ?_); conv => whnf)
        refine ACall.spec (by kernel_rfl) h22 (by simp [renL, AV.ren, renL_mvs, mvs, mvC]) ?_
        rintro _ _ (⟨hz', _⟩ | ⟨_, rfl, rfl⟩)
        · exact absurd hz' hz
        conv => whnf
        repeat ((first | refine AO.cons hT ?_ | refine AO.nil ?_ | refine AW.seq ?_ | refine AW.region ?_ | refine AW.cond ?_ | refine AW.block ?_ | refine AW.loop ?_ | refine AW.skip ?_ | refine AW.exit ?_ | refine AW.ret ?_ | refine AF.one hT rfl ?_ | refine AF.nil ?_ | refine AF.imm hT rfl rfl rfl ?_ | refine AH.of hT rfl ?_ | refine AD.cons hT rfl ?_ | refine AD.nil ?_ | refine AQ.cons hT rfl ?_ | refine AQ.nil ?_); conv => whnf)
        refine AW.conv _ _ (Conv.freeze 0 rfl) ?_
        refine AW.plan hm (.one 0 (.imm 2 (.one 1 (.one 3 (.one 4 (.one 5 (.one 6 (.one 8 (.one 7 (.one 9 (.one 10 (.one 11 (.one 12 (.one 13 (.one 14 (.one 15 (.one 16 (.one 17 (.one 18 (.one 19 (.one 20 (.one 21 (.one 22 (.one 23 (.one 24 (.one 25 .nil)))))))))))))))))))))))))) (by kernel_rfl) ?_
        conv => whnf
        repeat ((first | refine AO.cons hT ?_ | refine AO.nil ?_ | refine AW.seq ?_ | refine AW.region ?_ | refine AW.cond ?_ | refine AW.block ?_ | refine AW.loop ?_ | refine AW.skip ?_ | refine AW.exit ?_ | refine AW.ret ?_ | refine AF.one hT rfl ?_ | refine AF.nil ?_ | refine AF.imm hT rfl rfl rfl ?_ | refine AH.of hT rfl ?_ | refine AD.cons hT rfl ?_ | refine AD.nil ?_ | refine AQ.cons hT rfl ?_ | refine AQ.nil ?_); conv => whnf)
        refine ACall.val (by kernel_rfl) (f23 m) (by simp [renL, AV.ren, mvC]) rfl ?_
        conv => whnf
        repeat ((first | refine AO.cons hT ?_ | refine AO.nil ?_ | refine AW.seq ?_ | refine AW.region ?_ | refine AW.cond ?_ | refine AW.block ?_ | refine AW.loop ?_ | refine AW.skip ?_ | refine AW.exit ?_ | refine AW.ret ?_ | refine AF.one hT rfl ?_ | refine AF.nil ?_ | refine AF.imm hT rfl rfl rfl ?_ | refine AH.of hT rfl ?_ | refine AD.cons hT rfl ?_ | refine AD.nil ?_ | refine AQ.cons hT rfl ?_ | refine AQ.nil ?_); conv => whnf)
        refine ACall.val (by kernel_rfl) (f24 m) (by simp [renL, AV.ren, mvC]) rfl ?_
        conv => whnf
        repeat ((first | refine AO.cons hT ?_ | refine AO.nil ?_ | refine AW.seq ?_ | refine AW.region ?_ | refine AW.cond ?_ | refine AW.block ?_ | refine AW.loop ?_ | refine AW.skip ?_ | refine AW.exit ?_ | refine AW.ret ?_ | refine AF.one hT rfl ?_ | refine AF.nil ?_ | refine AF.imm hT rfl rfl rfl ?_ | refine AH.of hT rfl ?_ | refine AD.cons hT rfl ?_ | refine AD.nil ?_ | refine AQ.cons hT rfl ?_ | refine AQ.nil ?_); conv => whnf)
        refine ASplit.yes (by simp) ?_
        conv => whnf
        repeat ((first | refine AO.cons hT ?_ | refine AO.nil ?_ | refine AW.seq ?_ | refine AW.region ?_ | refine AW.cond ?_ | refine AW.block ?_ | refine AW.loop ?_ | refine AW.skip ?_ | refine AW.exit ?_ | refine AW.ret ?_ | refine AF.one hT rfl ?_ | refine AF.nil ?_ | refine AF.imm hT rfl rfl rfl ?_ | refine AH.of hT rfl ?_ | refine AD.cons hT rfl ?_ | refine AD.nil ?_ | refine AQ.cons hT rfl ?_ | refine AQ.nil ?_); conv => whnf)
        refine ACall.val (by kernel_rfl) (f25 l (by omega)) (by simp [renL, AV.ren, renL_mvs, mvs]) rfl ?_
        conv => whnf
        repeat ((first | refine AO.cons hT ?_ | refine AO.nil ?_ | refine AW.seq ?_ | refine AW.region ?_ | refine AW.cond ?_ | refine AW.block ?_ | refine AW.loop ?_ | refine AW.skip ?_ | refine AW.exit ?_ | refine AW.ret ?_ | refine AF.one hT rfl ?_ | refine AF.nil ?_ | refine AF.imm hT rfl rfl rfl ?_ | refine AH.of hT rfl ?_ | refine AD.cons hT rfl ?_ | refine AD.nil ?_ | refine AQ.cons hT rfl ?_ | refine AQ.nil ?_); conv => whnf)
        refine ACall.val (by kernel_rfl) (f26 l (by omega)) (by simp [renL, AV.ren, renL_mvs, mvs]) rfl ?_
        conv => whnf
        repeat ((first | refine AO.cons hT ?_ | refine AO.nil ?_ | refine AW.seq ?_ | refine AW.region ?_ | refine AW.cond ?_ | refine AW.block ?_ | refine AW.loop ?_ | refine AW.skip ?_ | refine AW.exit ?_ | refine AW.ret ?_ | refine AF.one hT rfl ?_ | refine AF.nil ?_ | refine AF.imm hT rfl rfl rfl ?_ | refine AH.of hT rfl ?_ | refine AD.cons hT rfl ?_ | refine AD.nil ?_ | refine AQ.cons hT rfl ?_ | refine AQ.nil ?_); conv => whnf)
        refine ASplit.yes (by simp) ?_
        conv => whnf
        repeat ((first | refine AO.cons hT ?_ | refine AO.nil ?_ | refine AW.seq ?_ | refine AW.region ?_ | refine AW.cond ?_ | refine AW.block ?_ | refine AW.loop ?_ | refine AW.skip ?_ | refine AW.exit ?_ | refine AW.ret ?_ | refine AF.one hT rfl ?_ | refine AF.nil ?_ | refine AF.imm hT rfl rfl rfl ?_ | refine AH.of hT rfl ?_ | refine AD.cons hT rfl ?_ | refine AD.nil ?_ | refine AQ.cons hT rfl ?_ | refine AQ.nil ?_); conv => whnf)
        refine ACall.fun (by kernel_rfl) hsn0 [] (by simp) (.cons .nil (.cons .nil .nil)) (.inl rfl) rfl ?_
        conv => whnf
        repeat (first | (refine AO.cons hT ?_; conv => whnf) | (refine AO.nil ?_; conv => whnf) | (refine AW.seq ?_; conv => whnf) | (refine AW.region ?_; conv => whnf) | (refine AW.cond ?_; conv => whnf) | (refine AW.block ?_; conv => whnf) | (refine AW.loop ?_; conv => whnf) | (refine AW.skip ?_; conv => whnf) | (refine AW.exit ?_; conv => whnf) | (refine AW.ret ?_; conv => whnf) | (refine AF.one hT rfl ?_; conv => whnf) | (refine AF.nil ?_; conv => whnf) | (refine AF.imm hT rfl rfl rfl ?_; conv => whnf) | (refine AH.of hT rfl ?_; conv => whnf) | (refine ASplit.yes rfl ?_; conv => whnf) | (refine ACond.yes rfl ?_; conv => whnf) | (refine ASplit.no rfl ?_; conv => whnf) | (refine ACond.no rfl ?_; conv => whnf) | (refine ASplit.yes (by decide) ?_; conv => whnf) | (refine ACond.yes (by decide) ?_; conv => whnf) | (refine AReq.mk (by decide) ?_; conv => whnf) | (refine AIdx.iff.2 ⟨by decide, ?_⟩; conv => whnf))
        refine ASplit.yes (by simp) ?_
        conv => whnf
        repeat (first | (refine AO.cons hT ?_; conv => whnf) | (refine AO.nil ?_; conv => whnf) | (refine AW.seq ?_; conv => whnf) | (refine AW.region ?_; conv => whnf) | (refine AW.cond ?_; conv => whnf) | (refine AW.block ?_; conv => whnf) | (refine AW.loop ?_; conv => whnf) | (refine AW.skip ?_; conv => whnf) | (refine AW.exit ?_; conv => whnf) | (refine AW.ret ?_; conv => whnf) | (refine AF.one hT rfl ?_; conv => whnf) | (refine AF.nil ?_; conv => whnf) | (refine AF.imm hT rfl rfl rfl ?_; conv => whnf) | (refine AH.of hT rfl ?_; conv => whnf) | (refine ASplit.yes rfl ?_; conv => whnf) | (refine ACond.yes rfl ?_; conv => whnf) | (refine ASplit.no rfl ?_; conv => whnf) | (refine ACond.no rfl ?_; conv => whnf) | (refine ASplit.yes (by decide) ?_; conv => whnf) | (refine ACond.yes (by decide) ?_; conv => whnf) | (refine AReq.mk (by decide) ?_; conv => whnf) | (refine AIdx.iff.2 ⟨by decide, ?_⟩; conv => whnf))
        refine ACall.val (by kernel_rfl) hawake rfl rfl ?_
        conv => whnf
        repeat ((first | refine AO.cons hT ?_ | refine AO.nil ?_ | refine AW.seq ?_ | refine AW.region ?_ | refine AW.cond ?_ | refine AW.block ?_ | refine AW.loop ?_ | refine AW.skip ?_ | refine AW.exit ?_ | refine AW.ret ?_ | refine AF.one hT rfl ?_ | refine AF.nil ?_ | refine AF.imm hT rfl rfl rfl ?_ | refine AH.of hT rfl ?_ | refine AD.cons hT rfl ?_ | refine AD.nil ?_ | refine AQ.cons hT rfl ?_ | refine AQ.nil ?_); conv => whnf)
        exact hfin
end Go.Aw.R1

set_option linter.unusedSimpArgs false
set_option linter.unusedVariables false
set_option maxHeartbeats 4000000
namespace Go.Aw.R1
open Go

theorem good_take {l : List Mv} (h : good l) (i : Nat) : good (l.take i) := by
  refine ⟨by have := h.1; simp; omega, fun k hk => ?_⟩
  have hk' : k < l.length := by simp at hk; omega
  have hki : k < i := by simp at hk; omega
  have := h.2 k hk'
  rw [List.getElem_take, List.take_take, Nat.min_eq_left (by omega)]
  exact this

theorem pre_ok {l : List Mv} (h : good l) (p : Bool) (i : Int) : ∀ k, k ≤ l.length → 0 ≤ sumOf (l.take k) p i ∧ sumOf (l.take k) p i ≤ 1000000
  | 0, _ => by simp [sumOf_nil]
  | k + 1, hk => by
    have ih := pre_ok h p i k (by omega)
    have hs := sumOf_snoc (l.take k) l[k] p i
    rw [← take_snoc l k (by omega)] at hs
    have ho := h.2 k (by omega)
    by_cases hm : mat l[k] p i = true
    · have e := (mat_iff l[k] (p, i)).1 hm
      simp only [Prod.mk.injEq] at e
      rw [e.1, e.2] at ho
      exact ho.2
    · rw [if_neg hm] at hs
      rw [hs]; exact ih

theorem turnF_len (l : List Mv) : (turnF l).length = l.length := by simp [turnF]
theorem turnF_get (l : List Mv) (j : Nat) (h : j < l.length) : (turnF l)[j]'(by rw [turnF_len]; exact h) = neg (l[l.length - 1 - j]'(by omega)) := by
  simp [turnF, List.getElem_reverse]

theorem back_sum (l : List Mv) (p : Bool) (i : Int) : ∀ j, j ≤ l.length → sumOf (l ++ (turnF l).take j) p i = sumOf (l.take (l.length - j)) p i
  | 0, _ => by simp
  | j + 1, hj => by
    have ih := back_sum l p i j (by omega)
    have hjt : j < (turnF l).length := by rw [turnF_len]; omega
    rw [take_snoc _ j hjt, ← List.append_assoc, sumOf_snoc, ih, turnF_get l j (by omega)]
    have hk : l.length - j = (l.length - (j + 1)) + 1 := by omega
    have hs := sumOf_snoc (l.take (l.length - (j + 1))) (l[l.length - 1 - j]'(by omega)) p i
    have he : l.take (l.length - j) = l.take (l.length - (j + 1)) ++ [l[l.length - 1 - j]'(by omega)] := by
      rw [hk, take_snoc l _ (by omega)]
      congr 3; omega
    rw [he, hs]
    have hmat : mat (neg (l[l.length - 1 - j]'(by omega))) p i = mat (l[l.length - 1 - j]'(by omega)) p i := rfl
    rw [hmat]
    split
    · simp only [neg]; omega
    · rfl

theorem good_both {l : List Mv} (h : good l) (hl : l.length ≤ 500) : good (l ++ turnF l) := by
  refine ⟨by rw [List.length_append, turnF_len]; omega, fun k hk => ?_⟩
  rw [List.length_append, turnF_len] at hk
  by_cases hkl : k < l.length
  · have := h.2 k hkl
    rw [List.getElem_append_left hkl, List.take_append_of_le_length (by omega)]
    exact this
  · have hj : k - l.length < l.length := by omega
    rw [List.getElem_append_right (by omega), turnF_get l _ hj]
    have ht : (l ++ turnF l).take (k + 1) = l ++ (turnF l).take (k - l.length + 1) := by
      rw [List.take_append, List.take_of_length_le (by omega)]
      congr 2; omega
    rw [ht, back_sum l _ _ (k - l.length + 1) (by omega)]
    have hq := (h.2 (l.length - 1 - (k - l.length)) (by omega)).1
    refine ⟨?_, pre_ok h _ _ _ (by omega)⟩
    unfold mok neg at *
    simp only
    omega

theorem both_zero (l : List Mv) (p : Bool) (i : Int) : sumOf (l ++ turnF l) p i = 0 := by
  have := back_sum l p i l.length (Nat.le_refl _)
  rw [List.take_of_length_le (by rw [turnF_len]; exact Nat.le_refl _), Nat.sub_self, List.take_zero, sumOf_nil] at this
  exact this

theorem f9 (hso : SortOk) (hsn : SortNil) (l : List Mv) (p : Bool) (id : Int) (hid : thOk (p, id)) : Spec P 9 [mvs l, .v (.bool p), nV id] [] fun r _ => r = .v (.bool true) := by
  refine spec_of hT (f := 9) (fn := Go.Proofs.Try.f9) (c := body Go.Proofs.Try.f9) (by kernel_rfl) (by kernel_rfl) ?_
  have hawake := f20 hso hsn
  have hfin : ∀ {H : List ABlk}, AFin 0 (.v (.bool true)) H (fun r _ => r = .v (.bool true)) := AFin.mk rfl
  conv => whnf
  repeat ((first | refine AO.cons hT ?_ | refine AO.nil ?_ | refine AW.seq ?_ | refine AW.region ?_ | refine AW.cond ?_ | refine AW.block ?_ | refine AW.loop ?_ | refine AW.skip ?_ | refine AW.exit ?_ | refine AW.ret ?_ | refine AF.one hT rfl ?_ | refine AF.nil ?_ | refine AF.imm hT rfl rfl rfl ?_ | refine AH.of hT rfl ?_ | refine AD.cons hT rfl ?_ | refine AD.nil ?_ | refine AQ.cons hT rfl ?_ | refine AQ.nil ?_); conv => whnf)
  refine ASplit.dec (fun h => ?_) (fun h => ?_)
  · conv => whnf
    repeat (first | (refine AO.cons hT ?_; conv => whnf) | (refine AO.nil ?_; conv => whnf) | (refine AW.seq ?_; conv => whnf) | (refine AW.region ?_; conv => whnf) | (refine AW.cond ?_; conv => whnf) | (refine AW.block ?_; conv => whnf) | (refine AW.loop ?_; conv => whnf) | (refine AW.skip ?_; conv => whnf) | (refine AW.exit ?_; conv => whnf) | (refine AW.ret ?_; conv => whnf) | (refine AF.one hT rfl ?_; conv => whnf) | (refine AF.nil ?_; conv => whnf) | (refine AF.imm hT rfl rfl rfl ?_; conv => whnf) | (refine AH.of hT rfl ?_; conv => whnf) | (refine ASplit.yes rfl ?_; conv => whnf) | (refine ACond.yes rfl ?_; conv => whnf) | (refine ASplit.no rfl ?_; conv => whnf) | (refine ACond.no rfl ?_; conv => whnf) | (refine ASplit.yes (by decide) ?_; conv => whnf) | (refine ACond.yes (by decide) ?_; conv => whnf) | (refine AReq.mk (by decide) ?_; conv => whnf) | (refine AIdx.iff.2 ⟨by decide, ?_⟩; conv => whnf))
    refine ACall.val (by kernel_rfl) hawake rfl rfl ?_
    conv => whnf
    repeat ((first | refine AO.cons hT ?_ | refine AO.nil ?_ | refine AW.seq ?_ | refine AW.region ?_ | refine AW.cond ?_ | refine AW.block ?_ | refine AW.loop ?_ | refine AW.skip ?_ | refine AW.exit ?_ | refine AW.ret ?_ | refine AF.one hT rfl ?_ | refine AF.nil ?_ | refine AF.imm hT rfl rfl rfl ?_ | refine AH.of hT rfl ?_ | refine AD.cons hT rfl ?_ | refine AD.nil ?_ | refine AQ.cons hT rfl ?_ | refine AQ.nil ?_); conv => whnf)
    exact hfin
  have hl : l.length ≤ 200 := by omega
  conv => whnf
  repeat ((first | refine AO.cons hT ?_ | refine AO.nil ?_ | refine AW.seq ?_ | refine AW.region ?_ | refine AW.cond ?_ | refine AW.block ?_ | refine AW.loop ?_ | refine AW.skip ?_ | refine AW.exit ?_ | refine AW.ret ?_ | refine AF.one hT rfl ?_ | refine AF.nil ?_ | refine AF.imm hT rfl rfl rfl ?_ | refine AH.of hT rfl ?_ | refine AD.cons hT rfl ?_ | refine AD.nil ?_ | refine AQ.cons hT rfl ?_ | refine AQ.nil ?_); conv => whnf)
  refine ACall.val (by kernel_rfl) (f25 l (by omega)) (by simp [renL, AV.ren, renL_mvs, mvs]) rfl ?_
  by_cases hg : good l
  · rw [chkF_yes hg]
    conv => whnf
    repeat (first | (refine AO.cons hT ?_; conv => whnf) | (refine AO.nil ?_; conv => whnf) | (refine AW.seq ?_; conv => whnf) | (refine AW.region ?_; conv => whnf) | (refine AW.cond ?_; conv => whnf) | (refine AW.block ?_; conv => whnf) | (refine AW.loop ?_; conv => whnf) | (refine AW.skip ?_; conv => whnf) | (refine AW.exit ?_; conv => whnf) | (refine AW.ret ?_; conv => whnf) | (refine AF.one hT rfl ?_; conv => whnf) | (refine AF.nil ?_; conv => whnf) | (refine AF.imm hT rfl rfl rfl ?_; conv => whnf) | (refine AH.of hT rfl ?_; conv => whnf) | (refine ASplit.yes rfl ?_; conv => whnf) | (refine ACond.yes rfl ?_; conv => whnf) | (refine ASplit.no rfl ?_; conv => whnf) | (refine ACond.no rfl ?_; conv => whnf) | (refine ASplit.yes (by decide) ?_; conv => whnf) | (refine ACond.yes (by decide) ?_; conv => whnf) | (refine AReq.mk (by decide) ?_; conv => whnf) | (refine AIdx.iff.2 ⟨by decide, ?_⟩; conv => whnf))
    refine ALoop.mk (fun n E H => ∃ i : Nat, i ≤ l.length + 1 ∧ n = l.length + 1 - i ∧ E = pad [mvs l, .v (.bool p), nV id, .any, .any, .any, .v (.bool false), .v (.int .i64 i)] 73 ∧ H = []) (n := l.length + 1) _ _ ⟨0, by omega, rfl, rfl, rfl⟩ (Conv.fit ?_) ?_
    · repeat' (first | exact Fit.nil | refine Fit.any ?_ | refine Fit.same ?_)
    rintro _ _ _ ⟨i, hi, rfl, rfl, rfl⟩
    conv => whnf
    repeat ((first | refine AO.cons hT ?_ | refine AO.nil ?_ | refine AW.seq ?_ | refine AW.region ?_ | refine AW.cond ?_ | refine AW.block ?_ | refine AW.loop ?_ | refine AW.skip ?_ | refine AW.exit ?_ | refine AW.ret ?_ | refine AF.one hT rfl ?_ | refine AF.nil ?_ | refine AF.imm hT rfl rfl rfl ?_ | refine AH.of hT rfl ?_ | refine AD.cons hT rfl ?_ | refine AD.nil ?_ | refine AQ.cons hT rfl ?_ | refine AQ.nil ?_); conv => whnf)
    refine ACond.dec (fun h => ?_) (fun h => ?_)
    · have hil : i ≤ l.length := by omega
      have e1 : Int.toNat (i : Int) = i := by omega
      conv => whnf
      repeat ((first | refine AO.cons hT ?_ | refine AO.nil ?_ | refine AW.seq ?_ | refine AW.region ?_ | refine AW.cond ?_ | refine AW.block ?_ | refine AW.loop ?_ | refine AW.skip ?_ | refine AW.exit ?_ | refine AW.ret ?_ | refine AF.one hT rfl ?_ | refine AF.nil ?_ | refine AF.imm hT rfl rfl rfl ?_ | refine AH.of hT rfl ?_ | refine AD.cons hT rfl ?_ | refine AD.nil ?_ | refine AQ.cons hT rfl ?_ | refine AQ.nil ?_); conv => whnf)
      refine AReq.mk (by omega) ?_
      rw [e1]
      refine ACut.iff.2 ⟨by rw [mvs_len]; simp; omega, ?_⟩
      conv => whnf
      repeat ((first | refine AO.cons hT ?_ | refine AO.nil ?_ | refine AW.seq ?_ | refine AW.region ?_ | refine AW.cond ?_ | refine AW.block ?_ | refine AW.loop ?_ | refine AW.skip ?_ | refine AW.exit ?_ | refine AW.ret ?_ | refine AF.one hT rfl ?_ | refine AF.nil ?_ | refine AF.imm hT rfl rfl rfl ?_ | refine AH.of hT rfl ?_ | refine AD.cons hT rfl ?_ | refine AD.nil ?_ | refine AQ.cons hT rfl ?_ | refine AQ.nil ?_); conv => whnf)
      rw [cut_take l i hil]
      refine ACall.val (by kernel_rfl) (f32 (l.take i) p id (by simp; omega) hid) (by simp [renL, AV.ren, renL_mvs, mvs, nV]) rfl ?_
      have hv : ofF' (l.take i) p id = sumOf (l.take i) p id := if_pos (good_take hg i)
      have hpo := pre_ok hg p id i hil
      rw [hv]
      conv => whnf
      repeat ((first | refine AO.cons hT ?_ | refine AO.nil ?_ | refine AW.seq ?_ | refine AW.region ?_ | refine AW.cond ?_ | refine AW.block ?_ | refine AW.loop ?_ | refine AW.skip ?_ | refine AW.exit ?_ | refine AW.ret ?_ | refine AF.one hT rfl ?_ | refine AF.nil ?_ | refine AF.imm hT rfl rfl rfl ?_ | refine AH.of hT rfl ?_ | refine AD.cons hT rfl ?_ | refine AD.nil ?_ | refine AQ.cons hT rfl ?_ | refine AQ.nil ?_); conv => whnf)
      refine ASplit.no (by simp only [decide_eq_false_iff_not]; omega) ?_
      conv => whnf
      repeat ((first | refine AO.cons hT ?_ | refine AO.nil ?_ | refine AW.seq ?_ | refine AW.region ?_ | refine AW.cond ?_ | refine AW.block ?_ | refine AW.loop ?_ | refine AW.skip ?_ | refine AW.exit ?_ | refine AW.ret ?_ | refine AF.one hT rfl ?_ | refine AF.nil ?_ | refine AF.imm hT rfl rfl rfl ?_ | refine AH.of hT rfl ?_ | refine AD.cons hT rfl ?_ | refine AD.nil ?_ | refine AQ.cons hT rfl ?_ | refine AQ.nil ?_); conv => whnf)
      refine ASplit.no (by simp only [decide_eq_false_iff_not]; omega) ?_
      conv => whnf
      repeat ((first | refine AO.cons hT ?_ | refine AO.nil ?_ | refine AW.seq ?_ | refine AW.region ?_ | refine AW.cond ?_ | refine AW.block ?_ | refine AW.loop ?_ | refine AW.skip ?_ | refine AW.exit ?_ | refine AW.ret ?_ | refine AF.one hT rfl ?_ | refine AF.nil ?_ | refine AF.imm hT rfl rfl rfl ?_ | refine AH.of hT rfl ?_ | refine AD.cons hT rfl ?_ | refine AD.nil ?_ | refine AQ.cons hT rfl ?_ | refine AQ.nil ?_); conv => whnf)
      refine AReq.mk (by omega) ?_
      rw [e1]
      refine ACut.iff.2 ⟨by rw [mvs_len]; simp; omega, ?_⟩
      conv => whnf
      repeat ((first | refine AO.cons hT ?_ | refine AO.nil ?_ | refine AW.seq ?_ | refine AW.region ?_ | refine AW.cond ?_ | refine AW.block ?_ | refine AW.loop ?_ | refine AW.skip ?_ | refine AW.exit ?_ | refine AW.ret ?_ | refine AF.one hT rfl ?_ | refine AF.nil ?_ | refine AF.imm hT rfl rfl rfl ?_ | refine AH.of hT rfl ?_ | refine AD.cons hT rfl ?_ | refine AD.nil ?_ | refine AQ.cons hT rfl ?_ | refine AQ.nil ?_); conv => whnf)
      rw [cut_take l i hil]
      refine ACall.val (by kernel_rfl) (f25 (l.take i) (by simp; omega)) (by simp [renL, AV.ren, renL_mvs, mvs]) rfl ?_
      rw [chkF_yes (good_take hg i)]
      conv => whnf
      repeat (first | (refine AO.cons hT ?_; conv => whnf) | (refine AO.nil ?_; conv => whnf) | (refine AW.seq ?_; conv => whnf) | (refine AW.region ?_; conv => whnf) | (refine AW.cond ?_; conv => whnf) | (refine AW.block ?_; conv => whnf) | (refine AW.loop ?_; conv => whnf) | (refine AW.skip ?_; conv => whnf) | (refine AW.exit ?_; conv => whnf) | (refine AW.ret ?_; conv => whnf) | (refine AF.one hT rfl ?_; conv => whnf) | (refine AF.nil ?_; conv => whnf) | (refine AF.imm hT rfl rfl rfl ?_; conv => whnf) | (refine AH.of hT rfl ?_; conv => whnf) | (refine ASplit.yes rfl ?_; conv => whnf) | (refine ACond.yes rfl ?_; conv => whnf) | (refine ASplit.no rfl ?_; conv => whnf) | (refine ACond.no rfl ?_; conv => whnf) | (refine ASplit.yes (by decide) ?_; conv => whnf) | (refine ACond.yes (by decide) ?_; conv => whnf) | (refine AReq.mk (by decide) ?_; conv => whnf) | (refine AIdx.iff.2 ⟨by decide, ?_⟩; conv => whnf))
      rw [wrap_i64 ((i : Int) + 1) (by omega) (by omega)]
      refine AHead.mk (l.length + 1 - (i + 1)) _ _ (by omega) ⟨i + 1, by omega, rfl, rfl, rfl⟩ (Conv.fit ?_)
      repeat' (first | exact Fit.nil | refine Fit.any ?_ | refine Fit.same ?_)
    · obtain rfl : i = l.length + 1 := by omega
      conv => whnf
      repeat ((first | refine AO.cons hT ?_ | refine AO.nil ?_ | refine AW.seq ?_ | refine AW.region ?_ | refine AW.cond ?_ | refine AW.block ?_ | refine AW.loop ?_ | refine AW.skip ?_ | refine AW.exit ?_ | refine AW.ret ?_ | refine AF.one hT rfl ?_ | refine AF.nil ?_ | refine AF.imm hT rfl rfl rfl ?_ | refine AH.of hT rfl ?_ | refine AD.cons hT rfl ?_ | refine AD.nil ?_ | refine AQ.cons hT rfl ?_ | refine AQ.nil ?_); conv => whnf)
      refine AOut.stay ?_
      conv => whnf
      repeat ((first | refine AO.cons hT ?_ | refine AO.nil ?_ | refine AW.seq ?_ | refine AW.region ?_ | refine AW.cond ?_ | refine AW.block ?_ | refine AW.loop ?_ | refine AW.skip ?_ | refine AW.exit ?_ | refine AW.ret ?_ | refine AF.one hT rfl ?_ | refine AF.nil ?_ | refine AF.imm hT rfl rfl rfl ?_ | refine AH.of hT rfl ?_ | refine AD.cons hT rfl ?_ | refine AD.nil ?_ | refine AQ.cons hT rfl ?_ | refine AQ.nil ?_); conv => whnf)
      refine ACall.spec (by kernel_rfl) (f30 l (by omega)) (by simp [renL, AV.ren, renL_mvs, mvs]) ?_
      have eb : (T 41).bytes = 24 := rfl
      have esz : (T 41).size = 3 := rfl
      have hgb := good_both hg (by omega)
      have hz : ofF' (l ++ turnF l) p id = 0 := by rw [ofF', if_pos hgb, both_zero]
      rintro _ _ (⟨_, hnil, rfl, rfl⟩ | ⟨_, hne, rfl, rfl⟩ | ⟨hng, _⟩)
      · subst hnil
        conv => whnf
        repeat ((first | refine AO.cons hT ?_ | refine AO.nil ?_ | refine AW.seq ?_ | refine AW.region ?_ | refine AW.cond ?_ | refine AW.block ?_ | refine AW.loop ?_ | refine AW.skip ?_ | refine AW.exit ?_ | refine AW.ret ?_ | refine AF.one hT rfl ?_ | refine AF.nil ?_ | refine AF.imm hT rfl rfl rfl ?_ | refine AH.of hT rfl ?_ | refine AD.cons hT rfl ?_ | refine AD.nil ?_ | refine AQ.cons hT rfl ?_ | refine AQ.nil ?_); conv => whnf)
        refine AReq.mk (by rw [eb]; omega) ?_
        conv => whnf
        repeat (first | (refine AO.cons hT ?_; conv => whnf) | (refine AO.nil ?_; conv => whnf) | (refine AW.seq ?_; conv => whnf) | (refine AW.region ?_; conv => whnf) | (refine AW.cond ?_; conv => whnf) | (refine AW.block ?_; conv => whnf) | (refine AW.loop ?_; conv => whnf) | (refine AW.skip ?_; conv => whnf) | (refine AW.exit ?_; conv => whnf) | (refine AW.ret ?_; conv => whnf) | (refine AF.one hT rfl ?_; conv => whnf) | (refine AF.nil ?_; conv => whnf) | (refine AF.imm hT rfl rfl rfl ?_; conv => whnf) | (refine AH.of hT rfl ?_; conv => whnf) | (refine ASplit.yes rfl ?_; conv => whnf) | (refine ACond.yes rfl ?_; conv => whnf) | (refine ASplit.no rfl ?_; conv => whnf) | (refine ACond.no rfl ?_; conv => whnf) | (refine ASplit.yes (by decide) ?_; conv => whnf) | (refine ACond.yes (by decide) ?_; conv => whnf) | (refine AReq.mk (by decide) ?_; conv => whnf) | (refine AIdx.iff.2 ⟨by decide, ?_⟩; conv => whnf))
        refine ACall.fun (by kernel_rfl) (f25 [] (by decide)) [] (by simp) (.cons (.vx (cs' := []) rfl) .nil) (.inl rfl) rfl ?_
        rw [chkF_yes hg]
        conv => whnf
        repeat (first | (refine AO.cons hT ?_; conv => whnf) | (refine AO.nil ?_; conv => whnf) | (refine AW.seq ?_; conv => whnf) | (refine AW.region ?_; conv => whnf) | (refine AW.cond ?_; conv => whnf) | (refine AW.block ?_; conv => whnf) | (refine AW.loop ?_; conv => whnf) | (refine AW.skip ?_; conv => whnf) | (refine AW.exit ?_; conv => whnf) | (refine AW.ret ?_; conv => whnf) | (refine AF.one hT rfl ?_; conv => whnf) | (refine AF.nil ?_; conv => whnf) | (refine AF.imm hT rfl rfl rfl ?_; conv => whnf) | (refine AH.of hT rfl ?_; conv => whnf) | (refine ASplit.yes rfl ?_; conv => whnf) | (refine ACond.yes rfl ?_; conv => whnf) | (refine ASplit.no rfl ?_; conv => whnf) | (refine ACond.no rfl ?_; conv => whnf) | (refine ASplit.yes (by decide) ?_; conv => whnf) | (refine ACond.yes (by decide) ?_; conv => whnf) | (refine AReq.mk (by decide) ?_; conv => whnf) | (refine AIdx.iff.2 ⟨by decide, ?_⟩; conv => whnf))
        refine ACall.fun (by kernel_rfl) (f32 [] p id (by decide) hid) [] (by simp) (.cons (.vx (cs' := []) rfl) (.cons (.same rfl) (.cons (.same rfl) .nil))) (.inl rfl) rfl ?_
        rw [show ofF' [] p id = 0 from hz]
        conv => whnf
        repeat (first | (refine AO.cons hT ?_; conv => whnf) | (refine AO.nil ?_; conv => whnf) | (refine AW.seq ?_; conv => whnf) | (refine AW.region ?_; conv => whnf) | (refine AW.cond ?_; conv => whnf) | (refine AW.block ?_; conv => whnf) | (refine AW.loop ?_; conv => whnf) | (refine AW.skip ?_; conv => whnf) | (refine AW.exit ?_; conv => whnf) | (refine AW.ret ?_; conv => whnf) | (refine AF.one hT rfl ?_; conv => whnf) | (refine AF.nil ?_; conv => whnf) | (refine AF.imm hT rfl rfl rfl ?_; conv => whnf) | (refine AH.of hT rfl ?_; conv => whnf) | (refine ASplit.yes rfl ?_; conv => whnf) | (refine ACond.yes rfl ?_; conv => whnf) | (refine ASplit.no rfl ?_; conv => whnf) | (refine ACond.no rfl ?_; conv => whnf) | (refine ASplit.yes (by decide) ?_; conv => whnf) | (refine ACond.yes (by decide) ?_; conv => whnf) | (refine AReq.mk (by decide) ?_; conv => whnf) | (refine AIdx.iff.2 ⟨by decide, ?_⟩; conv => whnf))
        refine ACall.val (by kernel_rfl) hawake rfl rfl ?_
        conv => whnf
        repeat ((first | refine AO.cons hT ?_ | refine AO.nil ?_ | refine AW.seq ?_ | refine AW.region ?_ | refine AW.cond ?_ | refine AW.block ?_ | refine AW.loop ?_ | refine AW.skip ?_ | refine AW.exit ?_ | refine AW.ret ?_ | refine AF.one hT rfl ?_ | refine AF.nil ?_ | refine AF.imm hT rfl rfl rfl ?_ | refine AH.of hT rfl ?_ | refine AD.cons hT rfl ?_ | refine AD.nil ?_ | refine AQ.cons hT rfl ?_ | refine AQ.nil ?_); conv => whnf)
        exact hfin
      · have hl0 : l.length ≠ 0 := fun hc => hne (List.eq_nil_of_length_eq_zero hc)
        have hbl : (l ++ turnF l).length = l.length + l.length := by rw [List.length_append, turnF_len]
        simp only [List.map_cons, List.map_nil, ABlk.ren, renL_mvs, List.nil_append]
        conv => whnf
        repeat ((first | refine AO.cons hT ?_ | refine AO.nil ?_ | refine AW.seq ?_ | refine AW.region ?_ | refine AW.cond ?_ | refine AW.block ?_ | refine AW.loop ?_ | refine AW.skip ?_ | refine AW.exit ?_ | refine AW.ret ?_ | refine AF.one hT rfl ?_ | refine AF.nil ?_ | refine AF.imm hT rfl rfl rfl ?_ | refine AH.of hT rfl ?_ | refine AD.cons hT rfl ?_ | refine AD.nil ?_ | refine AQ.cons hT rfl ?_ | refine AQ.nil ?_); conv => whnf)
        refine AReq.mk (by rw [eb]; omega) ?_
        refine ASplit.no (by simp only [decide_eq_false_iff_not]; omega) ?_
        conv => whnf
        repeat ((first | refine AO.cons hT ?_ | refine AO.nil ?_ | refine AW.seq ?_ | refine AW.region ?_ | refine AW.cond ?_ | refine AW.block ?_ | refine AW.loop ?_ | refine AW.skip ?_ | refine AW.exit ?_ | refine AW.ret ?_ | refine AF.one hT rfl ?_ | refine AF.nil ?_ | refine AF.imm hT rfl rfl rfl ?_ | refine AH.of hT rfl ?_ | refine AD.cons hT rfl ?_ | refine AD.nil ?_ | refine AQ.cons hT rfl ?_ | refine AQ.nil ?_); conv => whnf)
        refine ACut.iff.2 ⟨by rw [mvs_len, turnF_len]; omega, ?_⟩
        rw [List.drop_zero, List.take_of_length_le (by rw [mvs_len, turnF_len]; exact Nat.le_refl _)]
        conv => whnf
        repeat ((first | refine AO.cons hT ?_ | refine AO.nil ?_ | refine AW.seq ?_ | refine AW.region ?_ | refine AW.cond ?_ | refine AW.block ?_ | refine AW.loop ?_ | refine AW.skip ?_ | refine AW.exit ?_ | refine AW.ret ?_ | refine AF.one hT rfl ?_ | refine AF.nil ?_ | refine AF.imm hT rfl rfl rfl ?_ | refine AH.of hT rfl ?_ | refine AD.cons hT rfl ?_ | refine AD.nil ?_ | refine AQ.cons hT rfl ?_ | refine AQ.nil ?_); conv => whnf)
        refine AReq.mk ⟨by rw [List.nil_append, mvs_len, esz]; omega, by rw [eb]; omega⟩ ?_
        conv => whnf
        repeat ((first | refine AO.cons hT ?_ | refine AO.nil ?_ | refine AW.seq ?_ | refine AW.region ?_ | refine AW.cond ?_ | refine AW.block ?_ | refine AW.loop ?_ | refine AW.skip ?_ | refine AW.exit ?_ | refine AW.ret ?_ | refine AF.one hT rfl ?_ | refine AF.nil ?_ | refine AF.imm hT rfl rfl rfl ?_ | refine AH.of hT rfl ?_ | refine AD.cons hT rfl ?_ | refine AD.nil ?_ | refine AQ.cons hT rfl ?_ | refine AQ.nil ?_); conv => whnf)
        rw [List.nil_append, ← List.flatMap_append, show 0 + l.length + l.length = (l ++ turnF l).length by rw [hbl]; omega]
        conv => whnf
        repeat (first | (refine AO.cons hT ?_; conv => whnf) | (refine AO.nil ?_; conv => whnf) | (refine AW.seq ?_; conv => whnf) | (refine AW.region ?_; conv => whnf) | (refine AW.cond ?_; conv => whnf) | (refine AW.block ?_; conv => whnf) | (refine AW.loop ?_; conv => whnf) | (refine AW.skip ?_; conv => whnf) | (refine AW.exit ?_; conv => whnf) | (refine AW.ret ?_; conv => whnf) | (refine AF.one hT rfl ?_; conv => whnf) | (refine AF.nil ?_; conv => whnf) | (refine AF.imm hT rfl rfl rfl ?_; conv => whnf) | (refine AH.of hT rfl ?_; conv => whnf) | (refine ASplit.yes rfl ?_; conv => whnf) | (refine ACond.yes rfl ?_; conv => whnf) | (refine ASplit.no rfl ?_; conv => whnf) | (refine ACond.no rfl ?_; conv => whnf) | (refine ASplit.yes (by decide) ?_; conv => whnf) | (refine ACond.yes (by decide) ?_; conv => whnf) | (refine AReq.mk (by decide) ?_; conv => whnf) | (refine AIdx.iff.2 ⟨by decide, ?_⟩; conv => whnf))
        refine ACall.fun (by kernel_rfl) (f25 (l ++ turnF l) (by omega)) [2] (by intro l' hl'; simp at hl'; subst hl'; exact ⟨_, _, rfl⟩) (.cons (.ms (.inl ⟨by show (2 : Nat) ∈ [2]; simp, rfl⟩) ?_ ?_) .nil) (.inr trivial) rfl ?_
        · rw [mvs_len, esz]; omega
        · rw [renL_mvs, List.drop_zero, List.take_of_length_le (by rw [mvs_len, esz]; exact Nat.le_refl _)]
        rw [chkF_yes hgb]
        conv => whnf
        repeat (first | (refine AO.cons hT ?_; conv => whnf) | (refine AO.nil ?_; conv => whnf) | (refine AW.seq ?_; conv => whnf) | (refine AW.region ?_; conv => whnf) | (refine AW.cond ?_; conv => whnf) | (refine AW.block ?_; conv => whnf) | (refine AW.loop ?_; conv => whnf) | (refine AW.skip ?_; conv => whnf) | (refine AW.exit ?_; conv => whnf) | (refine AW.ret ?_; conv => whnf) | (refine AF.one hT rfl ?_; conv => whnf) | (refine AF.nil ?_; conv => whnf) | (refine AF.imm hT rfl rfl rfl ?_; conv => whnf) | (refine AH.of hT rfl ?_; conv => whnf) | (refine ASplit.yes rfl ?_; conv => whnf) | (refine ACond.yes rfl ?_; conv => whnf) | (refine ASplit.no rfl ?_; conv => whnf) | (refine ACond.no rfl ?_; conv => whnf) | (refine ASplit.yes (by decide) ?_; conv => whnf) | (refine ACond.yes (by decide) ?_; conv => whnf) | (refine AReq.mk (by decide) ?_; conv => whnf) | (refine AIdx.iff.2 ⟨by decide, ?_⟩; conv => whnf))
        refine ACall.fun (by kernel_rfl) (f32 (l ++ turnF l) p id (by omega) hid) [2] (by intro l' hl'; simp at hl'; subst hl'; exact ⟨_, _, rfl⟩) (.cons (.ms (.inl ⟨by show (2 : Nat) ∈ [2]; simp, rfl⟩) ?_ ?_) (.cons (.same rfl) (.cons (.same rfl) .nil))) (.inr trivial) rfl ?_
        · rw [mvs_len, esz]; omega
        · rw [renL_mvs, List.drop_zero, List.take_of_length_le (by rw [mvs_len, esz]; exact Nat.le_refl _)]
        rw [hz]
        conv => whnf
        repeat (first | (refine AO.cons hT ?_; conv => whnf) | (refine AO.nil ?_; conv => whnf) | (refine AW.seq ?_; conv => whnf) | (refine AW.region ?_; conv => whnf) | (refine AW.cond ?_; conv => whnf) | (refine AW.block ?_; conv => whnf) | (refine AW.loop ?_; conv => whnf) | (refine AW.skip ?_; conv => whnf) | (refine AW.exit ?_; conv => whnf) | (refine AW.ret ?_; conv => whnf) | (refine AF.one hT rfl ?_; conv => whnf) | (refine AF.nil ?_; conv => whnf) | (refine AF.imm hT rfl rfl rfl ?_; conv => whnf) | (refine AH.of hT rfl ?_; conv => whnf) | (refine ASplit.yes rfl ?_; conv => whnf) | (refine ACond.yes rfl ?_; conv => whnf) | (refine ASplit.no rfl ?_; conv => whnf) | (refine ACond.no rfl ?_; conv => whnf) | (refine ASplit.yes (by decide) ?_; conv => whnf) | (refine ACond.yes (by decide) ?_; conv => whnf) | (refine AReq.mk (by decide) ?_; conv => whnf) | (refine AIdx.iff.2 ⟨by decide, ?_⟩; conv => whnf))
        refine ACall.val (by kernel_rfl) hawake rfl rfl ?_
        conv => whnf
        repeat ((first | refine AO.cons hT ?_ | refine AO.nil ?_ | refine AW.seq ?_ | refine AW.region ?_ | refine AW.cond ?_ | refine AW.block ?_ | refine AW.loop ?_ | refine AW.skip ?_ | refine AW.exit ?_ | refine AW.ret ?_ | refine AF.one hT rfl ?_ | refine AF.nil ?_ | refine AF.imm hT rfl rfl rfl ?_ | refine AH.of hT rfl ?_ | refine AD.cons hT rfl ?_ | refine AD.nil ?_ | refine AQ.cons hT rfl ?_ | refine AQ.nil ?_); conv => whnf)
        exact hfin
      · exact absurd hg hng
  · rw [chkF_no hg]
    conv => whnf
    repeat (first | (refine AO.cons hT ?_; conv => whnf) | (refine AO.nil ?_; conv => whnf) | (refine AW.seq ?_; conv => whnf) | (refine AW.region ?_; conv => whnf) | (refine AW.cond ?_; conv => whnf) | (refine AW.block ?_; conv => whnf) | (refine AW.loop ?_; conv => whnf) | (refine AW.skip ?_; conv => whnf) | (refine AW.exit ?_; conv => whnf) | (refine AW.ret ?_; conv => whnf) | (refine AF.one hT rfl ?_; conv => whnf) | (refine AF.nil ?_; conv => whnf) | (refine AF.imm hT rfl rfl rfl ?_; conv => whnf) | (refine AH.of hT rfl ?_; conv => whnf) | (refine ASplit.yes rfl ?_; conv => whnf) | (refine ACond.yes rfl ?_; conv => whnf) | (refine ASplit.no rfl ?_; conv => whnf) | (refine ACond.no rfl ?_; conv => whnf) | (refine ASplit.yes (by decide) ?_; conv => whnf) | (refine ACond.yes (by decide) ?_; conv => whnf) | (refine AReq.mk (by decide) ?_; conv => whnf) | (refine AIdx.iff.2 ⟨by decide, ?_⟩; conv => whnf))
    refine ACall.val (by kernel_rfl) hawake rfl rfl ?_
    conv => whnf
    repeat ((first | refine AO.cons hT ?_ | refine AO.nil ?_ | refine AW.seq ?_ | refine AW.region ?_ | refine AW.cond ?_ | refine AW.block ?_ | refine AW.loop ?_ | refine AW.skip ?_ | refine AW.exit ?_ | refine AW.ret ?_ | refine AF.one hT rfl ?_ | refine AF.nil ?_ | refine AF.imm hT rfl rfl rfl ?_ | refine AH.of hT rfl ?_ | refine AD.cons hT rfl ?_ | refine AD.nil ?_ | refine AQ.cons hT rfl ?_ | refine AQ.nil ?_); conv => whnf)
    exact hfin
end Go.Aw.R1

set_option linter.unusedSimpArgs false
set_option linter.unusedVariables false
namespace Go.Proofs
open Go.Shelf Go.RowKit Go.Lib Go.Sort

/-- the cells of what is there of a thing -/
def hdV (x : Bool × Int × Int) : List Value := [.bool x.1, .int .i64 x.2.1, .int .i64 x.2.2]
def ordF (x y : Bool × Int × Int) : Int := if x.1 = y.1 then Lib.compareInt x.2.1 y.2.1 else if y.1 then -1 else 1

set_option maxHeartbeats 1000000 in
theorem Try.order46 (x y : Bool × Int × Int) (W : World) : Calls Try.prog 46 #[.agg #[.bool x.1, .int .i64 x.2.1, .int .i64 x.2.2], .agg #[.bool y.1, .int .i64 y.2.1, .int .i64 y.2.2]] W fun e w' => e = .returned (.int .i64 (ordF x y)) ∧ ∃ q os', w' = grow (W.drewN q) os' := by
  have hcon := fun W' => AnyG.cmp_Compare_int Try.cmpInt x.2.1 y.2.1 W'
  change ∀ W', Calls Try.prog 55 _ _ _ at hcon
  obtain ⟨px, ix, qx⟩ := x
  obtain ⟨py, iy, qy⟩ := y
  simp only at *
  cases px <;> cases py
  · have e : ordF (false, ix, qx) (false, iy, qy) = Lib.compareInt ix iy := rfl
    rw [e]
    generalize Lib.compareInt ix iy = r at hcon ⊢
    go_enter Try.func46, Try.ntmps46
    go_wp2_with (go_at_call 55; refine (hcon _).mono ?_; rintro e w' ⟨rfl, rfl⟩)
    go_ret
    exact ⟨rfl, 0, _, by rw [alloc_eq_grow, alloc_eq_grow, grow_grow]; rfl⟩
  · have e : ordF (false, ix, qx) (true, iy, qy) = -1 := rfl
    rw [e]
    clear hcon
    go_enter Try.func46, Try.ntmps46
    go_wp2
    go_ret
    exact ⟨rfl, 0, _, by rw [alloc_eq_grow, alloc_eq_grow, grow_grow]; rfl⟩
  · have e : ordF (true, ix, qx) (false, iy, qy) = 1 := rfl
    rw [e]
    clear hcon
    go_enter Try.func46, Try.ntmps46
    go_wp2
    go_ret
    exact ⟨rfl, 0, _, by rw [alloc_eq_grow, alloc_eq_grow, grow_grow]; rfl⟩
  · have e : ordF (true, ix, qx) (true, iy, qy) = Lib.compareInt ix iy := rfl
    rw [e]
    generalize Lib.compareInt ix iy = r at hcon ⊢
    go_enter Try.func46, Try.ntmps46
    go_wp2_with (go_at_call 55; refine (hcon _).mono ?_; rintro e w' ⟨rfl, rfl⟩)
    go_ret
    exact ⟨rfl, 0, _, by rw [alloc_eq_grow, alloc_eq_grow, grow_grow]; rfl⟩

theorem ord_lt (x y : Bool × Int × Int) : ltOf ordF x y = Go.Aw.R1.hdLt x y := by
  obtain ⟨px, ix, qx⟩ := x
  obtain ⟨py, iy, qy⟩ := y
  unfold ltOf ordF Go.Aw.R1.hdLt Lib.compareInt
  cases px <;> cases py <;> simp
  all_goals
    by_cases h1 : ix < iy
    · simp [h1]
    · by_cases h2 : iy < ix <;> simp [h1, h2]

theorem ord_swo : SWO (ltOf ordF) where
  irrefl x := by rw [ord_lt, Go.Aw.R1.hdLt_irrefl]
  trans x y z h1 h2 := by
    rw [ord_lt] at *
    exact Go.Aw.R1.hdLt_trans h1 h2
  ntrans x y z h1 h2 := by
    rw [ord_lt] at *
    obtain ⟨p, i, n⟩ := x; obtain ⟨p', i', n'⟩ := y; obtain ⟨p'', i'', n''⟩ := z
    simp only [Go.Aw.R1.hdLt, decide_eq_false_iff_not] at *
    cases p <;> cases p' <;> cases p'' <;> simp at h1 h2 ⊢ <;> omega

theorem sort45 (blk cap : Nat) (d : Array (Bool × Int × Int)) (w : World) (hH : HoldsK hdV 3 w blk 0 d) (hblk : blk < w.heap.size) (hsz : d.size < 4611686018427387904) :
    Calls Try.prog 45 #[.slice (some ⟨blk, 0, none⟩) d.size cap, .func (.func 46) #[] #[]] w fun e w' => e = .returned (.tuple #[]) ∧ ∃ d' n os, PermIn 0 d.size d d' ∧ SortedIn Go.Aw.R1.hdLt 0 d.size d' ∧ w' = sortWorldK hdV 3 w blk 0 n d' os := by
  have eg : ∀ args w, (callFunc 46 args).run Try.prog w = .ok (.enter 46 args) w := enters_of Try.func46 (by kernel_rfl) rfl
  have hcon := AnyQ.slices_SortFunc Try.sortHd 3 Try.isAgg61 Try.sizeOf61 hdV (fun _ => rfl) (fun x v hv => by simp [hdV] at hv; rcases hv with rfl | rfl | rfl <;> rfl) ordF ord_swo 46 #[] blk 0 cap d w eg (fun _ _ _ _ x y => Try.order46 x y _) hH hblk hsz
  change Calls Try.prog 45 _ _ _ at hcon
  refine hcon.mono fun e w' ⟨he, d', n, os, hp, hs, hw⟩ => ⟨he, d', n, os, hp, ?_, hw⟩
  intro i j h1 h2 h3
  rw [← ord_lt]
  exact hs i j h1 h2 h3
end Go.Proofs

namespace Go.Aw.R1
open Go Go.Proofs
theorem sortOk : SortOk := by
  intro l hl hlen
  exact Spec.sort (encV := hdV) (encA := hdC) (fun _ => rfl) (by decide) (fun x v hv => by simp [hdV] at hv; rcases hv with rfl | rfl | rfl <;> rfl)
    (fun w m I x => by simp only [hdC, hdV, RepL, Rep]; exact ⟨_, _, rfl, rfl, _, _, rfl, rfl, _, _, rfl, rfl, rfl⟩)
    (fun w m I x ys h => by
      simp only [hdC, RepL, Rep] at h
      obtain ⟨y, zs, rfl, rfl, y2, z2, rfl, rfl, y3, z3, rfl, rfl, rfl⟩ := h
      rfl) hdLt sort45 l hl (by omega)

theorem sortNil : SortNil := by
  refine Fun.tupBelow (vs := [.slice none 0 0, .func (.func 46) #[] #[]]) (fun w m I ys h => ?_) (fun w => ?_)
  · simp only [RepL, Rep] at h
    obtain ⟨y, zs, rfl, rfl, y2, z2, rfl, ⟨us, ys, rfl, rfl, rfl⟩, rfl⟩ := h
    rfl
  · have := AnyF.slices_SortFunc_none Try.sortHd none 0 (.func (.func 46) #[] #[]) w
    change Calls Try.prog 45 _ _ _ at this
    exact this.mono fun e w' ⟨he, hw⟩ => ⟨he, by rw [hw]; exact .refl _, by rw [hw]; exact ⟨rfl, rfl⟩⟩
end Go.Aw.R1

set_option linter.unusedSimpArgs false
set_option linter.unusedVariables false
namespace Go.Aw.R1
open Go

theorem Opens.to {P : Program} {t : Nat} {α β : Type} {enc : α → List AV} {wf : α → Prop} (h : Opens P t enc wf) (g : α → β) (enc' : β → List AV) (wf' : β → Prop) (he : ∀ a, enc a = enc' (g a)) (hw : ∀ a, wf a → wf' (g a)) : Opens P t enc' wf' := by
  intro H en W n cs x hx
  obtain ⟨a, a1, a2, a3⟩ := h H en W n cs x hx
  exact ⟨g a, hw a a1, by rw [← he]; exact a2, a3⟩

def mwf (m : Mv) : Prop := (Lit.int .i64 m.i).wf = true ∧ (Lit.int .i64 m.q).wf = true

theorem opens_mv : Opens Go.Proofs.Try.prog 41 mvC mwf :=
  Opens.to (opens_struct Go.Proofs.Try.underlying41 (by kernel_rfl) (opensF_cons (sz := 1) rfl (by kernel_rfl) (opens_bool Go.Proofs.Try.underlying4) (opensF_cons (sz := 1) rfl (by kernel_rfl) (opens_int Go.Proofs.Try.underlying3) (opensF_cons (sz := 1) rfl (by kernel_rfl) (opens_int Go.Proofs.Try.underlying3) opensF_nil))))
    (fun x => (⟨x.1, x.2.1, x.2.2.1⟩ : Mv)) mvC mwf (fun _ => rfl) (fun a h => ⟨h.2.1, h.2.2.1⟩)

theorem openV_mvs : OpenV Go.Proofs.Try.prog 39 mvs (fun l => l.length ≤ maxLen ∧ ∀ x ∈ l, mwf x ∧ (mvC x).length = 3) :=
  openV_slice Go.Proofs.Try.underlying39 (by kernel_rfl) (by decide) opens_mv
theorem openV_mv : OpenV Go.Proofs.Try.prog 41 (fun m : Mv => .agg (mvC m)) mwf := openV_struct Go.Proofs.Try.underlying41 opens_mv
end Go.Aw.R1

