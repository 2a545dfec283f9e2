/-
  The statement AuditUnits: any unit may have come of any other one, or not, and any node is reached from any other one, or not, as the document says, without any condition.
-/
import Derived.Test.YtgpnhbekepoebaaGreatR00
import Derived.Test.YtgpnhbekepoebaaGreatBwE
set_option linter.unusedSimpArgs false
set_option linter.unusedVariables false
set_option linter.unusedSimpArgs false
set_option linter.unusedVariables false
set_option maxHeartbeats 1000000
namespace Go.Aw.U1
open Go Go.Proofs

/-- the place of the first one -/
def idxF {α : Type} (p : α → Bool) : List α → Int → Int
  | [], _ => -1
  | x :: xs, i => if p x then i else idxF p xs (i + 1)
theorem idxF_or {α : Type} (p : α → Bool) : ∀ (l : List α) (k : Nat), (idxF p l k = -1 ∧ l.find? p = none) ∨ ∃ (i : Nat) (h : i < l.length), idxF p l k = ((k + i : Nat) : Int) ∧ l.find? p = some l[i]
  | [], k => .inl ⟨rfl, rfl⟩
  | x :: xs, k => by
    by_cases h : p x = true
    · exact .inr ⟨0, by simp, by simp [idxF, h], by simp [h]⟩
    · rcases idxF_or p xs (k + 1) with ⟨h1, h2⟩ | ⟨i, hi, h1, h2⟩
      · exact .inl ⟨by rw [← h1]; simp [idxF, h], by simp [h, h2]⟩
      · refine .inr ⟨i + 1, by simp; omega, ?_, by simp [h, h2]⟩
        rw [show (k + (i + 1) : Nat) = k + 1 + i by omega, ← h1]
        simp [idxF, h]
theorem idxF_drop {α : Type} {p : α → Bool} {l : List α} {i : Nat} (h : i < l.length) : idxF p (l.drop i) i = if p l[i] then (i : Int) else idxF p (l.drop (i + 1)) ((i + 1 : Nat) : Int) := by
  rw [List.drop_eq_getElem_cons h, idxF]; rfl
theorem idxF_end {α : Type} {p : α → Bool} {l : List α} {i : Nat} (h : l.length ≤ i) : idxF p (l.drop i) i = -1 := by
  rw [List.drop_of_length_le h]; rfl

def itZ : It := ⟨0, 0, 0, 0⟩
def unZ : Un := ⟨.empty, 0, 0, 0, 0, 0, 0, 0, 0, 0⟩
def odZ : Od := ⟨0, 0, []⟩
def rmZ : Rm := ⟨0, 0, 0, 0, []⟩

theorem f187 (x : Od) (id : Int) : Fun P 187 [.agg (odC x), .ip [nV id]] (bV (((fun x => decide (x.id = id))) x)) := by
  refine spec_of hT (f := 187) (fn := Go.Proofs.Tryz.f187) (c := body Go.Proofs.Tryz.f187) (by kernel_rfl) (by kernel_rfl) ?_
  conv => whnf
  repeat' (first | refine go ?_ | ((first | refine ASplit.yes rfl ?_ | refine ASplit.no rfl ?_ | refine ACond.yes rfl ?_ | refine ACond.no rfl ?_ | refine ASplit.dec (fun _ => ?_) (fun _ => ?_) | refine ASplit.ndec (fun _ => ?_) (fun _ => ?_) | refine ACond.dec (fun _ => ?_) (fun _ => ?_) | refine ACond.ndec (fun _ => ?_) (fun _ => ?_)) <;> conv => whnf))
  all_goals exact AFin.val rfl ⟨rfl, rfl⟩

theorem f270 (l : List Od) (id : Int) (hl : l.length ≤ 1000000) : Fun P 270 [odsV l, .fn 187 [] [.ip [nV id]]] (nV (idxF (fun x => decide (x.id = id)) l 0)) := by
  refine spec_of hT (f := 270) (fn := Go.Proofs.Tryz.f270) (c := body Go.Proofs.Tryz.f270) (by kernel_rfl) (by kernel_rfl) ?_
  generalize hR : idxF (fun x => decide (x.id = id)) l 0 = R
  conv => whnf
  repeat refine go ?_
  refine ALoop.mk (fun n E H => ∃ i : Nat, n = l.length - i ∧ i ≤ l.length ∧ idxF (fun x => decide (x.id = id)) (l.drop i) i = R ∧
      E = pad [odsV l, .fn 187 [] [.ip [nV id]], .any, .any, nV 0, .any, .any, nV l.length, nV i] 19 ∧ H = []) (n := l.length) _ _
    ⟨0, rfl, Nat.zero_le _, hR, rfl, rfl⟩ (Conv.fit (by repeat' (first | exact Fit.nil | refine Fit.any ?_ | refine Fit.same ?_))) ?_
  rintro _ _ _ ⟨i, rfl, hi, hI, rfl, rfl⟩
  conv => whnf
  repeat refine go ?_
  refine ACond.dec (fun h => ?_) (fun h => ?_)
  · have hil : i < l.length := by omega
    have w1 : IntKind.wrap .i64 ((i : Int) + 1) = ((i + 1 : Nat) : Int) := by rw [wrap_i64 _ (by omega) (by omega)]; omega
    rw [idxF_drop hil] at hI
    conv => whnf
    repeat (first | refine go ?_ | ((first | refine AReq.mk (by omega) ?_ | refine AIdx.flat (enc := odC) odC_len (xs := l) (i := i) hil ?_ | refine ACall.val (by kernel_rfl) (f187 l[i] id) (by (first | rfl | (simp only [renL, AV.ren, List.nil_append, List.cons_append, rens]; try rfl))) rfl ?_); conv => whnf))
    refine ACond.mk (fun h4 => ?_) (fun h4 => ?_)
    · conv => whnf
      repeat (first | refine go ?_ | ((first | refine AReq.mk (by omega) ?_ | refine AIdx.flat (enc := odC) odC_len (xs := l) (i := i) hil ?_ | refine ACall.val (by kernel_rfl) (f187 l[i] id) (by (first | rfl | (simp only [renL, AV.ren, List.nil_append, List.cons_append, rens]; try rfl))) rfl ?_); conv => whnf))
      refine AOut.stay ?_
      refine AFin.val rfl ⟨?_, rfl⟩
      rw [if_pos h4] at hI
      rw [hI]
    · conv => whnf
      repeat (first | refine go ?_ | ((first | refine AReq.mk (by omega) ?_ | refine AIdx.flat (enc := odC) odC_len (xs := l) (i := i) hil ?_ | refine ACall.val (by kernel_rfl) (f187 l[i] id) (by (first | rfl | (simp only [renL, AV.ren, List.nil_append, List.cons_append, rens]; try rfl))) rfl ?_); conv => whnf))
      rw [w1]
      exact AHead.mk (l.length - (i + 1)) _ _ (by omega) ⟨i + 1, rfl, by omega, by rw [← hI]; exact (if_neg (fun h5 => Bool.noConfusion (h5.symm.trans h4))).symm, rfl, rfl⟩ (Conv.fit (by repeat' (first | exact Fit.nil | refine Fit.any ?_ | refine Fit.same ?_)))
  · rw [idxF_end (by omega)] at hI
    conv => whnf
    repeat refine go ?_
    refine AOut.stay ?_
    conv => whnf
    repeat refine go ?_
    exact AFin.val rfl ⟨congrArg nV hI, rfl⟩

theorem f186 (l : List Od) (id : Int) (hl : l.length ≤ 1000000) : Fun P 186 [odsV l, .fn 187 [] [.ip [nV id]]] (.tup [.agg (odC ((l.find? (fun x => decide (x.id = id))).getD odZ)), bV (l.find? (fun x => decide (x.id = id))).isSome]) := by
  refine spec_of hT (f := 186) (fn := Go.Proofs.Tryz.f186) (c := body Go.Proofs.Tryz.f186) (by kernel_rfl) (by kernel_rfl) ?_
  conv => whnf
  repeat refine go ?_
  refine ACall.val (by kernel_rfl) (f270 l id hl) (by (first | rfl | (simp only [renL, AV.ren, List.nil_append, List.cons_append, rens]; try rfl))) rfl ?_
  rcases idxF_or (fun x => decide (x.id = id)) l 0 with ⟨h1, h2⟩ | ⟨i, hi, h1, h2⟩
  · rw [show idxF (fun x => decide (x.id = id)) l 0 = -1 from h1, h2]
    conv => whnf
    repeat refine ru ?_
    refine AFin.to (.tup [.agg (odC odZ), bV false]) [] (Conv.out (.tup (.cons (.agg (by repeat' (first | exact LendL.nil | refine LendL.cons .any ?_ | refine LendL.cons (.it _) ?_ | refine LendL.cons .nil ?_ | refine LendL.cons (.vx (cs' := []) rfl) ?_ | refine LendL.cons (.sip rfl) ?_ | refine LendL.cons (.sm' rfl ?_ ?_ ?_) ?_))) (.cons (.it _) .nil))) (fun ρ => by (first | rfl | (simp only [renL, AV.ren, List.nil_append, List.cons_append, rens]; try rfl)))) ⟨rfl, rfl⟩
  · rw [show idxF (fun x => decide (x.id = id)) l 0 = (i : Int) by simpa using h1, h2]
    conv => whnf
    repeat refine go ?_
    refine ACond.dec (fun h => ?_) (fun h => ?_)
    · omega
    conv => whnf
    repeat (first | refine go ?_ | ((first | refine AReq.mk (by omega) ?_ | refine AIdx.flat (enc := odC) odC_len (xs := l) (i := i) hi ?_); conv => whnf))
    exact AFin.val (by (first | rfl | (simp only [renL, AV.ren, List.nil_append, List.cons_append, rens]; try rfl))) ⟨rfl, rfl⟩

theorem f108 (s : Sta) (id : Int) (hl : s.orders.length ≤ 1000000) : Fun P 108 [stA s, nV id] (.tup [.agg (odC ((s.orders.find? (fun x => decide (x.id = id))).getD odZ)), bV (s.orders.find? (fun x => decide (x.id = id))).isSome]) := by
  refine spec_of hT (f := 108) (fn := Go.Proofs.Tryz.f108) (c := body Go.Proofs.Tryz.f108) (by kernel_rfl) (by kernel_rfl) ?_
  conv => whnf
  repeat refine go ?_
  refine ACall.clo (l := 1) (g := 187) (a := odsV s.orders) (xs := [nV id]) (t := 3) rfl ?_
  refine ACall.val (by kernel_rfl) (f186 s.orders id hl) (by (first | rfl | (simp only [renL, AV.ren, List.nil_append, List.cons_append, rens]; try rfl))) (by (first | rfl | (simp only [renL, AV.ren, List.nil_append, List.cons_append, rens]; try rfl))) ?_
  conv => whnf
  repeat refine go ?_
  exact AFin.val (by (first | rfl | (simp only [renL, AV.ren, List.nil_append, List.cons_append, rens]; try rfl))) ⟨rfl, rfl⟩

theorem f71 (x : Un) (s0 : ByteArray) : Fun P 71 [.agg (unC x), .ip [sV s0]] (bV (((fun x => x.s.toList == s0.toList)) x)) := by
  refine spec_of hT (f := 71) (fn := Go.Proofs.Tryz.f71) (c := body Go.Proofs.Tryz.f71) (by kernel_rfl) (by kernel_rfl) ?_
  conv => whnf
  repeat' (first | refine go ?_ | ((first | refine ASplit.yes rfl ?_ | refine ASplit.no rfl ?_ | refine ACond.yes rfl ?_ | refine ACond.no rfl ?_ | refine ASplit.dec (fun _ => ?_) (fun _ => ?_) | refine ASplit.ndec (fun _ => ?_) (fun _ => ?_) | refine ACond.dec (fun _ => ?_) (fun _ => ?_) | refine ACond.ndec (fun _ => ?_) (fun _ => ?_)) <;> conv => whnf))
  all_goals exact AFin.val rfl ⟨rfl, rfl⟩

theorem f166 (l : List Un) (s0 : ByteArray) (hl : l.length ≤ 1000000) : Fun P 166 [unsV l, .fn 71 [] [.ip [sV s0]]] (nV (idxF (fun x => x.s.toList == s0.toList) l 0)) := by
  refine spec_of hT (f := 166) (fn := Go.Proofs.Tryz.f166) (c := body Go.Proofs.Tryz.f166) (by kernel_rfl) (by kernel_rfl) ?_
  generalize hR : idxF (fun x => x.s.toList == s0.toList) l 0 = R
  conv => whnf
  repeat refine go ?_
  refine ALoop.mk (fun n E H => ∃ i : Nat, n = l.length - i ∧ i ≤ l.length ∧ idxF (fun x => x.s.toList == s0.toList) (l.drop i) i = R ∧
      E = pad [unsV l, .fn 71 [] [.ip [sV s0]], .any, .any, nV 0, .any, .any, nV l.length, nV i] 19 ∧ H = []) (n := l.length) _ _
    ⟨0, rfl, Nat.zero_le _, hR, rfl, rfl⟩ (Conv.fit (by repeat' (first | exact Fit.nil | refine Fit.any ?_ | refine Fit.same ?_))) ?_
  rintro _ _ _ ⟨i, rfl, hi, hI, rfl, rfl⟩
  conv => whnf
  repeat refine go ?_
  refine ACond.dec (fun h => ?_) (fun h => ?_)
  · have hil : i < l.length := by omega
    have w1 : IntKind.wrap .i64 ((i : Int) + 1) = ((i + 1 : Nat) : Int) := by rw [wrap_i64 _ (by omega) (by omega)]; omega
    rw [idxF_drop hil] at hI
    conv => whnf
    repeat (first | refine go ?_ | ((first | refine AReq.mk (by omega) ?_ | refine AIdx.flat (enc := unC) unC_len (xs := l) (i := i) hil ?_ | refine ACall.val (by kernel_rfl) (f71 l[i] s0) (by (first | rfl | (simp only [renL, AV.ren, List.nil_append, List.cons_append, rens]; try rfl))) rfl ?_); conv => whnf))
    refine ACond.mk (fun h4 => ?_) (fun h4 => ?_)
    · conv => whnf
      repeat (first | refine go ?_ | ((first | refine AReq.mk (by omega) ?_ | refine AIdx.flat (enc := unC) unC_len (xs := l) (i := i) hil ?_ | refine ACall.val (by kernel_rfl) (f71 l[i] s0) (by (first | rfl | (simp only [renL, AV.ren, List.nil_append, List.cons_append, rens]; try rfl))) rfl ?_); conv => whnf))
      refine AOut.stay ?_
      refine AFin.val rfl ⟨?_, rfl⟩
      rw [if_pos h4] at hI
      rw [hI]
    · conv => whnf
      repeat (first | refine go ?_ | ((first | refine AReq.mk (by omega) ?_ | refine AIdx.flat (enc := unC) unC_len (xs := l) (i := i) hil ?_ | refine ACall.val (by kernel_rfl) (f71 l[i] s0) (by (first | rfl | (simp only [renL, AV.ren, List.nil_append, List.cons_append, rens]; try rfl))) rfl ?_); conv => whnf))
      rw [w1]
      exact AHead.mk (l.length - (i + 1)) _ _ (by omega) ⟨i + 1, rfl, by omega, by rw [← hI]; exact (if_neg (fun h5 => Bool.noConfusion (h5.symm.trans h4))).symm, rfl, rfl⟩ (Conv.fit (by repeat' (first | exact Fit.nil | refine Fit.any ?_ | refine Fit.same ?_)))
  · rw [idxF_end (by omega)] at hI
    conv => whnf
    repeat refine go ?_
    refine AOut.stay ?_
    conv => whnf
    repeat refine go ?_
    exact AFin.val rfl ⟨congrArg nV hI, rfl⟩

theorem f70 (l : List Un) (s0 : ByteArray) (hl : l.length ≤ 1000000) : Fun P 70 [unsV l, .fn 71 [] [.ip [sV s0]]] (.tup [.agg (unC ((l.find? (fun x => x.s.toList == s0.toList)).getD unZ)), bV (l.find? (fun x => x.s.toList == s0.toList)).isSome]) := by
  refine spec_of hT (f := 70) (fn := Go.Proofs.Tryz.f70) (c := body Go.Proofs.Tryz.f70) (by kernel_rfl) (by kernel_rfl) ?_
  conv => whnf
  repeat refine go ?_
  refine ACall.val (by kernel_rfl) (f166 l s0 hl) (by (first | rfl | (simp only [renL, AV.ren, List.nil_append, List.cons_append, rens]; try rfl))) rfl ?_
  rcases idxF_or (fun x => x.s.toList == s0.toList) l 0 with ⟨h1, h2⟩ | ⟨i, hi, h1, h2⟩
  · rw [show idxF (fun x => x.s.toList == s0.toList) l 0 = -1 from h1, h2]
    conv => whnf
    repeat refine ru ?_
    exact AFin.val rfl ⟨rfl, rfl⟩
  · rw [show idxF (fun x => x.s.toList == s0.toList) l 0 = (i : Int) by simpa using h1, h2]
    conv => whnf
    repeat refine go ?_
    refine ACond.dec (fun h => ?_) (fun h => ?_)
    · omega
    conv => whnf
    repeat (first | refine go ?_ | ((first | refine AReq.mk (by omega) ?_ | refine AIdx.flat (enc := unC) unC_len (xs := l) (i := i) hi ?_); conv => whnf))
    exact AFin.val (by (first | rfl | (simp only [renL, AV.ren, List.nil_append, List.cons_append, rens]; try rfl))) ⟨rfl, rfl⟩

theorem f20 (s : Sta) (s0 : ByteArray) (hl : s.units.length ≤ 1000000) : Fun P 20 [stA s, sV s0] (.tup [.agg (unC ((s.units.find? (fun x => x.s.toList == s0.toList)).getD unZ)), bV (s.units.find? (fun x => x.s.toList == s0.toList)).isSome]) := by
  refine spec_of hT (f := 20) (fn := Go.Proofs.Tryz.f20) (c := body Go.Proofs.Tryz.f20) (by kernel_rfl) (by kernel_rfl) ?_
  conv => whnf
  repeat refine go ?_
  refine ACall.clo (l := 1) (g := 71) (a := unsV s.units) (xs := [sV s0]) (t := 9) rfl ?_
  refine ACall.val (by kernel_rfl) (f70 s.units s0 hl) (by (first | rfl | (simp only [renL, AV.ren, List.nil_append, List.cons_append, rens]; try rfl))) (by (first | rfl | (simp only [renL, AV.ren, List.nil_append, List.cons_append, rens]; try rfl))) ?_
  conv => whnf
  repeat refine go ?_
  exact AFin.val (by (first | rfl | (simp only [renL, AV.ren, List.nil_append, List.cons_append, rens]; try rfl))) ⟨rfl, rfl⟩

theorem f194 (x : It) (id : Int) : Fun P 194 [.agg (itC x), .ip [nV id]] (bV (((fun x => decide (x.id = id))) x)) := by
  refine spec_of hT (f := 194) (fn := Go.Proofs.Tryz.f194) (c := body Go.Proofs.Tryz.f194) (by kernel_rfl) (by kernel_rfl) ?_
  conv => whnf
  repeat' (first | refine go ?_ | ((first | refine ASplit.yes rfl ?_ | refine ASplit.no rfl ?_ | refine ACond.yes rfl ?_ | refine ACond.no rfl ?_ | refine ASplit.dec (fun _ => ?_) (fun _ => ?_) | refine ASplit.ndec (fun _ => ?_) (fun _ => ?_) | refine ACond.dec (fun _ => ?_) (fun _ => ?_) | refine ACond.ndec (fun _ => ?_) (fun _ => ?_)) <;> conv => whnf))
  all_goals exact AFin.val rfl ⟨rfl, rfl⟩

theorem f235 (l : List It) (id : Int) (hl : l.length ≤ 1000000) : Fun P 235 [itsV l, .fn 194 [] [.ip [nV id]]] (nV (idxF (fun x => decide (x.id = id)) l 0)) := by
  refine spec_of hT (f := 235) (fn := Go.Proofs.Tryz.f235) (c := body Go.Proofs.Tryz.f235) (by kernel_rfl) (by kernel_rfl) ?_
  generalize hR : idxF (fun x => decide (x.id = id)) l 0 = R
  conv => whnf
  repeat refine go ?_
  refine ALoop.mk (fun n E H => ∃ i : Nat, n = l.length - i ∧ i ≤ l.length ∧ idxF (fun x => decide (x.id = id)) (l.drop i) i = R ∧
      E = pad [itsV l, .fn 194 [] [.ip [nV id]], .any, .any, nV 0, .any, .any, nV l.length, nV i] 19 ∧ H = []) (n := l.length) _ _
    ⟨0, rfl, Nat.zero_le _, hR, rfl, rfl⟩ (Conv.fit (by repeat' (first | exact Fit.nil | refine Fit.any ?_ | refine Fit.same ?_))) ?_
  rintro _ _ _ ⟨i, rfl, hi, hI, rfl, rfl⟩
  conv => whnf
  repeat refine go ?_
  refine ACond.dec (fun h => ?_) (fun h => ?_)
  · have hil : i < l.length := by omega
    have w1 : IntKind.wrap .i64 ((i : Int) + 1) = ((i + 1 : Nat) : Int) := by rw [wrap_i64 _ (by omega) (by omega)]; omega
    rw [idxF_drop hil] at hI
    conv => whnf
    repeat (first | refine go ?_ | ((first | refine AReq.mk (by omega) ?_ | refine AIdx.flat (enc := itC) itC_len (xs := l) (i := i) hil ?_ | refine ACall.val (by kernel_rfl) (f194 l[i] id) (by (first | rfl | (simp only [renL, AV.ren, List.nil_append, List.cons_append, rens]; try rfl))) rfl ?_); conv => whnf))
    refine ACond.mk (fun h4 => ?_) (fun h4 => ?_)
    · conv => whnf
      repeat (first | refine go ?_ | ((first | refine AReq.mk (by omega) ?_ | refine AIdx.flat (enc := itC) itC_len (xs := l) (i := i) hil ?_ | refine ACall.val (by kernel_rfl) (f194 l[i] id) (by (first | rfl | (simp only [renL, AV.ren, List.nil_append, List.cons_append, rens]; try rfl))) rfl ?_); conv => whnf))
      refine AOut.stay ?_
      refine AFin.val rfl ⟨?_, rfl⟩
      rw [if_pos h4] at hI
      rw [hI]
    · conv => whnf
      repeat (first | refine go ?_ | ((first | refine AReq.mk (by omega) ?_ | refine AIdx.flat (enc := itC) itC_len (xs := l) (i := i) hil ?_ | refine ACall.val (by kernel_rfl) (f194 l[i] id) (by (first | rfl | (simp only [renL, AV.ren, List.nil_append, List.cons_append, rens]; try rfl))) rfl ?_); conv => whnf))
      rw [w1]
      exact AHead.mk (l.length - (i + 1)) _ _ (by omega) ⟨i + 1, rfl, by omega, by rw [← hI]; exact (if_neg (fun h5 => Bool.noConfusion (h5.symm.trans h4))).symm, rfl, rfl⟩ (Conv.fit (by repeat' (first | exact Fit.nil | refine Fit.any ?_ | refine Fit.same ?_)))
  · rw [idxF_end (by omega)] at hI
    conv => whnf
    repeat refine go ?_
    refine AOut.stay ?_
    conv => whnf
    repeat refine go ?_
    exact AFin.val rfl ⟨congrArg nV hI, rfl⟩

theorem f193 (l : List It) (id : Int) (hl : l.length ≤ 1000000) : Fun P 193 [itsV l, .fn 194 [] [.ip [nV id]]] (.tup [.agg (itC ((l.find? (fun x => decide (x.id = id))).getD itZ)), bV (l.find? (fun x => decide (x.id = id))).isSome]) := by
  refine spec_of hT (f := 193) (fn := Go.Proofs.Tryz.f193) (c := body Go.Proofs.Tryz.f193) (by kernel_rfl) (by kernel_rfl) ?_
  conv => whnf
  repeat refine go ?_
  refine ACall.val (by kernel_rfl) (f235 l id hl) (by (first | rfl | (simp only [renL, AV.ren, List.nil_append, List.cons_append, rens]; try rfl))) rfl ?_
  rcases idxF_or (fun x => decide (x.id = id)) l 0 with ⟨h1, h2⟩ | ⟨i, hi, h1, h2⟩
  · rw [show idxF (fun x => decide (x.id = id)) l 0 = -1 from h1, h2]
    conv => whnf
    repeat refine ru ?_
    exact AFin.val rfl ⟨rfl, rfl⟩
  · rw [show idxF (fun x => decide (x.id = id)) l 0 = (i : Int) by simpa using h1, h2]
    conv => whnf
    repeat refine go ?_
    refine ACond.dec (fun h => ?_) (fun h => ?_)
    · omega
    conv => whnf
    repeat (first | refine go ?_ | ((first | refine AReq.mk (by omega) ?_ | refine AIdx.flat (enc := itC) itC_len (xs := l) (i := i) hi ?_); conv => whnf))
    exact AFin.val (by (first | rfl | (simp only [renL, AV.ren, List.nil_append, List.cons_append, rens]; try rfl))) ⟨rfl, rfl⟩

theorem f116 (s : Sta) (id : Int) (hl : s.items.length ≤ 1000000) : Fun P 116 [stA s, nV id] (.tup [.agg (itC ((s.items.find? (fun x => decide (x.id = id))).getD itZ)), bV (s.items.find? (fun x => decide (x.id = id))).isSome]) := by
  refine spec_of hT (f := 116) (fn := Go.Proofs.Tryz.f116) (c := body Go.Proofs.Tryz.f116) (by kernel_rfl) (by kernel_rfl) ?_
  conv => whnf
  repeat refine go ?_
  refine ACall.clo (l := 1) (g := 194) (a := itsV s.items) (xs := [nV id]) (t := 3) rfl ?_
  refine ACall.val (by kernel_rfl) (f193 s.items id hl) (by (first | rfl | (simp only [renL, AV.ren, List.nil_append, List.cons_append, rens]; try rfl))) (by (first | rfl | (simp only [renL, AV.ren, List.nil_append, List.cons_append, rens]; try rfl))) ?_
  conv => whnf
  repeat refine go ?_
  exact AFin.val (by (first | rfl | (simp only [renL, AV.ren, List.nil_append, List.cons_append, rens]; try rfl))) ⟨rfl, rfl⟩

theorem f331 (x : Rm) (id : Int) : Fun P 331 [.agg (rmC x), .ip [nV id]] (bV (((fun x => decide (x.id = id))) x)) := by
  refine spec_of hT (f := 331) (fn := Go.Proofs.Tryz.f331) (c := body Go.Proofs.Tryz.f331) (by kernel_rfl) (by kernel_rfl) ?_
  conv => whnf
  repeat' (first | refine go ?_ | ((first | refine ASplit.yes rfl ?_ | refine ASplit.no rfl ?_ | refine ACond.yes rfl ?_ | refine ACond.no rfl ?_ | refine ASplit.dec (fun _ => ?_) (fun _ => ?_) | refine ASplit.ndec (fun _ => ?_) (fun _ => ?_) | refine ACond.dec (fun _ => ?_) (fun _ => ?_) | refine ACond.ndec (fun _ => ?_) (fun _ => ?_)) <;> conv => whnf))
  all_goals exact AFin.val rfl ⟨rfl, rfl⟩

theorem f381 (l : List Rm) (id : Int) (hl : l.length ≤ 1000000) : Fun P 381 [rmsV l, .fn 331 [] [.ip [nV id]]] (nV (idxF (fun x => decide (x.id = id)) l 0)) := by
  refine spec_of hT (f := 381) (fn := Go.Proofs.Tryz.f381) (c := body Go.Proofs.Tryz.f381) (by kernel_rfl) (by kernel_rfl) ?_
  generalize hR : idxF (fun x => decide (x.id = id)) l 0 = R
  conv => whnf
  repeat refine go ?_
  refine ALoop.mk (fun n E H => ∃ i : Nat, n = l.length - i ∧ i ≤ l.length ∧ idxF (fun x => decide (x.id = id)) (l.drop i) i = R ∧
      E = pad [rmsV l, .fn 331 [] [.ip [nV id]], .any, .any, nV 0, .any, .any, nV l.length, nV i] 19 ∧ H = []) (n := l.length) _ _
    ⟨0, rfl, Nat.zero_le _, hR, rfl, rfl⟩ (Conv.fit (by repeat' (first | exact Fit.nil | refine Fit.any ?_ | refine Fit.same ?_))) ?_
  rintro _ _ _ ⟨i, rfl, hi, hI, rfl, rfl⟩
  conv => whnf
  repeat refine go ?_
  refine ACond.dec (fun h => ?_) (fun h => ?_)
  · have hil : i < l.length := by omega
    have w1 : IntKind.wrap .i64 ((i : Int) + 1) = ((i + 1 : Nat) : Int) := by rw [wrap_i64 _ (by omega) (by omega)]; omega
    rw [idxF_drop hil] at hI
    conv => whnf
    repeat (first | refine go ?_ | ((first | refine AReq.mk (by omega) ?_ | refine AIdx.flat (enc := rmC) rmC_len (xs := l) (i := i) hil ?_ | refine ACall.val (by kernel_rfl) (f331 l[i] id) (by (first | rfl | (simp only [renL, AV.ren, List.nil_append, List.cons_append, rens]; try rfl))) rfl ?_); conv => whnf))
    refine ACond.mk (fun h4 => ?_) (fun h4 => ?_)
    · conv => whnf
      repeat (first | refine go ?_ | ((first | refine AReq.mk (by omega) ?_ | refine AIdx.flat (enc := rmC) rmC_len (xs := l) (i := i) hil ?_ | refine ACall.val (by kernel_rfl) (f331 l[i] id) (by (first | rfl | (simp only [renL, AV.ren, List.nil_append, List.cons_append, rens]; try rfl))) rfl ?_); conv => whnf))
      refine AOut.stay ?_
      refine AFin.val rfl ⟨?_, rfl⟩
      rw [if_pos h4] at hI
      rw [hI]
    · conv => whnf
      repeat (first | refine go ?_ | ((first | refine AReq.mk (by omega) ?_ | refine AIdx.flat (enc := rmC) rmC_len (xs := l) (i := i) hil ?_ | refine ACall.val (by kernel_rfl) (f331 l[i] id) (by (first | rfl | (simp only [renL, AV.ren, List.nil_append, List.cons_append, rens]; try rfl))) rfl ?_); conv => whnf))
      rw [w1]
      exact AHead.mk (l.length - (i + 1)) _ _ (by omega) ⟨i + 1, rfl, by omega, by rw [← hI]; exact (if_neg (fun h5 => Bool.noConfusion (h5.symm.trans h4))).symm, rfl, rfl⟩ (Conv.fit (by repeat' (first | exact Fit.nil | refine Fit.any ?_ | refine Fit.same ?_)))
  · rw [idxF_end (by omega)] at hI
    conv => whnf
    repeat refine go ?_
    refine AOut.stay ?_
    conv => whnf
    repeat refine go ?_
    exact AFin.val rfl ⟨congrArg nV hI, rfl⟩

theorem f330 (l : List Rm) (id : Int) (hl : l.length ≤ 1000000) : Fun P 330 [rmsV l, .fn 331 [] [.ip [nV id]]] (.tup [.agg (rmC ((l.find? (fun x => decide (x.id = id))).getD rmZ)), bV (l.find? (fun x => decide (x.id = id))).isSome]) := by
  refine spec_of hT (f := 330) (fn := Go.Proofs.Tryz.f330) (c := body Go.Proofs.Tryz.f330) (by kernel_rfl) (by kernel_rfl) ?_
  conv => whnf
  repeat refine go ?_
  refine ACall.val (by kernel_rfl) (f381 l id hl) (by (first | rfl | (simp only [renL, AV.ren, List.nil_append, List.cons_append, rens]; try rfl))) rfl ?_
  rcases idxF_or (fun x => decide (x.id = id)) l 0 with ⟨h1, h2⟩ | ⟨i, hi, h1, h2⟩
  · rw [show idxF (fun x => decide (x.id = id)) l 0 = -1 from h1, h2]
    conv => whnf
    repeat refine ru ?_
    refine AFin.to (.tup [.agg (rmC rmZ), bV false]) [] (Conv.out (.tup (.cons (.agg (by repeat' (first | exact LendL.nil | refine LendL.cons .any ?_ | refine LendL.cons (.it _) ?_ | refine LendL.cons .nil ?_ | refine LendL.cons (.vx (cs' := []) rfl) ?_ | refine LendL.cons (.sip rfl) ?_ | refine LendL.cons (.sm' rfl ?_ ?_ ?_) ?_))) (.cons (.it _) .nil))) (fun ρ => by (first | rfl | (simp only [renL, AV.ren, List.nil_append, List.cons_append, rens]; try rfl)))) ⟨rfl, rfl⟩
  · rw [show idxF (fun x => decide (x.id = id)) l 0 = (i : Int) by simpa using h1, h2]
    conv => whnf
    repeat refine go ?_
    refine ACond.dec (fun h => ?_) (fun h => ?_)
    · omega
    conv => whnf
    repeat (first | refine go ?_ | ((first | refine AReq.mk (by omega) ?_ | refine AIdx.flat (enc := rmC) rmC_len (xs := l) (i := i) hi ?_); conv => whnf))
    exact AFin.val (by (first | rfl | (simp only [renL, AV.ren, List.nil_append, List.cons_append, rens]; try rfl))) ⟨rfl, rfl⟩

theorem f245 (s : Sta) (id : Int) (hl : s.rmas.length ≤ 1000000) : Fun P 245 [stA s, nV id] (.tup [.agg (rmC ((s.rmas.find? (fun x => decide (x.id = id))).getD rmZ)), bV (s.rmas.find? (fun x => decide (x.id = id))).isSome]) := by
  refine spec_of hT (f := 245) (fn := Go.Proofs.Tryz.f245) (c := body Go.Proofs.Tryz.f245) (by kernel_rfl) (by kernel_rfl) ?_
  conv => whnf
  repeat refine go ?_
  refine ACall.clo (l := 1) (g := 331) (a := rmsV s.rmas) (xs := [nV id]) (t := 3) rfl ?_
  refine ACall.val (by kernel_rfl) (f330 s.rmas id hl) (by (first | rfl | (simp only [renL, AV.ren, List.nil_append, List.cons_append, rens]; try rfl))) (by (first | rfl | (simp only [renL, AV.ren, List.nil_append, List.cons_append, rens]; try rfl))) ?_
  conv => whnf
  repeat refine go ?_
  exact AFin.val (by (first | rfl | (simp only [renL, AV.ren, List.nil_append, List.cons_append, rens]; try rfl))) ⟨rfl, rfl⟩
end Go.Aw.U1

set_option linter.unusedSimpArgs false
set_option linter.unusedVariables false
set_option maxHeartbeats 2000000
namespace Go.Aw.U1
open Go Go.Proofs

/-! ### amounts -/
def addT : List Int → Int → Int × Int
  | [], s => (s, 0)
  | n :: l, s => if inB n = true then if inB (s + n) = true then addT l (s + n) else (0, 8) else (0, 8)
def numE (p : Int × Int) : AV := .tup [nV p.1, nV p.2]
theorem inB_iff {n : Int} : inB n = true ↔ -1000000000000 ≤ n ∧ n ≤ 1000000000000 := by simp [inB]
theorem addT_drop {l : List Int} {i : Nat} {s : Int} (h : i < l.length) : addT (l.drop i) s = if inB l[i] = true then if inB (s + l[i]) = true then addT (l.drop (i + 1)) (s + l[i]) else (0, 8) else (0, 8) := by
  rw [List.drop_eq_getElem_cons h, addT]
theorem f105 (l : List Int) (hl : l.length ≤ 1000000) : Fun P 105 [isV l] (numE (addT l 0)) := by
  refine spec_of hT (f := 105) (fn := Go.Proofs.Tryz.f105) (c := body Go.Proofs.Tryz.f105) (by kernel_rfl) (by kernel_rfl) ?_
  generalize hR : addT l 0 = R
  conv => whnf
  repeat refine go ?_
  refine ALoop.mk (fun n E H => ∃ (i : Nat) (s : Int), n = l.length - i ∧ i ≤ l.length ∧ inB s = true ∧ addT (l.drop i) s = R ∧
      E = pad [isV l, .any, nV 0, nV 0, nV s, .any, .any, isV l, nV l.length, nV i] 28 ∧ H = []) (n := l.length) _ _
    ⟨0, 0, rfl, Nat.zero_le _, rfl, hR, rfl, rfl⟩ (Conv.fit (by repeat' (first | exact Fit.nil | refine Fit.any ?_ | refine Fit.same ?_))) ?_
  rintro _ _ _ ⟨i, s, rfl, hi, hs, hI, rfl, rfl⟩
  conv => whnf
  repeat refine go ?_
  refine ACond.dec (fun h => ?_) (fun h => ?_)
  · have hil : i < l.length := by omega
    have w1 : IntKind.wrap .i64 ((i : Int) + 1) = ((i + 1 : Nat) : Int) := by rw [wrap_i64 _ (by omega) (by omega)]; omega
    rw [addT_drop hil] at hI
    conv => whnf
    repeat (first | refine go ?_ | ((first | refine AReq.mk (by omega) ?_ | refine AIdx.flat (enc := iC) iC_len (xs := l) (i := i) hil ?_); conv => whnf))
    refine ACall.val (by kernel_rfl) (f183 l[i]) rfl rfl ?_
    rcases Bool.eq_false_or_eq_true (inB l[i]) with g | g
    case inr =>
      rw [g] at hI ⊢
      conv => whnf
      repeat (first | refine ru ?_ | ((first | refine AReq.mk (by omega) ?_ | refine AIdx.flat (enc := iC) iC_len (xs := l) (i := i) hil ?_); conv => whnf))
      refine AOut.stay ?_
      conv => whnf
      repeat (first | refine ru ?_ | ((first | refine AReq.mk (by omega) ?_ | refine AIdx.flat (enc := iC) iC_len (xs := l) (i := i) hil ?_); conv => whnf))
      exact AFin.val rfl ⟨by rw [← hI]; rfl, rfl⟩
    rw [g] at hI ⊢
    rw [if_pos rfl] at hI
    have g1 := inB_iff.1 g
    have g2 := inB_iff.1 hs
    have w2 : IntKind.wrap .i64 (s + l[i]) = s + l[i] := by rw [wrap_i64 _ (by omega) (by omega)]
    conv => whnf
    repeat (first | refine ru ?_ | ((first | refine AReq.mk (by omega) ?_ | refine AIdx.flat (enc := iC) iC_len (xs := l) (i := i) hil ?_); conv => whnf))
    rw [w2]
    refine ACall.val (by kernel_rfl) (f183 (s + l[i])) rfl rfl ?_
    rcases Bool.eq_false_or_eq_true (inB (s + l[i])) with g3 | g3
    case inr =>
      rw [g3] at hI ⊢
      conv => whnf
      repeat (first | refine ru ?_ | ((first | refine AReq.mk (by omega) ?_ | refine AIdx.flat (enc := iC) iC_len (xs := l) (i := i) hil ?_); conv => whnf))
      refine AOut.stay ?_
      conv => whnf
      repeat (first | refine ru ?_ | ((first | refine AReq.mk (by omega) ?_ | refine AIdx.flat (enc := iC) iC_len (xs := l) (i := i) hil ?_); conv => whnf))
      exact AFin.val rfl ⟨by rw [← hI]; rfl, rfl⟩
    rw [g3] at hI ⊢
    rw [if_pos rfl] at hI
    conv => whnf
    repeat (first | refine ru ?_ | ((first | refine AReq.mk (by omega) ?_ | refine AIdx.flat (enc := iC) iC_len (xs := l) (i := i) hil ?_); conv => whnf))
    rw [w1, w2]
    exact AHead.mk (l.length - (i + 1)) _ _ (by omega) ⟨i + 1, _, rfl, by omega, g3, hI, rfl, rfl⟩ (Conv.fit (by repeat' (first | exact Fit.nil | refine Fit.any ?_ | refine Fit.same ?_)))
  · rw [List.drop_of_length_le (by omega)] at hI
    conv => whnf
    repeat refine go ?_
    refine AOut.stay ?_
    conv => whnf
    repeat refine go ?_
    exact AFin.val rfl ⟨by rw [← hI]; rfl, rfl⟩

/-! ### serials -/
theorem wrap_i32 (n : Int) (h1 : -2147483648 ≤ n) (h2 : n ≤ 2147483647) : IntKind.wrap .i32 n = n := by
  simp only [IntKind.wrap, IntKind.signed, IntKind.bits]
  simp
  omega
def clsF (n : Int) : Int := if (97 ≤ n ∧ n ≤ 122) ∨ (65 ≤ n ∧ n ≤ 90) then 1 else if 48 ≤ n ∧ n ≤ 57 then 2 else if n = 45 then 3 else 0
def foldR (n : Int) : Int := if 97 ≤ n ∧ n ≤ 122 then n - 32 else n
def okR (n last : Int) : Bool := !decide (clsF n = 0) && (!decide (clsF n = 3) || !decide (last = 3))
theorem f386 (n : Int) : Fun P 386 [rI n] (nV (clsF n)) := by
  refine spec_of hT (f := 386) (fn := Go.Proofs.Tryz.f386) (c := body Go.Proofs.Tryz.f386) (by kernel_rfl) (by kernel_rfl) ?_
  conv => whnf
  repeat' (first | refine go ?_ | ((first | refine ASplit.yes rfl ?_ | refine ASplit.no rfl ?_ | refine ACond.yes rfl ?_ | refine ACond.no rfl ?_ | refine ASplit.dec (fun _ => ?_) (fun _ => ?_) | refine ASplit.ndec (fun _ => ?_) (fun _ => ?_) | refine ACond.dec (fun _ => ?_) (fun _ => ?_) | refine ACond.ndec (fun _ => ?_) (fun _ => ?_)) <;> conv => whnf))
  all_goals refine AFin.val rfl ⟨congrArg nV ?_, rfl⟩
  all_goals (unfold clsF; first | omega | (rw [if_pos (by omega)]) | (rw [if_neg (by omega), if_pos (by omega)]) | (rw [if_neg (by omega), if_neg (by omega), if_pos (by omega)]) | (rw [if_neg (by omega), if_neg (by omega), if_neg (by omega)]))
theorem f307 (n : Int) : Fun P 307 [rI n] (rI (foldR n)) := by
  refine spec_of hT (f := 307) (fn := Go.Proofs.Tryz.f307) (c := body Go.Proofs.Tryz.f307) (by kernel_rfl) (by kernel_rfl) ?_
  conv => whnf
  repeat' (first | refine go ?_ | ((first | refine ASplit.yes rfl ?_ | refine ASplit.no rfl ?_ | refine ACond.yes rfl ?_ | refine ACond.no rfl ?_ | refine ASplit.dec (fun _ => ?_) (fun _ => ?_) | refine ASplit.ndec (fun _ => ?_) (fun _ => ?_) | refine ACond.dec (fun _ => ?_) (fun _ => ?_) | refine ACond.ndec (fun _ => ?_) (fun _ => ?_)) <;> conv => whnf))
  all_goals refine AFin.val rfl ⟨congrArg rI ?_, rfl⟩
  all_goals (unfold foldR; first | omega | (rw [if_pos (by omega), wrap_i32 (n - 97) (by omega) (by omega), wrap_i32 (n - 97 + 65) (by omega) (by omega)]; omega) | (rw [if_neg (by omega)]))
theorem f385 (n last : Int) : Spec P 385 [rI n, .ptr 0 0] [.cells 3 [nV last]] (fun r H => r = bV (okR n last) ∧ H = [.cells 3 [nV (clsF n)]]) := by
  refine spec_of hT (f := 385) (fn := Go.Proofs.Tryz.f385) (c := body Go.Proofs.Tryz.f385) (by kernel_rfl) (by kernel_rfl) ?_
  conv => whnf
  repeat' (first | refine go ?_ | ((first | refine ASplit.yes rfl ?_ | refine ASplit.no rfl ?_ | refine ACond.yes rfl ?_ | refine ACond.no rfl ?_ | refine ASplit.dec (fun _ => ?_) (fun _ => ?_) | refine ASplit.ndec (fun _ => ?_) (fun _ => ?_) | refine ACond.dec (fun _ => ?_) (fun _ => ?_) | refine ACond.ndec (fun _ => ?_) (fun _ => ?_) | refine ACall.val (by kernel_rfl) (f386 _) rfl rfl ?_) <;> conv => whnf))
  all_goals refine AFin.mk ⟨congrArg bV ?_, rfl⟩
  all_goals simp_all [okR]
theorem f306 : Spec P 306 [] [] (fun r H => r = .fn 385 [] [.ptr 0 0] ∧ H = [.cells 3 [nV 3]]) := by
  refine spec_of hT (f := 306) (fn := Go.Proofs.Tryz.f306) (c := body Go.Proofs.Tryz.f306) (by kernel_rfl) (by kernel_rfl) ?_
  conv => whnf
  repeat' (first | refine go ?_ | ((first | refine ASplit.yes rfl ?_ | refine ASplit.no rfl ?_ | refine ACond.yes rfl ?_ | refine ACond.no rfl ?_ | refine ASplit.dec (fun _ => ?_) (fun _ => ?_) | refine ASplit.ndec (fun _ => ?_) (fun _ => ?_) | refine ACond.dec (fun _ => ?_) (fun _ => ?_) | refine ACond.ndec (fun _ => ?_) (fun _ => ?_)) <;> conv => whnf))
  all_goals refine AFin.mk ⟨rfl, rfl⟩
end Go.Aw.U1

set_option linter.unusedSimpArgs false
set_option linter.unusedVariables false
set_option maxHeartbeats 2000000
namespace Go.Aw.U1
open Go Go.Proofs

theorem dec_pos (s : ByteArray) (i : Nat) : 0 < (Utf8.decode s i).2 := by
  unfold Utf8.decode
  simp only
  repeat' split
  all_goals simp
def cntT (s : ByteArray) : Nat → Nat → Int → Int
  | 0, _, k => k
  | n + 1, pos, k => if pos < s.size then cntT s n (pos + (Utf8.decode s pos).2) (k + 1) else k
theorem und9 : P.underlying 9 = some .string := by kernel_rfl
theorem und21 : P.underlying 21 = some (.int .i32) := by kernel_rfl
theorem und256 : P.underlying 350 = some (.slice 21) := by kernel_rfl
theorem f304 (s : ByteArray) (hs : s.size ≤ 9223372036854775807) : Fun P 304 [sV s] (nV (cntT s s.size 0 0)) := by
  refine spec_of hT (f := 304) (fn := Go.Proofs.Tryz.f304) (c := body Go.Proofs.Tryz.f304) (by kernel_rfl) (by kernel_rfl) ?_
  generalize hR : cntT s s.size 0 0 = R
  conv => whnf
  repeat refine go ?_
  refine AOp.rangeS und9 rfl ?_
  conv => whnf
  repeat refine go ?_
  refine ALoop.mk (fun n E H => ∃ (pos : Nat) (k : Int), 0 ≤ k ∧ k + n ≤ s.size ∧ s.size - pos ≤ n ∧ cntT s n pos k = R ∧
      E = pad [sV s, .any, nV k, .any, .ptr 0 0] 10 ∧ H = [sIt s pos]) (n := s.size) _ _
    ⟨0, 0, by omega, by omega, by omega, hR, rfl, rfl⟩ (Conv.fit (by repeat' (first | exact Fit.nil | refine Fit.any ?_ | refine Fit.same ?_))) ?_
  rintro n _ _ ⟨pos, k, hk, hkn, hpn, hI, rfl, rfl⟩
  conv => whnf
  repeat refine go ?_
  refine AOp.nextS (li := 0) (s := s) (pos := pos) rfl rfl (fun h0 => ?_) (fun h0 => ?_)
  · have hR2 : k = R := by
      rw [← hI]
      cases n with
      | zero => rfl
      | succ n => rw [cntT, if_neg h0]
    conv => whnf
    repeat refine ru ?_
    refine AOut.stay ?_
    conv => whnf
    repeat refine go ?_
    exact AFin.val rfl ⟨congrArg nV hR2, rfl⟩
  · obtain ⟨n, rfl⟩ : ∃ m, n = m + 1 := ⟨n - 1, by omega⟩
    have hw := dec_pos s pos
    rw [cntT, if_pos h0] at hI
    conv => whnf
    repeat refine ru ?_
    have w1 : IntKind.wrap .i64 (k + 1) = k + 1 := by rw [wrap_i64 _ (by omega) (by omega)]
    rw [w1]
    exact AHead.mk n _ _ (by omega) ⟨pos + (Utf8.decode s pos).2, k + 1, by omega, by omega, by omega, hI, rfl, rfl⟩ (Conv.fit (by repeat' (first | exact Fit.nil | refine Fit.any ?_ | refine Fit.same ?_)))
def sufB (s t : ByteArray) : Bool := decide (t.size ≤ s.size) && ((s.extract (s.size - t.size) s.size).toList == t.toList)
theorem f384 (s t : ByteArray) (hs : s.size ≤ 9223372036854775807) : Fun P 384 [sV s, sV t] (bV (sufB s t)) := by
  refine spec_of hT (f := 384) (fn := Go.Proofs.Tryz.f384) (c := body Go.Proofs.Tryz.f384) (by kernel_rfl) (by kernel_rfl) ?_
  unfold sufB
  conv => whnf
  repeat refine go ?_
  refine ASplit.dec (fun h => ?_) (fun h => ?_)
  · rw [decide_eq_true (show t.size ≤ s.size by omega)]
    have w1 : IntKind.wrap .i64 ((s.size : Int) - t.size) = ((s.size - t.size : Nat) : Int) := by rw [wrap_i64 _ (by omega) (by omega)]; omega
    conv => whnf
    repeat (first | refine go ?_ | (refine AReq.mk (by omega) ?_; conv => whnf))
    rw [w1]
    conv => whnf
    repeat (first | refine go ?_ | (refine AReq.mk (by omega) ?_; conv => whnf))
    exact AFin.val rfl ⟨rfl, rfl⟩
  · rw [decide_eq_false (show ¬ t.size ≤ s.size by omega)]
    conv => whnf
    repeat refine go ?_
    exact AFin.val rfl ⟨rfl, rfl⟩
theorem f305 (s t : ByteArray) (hs : s.size ≤ 9223372036854775807) : Fun P 305 [sV s, sV t] (bV (sufB s t)) := by
  refine spec_of hT (f := 305) (fn := Go.Proofs.Tryz.f305) (c := body Go.Proofs.Tryz.f305) (by kernel_rfl) (by kernel_rfl) ?_
  conv => whnf
  repeat refine go ?_
  refine ACall.val (by kernel_rfl) (f384 s t hs) rfl rfl ?_
  conv => whnf
  repeat refine go ?_
  exact AFin.val rfl ⟨rfl, rfl⟩
end Go.Aw.U1

/-
  Aw, part 40: closed calls are computed. The frame as a tree, small steps that hand on what is made.
-/
set_option linter.unusedSimpArgs false
set_option linter.unusedVariables false
namespace Go.Aw
open Go

/-! ### the frame as a tree -/
inductive ET where
  | leaf (x : AV)
  | node (n : Nat) (l r : ET)

def ET.toL : ET → List AV
  | .leaf x => [x]
  | .node _ l r => l.toL ++ r.toL

def ET.wf : ET → Prop
  | .leaf _ => True
  | .node n l r => n = l.toL.length ∧ l.wf ∧ r.wf

noncomputable def ET.get (t : ET) : Nat → AV :=
  @ET.rec (fun _ => Nat → AV) (fun x i => Nat.casesOn i x (fun _ => .any)) (fun n _ _ gl gr i => cond (Nat.ble n i) (gr (Nat.sub i n)) (gl i)) t

theorem lk_append : ∀ (xs ys : List AV) (i : Nat), lk (xs ++ ys) i = if i < xs.length then lk xs i else lk ys (i - xs.length)
  | [], ys, i => by simp
  | x :: xs, ys, 0 => by simp [lk]
  | x :: xs, ys, i + 1 => by simp only [List.cons_append, lk, lk_append xs ys i, List.length_cons, Nat.add_lt_add_iff_right, Nat.add_sub_add_right]

theorem ET.get_eq : ∀ (t : ET) (i : Nat), t.wf → t.get i = lk t.toL i
  | .leaf x, 0, _ => rfl
  | .leaf x, i + 1, _ => by simp [ET.get, ET.toL, lk]
  | .node n l r, i, h => by
    obtain ⟨h1, h2, h3⟩ := h
    have e : (ET.node n l r).get i = cond (Nat.ble n i) (r.get (i - n)) (l.get i) := rfl
    rw [e, ET.toL, lk_append, ← h1, ET.get_eq r _ h3, ET.get_eq l _ h2]
    by_cases g : i < n
    · rw [if_pos g]
      have : Nat.ble n i = false := by rw [Bool.eq_false_iff]; intro e; have := Nat.le_of_ble_eq_true e; omega
      rw [this]; rfl
    · rw [if_neg g]
      have : Nat.ble n i = true := Nat.ble_eq_true_of_le (by omega)
      rw [this]; rfl

section
variable {R : Type}

noncomputable def ET.setC (t : ET) : Nat → AV → (ET → Option R) → Option R :=
  @ET.rec (fun _ => Nat → AV → (ET → Option R) → Option R) (fun x i v K => Nat.casesOn i (K (.leaf v)) (fun _ => none))
    (fun n l r gl gr i v K => cond (Nat.ble n i) (gr (Nat.sub i n) v fun r => K (.node n l r)) (gl i v fun l => K (.node n l r))) t

theorem ET.setC_s : ∀ (t : ET) (i : Nat) (v : AV) (K : ET → Option R) (r : R), t.wf → t.setC i v K = some r → ∃ t', K t' = some r ∧ t'.wf ∧ t'.toL = t.toL.set i v
  | .leaf x, 0, v, K, r, _, h => ⟨.leaf v, h, trivial, rfl⟩
  | .leaf x, i + 1, v, K, r, _, h => by cases h
  | .node n l r, i, v, K, q, hw, h => by
    obtain ⟨h1, h2, h3⟩ := hw
    have e : (ET.node n l r).setC i v K = cond (Nat.ble n i) (r.setC (i - n) v fun r => K (.node n l r)) (l.setC i v fun l => K (.node n l r)) := rfl
    rw [e] at h
    cases g : Nat.ble n i with
    | true =>
      rw [g] at h
      obtain ⟨r', k1, k2, k3⟩ := ET.setC_s r _ v _ q h3 h
      have := Nat.le_of_ble_eq_true g
      exact ⟨_, k1, ⟨h1, h2, k2⟩, by rw [ET.toL, ET.toL, k3, List.set_append_right _ _ (by omega), h1]⟩
    | false =>
      rw [g] at h
      obtain ⟨l', k1, k2, k3⟩ := ET.setC_s l _ v _ q h2 h
      have : ¬ n ≤ i := fun h => by rw [Nat.ble_eq_true_of_le h] at g; cases g
      exact ⟨_, k1, ⟨by rw [k3, List.length_set]; exact h1, k2, h3⟩, by rw [ET.toL, ET.toL, k3, List.set_append_left _ _ (by omega)]⟩

/-- n places of which nothing is known -/
noncomputable def anyT (f : Nat) : Nat → ET :=
  @Nat.rec (fun _ => Nat → ET) (fun _ => .leaf .any) (fun _ g n => cond (Nat.ble n 1) (.leaf .any) (.node (Nat.div n 2) (g (Nat.div n 2)) (g (Nat.sub n (Nat.div n 2))))) f

theorem anyT_s : ∀ (f n : Nat), 1 ≤ n → n ≤ 2 ^ f → (anyT f n).wf ∧ (anyT f n).toL = List.replicate n .any
  | 0, n, h1, h2 => by obtain rfl : n = 1 := by omega
                       exact ⟨trivial, rfl⟩
  | f + 1, n, h1, h2 => by
    have e : anyT (f + 1) n = cond (Nat.ble n 1) (.leaf .any) (.node (n / 2) (anyT f (n / 2)) (anyT f (n - n / 2))) := rfl
    rw [e]
    rw [Nat.pow_succ] at h2
    cases g : Nat.ble n 1 with
    | true =>
      have := Nat.le_of_ble_eq_true g
      obtain rfl : n = 1 := by omega
      exact ⟨trivial, rfl⟩
    | false =>
      have : ¬ n ≤ 1 := fun h => by rw [Nat.ble_eq_true_of_le h] at g; cases g
      obtain ⟨a1, a2⟩ := anyT_s f (n / 2) (by omega) (by omega)
      obtain ⟨b1, b2⟩ := anyT_s f (n - n / 2) (by omega) (by omega)
      refine ⟨⟨by rw [a2, List.length_replicate], a1, b1⟩, ?_⟩
      show (anyT f (n / 2)).toL ++ (anyT f (n - n / 2)).toL = _
      rw [a2, b2, List.replicate_append_replicate]
      congr 1; omega

/-! ### numbers, bools, texts are made at once -/
noncomputable def fN (n : Nat) (K : Nat → Option R) : Option R := @Nat.casesOn (fun _ => Option R) n (K 0) (fun m => K (Nat.succ m))
theorem fN_eq (n : Nat) (K : Nat → Option R) : fN n K = K n := by cases n <;> rfl
noncomputable def fI (n : Int) (K : Int → Option R) : Option R := @Int.casesOn (fun _ => Option R) n (fun m => fN m fun m => K (.ofNat m)) (fun m => fN m fun m => K (.negSucc m))
theorem fI_eq (n : Int) (K : Int → Option R) : fI n K = K n := by
  cases n with
  | ofNat m => exact fN_eq m fun m => K (.ofNat m)
  | negSucc m => exact fN_eq m fun m => K (.negSucc m)
def fB (b : Bool) (K : Bool → Option R) : Option R := cond b (K true) (K false)
theorem fB_eq (b : Bool) (K : Bool → Option R) : fB b K = K b := by cases b <;> rfl
noncomputable def fU (b : UInt8) (K : UInt8 → Option R) : Option R := fN b.toNat fun n => K (UInt8.ofNat n)
theorem fU_eq (b : UInt8) (K : UInt8 → Option R) : fU b K = K b := by unfold fU; rw [fN_eq]; simp
noncomputable def fL (l : List UInt8) : (List UInt8 → Option R) → Option R :=
  @List.rec UInt8 (fun _ => (List UInt8 → Option R) → Option R) (fun K => K []) (fun b _ g K => fU b fun b => g fun bs => K (b :: bs)) l
theorem fL_eq : ∀ (l : List UInt8) (K : List UInt8 → Option R), fL l K = K l
  | [], K => rfl
  | b :: l, K => by
    have e : fL (b :: l) K = fU b fun b => fL l fun bs => K (b :: bs) := rfl
    rw [e, fU_eq, fL_eq l]
noncomputable def fStr (l : List UInt8) (K : AV → Option R) : Option R := fL l fun l => K (.v (.string ⟨⟨l⟩⟩))
theorem fStr_eq (l : List UInt8) (K : AV → Option R) : fStr l K = K (.v (.string ⟨⟨l⟩⟩)) := fL_eq _ _
noncomputable def intC (k : IntKind) (n : Int) (K : AV → Option R) : Option R := fI n fun n => K (.v (.int k n))
theorem intC_eq (k : IntKind) (n : Int) (K : AV → Option R) : intC k n K = K (.v (.int k n)) := fI_eq _ _
def booC (b : Bool) (K : AV → Option R) : Option R := fB b fun b => K (.v (.bool b))
theorem booC_eq (b : Bool) (K : AV → Option R) : booC b K = K (.v (.bool b)) := fB_eq _ _

/-! ### small steps -/
def reqC (b : Bool) (K : Option R) : Option R := cond b K none
theorem reqC_s {b : Bool} {K : Option R} {r : R} (h : reqC b K = some r) : b = true ∧ K = some r := by cases b <;> simp_all [reqC]

noncomputable def evC (t : ET) (o : Operand) (K : AV → Option R) : Option R :=
  match o with
  | .tmp i => K (t.get i)
  | .const v => K (.v v)
  | .global _ => none
  | .func f => K (.fn f [] [])
theorem evC_s {t : ET} (hw : t.wf) {o : Operand} {K : AV → Option R} {K' : AV → Prop} {r : R} (h : evC t o K = some r) (hk : ∀ v, K v = some r → K' v) : evK t.toL o K' := by
  cases o with
  | tmp i => simp only [evC, ET.get_eq _ _ hw] at h; simp only [evK, fv_eq]; exact hk _ h
  | const v => exact hk _ h
  | global g => cases h
  | func f => exact hk _ h

noncomputable def evsC (t : ET) : List Operand → (List AV → Option R) → Option R
  | [], K => K []
  | o :: os, K => evC t o fun x => evsC t os fun xs => K (x :: xs)
theorem evsC_s {t : ET} (hw : t.wf) : ∀ {os : List Operand} {K : List AV → Option R} {K' : List AV → Prop} {r : R}, evsC t os K = some r → (∀ v, K v = some r → K' v) → evsK t.toL os K'
  | [], K, K', r, h, hk => hk _ h
  | o :: os, K, K', r, h, hk => evC_s hw h fun x h => evsC_s hw h fun xs h => hk _ h

noncomputable def evoC (t : ET) (o : Option Operand) (K : Option AV → Option R) : Option R :=
  match o with
  | none => K none
  | some o => evC t o fun x => K (some x)
theorem evoC_s {t : ET} (hw : t.wf) {o : Option Operand} {K : Option AV → Option R} {K' : Option AV → Prop} {r : R} (h : evoC t o K = some r) (hk : ∀ v, K v = some r → K' v) : evoK t.toL o K' := by
  cases o with
  | none => exact hk _ h
  | some o => exact evC_s (o := o) (K := fun x => K (some x)) hw h fun x h => hk _ h

noncomputable def drpC (xs : List AV) (n : Nat) (K : List AV → Option R) : Option R :=
  @Nat.rec (fun _ => List AV → Option R) K (fun _ g xs => @List.casesOn AV (fun _ => Option R) xs none (fun _ xs => g xs)) n xs
theorem drpC_s : ∀ {n : Nat} {xs : List AV} {K : List AV → Option R} {r : R}, drpC xs n K = some r → n ≤ xs.length ∧ K (xs.drop n) = some r
  | 0, xs, K, r, h => ⟨Nat.zero_le _, h⟩
  | n + 1, [], K, r, h => by cases h
  | n + 1, x :: xs, K, r, h => by
    have := drpC_s (n := n) (xs := xs) (K := K) h
    exact ⟨by simp; exact this.1, by simpa using this.2⟩

noncomputable def takC (xs : List AV) (n : Nat) (K : List AV → Option R) : Option R :=
  @Nat.rec (fun _ => List AV → (List AV → Option R) → Option R) (fun _ K => K []) (fun _ g xs K => @List.casesOn AV (fun _ => Option R) xs none (fun x xs => g xs fun ys => K (x :: ys))) n xs K
theorem takC_s : ∀ {n : Nat} {xs : List AV} {K : List AV → Option R} {r : R}, takC xs n K = some r → n ≤ xs.length ∧ K (xs.take n) = some r
  | 0, xs, K, r, h => ⟨Nat.zero_le _, by rw [List.take_zero]; exact h⟩
  | n + 1, [], K, r, h => by cases h
  | n + 1, x :: xs, K, r, h => by
    have := takC_s (n := n) (xs := xs) (K := fun ys => K (x :: ys)) h
    exact ⟨by simp; exact this.1, by simpa using this.2⟩

noncomputable def ctC (xs : List AV) (o n : Nat) (K : List AV → Option R) : Option R := drpC xs o fun ys => takC ys n K
theorem ctC_s {xs : List AV} {o n : Nat} {K : List AV → Option R} {r : R} (h : ctC xs o n K = some r) : o + n ≤ xs.length ∧ K ((xs.drop o).take n) = some r := by
  obtain ⟨h1, h2⟩ := drpC_s h
  obtain ⟨h3, h4⟩ := takC_s h2
  rw [List.length_drop] at h3
  exact ⟨by omega, h4⟩

noncomputable def splC (xs : List AV) (o : Nat) (ys : List AV) (K : List AV → Option R) : Option R :=
  @Nat.rec (fun _ => List AV → (List AV → Option R) → Option R)
    (fun xs K => @List.rec AV (fun _ => List AV → (List AV → Option R) → Option R) (fun xs K => K xs) (fun y _ g xs K => @List.casesOn AV (fun _ => Option R) xs none (fun _ xs => g xs fun r => K (y :: r))) ys xs K)
    (fun _ g xs K => @List.casesOn AV (fun _ => Option R) xs none (fun x xs => g xs fun r => K (x :: r))) o xs K
theorem splC_0 : ∀ {ys xs : List AV} {K : List AV → Option R} {r : R}, splC xs 0 ys K = some r → ys.length ≤ xs.length ∧ K (spl xs 0 ys) = some r
  | [], xs, K, r, h => ⟨Nat.zero_le _, by
    have e : spl xs 0 [] = xs := by simp [spl]
    rw [e]; exact h⟩
  | y :: ys, [], K, r, h => by cases h
  | y :: ys, x :: xs, K, r, h => by
    have := splC_0 (ys := ys) (xs := xs) (K := fun r => K (y :: r)) h
    exact ⟨by simp; exact this.1, by simpa [spl] using this.2⟩
theorem splC_s : ∀ {o : Nat} {xs ys : List AV} {K : List AV → Option R} {r : R}, splC xs o ys K = some r → o + ys.length ≤ xs.length ∧ K (spl xs o ys) = some r
  | 0, xs, ys, K, r, h => by simpa using splC_0 h
  | o + 1, [], ys, K, r, h => by cases h
  | o + 1, x :: xs, ys, K, r, h => by
    have := splC_s (o := o) (xs := xs) (ys := ys) (K := fun r => K (x :: r)) h
    have e : o + 1 + ys.length = (o + ys.length) + 1 := by omega
    exact ⟨by rw [List.length_cons]; omega, by rw [← this.2]; simp [spl, e]⟩

noncomputable def blkC (H : List ABlk) (l : Nat) (K : ABlk → Option R) : Option R :=
  @Nat.rec (fun _ => List ABlk → Option R) (fun H => @List.casesOn ABlk (fun _ => Option R) H none (fun b _ => K b)) (fun _ g H => @List.casesOn ABlk (fun _ => Option R) H none (fun _ H => g H)) l H
theorem blkC_s : ∀ {l : Nat} {H : List ABlk} {K : ABlk → Option R} {r : R}, blkC H l K = some r → ∃ b, H[l]? = some b ∧ K b = some r
  | 0, [], K, r, h => by cases h
  | 0, b :: H, K, r, h => ⟨b, rfl, h⟩
  | l + 1, [], K, r, h => by cases h
  | l + 1, b :: H, K, r, h => by simpa using blkC_s (l := l) (H := H) h

noncomputable def setHC (H : List ABlk) (l : Nat) (b : ABlk) (K : List ABlk → Option R) : Option R :=
  @Nat.rec (fun _ => List ABlk → (List ABlk → Option R) → Option R) (fun H K => @List.casesOn ABlk (fun _ => Option R) H none (fun _ H => K (b :: H)))
    (fun _ g H K => @List.casesOn ABlk (fun _ => Option R) H none (fun c H => g H fun H => K (c :: H))) l H K
theorem setHC_s : ∀ {l : Nat} {H : List ABlk} {b : ABlk} {K : List ABlk → Option R} {r : R}, setHC H l b K = some r → l < H.length ∧ K (H.set l b) = some r
  | 0, [], b, K, r, h => by cases h
  | 0, c :: H, b, K, r, h => ⟨by simp, h⟩
  | l + 1, [], b, K, r, h => by cases h
  | l + 1, c :: H, b, K, r, h => by
    have := setHC_s (l := l) (H := H) (b := b) (K := fun H => K (c :: H)) h
    exact ⟨by simp; exact this.1, by simpa using this.2⟩

/-- a list's end -/
noncomputable def appC {α : Type} (xs ys : List α) (K : List α → Option R) : Option R :=
  @List.rec α (fun _ => (List α → Option R) → Option R) (fun K => K ys) (fun x _ g K => g fun r => K (x :: r)) xs K
theorem appC_eq {α : Type} : ∀ {xs ys : List α} {K : List α → Option R}, appC xs ys K = K (xs ++ ys)
  | [], ys, K => rfl
  | x :: xs, ys, K => by
    have e : appC (x :: xs) ys K = appC xs ys fun r => K (x :: r) := rfl
    rw [e, appC_eq]; rfl

noncomputable def lenC {α : Type} (xs : List α) (K : Nat → Option R) : Option R :=
  @List.rec α (fun _ => Nat → Option R) (fun n => K n) (fun _ _ g n => fN n fun n => g (Nat.succ n)) xs 0
theorem lenC_go {α : Type} {K : Nat → Option R} : ∀ (xs : List α) (n : Nat), @List.rec α (fun _ => Nat → Option R) (fun n => K n) (fun _ _ g n => fN n fun n => g (Nat.succ n)) xs n = K (n + xs.length)
  | [], n => rfl
  | x :: xs, n => by
    show fN n (fun n => @List.rec α (fun _ => Nat → Option R) (fun n => K n) (fun _ _ g n => fN n fun n => g (Nat.succ n)) xs (Nat.succ n)) = _
    rw [fN_eq, lenC_go xs]; congr 1; simp; omega
theorem lenC_eq {α : Type} (xs : List α) (K : Nat → Option R) : lenC xs K = K xs.length := by unfold lenC; rw [lenC_go]; simp

/-- one block more -/
noncomputable def newC (H : List ABlk) (b : ABlk) (K : Nat → List ABlk → Option R) : Option R := lenC H fun n => appC H [b] fun H => K n H
theorem newC_eq {H : List ABlk} {b : ABlk} {K : Nat → List ABlk → Option R} : newC H b K = K H.length (H ++ [b]) := by unfold newC; rw [lenC_eq, appC_eq]

def cellsC (a : AV) (K : List AV → Option R) : Option R :=
  match a with
  | .any => none
  | .tup _ => none
  | .agg xs => K xs
  | .v y => match y with
    | .agg _ => none
    | .tuple _ => none
    | y => K [.v y]
  | x => K [x]
theorem cellsC_s {a : AV} {K : List AV → Option R} {K' : List AV → Prop} {r : R} (h : cellsC a K = some r) (hk : ∀ v, K v = some r → K' v) : cellsK a K' := by
  cases a <;> first
    | (cases h; done)
    | exact hk _ h
    | skip
  case v y => cases y <;> first | (cases h; done) | exact hk _ h

def headC (cs : List AV) (K : AV → Option R) : Option R :=
  match cs with
  | x :: _ => K x
  | [] => none
theorem headC_s {cs : List AV} {K : AV → Option R} {K' : AV → Prop} {r : R} (h : headC cs K = some r) (hk : ∀ v, K v = some r → K' v) : headK cs K' := by
  cases cs with
  | nil => cases h
  | cons x cs => simp only [headK, fv_eq]; exact hk _ h

/-- elements' cells, each of which is a number or a value -/
noncomputable def loadC (T : Nat → TI) (t : Nat) (cs : List AV) (K : AV → Option R) : Option R :=
  match (T t).u with
  | .other => none
  | .struct _ => takC cs (T t).size fun xs => K (.agg xs)
  | .arr _ _ => takC cs (T t).size fun r => K (.agg r)
  | _ => headC cs K
theorem loadC_s {T : Nat → TI} {t : Nat} {cs : List AV} {K : AV → Option R} {K' : AV → Prop} {r : R} (h : loadC T t cs K = some r) (hk : ∀ v, K v = some r → K' v) : loadK T t cs K' := by
  unfold loadC at h; unfold loadK
  cases hu : (T t).u <;> simp only [hu] at h ⊢ <;> first
    | (cases h; done)
    | exact headC_s h hk
    | (obtain ⟨h1, h2⟩ := takC_s h; rw [cutK_iff]; exact ⟨h1, hk _ h2⟩)
    | (obtain ⟨h1, h2⟩ := takC_s h; rw [ACut.iff]; exact ⟨by omega, by rw [List.drop_zero]; exact hk _ h2⟩)
end
end Go.Aw

/-
  Aw, part 41: closed calls are computed: one operation.
-/
set_option linter.unusedSimpArgs false
set_option linter.unusedVariables false
namespace Go.Aw
open Go

section
variable {R : Type}

/-! ### numbers and texts -/
noncomputable def eqU (xs : List UInt8) : List UInt8 → Bool :=
  @List.rec UInt8 (fun _ => List UInt8 → Bool) (fun ys => @List.casesOn UInt8 (fun _ => Bool) ys true (fun _ _ => false))
    (fun x _ g ys => @List.casesOn UInt8 (fun _ => Bool) ys false (fun y ys => cond (Nat.beq x.toNat y.toNat) (g ys) false)) xs
theorem eqU_eq : ∀ xs ys : List UInt8, eqU xs ys = (xs == ys)
  | [], [] => rfl
  | [], y :: ys => rfl
  | x :: xs, [] => rfl
  | x :: xs, y :: ys => by
    have e : eqU (x :: xs) (y :: ys) = cond (Nat.beq x.toNat y.toNat) (eqU xs ys) false := rfl
    rw [e, eqU_eq xs ys, List.cons_beq_cons]
    have : (x == y) = Nat.beq x.toNat y.toNat := by
      rw [Bool.eq_iff_iff, beq_iff_eq, Nat.beq_eq]
      exact UInt8.toNat_inj.symm
    rw [this]; cases Nat.beq x.toNat y.toNat <;> rfl
noncomputable def ltU (xs : List UInt8) : List UInt8 → Bool :=
  @List.rec UInt8 (fun _ => List UInt8 → Bool) (fun ys => @List.casesOn UInt8 (fun _ => Bool) ys false (fun _ _ => true))
    (fun x _ g ys => @List.casesOn UInt8 (fun _ => Bool) ys false (fun y ys => cond (Nat.beq x.toNat y.toNat) (g ys) (Nat.ble x.toNat y.toNat))) xs
theorem ltU_eq : ∀ xs ys : List UInt8, ltU xs ys = Op.bytesLess xs ys
  | [], [] => rfl
  | [], y :: ys => rfl
  | x :: xs, [] => rfl
  | x :: xs, y :: ys => by
    have e : ltU (x :: xs) (y :: ys) = cond (Nat.beq x.toNat y.toNat) (ltU xs ys) (Nat.ble x.toNat y.toNat) := rfl
    have h1 : (x == y) = Nat.beq x.toNat y.toNat := by
      rw [Bool.eq_iff_iff, beq_iff_eq, Nat.beq_eq]
      exact UInt8.toNat_inj.symm
    rw [e, ltU_eq xs ys, Op.bytesLess, h1]
    cases g : Nat.beq x.toNat y.toNat with
    | true =>
      have : ¬ x < y := by rw [UInt8.lt_iff_toNat_lt]; have := Nat.eq_of_beq_eq_true g; omega
      simp [this]
    | false =>
      have g' : x.toNat ≠ y.toNat := fun h => by rw [h] at g; simp at g
      simp only [cond, Bool.false_and, Bool.or_false]
      rw [Bool.eq_iff_iff, decide_eq_true_iff, UInt8.lt_iff_toNat_lt]
      constructor
      · intro h; have := Nat.le_of_ble_eq_true h; omega
      · intro h; exact Nat.ble_eq_true_of_le (by omega)
theorem eqS (s t : ByteArray) : (s.toList == t.toList) = eqU s.data.toList t.data.toList := by rw [Go.ByteArray.toList_eq, Go.ByteArray.toList_eq, eqU_eq]
theorem ltS (s t : ByteArray) : Op.bytesLess s.toList t.toList = ltU s.data.toList t.data.toList := by rw [Go.ByteArray.toList_eq, Go.ByteArray.toList_eq, ltU_eq]
theorem sizeS (s : ByteArray) : s.size = s.data.toList.length := by rw [Array.length_toList]; rfl

noncomputable def intBinC (op : BinOp) (k : IntKind) (a : Int) (k' : IntKind) (b : Int) (K : AV → Option R) : Option R :=
  match op with
  | .shl => reqC (decide (0 ≤ b)) (intC k (k.wrap (a * 2 ^ min b.toNat k.bits)) K)
  | .shr => reqC (decide (0 ≤ b)) (intC k (a.fdiv (2 ^ min b.toNat k.bits)) K)
  | op => reqC (decide (k = k')) <| match op with
    | .add => intC k (k.wrap (a + b)) K
    | .sub => intC k (k.wrap (a - b)) K
    | .mul => intC k (k.wrap (a * b)) K
    | .quo => reqC (decide (b ≠ 0)) (intC k (k.wrap (a.tdiv b)) K)
    | .rem => reqC (decide (b ≠ 0)) (intC k (a.tmod b) K)
    | .and => intC k (bitop .and k a b) K
    | .or => intC k (bitop .or k a b) K
    | .xor => intC k (bitop .xor k a b) K
    | .andNot => intC k (bitop .andNot k a b) K
    | .lss => booC (decide (a < b)) K
    | .leq => booC (decide (a ≤ b)) K
    | .gtr => booC (decide (b < a)) K
    | .geq => booC (decide (b ≤ a)) K
    | .eql => booC (decide (a = b)) K
    | .neq => booC (!decide (a = b)) K
    | _ => none
theorem intBinC_s {op : BinOp} {k k' : IntKind} {a b : Int} {K : AV → Option R} {K' : AV → Prop} {r : R} (h : intBinC op k a k' b K = some r) (hk : ∀ v, K v = some r → K' v) : binK op (.v (.int k a)) (.v (.int k' b)) K' := by
  unfold intBinC at h
  cases op <;> simp only at h <;> first
    | (obtain ⟨h1, h2⟩ := reqC_s h; rw [intC_eq] at h2; simp only [binK]; exact AReq.mk (of_decide_eq_true h1) (hk _ h2))
    | skip
  all_goals (obtain ⟨h1, h2⟩ := reqC_s h; simp only [binK, h1])
  all_goals first
    | (cases h2; done)
    | (rw [intC_eq] at h2; exact hk _ h2)
    | (rw [booC_eq] at h2; exact hk _ h2)
    | (obtain ⟨h3, h4⟩ := reqC_s h2; rw [intC_eq] at h4; exact AReq.mk (of_decide_eq_true h3) (hk _ h4))

noncomputable def strBinC (op : BinOp) (s t : ByteArray) (K : AV → Option R) : Option R :=
  match op with
  | .add => reqC (Nat.ble (s.data.toList.length + t.data.toList.length) 9223372036854775807) (appC s.data.toList t.data.toList fun l => K (.v (.string ⟨⟨l⟩⟩)))
  | .eql => booC (eqU s.data.toList t.data.toList) K
  | .neq => booC (!eqU s.data.toList t.data.toList) K
  | .lss => booC (ltU s.data.toList t.data.toList) K
  | .leq => booC (ltU s.data.toList t.data.toList || eqU s.data.toList t.data.toList) K
  | .gtr => booC (!(ltU s.data.toList t.data.toList || eqU s.data.toList t.data.toList)) K
  | .geq => booC (!ltU s.data.toList t.data.toList) K
  | _ => none
theorem strBinC_s {op : BinOp} {s t : ByteArray} {K : AV → Option R} {K' : AV → Prop} {r : R} (h : strBinC op s t K = some r) (hk : ∀ v, K v = some r → K' v) : binK op (.v (.string s)) (.v (.string t)) K' := by
  unfold strBinC at h
  cases op <;> simp only at h <;> first
    | (cases h; done)
    | (rw [booC_eq] at h; simp only [binK, eqS, ltS]; exact hk _ h)
    | skip
  obtain ⟨h1, h2⟩ := reqC_s h
  rw [appC_eq] at h2
  simp only [binK]
  have := Nat.le_of_ble_eq_true h1
  refine AReq.mk (by rw [sizeS, sizeS]; exact this) (hk _ ?_)
  have e : s ++ t = ⟨⟨s.data.toList ++ t.data.toList⟩⟩ := by
    apply ByteArray.ext
    apply Array.ext'
    simp
  rw [e]; exact h2

noncomputable def binC (op : BinOp) (x y : AV) (K : AV → Option R) : Option R :=
  match x with
  | .v x => match y with
    | .v y => match x with
      | .int k a => match y with
        | .int k' b => intBinC op k a k' b K
        | _ => none
      | .string s => match y with
        | .string t => strBinC op s t K
        | _ => none
      | _ => none
    | _ => none
  | _ => none
theorem binC_s {op : BinOp} {x y : AV} {K : AV → Option R} {K' : AV → Prop} {r : R} (h : binC op x y K = some r) (hk : ∀ v, K v = some r → K' v) : binK op x y K' := by
  cases x <;> try (cases h; done)
  cases y <;> try (cases h; done)
  rename_i a b
  cases a <;> try (cases h; done)
  · cases b <;> try (cases h; done)
    exact intBinC_s h hk
  · cases b <;> try (cases h; done)
    exact strBinC_s h hk

noncomputable def eqC (T : Nat → TI) (t : Nat) (neg : Bool) (x y : AV) (K : AV → Option R) : Option R :=
  match (T t).u with
  | .bool => match x with
    | .v x => match y with
      | .v y => match x with
        | .bool a => match y with
          | .bool b => cond neg (booC (!(a == b)) K) (booC (a == b) K)
          | _ => none
        | _ => none
      | _ => none
    | _ => none
  | .slice _ => match y with
    | .v y => match y with
      | .slice none _ _ => match x with
        | .v x => match x with
          | .slice none _ _ => booC (!neg) K
          | _ => none
        | .vs _ n _ => reqC (!Nat.beq n 0) (booC neg K)
        | .vx _ n _ => reqC (!Nat.beq n 0) (booC neg K)
        | .ms _ _ _ n => reqC (!Nat.beq n 0) (booC neg K)
        | _ => none
      | _ => none
    | _ => none
  | .ptr _ => match y with
    | .v y => match y with
      | .pointer none => match x with
        | .v x => match x with
          | .pointer none => booC (!neg) K
          | _ => none
        | .ptr _ _ => booC neg K
        | .pe _ _ _ _ _ => booC neg K
        | .ip _ => booC neg K
        | _ => none
      | _ => none
    | _ => none
  | .map _ _ => match y with
    | .v y => match y with
      | .map none => match x with
        | .v x => match x with
          | .map none => booC (!neg) K
          | _ => none
        | .mp _ => booC neg K
        | _ => none
      | _ => none
    | _ => none
  | .fn => match y with
    | .v y => match y with
      | .nilFunc => match x with
        | .v x => match x with
          | .nilFunc => booC (!neg) K
          | _ => none
        | .fn _ _ _ => booC neg K
        | _ => none
      | _ => none
    | _ => none
  | _ => none
theorem any_of {n : Nat} {neg : Bool} {K' : AV → Prop} (h : (!Nat.beq n 0) = true) (hk : K' (.v (.bool neg))) : AAny (fun b => n ≠ 0 → b = neg) fun b => K' (.v (.bool b)) := by
  rw [AAny.iff]
  intro b hb
  have hn : n ≠ 0 := by intro e; subst e; cases h
  rw [hb hn]; exact hk
theorem eqC_s {T : Nat → TI} {t : Nat} {neg : Bool} {x y : AV} {K : AV → Option R} {K' : AV → Prop} {r : R} (h : eqC T t neg x y K = some r) (hk : ∀ v, K v = some r → K' v) : eqK T t neg x y K' := by
  unfold eqC at h; unfold eqK
  cases hu : (T t).u with
  | bool =>
    simp only [hu] at h ⊢
    cases x <;> try (cases h; done)
    cases y <;> try (cases h; done)
    rename_i a b
    cases a <;> try (cases h; done)
    cases b <;> try (cases h; done)
    cases neg <;> (simp only [cond] at h; rw [booC_eq] at h; exact hk _ h)
  | slice e =>
    simp only [hu] at h ⊢
    cases y <;> try (cases h; done)
    rename_i b
    cases b <;> try (cases h; done)
    rename_i o _ _
    cases o <;> try (cases h; done)
    cases x <;> try (cases h; done)
    · rename_i a
      cases a <;> try (cases h; done)
      rename_i o _ _
      cases o <;> try (cases h; done)
      simp only at h ⊢; rw [booC_eq] at h; exact hk _ h
    all_goals (simp only at h ⊢; obtain ⟨h1, h2⟩ := reqC_s h; rw [booC_eq] at h2; exact any_of h1 (hk _ h2))
  | ptr e =>
    simp only [hu] at h ⊢
    cases y <;> try (cases h; done)
    rename_i b
    cases b <;> try (cases h; done)
    rename_i o
    cases o <;> try (cases h; done)
    cases x <;> try (cases h; done)
    · rename_i a
      cases a <;> try (cases h; done)
      rename_i o
      cases o <;> try (cases h; done)
      simp only at h ⊢; rw [booC_eq] at h; exact hk _ h
    all_goals (simp only at h ⊢; rw [booC_eq] at h; exact hk _ h)
  | map k e =>
    simp only [hu] at h ⊢
    cases y <;> try (cases h; done)
    rename_i b
    cases b <;> try (cases h; done)
    rename_i o
    cases o <;> try (cases h; done)
    cases x <;> try (cases h; done)
    · rename_i a
      cases a <;> try (cases h; done)
      rename_i o
      cases o <;> try (cases h; done)
      simp only at h ⊢; rw [booC_eq] at h; exact hk _ h
    all_goals (simp only at h ⊢; rw [booC_eq] at h; exact hk _ h)
  | fn =>
    simp only [hu] at h ⊢
    cases y <;> try (cases h; done)
    rename_i b
    cases b <;> try (cases h; done)
    cases x <;> try (cases h; done)
    · rename_i a
      cases a <;> try (cases h; done)
      simp only at h ⊢; rw [booC_eq] at h; exact hk _ h
    all_goals (simp only at h ⊢; rw [booC_eq] at h; exact hk _ h)
  | _ => simp only [hu] at h; cases h

noncomputable def binopC (T : Nat → TI) (op : BinOp) (t : Nat) (x y : AV) (K : AV → Option R) : Option R :=
  match op with
  | .eql => match (T t).u with
    | .int _ => binC op x y K
    | .str => binC op x y K
    | _ => eqC T t false x y K
  | .neq => match (T t).u with
    | .int _ => binC op x y K
    | .str => binC op x y K
    | _ => eqC T t true x y K
  | op => binC op x y K
theorem binopC_s {T : Nat → TI} {op : BinOp} {t : Nat} {x y : AV} {K : AV → Option R} {K' : AV → Prop} {r : R} (h : binopC T op t x y K = some r) (hk : ∀ v, K v = some r → K' v) : binopK T op t x y K' := by
  unfold binopC at h; unfold binopK
  cases op <;> simp only at h ⊢ <;> first
    | exact binC_s h hk
    | (cases hu : (T t).u <;> simp only [hu] at h ⊢ <;> first | exact binC_s h hk | exact eqC_s h hk)

/-- equality of structs of plain cells -/
noncomputable def eqvC : Value → Value → Bool
  | .int _ a, .int _ b => decide (a = b)
  | .bool a, .bool b => a == b
  | .string a, .string b => eqU a.data.toList b.data.toList
  | _, _ => false
theorem eqvC_eq (a b : Value) : eqvC a b = eqv a b := by
  cases a <;> cases b <;> simp only [eqvC, eqv, eqS]
noncomputable def eqLC (xs : List Value) : List Value → Bool :=
  @List.rec Value (fun _ => List Value → Bool) (fun ys => @List.casesOn Value (fun _ => Bool) ys true (fun _ _ => false))
    (fun x _ g ys => @List.casesOn Value (fun _ => Bool) ys false (fun y ys => cond (eqvC x y) (g ys) false)) xs
theorem eqLC_eq : ∀ xs ys : List Value, eqLC xs ys = eqL xs ys
  | [], [] => rfl
  | [], y :: ys => rfl
  | x :: xs, [] => rfl
  | x :: xs, y :: ys => by
    have e : eqLC (x :: xs) (y :: ys) = cond (eqvC x y) (eqLC xs ys) false := rfl
    rw [e, eqLC_eq xs ys, eqvC_eq, eqL]; cases eqv x y <;> rfl
noncomputable def eqsC (P : Program) (op : BinOp) (t : Nat) (x y : AV) (K : AV → Option R) : Option R :=
  match flatOf P t with
  | some ks => match x with
    | .agg xs => match y with
      | .agg ys => match valsOf xs with
        | some vx => match valsOf ys with
          | some vy => reqC (fitsL ks vx && fitsL ks vy && Nat.ble 2 P.depth) <| match op with
            | .eql => booC (eqLC vx vy) K
            | .neq => booC (!eqLC vx vy) K
            | _ => none
          | none => none
        | none => none
      | _ => none
    | _ => none
  | none => none
theorem eqsC_s {P : Program} {op : BinOp} {t : Nat} {x y : AV} {K : AV → Option R} {K' : AV → Prop} {r : R} (h : eqsC P op t x y K = some r) (hk : ∀ v, K v = some r → K' v) : AEqs P op t x y K' := by
  unfold eqsC at h
  cases hf : flatOf P t <;> simp only [hf] at h <;> try (cases h; done)
  cases x <;> simp only at h <;> try (cases h; done)
  cases y <;> simp only at h <;> try (cases h; done)
  split at h <;> try (cases h; done)
  rename_i h1
  split at h <;> try (cases h; done)
  rename_i h2
  obtain ⟨h3, h4⟩ := reqC_s h
  simp only [Bool.and_eq_true] at h3
  cases op <;> simp only at h4 <;> try (cases h4; done)
  · rw [booC_eq, eqLC_eq] at h4; exact AEqs.eql hf h3.2 h1 h2 h3.1.1 h3.1.2 (hk _ h4)
  · rw [booC_eq, eqLC_eq] at h4; exact AEqs.neq hf h3.2 h1 h2 h3.1.1 h3.1.2 (hk _ h4)

noncomputable def bopC (P : Program) (T : Nat → TI) (op : BinOp) (t : Nat) (x y : AV) (K : AV → Option R) : Option R :=
  match (T t).u with
  | .struct _ => eqsC P op t x y K
  | .arr _ _ => none
  | _ => binopC T op t x y K
theorem bopC_s {P : Program} {T : Nat → TI} {op : BinOp} {t : Nat} {x y : AV} {K : AV → Option R} {K' : AV → Prop} {r : R} (h : bopC P T op t x y K = some r) (hk : ∀ v, K v = some r → K' v) : bopK P T op t x y K' := by
  unfold bopC at h; unfold bopK
  cases hu : (T t).u <;> simp only [hu] at h ⊢ <;> first
    | (cases h; done)
    | exact eqsC_s h hk
    | exact binopC_s h hk

noncomputable def unC (op : UnOp) (x : AV) (K : AV → Option R) : Option R :=
  match x with
  | .v x => match op with
    | .neg => match x with
      | .int k n => intC k (k.wrap (0 - n)) K
      | _ => none
    | .xor => match x with
      | .int k n => intC k (bitop .xor k (if k.signed then -1 else k.max) n) K
      | _ => none
    | .not => match x with
      | .bool b => booC (!b) K
      | _ => none
    | _ => none
  | _ => none
theorem unC_s {op : UnOp} {x : AV} {K : AV → Option R} {K' : AV → Prop} {r : R} (h : unC op x K = some r) (hk : ∀ v, K v = some r → K' v) : unK op x K' := by
  cases x <;> try (cases h; done)
  rename_i a
  cases op <;> try (cases h; done)
  all_goals cases a <;> try (cases h; done)
  all_goals (simp only [unC] at h; first | rw [intC_eq] at h | rw [booC_eq] at h)
  all_goals exact hk _ h

/-! ### parts -/
noncomputable def intcC (x : AV) (K : Int → Option R) : Option R :=
  match x with
  | .v x => match x with
    | .int _ n => K n
    | _ => none
  | _ => none
theorem intcC_s {x : AV} {K : Int → Option R} {K' : Int → Prop} {r : R} (h : intcC x K = some r) (hk : ∀ v, K v = some r → K' v) : intK x K' := by
  cases x <;> try (cases h; done)
  rename_i a
  cases a <;> try (cases h; done)
  exact hk _ h

noncomputable def boundsC (lo hi : Option AV) (n : Nat) (K : Nat → Nat → Option R) : Option R :=
  match lo with
  | none => match hi with
    | none => K 0 n
    | some h => intcC h fun h => reqC (decide (0 ≤ h ∧ h ≤ n)) (fN h.toNat fun h => K 0 h)
  | some l => match hi with
    | none => intcC l fun l => reqC (decide (0 ≤ l ∧ l ≤ n)) (fN l.toNat fun l => K l n)
    | some h => intcC l fun l => intcC h fun h => reqC (decide (0 ≤ l ∧ l ≤ h ∧ h ≤ n)) (fN l.toNat fun l => fN h.toNat fun h => K l h)
theorem boundsC_s {lo hi : Option AV} {n : Nat} {K : Nat → Nat → Option R} {K' : Nat → Nat → Prop} {r : R} (h : boundsC lo hi n K = some r) (hk : ∀ a b, K a b = some r → K' a b) : boundsK lo hi n K' := by
  cases lo <;> cases hi <;> simp only [boundsC, boundsK] at h ⊢
  · exact hk _ _ h
  · refine intcC_s h fun v h => ?_
    obtain ⟨h1, h2⟩ := reqC_s h; rw [fN_eq] at h2
    exact AReq.mk (of_decide_eq_true h1) (hk _ _ h2)
  · refine intcC_s h fun v h => ?_
    obtain ⟨h1, h2⟩ := reqC_s h; rw [fN_eq] at h2
    exact AReq.mk (of_decide_eq_true h1) (hk _ _ h2)
  · refine intcC_s h fun v h => intcC_s h fun u h => ?_
    obtain ⟨h1, h2⟩ := reqC_s h; rw [fN_eq, fN_eq] at h2
    exact AReq.mk (of_decide_eq_true h1) (hk _ _ h2)

noncomputable def subS (s : ByteArray) (a b : Nat) (K : AV → Option R) : Option R := fStr ((s.data.toList.take b).drop a) K
theorem subS_eq {s : ByteArray} {a b : Nat} {K : AV → Option R} : subS s a b K = K (.v (.string (s.extract a b))) := by
  unfold subS; rw [fStr_eq]
  congr 3
  apply ByteArray.ext
  apply Array.ext'
  simp [List.extract_eq_take_drop, List.drop_take]

noncomputable def sliceC (T : Nat → TI) (t : Nat) (x : AV) (lo hi mx : Option AV) (K : AV → Option R) : Option R :=
  match (T t).u with
  | .str => match mx with
    | none => match x with
      | .v x => match x with
        | .string s => boundsC lo hi s.data.toList.length fun a b => subS s a b K
        | _ => none
      | _ => none
    | some _ => none
  | .slice e => match mx with
    | none => match x with
      | .vs sz n xs => reqC (Nat.beq sz (T e).size) (boundsC lo hi n fun a b => fN (b - a) fun c => ctC xs (a * sz) (c * sz) fun r => K (.vs sz c r))
      | .vx sz n xs => reqC (Nat.beq sz (T e).size) (boundsC lo hi n fun a b => fN (b - a) fun c => ctC xs (a * sz) (c * sz) fun r => K (.vs sz c r))
      | .ms sz l o n => reqC (Nat.beq sz (T e).size) (boundsC lo hi n fun a b => fN (o + a * sz) fun o => fN (b - a) fun c => K (.ms sz l o c))
      | _ => none
    | some _ => none
  | _ => none
theorem sliceC_s {T : Nat → TI} {t : Nat} {x : AV} {lo hi mx : Option AV} {K : AV → Option R} {K' : AV → Prop} {r : R} (h : sliceC T t x lo hi mx K = some r) (hk : ∀ v, K v = some r → K' v) : sliceK T t x lo hi mx K' := by
  unfold sliceC at h; unfold sliceK
  cases hu : (T t).u <;> simp only [hu] at h ⊢ <;> try (cases h; done)
  · cases mx <;> simp only at h ⊢ <;> try (cases h; done)
    cases x <;> simp only at h ⊢ <;> try (cases h; done)
    rename_i a
    cases a <;> simp only at h ⊢ <;> try (cases h; done)
    rw [sizeS]
    refine boundsC_s h fun a b h => ?_
    rw [subS_eq] at h
    exact hk _ h
  · cases mx <;> simp only at h ⊢ <;> try (cases h; done)
    cases x <;> simp only at h ⊢ <;> try (cases h; done)
    all_goals
      obtain ⟨h1, h2⟩ := reqC_s h
      rw [ifK_iff]
      refine ⟨h1, boundsC_s h2 fun a b h => ?_⟩
      simp only [fN_eq] at h
    · obtain ⟨h3, h4⟩ := ctC_s h; rw [ACut.iff]; exact ⟨h3, hk _ h4⟩
    · obtain ⟨h3, h4⟩ := ctC_s h; rw [ACut.iff]; exact ⟨h3, hk _ h4⟩
    · exact hk _ h

noncomputable def sliceArrC (T : Nat → TI) (n e : Nat) (H : List ABlk) (x : AV) (lo hi mx : Option AV) (K : AV → Option R) : Option R :=
  match mx with
  | none => match x with
    | .ptr l o => blkC H l fun b => match b with
      | .cells _ xs => reqC (Nat.ble (o + n * (T e).size) xs.length) (boundsC lo hi n fun a b => fN (o + a * (T e).size) fun o => fN (b - a) fun c => K (.ms (T e).size l o c))
      | _ => none
    | _ => none
  | some _ => none
theorem sliceArrC_s {T : Nat → TI} {n e : Nat} {H : List ABlk} {x : AV} {lo hi mx : Option AV} {K : AV → Option R} {K' : AV → Prop} {r : R} (h : sliceArrC T n e H x lo hi mx K = some r) (hk : ∀ v, K v = some r → K' v) : sliceArrK T n e H x lo hi mx K' := by
  unfold sliceArrC at h; unfold sliceArrK
  cases mx <;> simp only at h ⊢ <;> try (cases h; done)
  cases x <;> simp only at h ⊢ <;> try (cases h; done)
  obtain ⟨b, h1, h2⟩ := blkC_s h
  rw [blkK_iff]
  refine ⟨b, h1, ?_⟩
  cases b <;> simp only at h2 ⊢ <;> try (cases h2; done)
  obtain ⟨h3, h4⟩ := reqC_s h2
  refine AReq.mk (Nat.le_of_ble_eq_true h3) (boundsC_s h4 fun a b h => ?_)
  simp only [fN_eq] at h
  exact hk _ h

noncomputable def seeC (b : ABlk) (K : List AV → Option R) : Option R :=
  match b with
  | .cells _ xs => K xs
  | .ice _ xs => K xs
  | _ => none
theorem seeC_s {b : ABlk} {K : List AV → Option R} {K' : List AV → Prop} {r : R} (h : seeC b K = some r) (hk : ∀ v, K v = some r → K' v) : seeK b K' := by
  cases b <;> first | (cases h; done) | exact hk _ h

noncomputable def contentC (H : List ABlk) (sz0 : Nat) (x : AV) (K : Nat → List AV → Option R) : Option R :=
  match x with
  | .v x => match x with
    | .slice none n _ => reqC (Nat.beq n 0) (K 0 [])
    | .string s => reqC (Nat.beq sz0 1) (lenC s.data.toList fun n => @List.rec UInt8 (fun _ => (List AV → Option R) → Option R) (fun K => K []) (fun b _ g K => fN b.toNat fun n => g fun r => K (.v (.int .u8 (Int.ofNat n)) :: r)) s.data.toList fun cs => K n cs)
    | _ => none
  | .vs sz n xs => reqC (Nat.beq sz sz0) (K n xs)
  | .vx sz n xs => reqC (Nat.beq sz sz0) (K n xs)
  | .ms sz l o n => reqC (Nat.beq sz sz0) (blkC H l fun b => seeC b fun xs => ctC xs o (n * sz) fun r => K n r)
  | _ => none
theorem bytesC_eq (K : List AV → Option R) : ∀ (l : List UInt8) (K : List AV → Option R), (@List.rec UInt8 (fun _ => (List AV → Option R) → Option R) (fun K => K []) (fun b _ g K => fN b.toNat fun n => g fun r => K (.v (.int .u8 (Int.ofNat n)) :: r)) l) K = K (l.map byteC)
  | [], K => rfl
  | b :: l, K => by
    show fN b.toNat (fun n => (@List.rec UInt8 (fun _ => (List AV → Option R) → Option R) (fun K => K []) (fun b _ g K => fN b.toNat fun n => g fun r => K (.v (.int .u8 (Int.ofNat n)) :: r)) l) fun r => K (.v (.int .u8 (Int.ofNat n)) :: r)) = _
    rw [fN_eq, bytesC_eq K l]; rfl
theorem contentC_s {H : List ABlk} {sz0 : Nat} {x : AV} {K : Nat → List AV → Option R} {K' : Nat → List AV → Prop} {r : R} (h : contentC H sz0 x K = some r) (hk : ∀ n v, K n v = some r → K' n v) : contentK H sz0 x K' := by
  unfold contentC at h; unfold contentK
  cases x <;> simp only at h ⊢ <;> try (cases h; done)
  · rename_i a
    cases a <;> (try simp only at h ⊢) <;> try (cases h; done)
    · obtain ⟨h1, h2⟩ := reqC_s h
      rw [lenC_eq, bytesC_eq (fun _ => none)] at h2
      rw [ifK_iff, sizeS]
      exact ⟨h1, hk _ _ h2⟩
    · rename_i o n c
      cases o <;> simp only at h ⊢ <;> try (cases h; done)
      obtain ⟨h1, h2⟩ := reqC_s h
      rw [ifK_iff]; exact ⟨h1, hk _ _ h2⟩
  · obtain ⟨h1, h2⟩ := reqC_s h
    rw [ifK_iff]; exact ⟨h1, hk _ _ h2⟩
  · obtain ⟨h1, h2⟩ := reqC_s h
    rw [ifK_iff]; exact ⟨h1, hk _ _ h2⟩
  · obtain ⟨h1, h2⟩ := reqC_s h
    obtain ⟨b, h3, h4⟩ := blkC_s h2
    rw [ifK_iff, blkK_iff]
    refine ⟨h1, b, h3, seeC_s h4 fun xs h => ?_⟩
    obtain ⟨h5, h6⟩ := ctC_s h
    rw [ACut.iff]; exact ⟨h5, hk _ _ h6⟩

noncomputable def appendC (T : Nat → TI) (t : Nat) (H : List ABlk) (x : AV) (n : Nat) (ys : List AV) (K : AV → List ABlk → Option R) : Option R :=
  match (T t).u with
  | .slice e => reqC (Nat.ble 1 (T e).bytes) <| match x with
    | .v x => match x with
      | .slice none m c => reqC (Nat.beq m 0) <| reqC (Nat.beq c 0) <| reqC (Nat.ble (n * (T e).bytes) 140737488355328) (cond (Nat.beq n 0) (K (.v (.slice none 0 0)) H) (newC H (.cells e ys) fun l H => K (.ms (T e).size l 0 n) H))
      | _ => none
    | .vx sz m xs => reqC (Nat.beq sz (T e).size) <| reqC (Nat.ble ((m + n) * (T e).bytes) 140737488355328) (cond (Nat.beq n 0) (K (.vx sz m xs) H) (appC xs ys fun zs => fN (m + n) fun mn => newC H (.cells e zs) fun l H => K (.ms (T e).size l 0 mn) H))
    | .ms sz l o m => reqC (Nat.beq o 0) <| reqC (Nat.beq sz (T e).size) <| blkC H l fun b => match b with
        | .cells t' xs => reqC (Nat.beq t' e) <| reqC (Nat.beq xs.length (m * sz)) <| reqC (Nat.ble ((m + n) * (T e).bytes) 140737488355328) (setHC H l .dead fun H => appC xs ys fun zs => fN (m + n) fun mn => newC H (.cells e zs) fun l H => K (.ms sz l 0 mn) H)
        | _ => none
    | _ => none
  | _ => none
theorem appendC_s {T : Nat → TI} {t : Nat} {H : List ABlk} {x : AV} {n : Nat} {ys : List AV} {K : AV → List ABlk → Option R} {K' : AV → List ABlk → Prop} {r : R} (h : appendC T t H x n ys K = some r) (hk : ∀ v H, K v H = some r → K' v H) : appendK T t H x n ys K' := by
  unfold appendC at h; unfold appendK
  cases hu : (T t).u <;> simp only [hu] at h ⊢ <;> try (cases h; done)
  replace h := reqC_s h; obtain ⟨h1, h⟩ := h
  rw [ifK_iff]
  refine ⟨h1, ?_⟩
  cases x <;> (try simp only at h ⊢) <;> try (cases h; done)
  · rename_i a
    cases a <;> (try simp only at h ⊢) <;> try (cases h; done)
    rename_i o m c
    cases o <;> simp only at h ⊢ <;> try (cases h; done)
    replace h := reqC_s h; obtain ⟨h2, h⟩ := h
    replace h := reqC_s h; obtain ⟨h3, h⟩ := h
    replace h := reqC_s h; obtain ⟨h4, h⟩ := h
    rw [ifK_iff, ifK_iff]
    refine ⟨h2, h3, AReq.mk (Nat.le_of_ble_eq_true h4) ?_⟩
    rw [ASplit.iff]
    cases hn : Nat.beq n 0 with
    | true =>
      rw [hn] at h
      have : n = 0 := Nat.eq_of_beq_eq_true hn
      rw [decide_eq_true this]; exact hk _ _ h
    | false =>
      rw [hn] at h
      have : n ≠ 0 := fun e => by subst e; cases hn
      rw [decide_eq_false this]
      simp only [cond, newC_eq] at h
      simp only [appK_eq, Nat.zero_add]
      exact hk _ _ h
  · replace h := reqC_s h; obtain ⟨h2, h⟩ := h
    replace h := reqC_s h; obtain ⟨h4, h⟩ := h
    rw [ifK_iff]
    refine ⟨h2, AReq.mk (Nat.le_of_ble_eq_true h4) ?_⟩
    rw [ASplit.iff]
    cases hn : Nat.beq n 0 with
    | true =>
      rw [hn] at h
      have : n = 0 := Nat.eq_of_beq_eq_true hn
      rw [decide_eq_true this]; exact hk _ _ h
    | false =>
      rw [hn] at h
      have : n ≠ 0 := fun e => by subst e; cases hn
      rw [decide_eq_false this]
      simp only [cond, newC_eq, appC_eq, fN_eq] at h
      simp only [appK_eq, Nat.zero_add]
      exact hk _ _ h
  · rename_i sz l o m
    replace h := reqC_s h; obtain ⟨h2, h⟩ := h
    obtain rfl : o = 0 := Nat.eq_of_beq_eq_true h2
    replace h := reqC_s h; obtain ⟨h3, h⟩ := h
    obtain ⟨b, h4, h⟩ := blkC_s h
    simp only
    rw [ifK_iff, blkK_iff]
    refine ⟨h3, b, h4, ?_⟩
    cases b <;> simp only at h ⊢ <;> try (cases h; done)
    replace h := reqC_s h; obtain ⟨h5, h⟩ := h
    replace h := reqC_s h; obtain ⟨h6, h⟩ := h
    replace h := reqC_s h; obtain ⟨h7, h⟩ := h
    obtain ⟨h8, h⟩ := setHC_s h
    rw [ifK_iff]
    refine ⟨h5, AReq.mk ⟨Nat.eq_of_beq_eq_true h6, Nat.le_of_ble_eq_true h7⟩ ?_⟩
    rw [setH_iff]
    simp only [newC_eq, appC_eq, fN_eq] at h
    simp only [appK_eq, Nat.zero_add]
    exact ⟨h8, hk _ _ h⟩
end
end Go.Aw

