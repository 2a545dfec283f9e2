/-
  The statement StateBounds: of a state that may be, of no line more is authorised, received or paid back than was shipped and paid, without any condition.
-/
import Derived.Test.YtnfbiphfhkfnaaaGreatUgB
set_option linter.unusedSimpArgs false
set_option linter.unusedVariables false
set_option linter.unusedSimpArgs false
set_option linter.unusedVariables false
set_option maxHeartbeats 2000000
namespace Go.Aw.U1
open Go Go.Proofs

/-! ### nodes -/
def ndA (st way : Int) : AV := .agg [nV st, nV way]
def termB (st way : Int) : Bool :=
  if st = 6 then decide (way = 1) || decide (way = 2) else if st = 7 then decide (way = 3) else if st = 8 then decide (way = 4) || decide (way = 3) else if st = 9 then decide (way = 5) || decide (way = 2) else false
theorem f178 (st way : Int) : Fun P 178 [ndA st way] (bV (termB st way)) := by
  refine spec_of hT (f := 178) (fn := Go.Proofs.Tryz.f178) (c := body Go.Proofs.Tryz.f178) (by kernel_rfl) (by kernel_rfl) ?_
  unfold termB
  conv => whnf
  repeat' (first | refine go ?_ | ((first | refine ASplit.yes rfl ?_ | refine ASplit.no rfl ?_ | refine ACond.yes rfl ?_ | refine ACond.no rfl ?_ | refine ASplit.dec (fun _ => ?_) (fun _ => ?_) | refine ASplit.ndec (fun _ => ?_) (fun _ => ?_) | refine ACond.dec (fun _ => ?_) (fun _ => ?_) | refine ACond.ndec (fun _ => ?_) (fun _ => ?_)) <;> conv => whnf))
  all_goals refine AFin.val rfl ⟨congrArg bV ?_, rfl⟩
  all_goals simp_all
def actF (st way : Int) : List Int :=
  if st = 1 ∧ way = 0 then [1] else if st = 2 ∧ way = 0 then [2] else if st = 3 ∧ way = 2 then [3] else if st = 3 ∧ way = 3 then [7] else if st = 4 ∧ way = 2 then [4, 5, 6] else if st = 5 ∧ way = 3 then [8, 9] else []
def actV (l : List Int) : AV :=
  match l with
  | [] => .v (.slice none 0 0)
  | l => isV l
theorem actV_ren (ρ : Nat → Nat) (l : List Int) : (actV l).ren ρ = actV l := by cases l with
  | nil => rfl
  | cons a l => exact isV_ren ρ _
def nodeB (st way : Int) : Bool := termB st way || !(actF st way).isEmpty
theorem eqNd {st way a b : Int} {K : AV → Prop} (k : K (bV (decide (st = a) && decide (way = b)))) : AEqs P .eql 238 (.agg [nV st, nV way]) (.agg [nV a, nV b]) K :=
  AEqs.eql (ks := [.int .i64, .int .i64]) (vx := [.int .i64 st, .int .i64 way]) (vy := [.int .i64 a, .int .i64 b]) (by kernel_rfl) (by kernel_rfl) rfl rfl rfl rfl (by rw [show eqL [Value.int .i64 st, .int .i64 way] [.int .i64 a, .int .i64 b] = (decide (st = a) && decide (way = b)) by simp [eqL, eqv]]; exact k)
theorem and_iff {p q : Prop} [Decidable p] [Decidable q] : (decide p && decide q) = true ↔ p ∧ q := by simp
theorem f197 (st way : Int) : Fun P 197 [ndA st way] (actV (actF st way)) := by
  refine spec_of hT (f := 197) (fn := Go.Proofs.Tryz.f197) (c := body Go.Proofs.Tryz.f197) (by kernel_rfl) (by kernel_rfl) ?_
  unfold actF
  conv => whnf
  repeat (first | refine go ?_ | ((first | refine eqNd ?_ | refine AReq.mk (by decide) ?_); conv => whnf))
  refine ACond.mk (fun h => ?_) (fun h => ?_)
  · have h' := and_iff.1 h
    rw [if_pos h']
    conv => whnf
    repeat (first | refine ru ?_ | ((first | refine eqNd ?_ | refine AReq.mk (by decide) ?_); conv => whnf))
    exact AFin.to (isV [1]) [] (Conv.out (.sm rfl rfl) (fun ρ => by (first | rfl | (simp only [renL, AV.ren, List.nil_append, List.cons_append, rens]; try rfl)))) ⟨rfl, rfl⟩
  rw [if_neg (fun h' => Bool.noConfusion ((and_iff.2 h').symm.trans h))]
  clear h
  conv => whnf
  repeat (first | refine go ?_ | ((first | refine eqNd ?_ | refine AReq.mk (by decide) ?_); conv => whnf))
  refine ACond.mk (fun h => ?_) (fun h => ?_)
  · have h' := and_iff.1 h
    rw [if_pos h']
    conv => whnf
    repeat (first | refine ru ?_ | ((first | refine eqNd ?_ | refine AReq.mk (by decide) ?_); conv => whnf))
    exact AFin.to (isV [2]) [] (Conv.out (.sm rfl rfl) (fun ρ => by (first | rfl | (simp only [renL, AV.ren, List.nil_append, List.cons_append, rens]; try rfl)))) ⟨rfl, rfl⟩
  rw [if_neg (fun h' => Bool.noConfusion ((and_iff.2 h').symm.trans h))]
  clear h
  conv => whnf
  repeat (first | refine go ?_ | ((first | refine eqNd ?_ | refine AReq.mk (by decide) ?_); conv => whnf))
  refine ACond.mk (fun h => ?_) (fun h => ?_)
  · have h' := and_iff.1 h
    rw [if_pos h']
    conv => whnf
    repeat (first | refine ru ?_ | ((first | refine eqNd ?_ | refine AReq.mk (by decide) ?_); conv => whnf))
    exact AFin.to (isV [3]) [] (Conv.out (.sm rfl rfl) (fun ρ => by (first | rfl | (simp only [renL, AV.ren, List.nil_append, List.cons_append, rens]; try rfl)))) ⟨rfl, rfl⟩
  rw [if_neg (fun h' => Bool.noConfusion ((and_iff.2 h').symm.trans h))]
  clear h
  conv => whnf
  repeat (first | refine go ?_ | ((first | refine eqNd ?_ | refine AReq.mk (by decide) ?_); conv => whnf))
  refine ACond.mk (fun h => ?_) (fun h => ?_)
  · have h' := and_iff.1 h
    rw [if_pos h']
    conv => whnf
    repeat (first | refine ru ?_ | ((first | refine eqNd ?_ | refine AReq.mk (by decide) ?_); conv => whnf))
    exact AFin.to (isV [7]) [] (Conv.out (.sm rfl rfl) (fun ρ => by (first | rfl | (simp only [renL, AV.ren, List.nil_append, List.cons_append, rens]; try rfl)))) ⟨rfl, rfl⟩
  rw [if_neg (fun h' => Bool.noConfusion ((and_iff.2 h').symm.trans h))]
  clear h
  conv => whnf
  repeat (first | refine go ?_ | ((first | refine eqNd ?_ | refine AReq.mk (by decide) ?_); conv => whnf))
  refine ACond.mk (fun h => ?_) (fun h => ?_)
  · have h' := and_iff.1 h
    rw [if_pos h']
    conv => whnf
    repeat (first | refine ru ?_ | ((first | refine eqNd ?_ | refine AReq.mk (by decide) ?_); conv => whnf))
    exact AFin.to (isV [4, 5, 6]) [] (Conv.out (.sm rfl rfl) (fun ρ => by (first | rfl | (simp only [renL, AV.ren, List.nil_append, List.cons_append, rens]; try rfl)))) ⟨rfl, rfl⟩
  rw [if_neg (fun h' => Bool.noConfusion ((and_iff.2 h').symm.trans h))]
  clear h
  conv => whnf
  repeat (first | refine go ?_ | ((first | refine eqNd ?_ | refine AReq.mk (by decide) ?_); conv => whnf))
  refine ACond.mk (fun h => ?_) (fun h => ?_)
  · have h' := and_iff.1 h
    rw [if_pos h']
    conv => whnf
    repeat (first | refine ru ?_ | ((first | refine eqNd ?_ | refine AReq.mk (by decide) ?_); conv => whnf))
    exact AFin.to (isV [8, 9]) [] (Conv.out (.sm rfl rfl) (fun ρ => by (first | rfl | (simp only [renL, AV.ren, List.nil_append, List.cons_append, rens]; try rfl)))) ⟨rfl, rfl⟩
  rw [if_neg (fun h' => Bool.noConfusion ((and_iff.2 h').symm.trans h))]
  clear h
  conv => whnf
  repeat (first | refine go ?_ | ((first | refine eqNd ?_ | refine AReq.mk (by decide) ?_); conv => whnf))
  exact AFin.val rfl ⟨rfl, rfl⟩
theorem f174 (u : Un) : Fun P 174 [unA u] (ndA u.state u.way) := by
  refine spec_of hT (f := 174) (fn := Go.Proofs.Tryz.f174) (c := body Go.Proofs.Tryz.f174) (by kernel_rfl) (by kernel_rfl) ?_
  conv => whnf
  repeat' (first | refine go ?_ | ((first | refine ASplit.yes rfl ?_ | refine ASplit.no rfl ?_ | refine ACond.yes rfl ?_ | refine ACond.no rfl ?_ | refine ASplit.dec (fun _ => ?_) (fun _ => ?_) | refine ASplit.ndec (fun _ => ?_) (fun _ => ?_) | refine ACond.dec (fun _ => ?_) (fun _ => ?_) | refine ACond.ndec (fun _ => ?_) (fun _ => ?_)) <;> conv => whnf))
  all_goals exact AFin.val rfl ⟨rfl, rfl⟩
def standB (u : Un) : Bool := idB u.order && idB u.rma && decide (0 ≤ u.line) && decide (u.line < 8) && decide (0 ≤ u.place) && decide (u.place < 20) && timeB u.at_
theorem f175 (u : Un) : Fun P 175 [unA u] (bV (standB u)) := by
  refine spec_of hT (f := 175) (fn := Go.Proofs.Tryz.f175) (c := body Go.Proofs.Tryz.f175) (by kernel_rfl) (by kernel_rfl) ?_
  unfold standB
  conv => whnf
  repeat' (first | refine go ?_ | ((first | refine ASplit.yes rfl ?_ | refine ASplit.no rfl ?_ | refine ACond.yes rfl ?_ | refine ACond.no rfl ?_ | refine ASplit.dec (fun _ => ?_) (fun _ => ?_) | refine ASplit.ndec (fun _ => ?_) (fun _ => ?_) | refine ACond.dec (fun _ => ?_) (fun _ => ?_) | refine ACond.ndec (fun _ => ?_) (fun _ => ?_) | refine ACall.val (by kernel_rfl) (f198 _) rfl rfl ?_ | refine ACall.val (by kernel_rfl) (f40 _) rfl rfl ?_ | (refine ASplit.mk (fun _ => ?_) (fun _ => ?_)) | (refine ACond.mk (fun _ => ?_) (fun _ => ?_))) <;> conv => whnf))
  all_goals refine AFin.val rfl ⟨congrArg bV ?_, rfl⟩
  all_goals (simp_all <;> (intros; omega))
def gradedB (u : Un) : Bool := if u.state = 1 then decide (u.grade = 0) else decide (0 ≤ u.grade) && decide (u.grade < 4)
theorem f176 (u : Un) : Fun P 176 [unA u] (bV (gradedB u)) := by
  refine spec_of hT (f := 176) (fn := Go.Proofs.Tryz.f176) (c := body Go.Proofs.Tryz.f176) (by kernel_rfl) (by kernel_rfl) ?_
  unfold gradedB
  conv => whnf
  repeat' (first | refine go ?_ | ((first | refine ASplit.yes rfl ?_ | refine ASplit.no rfl ?_ | refine ACond.yes rfl ?_ | refine ACond.no rfl ?_ | refine ASplit.dec (fun _ => ?_) (fun _ => ?_) | refine ASplit.ndec (fun _ => ?_) (fun _ => ?_) | refine ACond.dec (fun _ => ?_) (fun _ => ?_) | refine ACond.ndec (fun _ => ?_) (fun _ => ?_)) <;> conv => whnf))
  all_goals refine AFin.val rfl ⟨congrArg bV ?_, rfl⟩
  all_goals (simp_all <;> (intros; omega))
def heldB (u : Un) : Bool := if u.state = 4 ∨ u.state = 5 then idB u.in_ else decide (u.in_ = 0)
theorem f177 (u : Un) : Fun P 177 [unA u] (bV (heldB u)) := by
  refine spec_of hT (f := 177) (fn := Go.Proofs.Tryz.f177) (c := body Go.Proofs.Tryz.f177) (by kernel_rfl) (by kernel_rfl) ?_
  unfold heldB
  conv => whnf
  repeat' (first | refine go ?_ | ((first | refine ASplit.yes rfl ?_ | refine ASplit.no rfl ?_ | refine ACond.yes rfl ?_ | refine ACond.no rfl ?_ | refine ASplit.dec (fun _ => ?_) (fun _ => ?_) | refine ASplit.ndec (fun _ => ?_) (fun _ => ?_) | refine ACond.dec (fun _ => ?_) (fun _ => ?_) | refine ACond.ndec (fun _ => ?_) (fun _ => ?_) | refine ACall.val (by kernel_rfl) (f198 _) rfl rfl ?_) <;> conv => whnf))
  all_goals refine AFin.val rfl ⟨congrArg bV ?_, rfl⟩
  all_goals simp_all
end Go.Aw.U1

set_option linter.unusedSimpArgs false
set_option linter.unusedVariables false
set_option maxHeartbeats 2000000
namespace Go.Aw.U1
open Go Go.Proofs

def lifeC (st way : Int) : Int := if nodeB st way then 0 else 33
theorem f173 (st way : Int) : Fun P 173 [ndA st way] (nV (lifeC st way)) := by
  refine spec_of hT (f := 173) (fn := Go.Proofs.Tryz.f173) (c := body Go.Proofs.Tryz.f173) (by kernel_rfl) (by kernel_rfl) ?_
  unfold lifeC nodeB
  conv => whnf
  repeat refine go ?_
  refine ACall.val (by kernel_rfl) (f178 st way) rfl rfl ?_
  rcases Bool.eq_false_or_eq_true (termB st way) with g | g
  · rw [g]
    conv => whnf
    repeat refine ru ?_
    exact AFin.val rfl ⟨rfl, rfl⟩
  rw [g]
  conv => whnf
  repeat refine ru ?_
  refine ACall.val (by kernel_rfl) (f197 st way) rfl (actV_ren _ _) ?_
  generalize actF st way = l
  cases l with
  | nil =>
    conv => whnf
    repeat refine ru ?_
    exact AFin.val rfl ⟨rfl, rfl⟩
  | cons a l =>
    unfold actV isV
    conv => whnf
    repeat refine ru ?_
    refine AAny.iff.2 fun b hb => ?_
    rw [hb (by simp)]
    conv => whnf
    repeat refine ru ?_
    exact AFin.val rfl ⟨rfl, rfl⟩
def unB (u : Un) : Bool := decide (serC u.s = 0) && nodeB u.state u.way && standB u && gradedB u && heldB u
theorem f137 (u : Un) (hu : sOk u.s) : Fun P 137 [unA u] (nV (if unB u then 0 else 40)) := by
  refine spec_of hT (f := 137) (fn := Go.Proofs.Tryz.f137) (c := body Go.Proofs.Tryz.f137) (by kernel_rfl) (by kernel_rfl) ?_
  conv => whnf
  repeat' (first | refine go ?_ | ((first | refine ASplit.yes rfl ?_ | refine ASplit.no rfl ?_ | refine ACond.yes rfl ?_ | refine ACond.no rfl ?_ | refine ASplit.dec (fun _ => ?_) (fun _ => ?_) | refine ASplit.ndec (fun _ => ?_) (fun _ => ?_) | refine ACond.dec (fun _ => ?_) (fun _ => ?_) | refine ACond.ndec (fun _ => ?_) (fun _ => ?_) | refine ACall.val (by kernel_rfl) (f128 u.s hu) rfl rfl ?_ | refine ACall.val (by kernel_rfl) (f174 u) rfl rfl ?_ | refine ACall.val (by kernel_rfl) (f173 u.state u.way) rfl rfl ?_ | refine ACall.val (by kernel_rfl) (f175 u) rfl rfl ?_ | refine ACall.val (by kernel_rfl) (f176 u) rfl rfl ?_ | refine ACall.val (by kernel_rfl) (f177 u) rfl rfl ?_ | (refine ASplit.mk (fun _ => ?_) (fun _ => ?_)) | (refine ACond.mk (fun _ => ?_) (fun _ => ?_))) <;> conv => whnf))
  all_goals refine AFin.val rfl ⟨congrArg nV ?_, rfl⟩
  all_goals simp_all [unB, lifeC]
/-! ### wants -/
theorem idxF_any {α : Type} (p : α → Bool) (l : List α) : decide (0 ≤ idxF p l 0) = l.any p := by
  rcases idxF_or p l 0 with ⟨h1, h2⟩ | ⟨i, hi, h1, h2⟩
  · rw [show idxF p l 0 = -1 from h1]
    symm
    rw [show decide ((0 : Int) ≤ -1) = false by decide, List.any_eq_false]
    intro x hx
    rw [List.find?_eq_none] at h2
    exact h2 x hx
  · rw [show idxF p l 0 = (i : Int) by simpa using h1]
    symm
    rw [decide_eq_true (by omega), List.any_eq_true]
    exact ⟨l[i], List.getElem_mem hi, List.find?_some h2⟩
theorem f170 (l : List Wn) (cl : Nat) (caps : List AV) (p : Wn → Bool) (hl : l.length ≤ 9223372036854775807) (hc : callOk P cl = true) (hcr : ∀ ρ, renL ρ caps = caps) (h : ∀ w ∈ l, Fun P cl (.agg (wnC w) :: caps) (bV (p w))) :
    Fun P 170 [wnsV l, .fn cl [] caps] (nV (idxF p l 0)) := by
  refine spec_of hT (f := 170) (fn := Go.Proofs.Tryz.f170) (c := body Go.Proofs.Tryz.f170) (by kernel_rfl) (by kernel_rfl) ?_
  generalize hR : idxF p l 0 = R
  conv => whnf
  repeat refine go ?_
  refine ALoop.mk (fun n E H => ∃ i : Nat, n = l.length - i ∧ i ≤ l.length ∧ idxF p (l.drop i) i = R ∧
      E = pad [wnsV l, .fn cl [] caps, .any, .any, nV 0, .any, .any, nV l.length, nV i] 19 ∧ H = []) (n := l.length) _ _
    ⟨0, rfl, Nat.zero_le _, hR, rfl, rfl⟩ (Conv.fit (by repeat' (first | exact Fit.nil | refine Fit.any ?_ | refine Fit.same ?_))) ?_
  rintro _ _ _ ⟨i, rfl, hi, hI, rfl, rfl⟩
  conv => whnf
  repeat refine go ?_
  refine ACond.dec (fun h1 => ?_) (fun h1 => ?_)
  · have hil : i < l.length := by omega
    have w1 : IntKind.wrap .i64 ((i : Int) + 1) = ((i + 1 : Nat) : Int) := by rw [wrap_i64 _ (by omega) (by omega)]; omega
    rw [idxF_drop hil] at hI
    conv => whnf
    repeat (first | refine go ?_ | ((first | refine AReq.mk (by omega) ?_ | refine AIdx.flat (enc := wnC) wnC_len (xs := l) (i := i) hil ?_ | refine ACall.val (args := .agg (wnC l[i]) :: caps) hc (h l[i] (List.getElem_mem hil)) (by rw [renL, hcr]; rfl) rfl ?_); conv => whnf))
    refine ACond.mk (fun h4 => ?_) (fun h4 => ?_)
    · conv => whnf
      repeat (first | refine go ?_ | ((first | refine AReq.mk (by omega) ?_ | refine AIdx.flat (enc := wnC) wnC_len (xs := l) (i := i) hil ?_ | refine ACall.val (args := .agg (wnC l[i]) :: caps) hc (h l[i] (List.getElem_mem hil)) (by rw [renL, hcr]; rfl) rfl ?_); conv => whnf))
      refine AOut.stay ?_
      refine AFin.val rfl ⟨?_, rfl⟩
      rw [if_pos h4] at hI
      rw [hI]
    · conv => whnf
      repeat (first | refine go ?_ | ((first | refine AReq.mk (by omega) ?_ | refine AIdx.flat (enc := wnC) wnC_len (xs := l) (i := i) hil ?_ | refine ACall.val (args := .agg (wnC l[i]) :: caps) hc (h l[i] (List.getElem_mem hil)) (by rw [renL, hcr]; rfl) rfl ?_); conv => whnf))
      rw [w1]
      exact AHead.mk (l.length - (i + 1)) _ _ (by omega) ⟨i + 1, rfl, by omega, by rw [← hI]; exact (if_neg (fun h5 => Bool.noConfusion (h5.symm.trans h4))).symm, rfl, rfl⟩ (Conv.fit (by repeat' (first | exact Fit.nil | refine Fit.any ?_ | refine Fit.same ?_)))
  · rw [idxF_end (by omega)] at hI
    conv => whnf
    repeat refine go ?_
    refine AOut.stay ?_
    conv => whnf
    repeat refine go ?_
    exact AFin.val rfl ⟨congrArg nV hI, rfl⟩
theorem f135 (l : List Wn) (cl : Nat) (caps : List AV) (p : Wn → Bool) (hl : l.length ≤ 9223372036854775807) (hc : callOk P cl = true) (hcr : ∀ ρ, renL ρ caps = caps) (h : ∀ w ∈ l, Fun P cl (.agg (wnC w) :: caps) (bV (p w))) :
    Fun P 135 [wnsV l, .fn cl [] caps] (bV (l.any p)) := by
  refine spec_of hT (f := 135) (fn := Go.Proofs.Tryz.f135) (c := body Go.Proofs.Tryz.f135) (by kernel_rfl) (by kernel_rfl) ?_
  conv => whnf
  repeat refine go ?_
  refine ACall.val (args := [wnsV l, .fn cl [] caps]) (by kernel_rfl) (f170 l cl caps p hl hc hcr h) (by simp only [renL, AV.ren, hcr, wnsV_ren]) rfl ?_
  conv => whnf
  repeat refine go ?_
  exact AFin.val rfl ⟨congrArg bV (idxF_any p l), rfl⟩
def wantT : Int → List Wn → Bool
  | _, [] => true
  | last, w :: l => (decide (last < w.line) && decide (w.line < 8) && decide (1 ≤ w.qty) && decide (w.qty ≤ 20) && decide (0 ≤ w.got) && decide (w.got ≤ w.qty)) && wantT w.line l
def wantB (l : List Wn) : Bool := wantT (-1) l && decide (0 < (l.length : Int))
theorem f164 (l : List Wn) (hl : l.length ≤ 9223372036854775807) : Fun P 164 [wnsV l] (bV (wantB l)) := by
  refine spec_of hT (f := 164) (fn := Go.Proofs.Tryz.f164) (c := body Go.Proofs.Tryz.f164) (by kernel_rfl) (by kernel_rfl) ?_
  unfold wantB
  generalize hR : wantT (-1) l = R
  conv => whnf
  repeat refine go ?_
  refine ALoop.mk (fun n E H => ∃ (i : Nat) (last : Int), n = l.length - i ∧ i ≤ l.length ∧ wantT last (l.drop i) = R ∧
      E = pad [wnsV l, .any, bV false, nV last, .any, .any, wnsV l, nV l.length, nV i] 49 ∧ H = []) (n := l.length) _ _
    ⟨0, -1, rfl, Nat.zero_le _, hR, rfl, rfl⟩ (Conv.fit (by repeat' (first | exact Fit.nil | refine Fit.any ?_ | refine Fit.same ?_))) ?_
  rintro _ _ _ ⟨i, last, rfl, hi, hI, rfl, rfl⟩
  conv => whnf
  repeat refine go ?_
  refine ACond.dec (fun h => ?_) (fun h => ?_)
  · have hil : i < l.length := by omega
    have w1 : IntKind.wrap .i64 ((i : Int) + 1) = ((i + 1 : Nat) : Int) := by rw [wrap_i64 _ (by omega) (by omega)]; omega
    rw [List.drop_eq_getElem_cons hil, wantT] at hI
    generalize hB : (decide (last < l[i].line) && decide (l[i].line < 8) && decide (1 ≤ l[i].qty) && decide (l[i].qty ≤ 20) && decide (0 ≤ l[i].got) && decide (l[i].got ≤ l[i].qty)) = B at hI
    have hB2 : B = true ↔ last < l[i].line ∧ l[i].line < 8 ∧ 1 ≤ l[i].qty ∧ l[i].qty ≤ 20 ∧ 0 ≤ l[i].got ∧ l[i].got ≤ l[i].qty := by rw [← hB]; simp [and_assoc]
    conv => whnf
    repeat' (first | refine go ?_ | ((first | refine ASplit.yes rfl ?_ | refine ASplit.no rfl ?_ | refine ACond.yes rfl ?_ | refine ACond.no rfl ?_ | refine ASplit.dec (fun _ => ?_) (fun _ => ?_) | refine ASplit.ndec (fun _ => ?_) (fun _ => ?_) | refine ACond.dec (fun _ => ?_) (fun _ => ?_) | refine ACond.ndec (fun _ => ?_) (fun _ => ?_) | refine AReq.mk (by omega) ?_ | refine AIdx.flat (enc := wnC) wnC_len (xs := l) (i := i) hil ?_) <;> conv => whnf))
    all_goals first
      | (have hf : B = false := by
           cases e : B with
           | false => rfl
           | true => have := hB2.1 e; omega
         rw [hf, Bool.false_and] at hI
         refine AOut.stay ?_
         conv => whnf
         repeat ((first | refine AO.cons hT ?_ | refine AO.nil ?_ | refine AW.seq ?_ | refine AW.region ?_ | refine AW.ret ?_); conv => whnf)
         refine AFin.val rfl ⟨congrArg bV ?_, rfl⟩
         rw [← hI]; rfl)
      | (have ht : B = true := hB2.2 (by omega)
         rw [ht, Bool.true_and] at hI
         rw [w1]
         exact AHead.mk (l.length - (i + 1)) _ _ (by omega) ⟨i + 1, l[i].line, rfl, by omega, hI, rfl, rfl⟩ (Conv.ren [] _ (by simp) (by simp) (by simp only [pad, renL, AV.ren, rens]; repeat' (first | exact Fit.nil | refine Fit.any ?_ | refine Fit.same ?_)) .nil))
  · rw [List.drop_of_length_le (by omega)] at hI
    conv => whnf
    repeat refine go ?_
    refine AOut.stay ?_
    conv => whnf
    repeat refine go ?_
    refine AFin.val rfl ⟨congrArg bV ?_, rfl⟩
    rw [← hI]; rfl
end Go.Aw.U1

set_option linter.unusedSimpArgs false
set_option linter.unusedVariables false
set_option maxHeartbeats 2000000
namespace Go.Aw.U1
open Go Go.Proofs

def rmOk (r : Rm) : Prop := r.ws.length ≤ 9223372036854775807
def rmaB (r : Rm) : Bool := idB r.id && idB r.order && timeB r.until_ && wantB r.ws && ((decide (r.state = 1) && r.ws.any waitsB) || (decide (r.state = 2) && !r.ws.any waitsB) || decide (r.state = 3))
def rmaC (r : Rm) : Int := if rmaB r then 0 else 40
theorem f125 (r : Rm) (hr : rmOk r) : Fun P 125 [rmA r] (nV (rmaC r)) := by
  refine spec_of hT (f := 125) (fn := Go.Proofs.Tryz.f125) (c := body Go.Proofs.Tryz.f125) (by kernel_rfl) (by kernel_rfl) ?_
  conv => whnf
  repeat' (first | refine go ?_ | ((first | refine ASplit.yes rfl ?_ | refine ASplit.no rfl ?_ | refine ACond.yes rfl ?_ | refine ACond.no rfl ?_ | refine ASplit.dec (fun _ => ?_) (fun _ => ?_) | refine ASplit.ndec (fun _ => ?_) (fun _ => ?_) | refine ACond.dec (fun _ => ?_) (fun _ => ?_) | refine ACond.ndec (fun _ => ?_) (fun _ => ?_) | refine ACall.val (by kernel_rfl) (f163 _) rfl rfl ?_ | refine ACall.val (by kernel_rfl) (f40 _) rfl rfl ?_ | refine ACall.val (by kernel_rfl) (f164 r.ws hr) (by (first | rfl | (simp only [renL, AV.ren, List.nil_append, List.cons_append, rens]; try rfl))) rfl ?_ | refine ACall.val (args := [wnsV r.ws, .fn 165 [] []]) (by kernel_rfl) (f135 r.ws 165 [] waitsB hr (by kernel_rfl) (fun _ => rfl) (fun w _ => f165 w)) (by (first | rfl | (simp only [renL, AV.ren, List.nil_append, List.cons_append, rens]; try rfl))) rfl ?_ | (refine ASplit.mk (fun _ => ?_) (fun _ => ?_)) | (refine ACond.mk (fun _ => ?_) (fun _ => ?_))) <;> conv => whnf))
  all_goals refine AFin.val rfl ⟨congrArg nV ?_, rfl⟩
  all_goals simp_all [rmaC, rmaB]
def holdT (line st : Int) : List Wn → Int
  | [] => 0
  | w :: l => if w.line = line then if st = 1 then w.qty else w.got else holdT line st l
def holdF (r : Rm) (line : Int) : Int := if rmaC r = 0 then holdT line r.state r.ws else 0
theorem f46 (r : Rm) (line : Int) (hr : rmOk r) : Fun P 46 [rmA r, nV line] (nV (holdF r line)) := by
  refine spec_of hT (f := 46) (fn := Go.Proofs.Tryz.f46) (c := body Go.Proofs.Tryz.f46) (by kernel_rfl) (by kernel_rfl) ?_
  have hr1 : r.ws.length ≤ 9223372036854775807 := hr
  unfold holdF
  conv => whnf
  repeat refine go ?_
  refine ACall.val (by kernel_rfl) (f125 r hr) (by (first | rfl | (simp only [renL, AV.ren, List.nil_append, List.cons_append, rens]; try rfl))) rfl ?_
  conv => whnf
  repeat refine go ?_
  refine ACond.ndec (fun h4 => ?_) (fun h4 => ?_)
  · rw [if_neg h4]
    conv => whnf
    repeat refine go ?_
    exact AFin.val rfl ⟨rfl, rfl⟩
  rw [if_pos h4]
  generalize hR : holdT line r.state r.ws = R
  conv => whnf
  repeat refine go ?_
  refine ALoop.mk (fun n E H => ∃ (i : Nat), n = r.ws.length - i ∧ i ≤ r.ws.length ∧ holdT line r.state (r.ws.drop i) = R ∧
      E = pad [rmA r, nV line, .ptr 0 0, .any, nV 0, .any, .any, .any, .any, .any, .any, wnsV r.ws, nV r.ws.length, nV i] 35 ∧ H = [.cells 66 (rmC r)]) (n := r.ws.length) _ _
    ⟨0, rfl, Nat.zero_le _, hR, rfl, rfl⟩ (Conv.fit (by repeat' (first | exact Fit.nil | refine Fit.any ?_ | refine Fit.same ?_))) ?_
  rintro _ _ _ ⟨i, rfl, hi, hI, rfl, rfl⟩
  conv => whnf
  repeat refine go ?_
  refine ACond.dec (fun h => ?_) (fun h => ?_)
  · have hil : i < r.ws.length := by omega
    have w1 : IntKind.wrap .i64 ((i : Int) + 1) = ((i + 1 : Nat) : Int) := by rw [wrap_i64 _ (by omega) (by omega)]; omega
    rw [List.drop_eq_getElem_cons hil, holdT] at hI
    conv => whnf
    repeat (first | refine go ?_ | ((first | refine AReq.mk (by omega) ?_ | refine AIdx.flat (enc := wnC) wnC_len (xs := r.ws) (i := i) hil ?_); conv => whnf))
    by_cases h5 : r.ws[i].line = line
    · rw [if_pos h5] at hI
      refine ASplit.yes (decide_eq_true h5) ?_
      conv => whnf
      repeat (first | refine go ?_ | ((first | refine AReq.mk (by omega) ?_ | refine AIdx.flat (enc := wnC) wnC_len (xs := r.ws) (i := i) hil ?_); conv => whnf))
      by_cases h6 : r.state = 1
      · rw [if_pos h6] at hI
        refine ACond.yes (decide_eq_true h6) ?_
        conv => whnf
        repeat (first | refine go ?_ | ((first | refine AReq.mk (by omega) ?_ | refine AIdx.flat (enc := wnC) wnC_len (xs := r.ws) (i := i) hil ?_); conv => whnf))
        refine AOut.stay ?_
        conv => whnf
        repeat (first | refine go ?_ | ((first | refine AReq.mk (by omega) ?_ | refine AIdx.flat (enc := wnC) wnC_len (xs := r.ws) (i := i) hil ?_); conv => whnf))
        exact AFin.val rfl ⟨congrArg nV hI, rfl⟩
      · rw [if_neg h6] at hI
        refine ACond.no (decide_eq_false h6) ?_
        conv => whnf
        repeat (first | refine go ?_ | ((first | refine AReq.mk (by omega) ?_ | refine AIdx.flat (enc := wnC) wnC_len (xs := r.ws) (i := i) hil ?_); conv => whnf))
        refine ACond.yes (decide_eq_true h5) ?_
        conv => whnf
        repeat (first | refine go ?_ | ((first | refine AReq.mk (by omega) ?_ | refine AIdx.flat (enc := wnC) wnC_len (xs := r.ws) (i := i) hil ?_); conv => whnf))
        refine AOut.stay ?_
        conv => whnf
        repeat (first | refine go ?_ | ((first | refine AReq.mk (by omega) ?_ | refine AIdx.flat (enc := wnC) wnC_len (xs := r.ws) (i := i) hil ?_); conv => whnf))
        exact AFin.val rfl ⟨congrArg nV hI, rfl⟩
    · rw [if_neg h5] at hI
      refine ASplit.no (decide_eq_false h5) ?_
      conv => whnf
      repeat (first | refine go ?_ | ((first | refine AReq.mk (by omega) ?_ | refine AIdx.flat (enc := wnC) wnC_len (xs := r.ws) (i := i) hil ?_); conv => whnf))
      refine ACond.no rfl ?_
      conv => whnf
      repeat (first | refine go ?_ | ((first | refine AReq.mk (by omega) ?_ | refine AIdx.flat (enc := wnC) wnC_len (xs := r.ws) (i := i) hil ?_); conv => whnf))
      refine ACond.no (decide_eq_false h5) ?_
      conv => whnf
      repeat (first | refine go ?_ | ((first | refine AReq.mk (by omega) ?_ | refine AIdx.flat (enc := wnC) wnC_len (xs := r.ws) (i := i) hil ?_); conv => whnf))
      rw [w1]
      exact AHead.mk (r.ws.length - (i + 1)) _ _ (by omega) ⟨i + 1, rfl, by omega, hI, rfl, rfl⟩ (Conv.ren [0] _ (by simp) (by simp) (by simp only [pad, renL, AV.ren, rens]; repeat' (first | exact Fit.nil | refine Fit.any ?_ | refine Fit.same ?_)) (.same (by simp only [ABlk.ren, rmC_ren]; rfl) .nil))
  · rw [List.drop_of_length_le (by omega)] at hI
    conv => whnf
    repeat refine go ?_
    refine AOut.stay ?_
    conv => whnf
    repeat refine go ?_
    exact AFin.val rfl ⟨congrArg nV hI, rfl⟩
theorem wantT_bd : ∀ {l : List Wn} {last : Int}, wantT last l = true → ∀ w ∈ l, last < w.line ∧ w.line < 8 ∧ 1 ≤ w.qty ∧ w.qty ≤ 20 ∧ 0 ≤ w.got ∧ w.got ≤ w.qty
  | [], _, _, w, hw => by simp at hw
  | x :: l, last, h, w, hw => by
    simp only [wantT, Bool.and_eq_true, decide_eq_true_eq] at h
    obtain ⟨⟨⟨⟨⟨⟨h1, h2⟩, h3⟩, h4⟩, h5⟩, h6⟩, h7⟩ := h
    rcases List.mem_cons.1 hw with rfl | hw
    · exact ⟨h1, h2, h3, h4, h5, h6⟩
    · have := wantT_bd h7 w hw
      exact ⟨by omega, this.2⟩
theorem rma_want {r : Rm} (h : rmaC r = 0) : wantT (-1) r.ws = true := by
  unfold rmaC at h
  split at h
  · rename_i h2
    simp only [rmaB, wantB, Bool.and_eq_true] at h2
    exact h2.1.2.1
  · omega
theorem holdT_bd {line st : Int} : ∀ {l : List Wn}, (∀ w ∈ l, 1 ≤ w.qty ∧ w.qty ≤ 20 ∧ 0 ≤ w.got ∧ w.got ≤ w.qty) → 0 ≤ holdT line st l ∧ holdT line st l ≤ 20
  | [], _ => by simp [holdT]
  | w :: l, h => by
    have h1 := h w (by simp)
    have h2 := holdT_bd (line := line) (st := st) (l := l) fun w hw => h w (by simp [hw])
    rw [holdT]
    split
    · split <;> omega
    · exact h2
theorem holdF_bd (r : Rm) (line : Int) : 0 ≤ holdF r line ∧ holdF r line ≤ 20 := by
  unfold holdF
  split
  · rename_i h
    exact holdT_bd fun w hw => (wantT_bd (rma_want h) w hw).2.2
  · omega
def heldT (order line : Int) : List Rm → Int → Int
  | [], n => n
  | r :: l, n => if r.order = order then heldT order line l (n + holdF r line) else heldT order line l n
def rmsOk (l : List Rm) : Prop := l.length ≤ 1000000 ∧ ∀ r ∈ l, rmOk r
theorem f79 (s : Sta) (order line : Int) (hr : rmsOk s.rmas) : Fun P 79 [stA s, nV order, nV line] (nV (heldT order line s.rmas 0)) := by
  refine spec_of hT (f := 79) (fn := Go.Proofs.Tryz.f79) (c := body Go.Proofs.Tryz.f79) (by kernel_rfl) (by kernel_rfl) ?_
  have hr1 := hr.1
  generalize hR : heldT order line s.rmas 0 = R
  conv => whnf
  repeat refine go ?_
  refine ALoop.mk (fun n E H => ∃ (i : Nat) (k : Int), n = s.rmas.length - i ∧ i ≤ s.rmas.length ∧ 0 ≤ k ∧ k ≤ 20 * i ∧ heldT order line (s.rmas.drop i) k = R ∧
      E = pad [stA s, nV order, nV line, .ptr 0 0, .any, .any, nV 0, nV k, .any, .any, .any, rmsV s.rmas, nV s.rmas.length, nV i] 28 ∧ H = [.cells 36 (stC s)]) (n := s.rmas.length) _ _
    ⟨0, 0, rfl, Nat.zero_le _, by omega, by omega, hR, rfl, rfl⟩ (Conv.fit (by repeat' (first | exact Fit.nil | refine Fit.any ?_ | refine Fit.same ?_))) ?_
  rintro _ _ _ ⟨i, k, rfl, hi, hk0, hk1, hI, rfl, rfl⟩
  conv => whnf
  repeat refine go ?_
  refine ACond.dec (fun h => ?_) (fun h => ?_)
  · have hil : i < s.rmas.length := by omega
    have w1 : IntKind.wrap .i64 ((i : Int) + 1) = ((i + 1 : Nat) : Int) := by rw [wrap_i64 _ (by omega) (by omega)]; omega
    have hb := holdF_bd s.rmas[i] line
    have w2 : IntKind.wrap .i64 (k + holdF s.rmas[i] line) = k + holdF s.rmas[i] line := by rw [wrap_i64 _ (by omega) (by omega)]
    rw [List.drop_eq_getElem_cons hil, heldT] at hI
    conv => whnf
    repeat (first | refine go ?_ | ((first | refine AReq.mk (by omega) ?_ | refine AIdx.flat (enc := rmC) rmC_len (xs := s.rmas) (i := i) hil ?_ | refine ACall.val (by kernel_rfl) (f46 s.rmas[i] line (hr.2 _ (List.getElem_mem hil))) (by (first | rfl | (simp only [renL, AV.ren, List.nil_append, List.cons_append, rens]; try rfl))) rfl ?_); conv => whnf))
    refine ACond.dec (fun h5 => ?_) (fun h5 => ?_)
    · rw [if_pos h5] at hI
      conv => whnf
      repeat (first | refine go ?_ | ((first | refine AReq.mk (by omega) ?_ | refine AIdx.flat (enc := rmC) rmC_len (xs := s.rmas) (i := i) hil ?_ | refine ACall.val (by kernel_rfl) (f46 s.rmas[i] line (hr.2 _ (List.getElem_mem hil))) (by (first | rfl | (simp only [renL, AV.ren, List.nil_append, List.cons_append, rens]; try rfl))) rfl ?_); conv => whnf))
      rw [w1, w2]
      exact AHead.mk (s.rmas.length - (i + 1)) _ _ (by omega) ⟨i + 1, _, rfl, by omega, by omega, by omega, hI, rfl, rfl⟩ (Conv.ren [0] _ (by simp) (by simp) (by simp only [pad, renL, AV.ren, rens]; repeat' (first | exact Fit.nil | refine Fit.any ?_ | refine Fit.same ?_)) (.same (by simp only [ABlk.ren, stC_ren]; rfl) .nil))
    · rw [if_neg h5] at hI
      conv => whnf
      repeat (first | refine go ?_ | ((first | refine AReq.mk (by omega) ?_ | refine AIdx.flat (enc := rmC) rmC_len (xs := s.rmas) (i := i) hil ?_ | refine ACall.val (by kernel_rfl) (f46 s.rmas[i] line (hr.2 _ (List.getElem_mem hil))) (by (first | rfl | (simp only [renL, AV.ren, List.nil_append, List.cons_append, rens]; try rfl))) rfl ?_); conv => whnf))
      rw [w1]
      exact AHead.mk (s.rmas.length - (i + 1)) _ _ (by omega) ⟨i + 1, _, rfl, by omega, by omega, by omega, hI, rfl, rfl⟩ (Conv.ren [0] _ (by simp) (by simp) (by simp only [pad, renL, AV.ren, rens]; repeat' (first | exact Fit.nil | refine Fit.any ?_ | refine Fit.same ?_)) (.same (by simp only [ABlk.ren, stC_ren]; rfl) .nil))
  · rw [List.drop_of_length_le (by omega)] at hI
    conv => whnf
    repeat refine go ?_
    refine AOut.stay ?_
    conv => whnf
    repeat refine go ?_
    exact AFin.val rfl ⟨congrArg nV hI, rfl⟩
end Go.Aw.U1

set_option linter.unusedSimpArgs false
set_option linter.unusedVariables false
set_option maxHeartbeats 2000000
namespace Go.Aw.U1
open Go Go.Proofs

def findO (s : Sta) (id : Int) : Option Od := s.orders.find? (fun x => decide (x.id = id))
def odsOk (l : List Od) : Prop := l.length ≤ 1000000 ∧ ∀ o ∈ l, odOk o
def freeF (s : Sta) (order line : Int) : Int :=
  match findO s order with
  | none => 0
  | some o => match o.ls[line.toNat]? with
    | none => 0
    | some l => if 0 ≤ line then (l.ss.length : Int) - heldT order line s.rmas 0 else 0
theorem heldT_bd (order line : Int) : ∀ (l : List Rm) (n : Int), 0 ≤ n → n ≤ heldT order line l n ∧ heldT order line l n ≤ n + 20 * l.length
  | [], n, _ => by simp [heldT]
  | r :: l, n, hn => by
    have hb := holdF_bd r line
    rw [heldT, List.length_cons]
    split
    · have := heldT_bd order line l (n + holdF r line) (by omega); omega
    · have := heldT_bd order line l n hn; omega
theorem f29 (s : Sta) (order line : Int) (hr : rmsOk s.rmas) (ho : odsOk s.orders) : Fun P 29 [stA s, nV order, nV line] (nV (freeF s order line)) := by
  refine spec_of hT (f := 29) (fn := Go.Proofs.Tryz.f29) (c := body Go.Proofs.Tryz.f29) (by kernel_rfl) (by kernel_rfl) ?_
  generalize hR : freeF s order line = R
  have hb := heldT_bd order line s.rmas 0 (by omega)
  have hr1 := hr.1
  have hf9 := f9 s order ho.1
  rw [← findO] at hf9
  cases hfo : findO s order with
  | none =>
    rw [hfo] at hf9
    simp only [Option.getD_none, Option.isSome_none] at hf9
    have hz : 0 = R := by rw [← hR, freeF, hfo]
    conv => whnf
    repeat (first | refine go ?_ | (refine AW.plan (id := 4) hm (.one 0 (.one 2 (.one 8 (.one 9 (.imm 1 (.one 3 (.one 4 (.imm 5 (.one 6 (.one 7 (.one 10 (.one 11 (.one 12 .nil))))))))))))) (by kernel_rfl) ?_; conv => whnf))
    refine ACall.val (by kernel_rfl) hf9 (by (first | rfl | (simp only [renL, AV.ren, List.nil_append, List.cons_append, rens]; try rfl))) (by (first | rfl | (simp only [renL, AV.ren, List.nil_append, List.cons_append, rens]; try rfl))) ?_
    conv => whnf
    repeat (first | refine ru ?_ | (refine AW.plan (id := 4) hm (.one 0 (.one 2 (.one 8 (.one 9 (.imm 1 (.one 3 (.one 4 (.imm 5 (.one 6 (.one 7 (.one 10 (.one 11 (.one 12 .nil))))))))))))) (by kernel_rfl) ?_; conv => whnf))
    exact AFin.val rfl ⟨congrArg nV hz, rfl⟩
  | some o =>
    rw [hfo] at hf9
    simp only [Option.getD_some, Option.isSome_some] at hf9
    have hoo : odOk o := ho.2 _ (List.mem_of_find?_eq_some hfo)
    have hol := hoo.1
    conv => whnf
    repeat (first | refine go ?_ | (refine AW.plan (id := 4) hm (.one 0 (.one 2 (.one 8 (.one 9 (.imm 1 (.one 3 (.one 4 (.imm 5 (.one 6 (.one 7 (.one 10 (.one 11 (.one 12 .nil))))))))))))) (by kernel_rfl) ?_; conv => whnf))
    refine ACall.val (by kernel_rfl) hf9 (by (first | rfl | (simp only [renL, AV.ren, List.nil_append, List.cons_append, rens]; try rfl))) (by (first | rfl | (simp only [renL, AV.ren, List.nil_append, List.cons_append, rens]; try rfl))) ?_
    conv => whnf
    repeat (first | refine ru ?_ | (refine AW.plan (id := 4) hm (.one 0 (.one 2 (.one 8 (.one 9 (.imm 1 (.one 3 (.one 4 (.imm 5 (.one 6 (.one 7 (.one 10 (.one 11 (.one 12 .nil))))))))))))) (by kernel_rfl) ?_; conv => whnf))
    refine ASplit.dec (fun h1 => ?_) (fun h1 => ?_)
    · conv => whnf
      repeat (first | refine ru ?_ | (refine AW.plan (id := 4) hm (.one 0 (.one 2 (.one 8 (.one 9 (.imm 1 (.one 3 (.one 4 (.imm 5 (.one 6 (.one 7 (.one 10 (.one 11 (.one 12 .nil))))))))))))) (by kernel_rfl) ?_; conv => whnf))
      refine AFin.val rfl ⟨congrArg nV ?_, rfl⟩
      rw [← hR, freeF, hfo]
      simp only
      cases o.ls[line.toNat]? with
      | none => rfl
      | some l => exact (if_neg (by omega)).symm
    conv => whnf
    repeat (first | refine ru ?_ | (refine AW.plan (id := 4) hm (.one 0 (.one 2 (.one 8 (.one 9 (.imm 1 (.one 3 (.one 4 (.imm 5 (.one 6 (.one 7 (.one 10 (.one 11 (.one 12 .nil))))))))))))) (by kernel_rfl) ?_; conv => whnf))
    refine ACond.dec (fun h2 => ?_) (fun h2 => ?_)
    · conv => whnf
      repeat (first | refine ru ?_ | (refine AW.plan (id := 4) hm (.one 0 (.one 2 (.one 8 (.one 9 (.imm 1 (.one 3 (.one 4 (.imm 5 (.one 6 (.one 7 (.one 10 (.one 11 (.one 12 .nil))))))))))))) (by kernel_rfl) ?_; conv => whnf))
      refine AFin.val rfl ⟨congrArg nV ?_, rfl⟩
      rw [← hR, freeF, hfo]
      simp only
      rw [List.getElem?_eq_none (show o.ls.length ≤ line.toNat by omega)]
    have hlt : line.toNat < o.ls.length := by omega
    have hz : (o.ls[line.toNat].ss.length : Int) - heldT order line s.rmas 0 = R := by
      rw [← hR, freeF, hfo]
      simp only
      rw [List.getElem?_eq_getElem hlt]
      exact (if_pos (by omega)).symm
    have hss := (hoo.2 _ (List.getElem_mem hlt)).2
    refine AW.conv _ _ (Conv.freeze 1 rfl) ?_
    conv => whnf
    repeat (first | refine go ?_ | ((first | refine AW.plan (id := 4) hm (.one 0 (.one 2 (.one 8 (.one 9 (.imm 1 (.one 3 (.one 4 (.imm 5 (.one 6 (.one 7 (.one 10 (.one 11 (.one 12 .nil))))))))))))) (by kernel_rfl) ?_ | refine AReq.mk (by omega) ?_ | refine AIdx.flat (enc := lnC) lnC_len (xs := o.ls) (i := line.toNat) hlt ?_ | refine ACall.val (by kernel_rfl) (f79 s order line hr) (by (first | rfl | (simp only [renL, AV.ren, List.nil_append, List.cons_append, rens]; try rfl))) (by (first | rfl | (simp only [renL, AV.ren, List.nil_append, List.cons_append, rens]; try rfl))) ?_); conv => whnf))
    have w2 : IntKind.wrap .i64 ((o.ls[line.toNat].ss.length : Int) - heldT order line s.rmas 0) = (o.ls[line.toNat].ss.length : Int) - heldT order line s.rmas 0 := by rw [wrap_i64 _ (by omega) (by omega)]
    rw [w2]
    exact AFin.val rfl ⟨congrArg nV hz, rfl⟩
def muchB (o : Od) (w : Wn) : Bool :=
  match o.ls[w.line.toNat]? with
  | none => true
  | some l => decide ((l.ss.length : Int) < w.qty)
theorem f134 (o : Od) (w : Wn) (hw : 0 ≤ w.line) : Fun P 134 [wnA w, .ip (odC o)] (bV (muchB o w)) := by
  refine spec_of hT (f := 134) (fn := Go.Proofs.Tryz.f134) (c := body Go.Proofs.Tryz.f134) (by kernel_rfl) (by kernel_rfl) ?_
  unfold muchB
  conv => whnf
  repeat (first | refine go ?_ | (refine AW.plan (id := 1) hm (.one 0 (.one 2 (.one 3 (.one 4 (.one 1 (.one 5 (.one 6 (.one 7 (.one 9 (.one 11 (.one 10 (.one 12 (.one 13 (.one 14 (.one 15 (.one 16 (.one 8 (.one 17 (.one 18 (.one 19 .nil)))))))))))))))))))) (by kernel_rfl) ?_; conv => whnf))
  refine ASplit.dec (fun h1 => ?_) (fun h1 => ?_)
  · rw [List.getElem?_eq_none (show o.ls.length ≤ w.line.toNat by omega)]
    conv => whnf
    repeat (first | refine ru ?_ | (refine AW.plan (id := 1) hm (.one 0 (.one 2 (.one 3 (.one 4 (.one 1 (.one 5 (.one 6 (.one 7 (.one 9 (.one 11 (.one 10 (.one 12 (.one 13 (.one 14 (.one 15 (.one 16 (.one 8 (.one 17 (.one 18 (.one 19 .nil)))))))))))))))))))) (by kernel_rfl) ?_; conv => whnf))
    exact AFin.val rfl ⟨rfl, rfl⟩
  · have hlt : w.line.toNat < o.ls.length := by omega
    rw [List.getElem?_eq_getElem hlt]
    conv => whnf
    repeat (first | refine go ?_ | ((first | refine AW.plan (id := 1) hm (.one 0 (.one 2 (.one 3 (.one 4 (.one 1 (.one 5 (.one 6 (.one 7 (.one 9 (.one 11 (.one 10 (.one 12 (.one 13 (.one 14 (.one 15 (.one 16 (.one 8 (.one 17 (.one 18 (.one 19 .nil)))))))))))))))))))) (by kernel_rfl) ?_ | refine AReq.mk (by omega) ?_ | refine AIdx.flat (enc := lnC) lnC_len (xs := o.ls) (i := w.line.toNat) hlt ?_); conv => whnf))
    exact AFin.val rfl ⟨rfl, rfl⟩
def fitsB (r : Rm) (o : Od) : Bool := decide (rmaC r = 0) && decide (ordC o = 0) && decide (r.order = o.id) && !r.ws.any (muchB o)
theorem f70 (r : Rm) (o : Od) (hr : rmOk r) (ho : odOk o) : Fun P 70 [rmA r, odA o] (bV (fitsB r o)) := by
  refine spec_of hT (f := 70) (fn := Go.Proofs.Tryz.f70) (c := body Go.Proofs.Tryz.f70) (by kernel_rfl) (by kernel_rfl) ?_
  unfold fitsB
  conv => whnf
  repeat refine go ?_
  refine ACall.val (by kernel_rfl) (f125 r hr) (by (first | rfl | (simp only [renL, AV.ren, List.nil_append, List.cons_append, rens]; try rfl))) rfl ?_
  by_cases h1 : rmaC r = 0
  case neg =>
    rw [decide_eq_false h1]
    conv => whnf
    repeat refine go ?_
    refine ASplit.yes (by rw [decide_eq_false h1]; rfl) ?_
    conv => whnf
    repeat refine ru ?_
    exact AFin.val rfl ⟨rfl, rfl⟩
  rw [decide_eq_true h1]
  conv => whnf
  repeat refine go ?_
  refine ASplit.no (by rw [decide_eq_true h1]; rfl) ?_
  conv => whnf
  repeat refine go ?_
  refine ACall.val (by kernel_rfl) (f11 o ho) (by (first | rfl | (simp only [renL, AV.ren, List.nil_append, List.cons_append, rens]; try rfl))) rfl ?_
  by_cases h2 : ordC o = 0
  case neg =>
    rw [decide_eq_false h2]
    conv => whnf
    repeat refine go ?_
    refine ASplit.yes (by rw [decide_eq_false h2]; rfl) ?_
    conv => whnf
    repeat refine ru ?_
    exact AFin.val rfl ⟨rfl, rfl⟩
  rw [decide_eq_true h2]
  conv => whnf
  repeat refine go ?_
  refine ASplit.no (by rw [decide_eq_true h2]; rfl) ?_
  conv => whnf
  repeat refine go ?_
  by_cases h3 : r.order = o.id
  case neg =>
    rw [decide_eq_false h3]
    refine ACond.yes rfl ?_
    conv => whnf
    repeat refine ru ?_
    exact AFin.val rfl ⟨rfl, rfl⟩
  rw [decide_eq_true h3]
  refine ACond.no rfl ?_
  conv => whnf
  repeat refine go ?_
  refine ACall.clo (l := 1) (g := 134) (a := wnsV r.ws) (xs := odC o) (t := 46) rfl ?_
  refine ACall.val (by kernel_rfl) (f135 r.ws 134 [.ip (odC o)] (muchB o) hr (by kernel_rfl) (fun ρ => by simp only [renL, AV.ren, odC_ren]) (fun w hw => f134 o w (by have := (wantT_bd (rma_want h1) w hw).1; omega))) (by simp only [renL, AV.ren, odC_ren, wnsV_ren]) rfl ?_
  conv => whnf
  repeat refine go ?_
  exact AFin.val rfl ⟨rfl, rfl⟩
end Go.Aw.U1

set_option linter.unusedSimpArgs false
set_option linter.unusedVariables false
set_option maxHeartbeats 2000000
namespace Go.Aw.U1
open Go Go.Proofs

structure Sh where
  o : Int
  l : Int
  p : Int
  ok : Bool
def shA (x : Sh) : AV := .tup [nV x.o, nV x.l, nV x.p, bV x.ok]
def shL (s : ByteArray) : List Ln → Int → Option (Int × Int)
  | [], _ => none
  | l :: ls, i => if 0 ≤ idxF (fun x => s.toList == x.toList) l.ss 0 then some (i, idxF (fun x => s.toList == x.toList) l.ss 0) else shL s ls (i + 1)
def shT (s : ByteArray) : List Od → Sh
  | [] => ⟨0, 0, 0, false⟩
  | o :: os => match shL s o.ls 0 with
    | some p => ⟨o.id, p.1, p.2, true⟩
    | none => shT s os
def shM (id : Int) (x : Option (Int × Int)) (r : Sh) : Sh :=
  match x with
  | some p => ⟨id, p.1, p.2, true⟩
  | none => r
theorem shT_cons (s : ByteArray) (o : Od) (os : List Od) : shT s (o :: os) = shM o.id (shL s o.ls 0) (shT s os) := rfl
theorem f26 (t : Sta) (s : ByteArray) (ho : odsOk t.orders) : Fun P 26 [stA t, sV s] (shA (shT s t.orders)) := by
  refine spec_of hT (f := 26) (fn := Go.Proofs.Tryz.f26) (c := body Go.Proofs.Tryz.f26) (by kernel_rfl) (by kernel_rfl) ?_
  have ho1 := ho.1
  generalize hR : shT s t.orders = R
  conv => whnf
  repeat refine go ?_
  refine ALoop.mk (fun n E H => ∃ (i : Nat), n = t.orders.length - i ∧ i ≤ t.orders.length ∧ shT s (t.orders.drop i) = R ∧
      E = pad [stA t, sV s, .ptr 0 0, .any, nV 0, nV 0, nV 0, bV false, .any, .any, .any, .any, .any, .any, odsV t.orders, nV t.orders.length, nV i] 40 ∧ H = [.cells 36 (stC t)]) (n := t.orders.length) _ _
    ⟨0, rfl, Nat.zero_le _, hR, rfl, rfl⟩ (Conv.fit (by repeat' (first | exact Fit.nil | refine Fit.any ?_ | refine Fit.same ?_))) ?_
  rintro _ _ _ ⟨i, rfl, hi, hI, rfl, rfl⟩
  conv => whnf
  repeat refine go ?_
  refine ACond.dec (fun h => ?_) (fun h => ?_)
  · have hil : i < t.orders.length := by omega
    have w1 : IntKind.wrap .i64 ((i : Int) + 1) = ((i + 1 : Nat) : Int) := by rw [wrap_i64 _ (by omega) (by omega)]; omega
    rw [List.drop_eq_getElem_cons hil, shT_cons] at hI
    have hoo : odOk t.orders[i] := ho.2 _ (List.getElem_mem hil)
    generalize hoi : t.orders[i] = o at hI hoo
    have hol := hoo.1
    conv => whnf
    repeat (first | refine go ?_ | ((first | refine AReq.mk (by omega) ?_ | refine AIdx.flat (enc := odC) odC_len (xs := t.orders) (i := i) hil ?_); conv => whnf))
    rw [hoi]
    refine ALoop.mk (fun n E H => ∃ (k : Nat), n = o.ls.length - k ∧ k ≤ o.ls.length ∧ shM o.id (shL s (o.ls.drop k) k) (shT s (t.orders.drop (i + 1))) = R ∧
        E = pad [stA t, sV s, .ptr 0 0, .any, nV 0, nV 0, nV 0, bV false, .any, .ptr 1 0, .any, .any, .any, .any, odsV t.orders, nV t.orders.length, nV i, .any, .any, .any, .any, lnsV o.ls, nV o.ls.length, nV k] 40 ∧ H = [.cells 36 (stC t), .cells 46 (odC o)]) (n := o.ls.length) _ _
      ⟨0, rfl, Nat.zero_le _, hI, rfl, rfl⟩ (Conv.fit (by repeat' (first | exact Fit.nil | refine Fit.any ?_ | refine Fit.same ?_))) ?_
    rintro _ _ _ ⟨k, rfl, hk, hI, rfl, rfl⟩
    conv => whnf
    repeat refine go ?_
    refine ACond.dec (fun h2 => ?_) (fun h2 => ?_)
    · have hkl : k < o.ls.length := by omega
      have w2 : IntKind.wrap .i64 ((k : Int) + 1) = ((k + 1 : Nat) : Int) := by rw [wrap_i64 _ (by omega) (by omega)]; omega
      have hsk := (hoo.2 _ (List.getElem_mem hkl)).2
      rw [List.drop_eq_getElem_cons hkl, shL] at hI
      conv => whnf
      repeat (first | refine go ?_ | ((first | refine AReq.mk (by omega) ?_ | refine AIdx.flat (enc := lnC) lnC_len (xs := o.ls) (i := k) hkl ?_ | refine ACall.val (by kernel_rfl) (f76 o.ls[k].ss s hsk) (by (first | rfl | (simp only [renL, AV.ren, List.nil_append, List.cons_append, rens]; try rfl))) rfl ?_); conv => whnf))
      refine ACond.dec (fun h3 => ?_) (fun h3 => ?_)
      · rw [if_pos h3] at hI
        conv => whnf
        repeat (first | refine go ?_ | ((first | refine AReq.mk (by omega) ?_ | refine AIdx.flat (enc := lnC) lnC_len (xs := o.ls) (i := k) hkl ?_ | refine ACall.val (by kernel_rfl) (f76 o.ls[k].ss s hsk) (by (first | rfl | (simp only [renL, AV.ren, List.nil_append, List.cons_append, rens]; try rfl))) rfl ?_); conv => whnf))
        refine AOut.stay ?_
        conv => whnf
        repeat (first | refine go ?_ | ((first | refine AReq.mk (by omega) ?_ | refine AIdx.flat (enc := lnC) lnC_len (xs := o.ls) (i := k) hkl ?_ | refine ACall.val (by kernel_rfl) (f76 o.ls[k].ss s hsk) (by (first | rfl | (simp only [renL, AV.ren, List.nil_append, List.cons_append, rens]; try rfl))) rfl ?_); conv => whnf))
        refine AOut.stay ?_
        conv => whnf
        repeat (first | refine go ?_ | ((first | refine AReq.mk (by omega) ?_ | refine AIdx.flat (enc := lnC) lnC_len (xs := o.ls) (i := k) hkl ?_ | refine ACall.val (by kernel_rfl) (f76 o.ls[k].ss s hsk) (by (first | rfl | (simp only [renL, AV.ren, List.nil_append, List.cons_append, rens]; try rfl))) rfl ?_); conv => whnf))
        exact AFin.val rfl ⟨congrArg shA hI, rfl⟩
      · rw [if_neg h3] at hI
        conv => whnf
        repeat (first | refine go ?_ | ((first | refine AReq.mk (by omega) ?_ | refine AIdx.flat (enc := lnC) lnC_len (xs := o.ls) (i := k) hkl ?_ | refine ACall.val (by kernel_rfl) (f76 o.ls[k].ss s hsk) (by (first | rfl | (simp only [renL, AV.ren, List.nil_append, List.cons_append, rens]; try rfl))) rfl ?_); conv => whnf))
        rw [w2]
        exact AHead.mk (o.ls.length - (k + 1)) _ _ (by omega) ⟨k + 1, rfl, by omega, hI, rfl, rfl⟩ (Conv.ren [0, 1] _ (by simp) (by simp) (by simp only [pad, renL, AV.ren, rens]; repeat' (first | exact Fit.nil | refine Fit.any ?_ | refine Fit.same ?_)) (.same (by simp only [ABlk.ren, stC_ren]; rfl) (.same (by simp only [ABlk.ren, odC_ren]; rfl) .nil)))
    · rw [List.drop_of_length_le (by omega)] at hI
      conv => whnf
      repeat refine go ?_
      refine AOut.stay ?_
      conv => whnf
      repeat refine go ?_
      rw [w1]
      exact AHead.mk (t.orders.length - (i + 1)) _ _ (by omega) ⟨i + 1, rfl, by omega, hI, rfl, rfl⟩ (Conv.ren [0] _ (by simp) (by simp) (by simp only [pad, renL, AV.ren, rens]; repeat' (first | exact Fit.nil | refine Fit.any ?_ | refine Fit.same ?_)) (.same (by simp only [ABlk.ren, stC_ren]; rfl) .nil))
  · rw [List.drop_of_length_le (by omega)] at hI
    conv => whnf
    repeat refine go ?_
    refine AOut.stay ?_
    conv => whnf
    repeat refine go ?_
    exact AFin.val rfl ⟨congrArg shA hI, rfl⟩
theorem flat_len {α : Type} {enc : α → List AV} {n : Nat} (h : ∀ x, (enc x).length = n) : ∀ l : List α, (l.flatMap enc).length = l.length * n
  | [] => by simp
  | x :: l => by rw [List.flatMap_cons, List.length_append, h, flat_len h l, List.length_cons, Nat.add_mul]; omega
def serF (o : Od) : List ByteArray := if ordC o = 0 then o.ls.flatMap (·.ss) else []
theorem f68 (o : Od) (ho : odOk o) : Fun P 68 [odA o] (ssV (serF o)) := by
  refine spec_of hT (f := 68) (fn := Go.Proofs.Tryz.f68) (c := body Go.Proofs.Tryz.f68) (by kernel_rfl) (by kernel_rfl) ?_
  unfold serF
  have hol := ho.1
  conv => whnf
  repeat refine go ?_
  refine ACall.val (by kernel_rfl) (f11 o ho) (by (first | rfl | (simp only [renL, AV.ren, List.nil_append, List.cons_append, rens]; try rfl))) rfl ?_
  conv => whnf
  repeat refine go ?_
  refine ACond.ndec (fun h4 => ?_) (fun h4 => ?_)
  · rw [if_neg h4]
    conv => whnf
    repeat refine go ?_
    exact AFin.to (ssV []) [] (Conv.out .nil (fun ρ => by (first | rfl | (simp only [renL, AV.ren, List.nil_append, List.cons_append, rens]; try rfl)))) ⟨rfl, rfl⟩
  rw [if_pos h4]
  generalize hR : o.ls.flatMap (·.ss) = R
  have hb9 : (T 9).bytes = 16 := by kernel_rfl
  conv => whnf
  repeat refine go ?_
  refine ALoop.mk (fun n E H => ∃ (i : Nat) (acc : List ByteArray), n = o.ls.length - i ∧ i ≤ o.ls.length ∧ acc.length ≤ 1000000 * i ∧ acc ++ (o.ls.drop i).flatMap (·.ss) = R ∧
      E = pad [odA o, .ptr 0 0, .any, .ms 1 1 0 acc.length, .any, .any, .any, .any, .any, .any, lnsV o.ls, nV o.ls.length, nV i] 22 ∧ H = [.cells 46 (odC o), .cells 9 (acc.flatMap sC)]) (n := o.ls.length) _ _
    ⟨0, [], rfl, Nat.zero_le _, by simp, hR, rfl, rfl⟩ (Conv.own (sz := 1) 9 (by repeat' (first | exact FitN.nil | refine FitN.any ?_ | refine FitN.own ?_ | refine FitN.same ?_))) ?_
  rintro _ _ _ ⟨i, acc, rfl, hi, ha, hI, rfl, rfl⟩
  have fl1 := flat_len sC_len acc
  conv => whnf
  repeat refine go ?_
  refine ACond.dec (fun h => ?_) (fun h => ?_)
  · have hil : i < o.ls.length := by omega
    have w1 : IntKind.wrap .i64 ((i : Int) + 1) = ((i + 1 : Nat) : Int) := by rw [wrap_i64 _ (by omega) (by omega)]; omega
    have hss := (ho.2 _ (List.getElem_mem hil)).2
    rw [List.drop_eq_getElem_cons hil, List.flatMap_cons, ← List.append_assoc] at hI
    conv => whnf
    repeat (first | refine go ?_ | ((first | refine AReq.mk (by omega) ?_ | refine AIdx.flat (enc := lnC) lnC_len (xs := o.ls) (i := i) hil ?_ | refine AReq.mk (by rw [hb9]; omega) ?_); conv => whnf))
    rw [w1]
    refine AHead.mk (o.ls.length - (i + 1)) _ _ (by omega) ⟨i + 1, acc ++ o.ls[i].ss, rfl, by omega, by rw [List.length_append]; omega, hI, rfl, rfl⟩ ?_
    rw [List.length_append, List.flatMap_append]
    exact Conv.ren [0, 3] _ (by simp) (by decide) (by simp only [pad, renL, AV.ren, rens]; repeat' (first | exact Fit.nil | refine Fit.any ?_ | refine Fit.same ?_)) (.same (by simp only [ABlk.ren, odC_ren]; rfl) (.same (by simp only [ABlk.ren, renL_append, fr_s]; rfl) .nil))
  · rw [List.drop_of_length_le (by omega), List.flatMap_nil, List.append_nil] at hI
    subst hI
    conv => whnf
    repeat refine go ?_
    refine AOut.stay ?_
    conv => whnf
    repeat refine go ?_
    exact AFin.to (ssV acc) [] (Conv.out (.sm' rfl (by omega) rfl rfl) (fun ρ => by (first | rfl | (simp only [renL, AV.ren, List.nil_append, List.cons_append, rens]; try rfl)))) ⟨rfl, rfl⟩
end Go.Aw.U1

