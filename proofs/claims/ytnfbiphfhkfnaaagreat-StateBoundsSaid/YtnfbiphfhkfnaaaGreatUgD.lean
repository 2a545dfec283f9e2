/-
  The statement StateBounds: of a state that may be, of no line more is authorised, received or paid back than was shipped and paid, without any condition.
-/
import Derived.Test.YtnfbiphfhkfnaaaGreatUgC
set_option linter.unusedSimpArgs false
set_option linter.unusedVariables false
set_option linter.unusedSimpArgs false
set_option linter.unusedVariables false
set_option maxHeartbeats 2000000
namespace Go.Aw.U1
open Go Go.Proofs

theorem rep_flat (n : Nat) : (List.replicate n [nV 0]).flatten = (List.replicate n (0 : Int)).flatMap iC := by
  induction n with
  | zero => rfl
  | succ n ih => rw [List.replicate_succ, List.replicate_succ, List.flatten_cons, List.flatMap_cons, ih]; rfl
theorem rep_flatS (n : Nat) : (List.replicate n [sV eS]).flatten = (List.replicate n eS).flatMap sC := by
  induction n with
  | zero => rfl
  | succ n ih => rw [List.replicate_succ, List.replicate_succ, List.flatten_cons, List.flatMap_cons, ih]; rfl

theorem f51 (x : Wk) : Fun P 51 [.agg (wkC x)] (nV x.id) := by
  refine spec_of hT (f := 51) (fn := Go.Proofs.Tryz.f51) (c := body Go.Proofs.Tryz.f51) (by kernel_rfl) (by kernel_rfl) ?_
  conv => whnf
  repeat' (first | refine go ?_ | ((first | refine ASplit.yes rfl ?_ | refine ASplit.no rfl ?_ | refine ACond.yes rfl ?_ | refine ACond.no rfl ?_ | refine ASplit.dec (fun _ => ?_) (fun _ => ?_) | refine ASplit.ndec (fun _ => ?_) (fun _ => ?_) | refine ACond.dec (fun _ => ?_) (fun _ => ?_) | refine ACond.ndec (fun _ => ?_) (fun _ => ?_)) <;> conv => whnf))
  all_goals exact AFin.val rfl ⟨rfl, rfl⟩
theorem f50 (l : List Wk) (hl : l.length ≤ 1000000) : Fun P 50 [wksV l, .fn 51 [] []] (isV (l.map (·.id))) := by
  refine spec_of hT (f := 50) (fn := Go.Proofs.Tryz.f50) (c := body Go.Proofs.Tryz.f50) (by kernel_rfl) (by kernel_rfl) ?_
  have hb3 : (T 3).bytes = 8 := by kernel_rfl
  have hml : (l.map (·.id)).length = (List.replicate l.length (0 : Int)).length := by simp
  conv => whnf
  repeat (first | refine go ?_ | (refine AReq.mk (by rw [hb3]; omega) ?_; conv => whnf))
  refine ALoop.mk (fun n E H => ∃ i : Nat, n = l.length - i ∧ i ≤ l.length ∧
      E = pad [wksV l, .fn 51 [] [], .any, .any, .any, .ms 1 0 0 l.length, .any, .any, .any, .any, .any, wksV l, nV l.length, nV i] 26 ∧ H = [.cells 3 ((mix (l.map (·.id)) (List.replicate l.length (0 : Int)) i).flatMap iC)]) (n := l.length) _ _
    ⟨0, rfl, Nat.zero_le _, rfl, ?_⟩ (Conv.fit (by repeat' (first | exact Fit.nil | refine Fit.any ?_ | refine Fit.same ?_))) ?_
  · rw [mix_zero, ← rep_flat]; rfl
  rintro _ _ _ ⟨i, rfl, hi, rfl, rfl⟩
  conv => whnf
  repeat refine go ?_
  refine ACond.dec (fun h => ?_) (fun h => ?_)
  · have hil : i < l.length := by omega
    have w1 : IntKind.wrap .i64 ((i : Int) + 1) = ((i + 1 : Nat) : Int) := by rw [wrap_i64 _ (by omega) (by omega)]; omega
    have hmx : (mix (l.map (·.id)) (List.replicate l.length (0 : Int)) i).length = l.length := by rw [mix_len hml]; simp
    have hst := mix_set hml (i := i) (by simpa using hil)
    conv => whnf
    repeat (first | refine go ?_ | ((first | refine AReq.mk (by omega) ?_ | refine AIdx.flat (enc := wkC) wkC_len (xs := l) (i := i) hil ?_ | refine ACall.val (args := [.agg (wkC l[i])]) (by kernel_rfl) (f51 l[i]) (by (first | rfl | (simp only [renL, AV.ren, List.nil_append, List.cons_append, rens]; try rfl))) rfl ?_); conv => whnf))
    refine AReq.mk rfl ?_
    refine AUpd.flat iC_len i l[i].id ?_ (by rw [hmx]; exact hil) rfl ?_
    · simp
    rw [show (mix (l.map (·.id)) (List.replicate l.length (0 : Int)) i).set i l[i].id = mix (l.map (·.id)) (List.replicate l.length (0 : Int)) (i + 1) by rw [← hst, List.getElem_map]]
    conv => whnf
    repeat (first | refine go ?_ | ((first | refine AReq.mk (by omega) ?_ | refine AIdx.flat (enc := wkC) wkC_len (xs := l) (i := i) hil ?_ | refine ACall.val (args := [.agg (wkC l[i])]) (by kernel_rfl) (f51 l[i]) (by (first | rfl | (simp only [renL, AV.ren, List.nil_append, List.cons_append, rens]; try rfl))) rfl ?_); conv => whnf))
    rw [w1]
    exact AHead.mk (l.length - (i + 1)) _ _ (by omega) ⟨i + 1, rfl, by omega, rfl, rfl⟩ (Conv.ren [0] _ (by simp) (by simp) (by simp only [pad, renL, AV.ren, rens]; repeat' (first | exact Fit.nil | refine Fit.any ?_ | refine Fit.same ?_)) (.same (by simp only [ABlk.ren, fr_i]; rfl) .nil))
  · obtain rfl : i = l.length := by omega
    rw [mix_all (by simp) (by simp)]
    conv => whnf
    repeat refine go ?_
    refine AOut.stay ?_
    conv => whnf
    repeat refine go ?_
    exact AFin.to (isV (l.map (·.id))) [] (Conv.out (.sm' rfl (by rw [flat_len iC_len]) rfl (by simp)) (fun ρ => by (first | rfl | (simp only [renL, AV.ren, List.nil_append, List.cons_append, rens]; try rfl)))) ⟨rfl, rfl⟩

theorem f53 (x : Cl) : Fun P 53 [.agg (clC x)] (nV x.id) := by
  refine spec_of hT (f := 53) (fn := Go.Proofs.Tryz.f53) (c := body Go.Proofs.Tryz.f53) (by kernel_rfl) (by kernel_rfl) ?_
  conv => whnf
  repeat' (first | refine go ?_ | ((first | refine ASplit.yes rfl ?_ | refine ASplit.no rfl ?_ | refine ACond.yes rfl ?_ | refine ACond.no rfl ?_ | refine ASplit.dec (fun _ => ?_) (fun _ => ?_) | refine ASplit.ndec (fun _ => ?_) (fun _ => ?_) | refine ACond.dec (fun _ => ?_) (fun _ => ?_) | refine ACond.ndec (fun _ => ?_) (fun _ => ?_)) <;> conv => whnf))
  all_goals exact AFin.val rfl ⟨rfl, rfl⟩
theorem f52 (l : List Cl) (hl : l.length ≤ 1000000) : Fun P 52 [clsV l, .fn 53 [] []] (isV (l.map (·.id))) := by
  refine spec_of hT (f := 52) (fn := Go.Proofs.Tryz.f52) (c := body Go.Proofs.Tryz.f52) (by kernel_rfl) (by kernel_rfl) ?_
  have hb3 : (T 3).bytes = 8 := by kernel_rfl
  have hml : (l.map (·.id)).length = (List.replicate l.length (0 : Int)).length := by simp
  conv => whnf
  repeat (first | refine go ?_ | (refine AReq.mk (by rw [hb3]; omega) ?_; conv => whnf))
  refine ALoop.mk (fun n E H => ∃ i : Nat, n = l.length - i ∧ i ≤ l.length ∧
      E = pad [clsV l, .fn 53 [] [], .any, .any, .any, .ms 1 0 0 l.length, .any, .any, .any, .any, .any, clsV l, nV l.length, nV i] 26 ∧ H = [.cells 3 ((mix (l.map (·.id)) (List.replicate l.length (0 : Int)) i).flatMap iC)]) (n := l.length) _ _
    ⟨0, rfl, Nat.zero_le _, rfl, ?_⟩ (Conv.fit (by repeat' (first | exact Fit.nil | refine Fit.any ?_ | refine Fit.same ?_))) ?_
  · rw [mix_zero, ← rep_flat]; rfl
  rintro _ _ _ ⟨i, rfl, hi, rfl, rfl⟩
  conv => whnf
  repeat refine go ?_
  refine ACond.dec (fun h => ?_) (fun h => ?_)
  · have hil : i < l.length := by omega
    have w1 : IntKind.wrap .i64 ((i : Int) + 1) = ((i + 1 : Nat) : Int) := by rw [wrap_i64 _ (by omega) (by omega)]; omega
    have hmx : (mix (l.map (·.id)) (List.replicate l.length (0 : Int)) i).length = l.length := by rw [mix_len hml]; simp
    have hst := mix_set hml (i := i) (by simpa using hil)
    conv => whnf
    repeat (first | refine go ?_ | ((first | refine AReq.mk (by omega) ?_ | refine AIdx.flat (enc := clC) clC_len (xs := l) (i := i) hil ?_ | refine ACall.val (args := [.agg (clC l[i])]) (by kernel_rfl) (f53 l[i]) (by (first | rfl | (simp only [renL, AV.ren, List.nil_append, List.cons_append, rens]; try rfl))) rfl ?_); conv => whnf))
    refine AReq.mk rfl ?_
    refine AUpd.flat iC_len i l[i].id ?_ (by rw [hmx]; exact hil) rfl ?_
    · simp
    rw [show (mix (l.map (·.id)) (List.replicate l.length (0 : Int)) i).set i l[i].id = mix (l.map (·.id)) (List.replicate l.length (0 : Int)) (i + 1) by rw [← hst, List.getElem_map]]
    conv => whnf
    repeat (first | refine go ?_ | ((first | refine AReq.mk (by omega) ?_ | refine AIdx.flat (enc := clC) clC_len (xs := l) (i := i) hil ?_ | refine ACall.val (args := [.agg (clC l[i])]) (by kernel_rfl) (f53 l[i]) (by (first | rfl | (simp only [renL, AV.ren, List.nil_append, List.cons_append, rens]; try rfl))) rfl ?_); conv => whnf))
    rw [w1]
    exact AHead.mk (l.length - (i + 1)) _ _ (by omega) ⟨i + 1, rfl, by omega, rfl, rfl⟩ (Conv.ren [0] _ (by simp) (by simp) (by simp only [pad, renL, AV.ren, rens]; repeat' (first | exact Fit.nil | refine Fit.any ?_ | refine Fit.same ?_)) (.same (by simp only [ABlk.ren, fr_i]; rfl) .nil))
  · obtain rfl : i = l.length := by omega
    rw [mix_all (by simp) (by simp)]
    conv => whnf
    repeat refine go ?_
    refine AOut.stay ?_
    conv => whnf
    repeat refine go ?_
    exact AFin.to (isV (l.map (·.id))) [] (Conv.out (.sm' rfl (by rw [flat_len iC_len]) rfl (by simp)) (fun ρ => by (first | rfl | (simp only [renL, AV.ren, List.nil_append, List.cons_append, rens]; try rfl)))) ⟨rfl, rfl⟩

theorem f55 (x : Mo) : Fun P 55 [.agg (moC x)] (nV x.id) := by
  refine spec_of hT (f := 55) (fn := Go.Proofs.Tryz.f55) (c := body Go.Proofs.Tryz.f55) (by kernel_rfl) (by kernel_rfl) ?_
  conv => whnf
  repeat' (first | refine go ?_ | ((first | refine ASplit.yes rfl ?_ | refine ASplit.no rfl ?_ | refine ACond.yes rfl ?_ | refine ACond.no rfl ?_ | refine ASplit.dec (fun _ => ?_) (fun _ => ?_) | refine ASplit.ndec (fun _ => ?_) (fun _ => ?_) | refine ACond.dec (fun _ => ?_) (fun _ => ?_) | refine ACond.ndec (fun _ => ?_) (fun _ => ?_)) <;> conv => whnf))
  all_goals exact AFin.val rfl ⟨rfl, rfl⟩
theorem f54 (l : List Mo) (hl : l.length ≤ 1000000) : Fun P 54 [mosV l, .fn 55 [] []] (isV (l.map (·.id))) := by
  refine spec_of hT (f := 54) (fn := Go.Proofs.Tryz.f54) (c := body Go.Proofs.Tryz.f54) (by kernel_rfl) (by kernel_rfl) ?_
  have hb3 : (T 3).bytes = 8 := by kernel_rfl
  have hml : (l.map (·.id)).length = (List.replicate l.length (0 : Int)).length := by simp
  conv => whnf
  repeat (first | refine go ?_ | (refine AReq.mk (by rw [hb3]; omega) ?_; conv => whnf))
  refine ALoop.mk (fun n E H => ∃ i : Nat, n = l.length - i ∧ i ≤ l.length ∧
      E = pad [mosV l, .fn 55 [] [], .any, .any, .any, .ms 1 0 0 l.length, .any, .any, .any, .any, .any, mosV l, nV l.length, nV i] 26 ∧ H = [.cells 3 ((mix (l.map (·.id)) (List.replicate l.length (0 : Int)) i).flatMap iC)]) (n := l.length) _ _
    ⟨0, rfl, Nat.zero_le _, rfl, ?_⟩ (Conv.fit (by repeat' (first | exact Fit.nil | refine Fit.any ?_ | refine Fit.same ?_))) ?_
  · rw [mix_zero, ← rep_flat]; rfl
  rintro _ _ _ ⟨i, rfl, hi, rfl, rfl⟩
  conv => whnf
  repeat refine go ?_
  refine ACond.dec (fun h => ?_) (fun h => ?_)
  · have hil : i < l.length := by omega
    have w1 : IntKind.wrap .i64 ((i : Int) + 1) = ((i + 1 : Nat) : Int) := by rw [wrap_i64 _ (by omega) (by omega)]; omega
    have hmx : (mix (l.map (·.id)) (List.replicate l.length (0 : Int)) i).length = l.length := by rw [mix_len hml]; simp
    have hst := mix_set hml (i := i) (by simpa using hil)
    conv => whnf
    repeat (first | refine go ?_ | ((first | refine AReq.mk (by omega) ?_ | refine AIdx.flat (enc := moC) moC_len (xs := l) (i := i) hil ?_ | refine ACall.val (args := [.agg (moC l[i])]) (by kernel_rfl) (f55 l[i]) (by (first | rfl | (simp only [renL, AV.ren, List.nil_append, List.cons_append, rens]; try rfl))) rfl ?_); conv => whnf))
    refine AReq.mk rfl ?_
    refine AUpd.flat iC_len i l[i].id ?_ (by rw [hmx]; exact hil) rfl ?_
    · simp
    rw [show (mix (l.map (·.id)) (List.replicate l.length (0 : Int)) i).set i l[i].id = mix (l.map (·.id)) (List.replicate l.length (0 : Int)) (i + 1) by rw [← hst, List.getElem_map]]
    conv => whnf
    repeat (first | refine go ?_ | ((first | refine AReq.mk (by omega) ?_ | refine AIdx.flat (enc := moC) moC_len (xs := l) (i := i) hil ?_ | refine ACall.val (args := [.agg (moC l[i])]) (by kernel_rfl) (f55 l[i]) (by (first | rfl | (simp only [renL, AV.ren, List.nil_append, List.cons_append, rens]; try rfl))) rfl ?_); conv => whnf))
    rw [w1]
    exact AHead.mk (l.length - (i + 1)) _ _ (by omega) ⟨i + 1, rfl, by omega, rfl, rfl⟩ (Conv.ren [0] _ (by simp) (by simp) (by simp only [pad, renL, AV.ren, rens]; repeat' (first | exact Fit.nil | refine Fit.any ?_ | refine Fit.same ?_)) (.same (by simp only [ABlk.ren, fr_i]; rfl) .nil))
  · obtain rfl : i = l.length := by omega
    rw [mix_all (by simp) (by simp)]
    conv => whnf
    repeat refine go ?_
    refine AOut.stay ?_
    conv => whnf
    repeat refine go ?_
    exact AFin.to (isV (l.map (·.id))) [] (Conv.out (.sm' rfl (by rw [flat_len iC_len]) rfl (by simp)) (fun ρ => by (first | rfl | (simp only [renL, AV.ren, List.nil_append, List.cons_append, rens]; try rfl)))) ⟨rfl, rfl⟩

theorem f57 (x : Rm) : Fun P 57 [.agg (rmC x)] (nV x.id) := by
  refine spec_of hT (f := 57) (fn := Go.Proofs.Tryz.f57) (c := body Go.Proofs.Tryz.f57) (by kernel_rfl) (by kernel_rfl) ?_
  conv => whnf
  repeat' (first | refine go ?_ | ((first | refine ASplit.yes rfl ?_ | refine ASplit.no rfl ?_ | refine ACond.yes rfl ?_ | refine ACond.no rfl ?_ | refine ASplit.dec (fun _ => ?_) (fun _ => ?_) | refine ASplit.ndec (fun _ => ?_) (fun _ => ?_) | refine ACond.dec (fun _ => ?_) (fun _ => ?_) | refine ACond.ndec (fun _ => ?_) (fun _ => ?_)) <;> conv => whnf))
  all_goals exact AFin.val rfl ⟨rfl, rfl⟩
theorem f56 (l : List Rm) (hl : l.length ≤ 1000000) : Fun P 56 [rmsV l, .fn 57 [] []] (isV (l.map (·.id))) := by
  refine spec_of hT (f := 56) (fn := Go.Proofs.Tryz.f56) (c := body Go.Proofs.Tryz.f56) (by kernel_rfl) (by kernel_rfl) ?_
  have hb3 : (T 3).bytes = 8 := by kernel_rfl
  have hml : (l.map (·.id)).length = (List.replicate l.length (0 : Int)).length := by simp
  conv => whnf
  repeat (first | refine go ?_ | (refine AReq.mk (by rw [hb3]; omega) ?_; conv => whnf))
  refine ALoop.mk (fun n E H => ∃ i : Nat, n = l.length - i ∧ i ≤ l.length ∧
      E = pad [rmsV l, .fn 57 [] [], .any, .any, .any, .ms 1 0 0 l.length, .any, .any, .any, .any, .any, rmsV l, nV l.length, nV i] 26 ∧ H = [.cells 3 ((mix (l.map (·.id)) (List.replicate l.length (0 : Int)) i).flatMap iC)]) (n := l.length) _ _
    ⟨0, rfl, Nat.zero_le _, rfl, ?_⟩ (Conv.fit (by repeat' (first | exact Fit.nil | refine Fit.any ?_ | refine Fit.same ?_))) ?_
  · rw [mix_zero, ← rep_flat]; rfl
  rintro _ _ _ ⟨i, rfl, hi, rfl, rfl⟩
  conv => whnf
  repeat refine go ?_
  refine ACond.dec (fun h => ?_) (fun h => ?_)
  · have hil : i < l.length := by omega
    have w1 : IntKind.wrap .i64 ((i : Int) + 1) = ((i + 1 : Nat) : Int) := by rw [wrap_i64 _ (by omega) (by omega)]; omega
    have hmx : (mix (l.map (·.id)) (List.replicate l.length (0 : Int)) i).length = l.length := by rw [mix_len hml]; simp
    have hst := mix_set hml (i := i) (by simpa using hil)
    conv => whnf
    repeat (first | refine go ?_ | ((first | refine AReq.mk (by omega) ?_ | refine AIdx.flat (enc := rmC) rmC_len (xs := l) (i := i) hil ?_ | refine ACall.val (args := [.agg (rmC l[i])]) (by kernel_rfl) (f57 l[i]) (by (first | rfl | (simp only [renL, AV.ren, List.nil_append, List.cons_append, rens]; try rfl))) rfl ?_); conv => whnf))
    refine AReq.mk rfl ?_
    refine AUpd.flat iC_len i l[i].id ?_ (by rw [hmx]; exact hil) rfl ?_
    · simp
    rw [show (mix (l.map (·.id)) (List.replicate l.length (0 : Int)) i).set i l[i].id = mix (l.map (·.id)) (List.replicate l.length (0 : Int)) (i + 1) by rw [← hst, List.getElem_map]]
    conv => whnf
    repeat (first | refine go ?_ | ((first | refine AReq.mk (by omega) ?_ | refine AIdx.flat (enc := rmC) rmC_len (xs := l) (i := i) hil ?_ | refine ACall.val (args := [.agg (rmC l[i])]) (by kernel_rfl) (f57 l[i]) (by (first | rfl | (simp only [renL, AV.ren, List.nil_append, List.cons_append, rens]; try rfl))) rfl ?_); conv => whnf))
    rw [w1]
    exact AHead.mk (l.length - (i + 1)) _ _ (by omega) ⟨i + 1, rfl, by omega, rfl, rfl⟩ (Conv.ren [0] _ (by simp) (by simp) (by simp only [pad, renL, AV.ren, rens]; repeat' (first | exact Fit.nil | refine Fit.any ?_ | refine Fit.same ?_)) (.same (by simp only [ABlk.ren, fr_i]; rfl) .nil))
  · obtain rfl : i = l.length := by omega
    rw [mix_all (by simp) (by simp)]
    conv => whnf
    repeat refine go ?_
    refine AOut.stay ?_
    conv => whnf
    repeat refine go ?_
    exact AFin.to (isV (l.map (·.id))) [] (Conv.out (.sm' rfl (by rw [flat_len iC_len]) rfl (by simp)) (fun ρ => by (first | rfl | (simp only [renL, AV.ren, List.nil_append, List.cons_append, rens]; try rfl)))) ⟨rfl, rfl⟩

theorem f60 (x : It) : Fun P 60 [.agg (itC x)] (nV x.id) := by
  refine spec_of hT (f := 60) (fn := Go.Proofs.Tryz.f60) (c := body Go.Proofs.Tryz.f60) (by kernel_rfl) (by kernel_rfl) ?_
  conv => whnf
  repeat' (first | refine go ?_ | ((first | refine ASplit.yes rfl ?_ | refine ASplit.no rfl ?_ | refine ACond.yes rfl ?_ | refine ACond.no rfl ?_ | refine ASplit.dec (fun _ => ?_) (fun _ => ?_) | refine ASplit.ndec (fun _ => ?_) (fun _ => ?_) | refine ACond.dec (fun _ => ?_) (fun _ => ?_) | refine ACond.ndec (fun _ => ?_) (fun _ => ?_)) <;> conv => whnf))
  all_goals exact AFin.val rfl ⟨rfl, rfl⟩
theorem f59 (l : List It) (hl : l.length ≤ 1000000) : Fun P 59 [itsV l, .fn 60 [] []] (isV (l.map (·.id))) := by
  refine spec_of hT (f := 59) (fn := Go.Proofs.Tryz.f59) (c := body Go.Proofs.Tryz.f59) (by kernel_rfl) (by kernel_rfl) ?_
  have hb3 : (T 3).bytes = 8 := by kernel_rfl
  have hml : (l.map (·.id)).length = (List.replicate l.length (0 : Int)).length := by simp
  conv => whnf
  repeat (first | refine go ?_ | (refine AReq.mk (by rw [hb3]; omega) ?_; conv => whnf))
  refine ALoop.mk (fun n E H => ∃ i : Nat, n = l.length - i ∧ i ≤ l.length ∧
      E = pad [itsV l, .fn 60 [] [], .any, .any, .any, .ms 1 0 0 l.length, .any, .any, .any, .any, .any, itsV l, nV l.length, nV i] 26 ∧ H = [.cells 3 ((mix (l.map (·.id)) (List.replicate l.length (0 : Int)) i).flatMap iC)]) (n := l.length) _ _
    ⟨0, rfl, Nat.zero_le _, rfl, ?_⟩ (Conv.fit (by repeat' (first | exact Fit.nil | refine Fit.any ?_ | refine Fit.same ?_))) ?_
  · rw [mix_zero, ← rep_flat]; rfl
  rintro _ _ _ ⟨i, rfl, hi, rfl, rfl⟩
  conv => whnf
  repeat refine go ?_
  refine ACond.dec (fun h => ?_) (fun h => ?_)
  · have hil : i < l.length := by omega
    have w1 : IntKind.wrap .i64 ((i : Int) + 1) = ((i + 1 : Nat) : Int) := by rw [wrap_i64 _ (by omega) (by omega)]; omega
    have hmx : (mix (l.map (·.id)) (List.replicate l.length (0 : Int)) i).length = l.length := by rw [mix_len hml]; simp
    have hst := mix_set hml (i := i) (by simpa using hil)
    conv => whnf
    repeat (first | refine go ?_ | ((first | refine AReq.mk (by omega) ?_ | refine AIdx.flat (enc := itC) itC_len (xs := l) (i := i) hil ?_ | refine ACall.val (args := [.agg (itC l[i])]) (by kernel_rfl) (f60 l[i]) (by (first | rfl | (simp only [renL, AV.ren, List.nil_append, List.cons_append, rens]; try rfl))) rfl ?_); conv => whnf))
    refine AReq.mk rfl ?_
    refine AUpd.flat iC_len i l[i].id ?_ (by rw [hmx]; exact hil) rfl ?_
    · simp
    rw [show (mix (l.map (·.id)) (List.replicate l.length (0 : Int)) i).set i l[i].id = mix (l.map (·.id)) (List.replicate l.length (0 : Int)) (i + 1) by rw [← hst, List.getElem_map]]
    conv => whnf
    repeat (first | refine go ?_ | ((first | refine AReq.mk (by omega) ?_ | refine AIdx.flat (enc := itC) itC_len (xs := l) (i := i) hil ?_ | refine ACall.val (args := [.agg (itC l[i])]) (by kernel_rfl) (f60 l[i]) (by (first | rfl | (simp only [renL, AV.ren, List.nil_append, List.cons_append, rens]; try rfl))) rfl ?_); conv => whnf))
    rw [w1]
    exact AHead.mk (l.length - (i + 1)) _ _ (by omega) ⟨i + 1, rfl, by omega, rfl, rfl⟩ (Conv.ren [0] _ (by simp) (by simp) (by simp only [pad, renL, AV.ren, rens]; repeat' (first | exact Fit.nil | refine Fit.any ?_ | refine Fit.same ?_)) (.same (by simp only [ABlk.ren, fr_i]; rfl) .nil))
  · obtain rfl : i = l.length := by omega
    rw [mix_all (by simp) (by simp)]
    conv => whnf
    repeat refine go ?_
    refine AOut.stay ?_
    conv => whnf
    repeat refine go ?_
    exact AFin.to (isV (l.map (·.id))) [] (Conv.out (.sm' rfl (by rw [flat_len iC_len]) rfl (by simp)) (fun ρ => by (first | rfl | (simp only [renL, AV.ren, List.nil_append, List.cons_append, rens]; try rfl)))) ⟨rfl, rfl⟩

theorem f62 (x : Od) : Fun P 62 [.agg (odC x)] (nV x.id) := by
  refine spec_of hT (f := 62) (fn := Go.Proofs.Tryz.f62) (c := body Go.Proofs.Tryz.f62) (by kernel_rfl) (by kernel_rfl) ?_
  conv => whnf
  repeat' (first | refine go ?_ | ((first | refine ASplit.yes rfl ?_ | refine ASplit.no rfl ?_ | refine ACond.yes rfl ?_ | refine ACond.no rfl ?_ | refine ASplit.dec (fun _ => ?_) (fun _ => ?_) | refine ASplit.ndec (fun _ => ?_) (fun _ => ?_) | refine ACond.dec (fun _ => ?_) (fun _ => ?_) | refine ACond.ndec (fun _ => ?_) (fun _ => ?_)) <;> conv => whnf))
  all_goals exact AFin.val rfl ⟨rfl, rfl⟩
theorem f61 (l : List Od) (hl : l.length ≤ 1000000) : Fun P 61 [odsV l, .fn 62 [] []] (isV (l.map (·.id))) := by
  refine spec_of hT (f := 61) (fn := Go.Proofs.Tryz.f61) (c := body Go.Proofs.Tryz.f61) (by kernel_rfl) (by kernel_rfl) ?_
  have hb3 : (T 3).bytes = 8 := by kernel_rfl
  have hml : (l.map (·.id)).length = (List.replicate l.length (0 : Int)).length := by simp
  conv => whnf
  repeat (first | refine go ?_ | (refine AReq.mk (by rw [hb3]; omega) ?_; conv => whnf))
  refine ALoop.mk (fun n E H => ∃ i : Nat, n = l.length - i ∧ i ≤ l.length ∧
      E = pad [odsV l, .fn 62 [] [], .any, .any, .any, .ms 1 0 0 l.length, .any, .any, .any, .any, .any, odsV l, nV l.length, nV i] 26 ∧ H = [.cells 3 ((mix (l.map (·.id)) (List.replicate l.length (0 : Int)) i).flatMap iC)]) (n := l.length) _ _
    ⟨0, rfl, Nat.zero_le _, rfl, ?_⟩ (Conv.fit (by repeat' (first | exact Fit.nil | refine Fit.any ?_ | refine Fit.same ?_))) ?_
  · rw [mix_zero, ← rep_flat]; rfl
  rintro _ _ _ ⟨i, rfl, hi, rfl, rfl⟩
  conv => whnf
  repeat refine go ?_
  refine ACond.dec (fun h => ?_) (fun h => ?_)
  · have hil : i < l.length := by omega
    have w1 : IntKind.wrap .i64 ((i : Int) + 1) = ((i + 1 : Nat) : Int) := by rw [wrap_i64 _ (by omega) (by omega)]; omega
    have hmx : (mix (l.map (·.id)) (List.replicate l.length (0 : Int)) i).length = l.length := by rw [mix_len hml]; simp
    have hst := mix_set hml (i := i) (by simpa using hil)
    conv => whnf
    repeat (first | refine go ?_ | ((first | refine AReq.mk (by omega) ?_ | refine AIdx.flat (enc := odC) odC_len (xs := l) (i := i) hil ?_ | refine ACall.val (args := [.agg (odC l[i])]) (by kernel_rfl) (f62 l[i]) (by (first | rfl | (simp only [renL, AV.ren, List.nil_append, List.cons_append, rens]; try rfl))) rfl ?_); conv => whnf))
    refine AReq.mk rfl ?_
    refine AUpd.flat iC_len i l[i].id ?_ (by rw [hmx]; exact hil) rfl ?_
    · simp
    rw [show (mix (l.map (·.id)) (List.replicate l.length (0 : Int)) i).set i l[i].id = mix (l.map (·.id)) (List.replicate l.length (0 : Int)) (i + 1) by rw [← hst, List.getElem_map]]
    conv => whnf
    repeat (first | refine go ?_ | ((first | refine AReq.mk (by omega) ?_ | refine AIdx.flat (enc := odC) odC_len (xs := l) (i := i) hil ?_ | refine ACall.val (args := [.agg (odC l[i])]) (by kernel_rfl) (f62 l[i]) (by (first | rfl | (simp only [renL, AV.ren, List.nil_append, List.cons_append, rens]; try rfl))) rfl ?_); conv => whnf))
    rw [w1]
    exact AHead.mk (l.length - (i + 1)) _ _ (by omega) ⟨i + 1, rfl, by omega, rfl, rfl⟩ (Conv.ren [0] _ (by simp) (by simp) (by simp only [pad, renL, AV.ren, rens]; repeat' (first | exact Fit.nil | refine Fit.any ?_ | refine Fit.same ?_)) (.same (by simp only [ABlk.ren, fr_i]; rfl) .nil))
  · obtain rfl : i = l.length := by omega
    rw [mix_all (by simp) (by simp)]
    conv => whnf
    repeat refine go ?_
    refine AOut.stay ?_
    conv => whnf
    repeat refine go ?_
    exact AFin.to (isV (l.map (·.id))) [] (Conv.out (.sm' rfl (by rw [flat_len iC_len]) rfl (by simp)) (fun ρ => by (first | rfl | (simp only [renL, AV.ren, List.nil_append, List.cons_append, rens]; try rfl)))) ⟨rfl, rfl⟩

def risT : Int → List Int → Int
  | _, [] => 0
  | last, n :: l => if n < 1 ∨ 999999 < n then 31 else if n ≤ last then 32 else risT n l
theorem f127 (l : List Int) (hl : l.length ≤ 1000000) : Fun P 127 [isV l] (nV (risT 0 l)) := by
  refine spec_of hT (f := 127) (fn := Go.Proofs.Tryz.f127) (c := body Go.Proofs.Tryz.f127) (by kernel_rfl) (by kernel_rfl) ?_
  generalize hR : risT 0 l = R
  conv => whnf
  repeat refine go ?_
  refine ALoop.mk (fun n E H => ∃ (i : Nat) (last : Int), n = l.length - i ∧ i ≤ l.length ∧ risT last (l.drop i) = R ∧
      E = pad [isV l, .any, nV 0, nV last, .any, .any, isV l, nV l.length, nV i] 25 ∧ H = []) (n := l.length) _ _
    ⟨0, 0, rfl, Nat.zero_le _, hR, rfl, rfl⟩ (Conv.fit (by repeat' (first | exact Fit.nil | refine Fit.any ?_ | refine Fit.same ?_))) ?_
  rintro _ _ _ ⟨i, last, rfl, hi, hI, rfl, rfl⟩
  conv => whnf
  repeat refine go ?_
  refine ACond.dec (fun h => ?_) (fun h => ?_)
  · have hil : i < l.length := by omega
    have w1 : IntKind.wrap .i64 ((i : Int) + 1) = ((i + 1 : Nat) : Int) := by rw [wrap_i64 _ (by omega) (by omega)]; omega
    rw [List.drop_eq_getElem_cons hil, risT] at hI
    conv => whnf
    repeat' (first | refine go ?_ | ((first | refine ASplit.yes rfl ?_ | refine ASplit.no rfl ?_ | refine ACond.yes rfl ?_ | refine ACond.no rfl ?_ | refine ASplit.dec (fun _ => ?_) (fun _ => ?_) | refine ASplit.ndec (fun _ => ?_) (fun _ => ?_) | refine ACond.dec (fun _ => ?_) (fun _ => ?_) | refine ACond.ndec (fun _ => ?_) (fun _ => ?_) | refine AReq.mk (by omega) ?_ | refine AIdx.flat (enc := iC) iC_len (xs := l) (i := i) hil ?_) <;> conv => whnf))
    all_goals first
      | (rw [if_neg (by omega), if_neg (by omega)] at hI
         rw [w1]
         exact AHead.mk (l.length - (i + 1)) _ _ (by omega) ⟨i + 1, l[i], rfl, by omega, hI, rfl, rfl⟩ (Conv.fit (by repeat' (first | exact Fit.nil | refine Fit.any ?_ | refine Fit.same ?_))))
      | (rw [if_pos (by omega)] at hI
         refine AOut.stay ?_
         conv => whnf
         repeat ((first | refine AOut.stay ?_ | refine AO.cons hT ?_ | refine AO.nil ?_ | refine AW.seq ?_ | refine AW.region ?_ | refine AW.ret ?_); conv => whnf)
         refine AFin.val rfl ⟨congrArg nV ?_, rfl⟩
         exact hI)
      | (rw [if_neg (by omega), if_pos (by omega)] at hI
         refine AOut.stay ?_
         conv => whnf
         repeat ((first | refine AOut.stay ?_ | refine AO.cons hT ?_ | refine AO.nil ?_ | refine AW.seq ?_ | refine AW.region ?_ | refine AW.ret ?_); conv => whnf)
         refine AFin.val rfl ⟨congrArg nV ?_, rfl⟩
         exact hI)
  · rw [List.drop_of_length_le (by omega)] at hI
    conv => whnf
    repeat refine go ?_
    refine AOut.stay ?_
    conv => whnf
    repeat refine go ?_
    exact AFin.val rfl ⟨congrArg nV hI, rfl⟩
def tabB (l : List Int) (next : Int) : Bool := decide ((l.length : Int) ≤ 60) && decide (risT 0 l = 0) && decide (1 ≤ next) && decide (next ≤ 1000000) && (match l.getLast? with | none => true | some n => decide (n < next))
theorem f58 (l : List Int) (next : Int) (hl : l.length ≤ 1000000) : Fun P 58 [isV l, nV next] (bV (tabB l next)) := by
  refine spec_of hT (f := 58) (fn := Go.Proofs.Tryz.f58) (c := body Go.Proofs.Tryz.f58) (by kernel_rfl) (by kernel_rfl) ?_
  conv => whnf
  repeat refine go ?_
  by_cases h1 : 60 < (l.length : Int)
  · refine ASplit.yes (decide_eq_true h1) ?_
    conv => whnf
    repeat refine ru ?_
    exact AFin.val rfl ⟨congrArg bV (by rw [tabB, decide_eq_false (show ¬ (l.length : Int) ≤ 60 by omega)]; simp), rfl⟩
  refine ASplit.no (decide_eq_false h1) ?_
  conv => whnf
  repeat refine go ?_
  refine ACall.val (by kernel_rfl) (f127 l hl) (by (first | rfl | (simp only [renL, AV.ren, List.nil_append, List.cons_append, rens]; try rfl))) rfl ?_
  conv => whnf
  repeat refine go ?_
  by_cases h2 : risT 0 l = 0
  case neg =>
    refine ASplit.yes (by rw [decide_eq_false h2]; rfl) ?_
    conv => whnf
    repeat refine ru ?_
    exact AFin.val rfl ⟨congrArg bV (by rw [tabB, decide_eq_false h2]; simp), rfl⟩
  refine ASplit.no (by rw [decide_eq_true h2]; rfl) ?_
  conv => whnf
  repeat refine go ?_
  by_cases h3 : next < 1
  · refine ASplit.yes (decide_eq_true h3) ?_
    conv => whnf
    repeat refine ru ?_
    exact AFin.val rfl ⟨congrArg bV (by rw [tabB, decide_eq_false (show ¬ 1 ≤ next by omega)]; simp), rfl⟩
  refine ASplit.no (decide_eq_false h3) ?_
  conv => whnf
  repeat refine go ?_
  by_cases h4 : 1000000 < next
  · refine ACond.yes (decide_eq_true h4) ?_
    conv => whnf
    repeat refine ru ?_
    exact AFin.val rfl ⟨congrArg bV (by rw [tabB, decide_eq_false (show ¬ next ≤ 1000000 by omega)]; simp), rfl⟩
  refine ACond.no (decide_eq_false h4) ?_
  have hB : tabB l next = (match l.getLast? with | none => true | some n => decide (n < next)) := by
    rw [tabB, decide_eq_true (show (l.length : Int) ≤ 60 by omega), decide_eq_true h2, decide_eq_true (show 1 ≤ next by omega), decide_eq_true (show next ≤ 1000000 by omega)]
    simp
  rw [hB]
  conv => whnf
  repeat refine go ?_
  by_cases h5 : l = []
  · subst h5
    conv => whnf
    repeat refine ru ?_
    exact AFin.val rfl ⟨rfl, rfl⟩
  have hlp : 0 < l.length := List.length_pos_iff.2 h5
  have w2 : IntKind.wrap .i64 ((l.length : Int) - 1) = ((l.length - 1 : Nat) : Int) := by rw [wrap_i64 _ (by omega) (by omega)]; omega
  have hlast : l.getLast? = some l[l.length - 1] := by rw [List.getLast?_eq_getElem?, List.getElem?_eq_getElem (by omega)]
  rw [hlast]
  refine ASplit.no (decide_eq_false (by omega)) ?_
  conv => whnf
  repeat (first | refine go ?_ | (refine AReq.mk (by omega) ?_; conv => whnf))
  rw [w2]
  conv => whnf
  repeat (first | refine go ?_ | (refine AReq.mk (by omega) ?_; conv => whnf))
  refine AIdx.flat (enc := iC) iC_len (xs := l) (i := l.length - 1) (by omega) ?_
  conv => whnf
  repeat (first | refine go ?_ | (refine AReq.mk (by omega) ?_; conv => whnf))
  exact AFin.val rfl ⟨rfl, rfl⟩
def serS (s : Sta) : List ByteArray := s.units.map (·.s)
theorem f64 (s : Sta) (hl : s.units.length ≤ 1000000) : Fun P 64 [stA s] (ssV (serS s)) := by
  refine spec_of hT (f := 64) (fn := Go.Proofs.Tryz.f64) (c := body Go.Proofs.Tryz.f64) (by kernel_rfl) (by kernel_rfl) ?_
  unfold serS
  have hb9 : (T 9).bytes = 16 := by kernel_rfl
  have hml : (s.units.map (·.s)).length = (List.replicate s.units.length eS).length := by simp
  conv => whnf
  repeat (first | refine go ?_ | (refine AReq.mk (by rw [hb9]; omega) ?_; conv => whnf))
  refine ALoop.mk (fun n E H => ∃ i : Nat, n = s.units.length - i ∧ i ≤ s.units.length ∧
      E = pad [stA s, .ptr 0 0, .any, .ms 1 1 0 s.units.length, .any, .any, .any, .any, .any, .any, .any, .any, .any, unsV s.units, nV s.units.length, nV i] 27 ∧ H = [.cells 72 (stC s), .cells 9 ((mix (s.units.map (·.s)) (List.replicate s.units.length eS) i).flatMap sC)]) (n := s.units.length) _ _
    ⟨0, rfl, Nat.zero_le _, rfl, ?_⟩ (Conv.fit (by repeat' (first | exact Fit.nil | refine Fit.any ?_ | refine Fit.same ?_))) ?_
  · rw [mix_zero, ← rep_flatS]; rfl
  rintro _ _ _ ⟨i, rfl, hi, rfl, rfl⟩
  conv => whnf
  repeat refine go ?_
  refine ACond.dec (fun h => ?_) (fun h => ?_)
  · have hil : i < s.units.length := by omega
    have w1 : IntKind.wrap .i64 ((i : Int) + 1) = ((i + 1 : Nat) : Int) := by rw [wrap_i64 _ (by omega) (by omega)]; omega
    have hmx : (mix (s.units.map (·.s)) (List.replicate s.units.length eS) i).length = s.units.length := by rw [mix_len hml]; simp
    have hst := mix_set hml (i := i) (by simpa using hil)
    conv => whnf
    repeat (first | refine go ?_ | ((first | refine AReq.mk (by omega) ?_ | refine AIdx.flat (enc := unC) unC_len (xs := s.units) (i := i) hil ?_); conv => whnf))
    refine AReq.mk rfl ?_
    refine AUpd.flat sC_len i s.units[i].s ?_ (by rw [hmx]; exact hil) rfl ?_
    · simp
    rw [show (mix (s.units.map (·.s)) (List.replicate s.units.length eS) i).set i s.units[i].s = mix (s.units.map (·.s)) (List.replicate s.units.length eS) (i + 1) by rw [← hst, List.getElem_map]]
    conv => whnf
    repeat (first | refine go ?_ | ((first | refine AReq.mk (by omega) ?_ | refine AIdx.flat (enc := unC) unC_len (xs := s.units) (i := i) hil ?_); conv => whnf))
    rw [w1]
    exact AHead.mk (s.units.length - (i + 1)) _ _ (by omega) ⟨i + 1, rfl, by omega, rfl, rfl⟩ (Conv.ren [0, 1] _ (by simp) (by simp) (by simp only [pad, renL, AV.ren, rens]; repeat' (first | exact Fit.nil | refine Fit.any ?_ | refine Fit.same ?_)) (.same (by simp only [ABlk.ren, stC_ren]; rfl) (.same (by simp only [ABlk.ren, fr_s]; rfl) .nil)))
  · obtain rfl : i = s.units.length := by omega
    rw [mix_all (by simp) (by simp)]
    conv => whnf
    repeat refine go ?_
    refine AOut.stay ?_
    conv => whnf
    repeat refine go ?_
    exact AFin.to (ssV (s.units.map (·.s))) [] (Conv.out (.sm' rfl (by rw [flat_len sC_len]) rfl (by simp)) (fun ρ => by (first | rfl | (simp only [renL, AV.ren, List.nil_append, List.cons_append, rens]; try rfl)))) ⟨rfl, rfl⟩
end Go.Aw.U1

set_option linter.unusedSimpArgs false
set_option linter.unusedVariables false
set_option maxHeartbeats 4000000
namespace Go.Aw.U1
open Go Go.Proofs

/-- a state that is not too large for the walk -/
structure StaOk (s : Sta) : Prop where
  items : s.items.length ≤ 1000000
  orders : odsOk s.orders
  rmas : rmsOk s.rmas
  units : s.units.length ≤ 1000000 ∧ ∀ u ∈ s.units, sOk u.s
  works : s.works.length ≤ 1000000 ∧ ∀ u ∈ s.works, sOk u.s
  claims : s.claims.length ≤ 1000000 ∧ ∀ u ∈ s.claims, ssOk u.ss
  memos : s.memos.length ≤ 1000000 ∧ ∀ u ∈ s.memos, ssOk u.ss ∧ u.am.length ≤ 9223372036854775807
  moves : s.moves.length ≤ 300
  asks : s.rules.asks.length ≤ 1000000
  cuts : s.rules.cuts.length ≤ 1000000
  fees : s.rules.fees.length ≤ 1000000
  rows : s.rules.rows.length ≤ 1000000
  keys : s.keys.length ≤ 1000000

def tablesB (s : Sta) : Bool :=
  timeB s.now && tabB (s.rmas.map (fun x : Rm => x.id)) s.nRma && tabB (s.works.map (fun x : Wk => x.id)) s.nWork && tabB (s.claims.map (fun x : Cl => x.id)) s.nClaim && tabB (s.memos.map (fun x : Mo => x.id)) s.nMemo &&
    tabB (s.items.map (fun x : It => x.id)) 1000000 && tabB (s.orders.map (fun x : Od => x.id)) 1000000 && decide ((s.units.length : Int) ≤ 400) && decide (rowF (serS s) = 0)
theorem f15 (s : Sta) (h : StaOk s) : Fun P 15 [stA s] (bV (tablesB s)) := by
  refine spec_of hT (f := 15) (fn := Go.Proofs.Tryz.f15) (c := body Go.Proofs.Tryz.f15) (by kernel_rfl) (by kernel_rfl) ?_
  have hser : ssOk (serS s) := ⟨by rw [serS, List.length_map]; have := h.units.1; omega, fun x hx => by
    obtain ⟨u, hu, rfl⟩ := List.mem_map.1 hx
    exact h.units.2 u hu⟩
  unfold tablesB
  conv => whnf
  repeat refine go ?_
  refine ACall.val (by kernel_rfl) (f50 s.works h.works.1) (by (first | rfl | (simp only [renL, AV.ren, List.nil_append, List.cons_append, rens]; try rfl))) (by (first | rfl | (simp only [renL, AV.ren, List.nil_append, List.cons_append, rens]; try rfl))) ?_
  conv => whnf
  repeat refine go ?_
  refine ACall.val (by kernel_rfl) (f52 s.claims h.claims.1) (by (first | rfl | (simp only [renL, AV.ren, List.nil_append, List.cons_append, rens]; try rfl))) (by (first | rfl | (simp only [renL, AV.ren, List.nil_append, List.cons_append, rens]; try rfl))) ?_
  conv => whnf
  repeat refine go ?_
  refine ACall.val (by kernel_rfl) (f54 s.memos h.memos.1) (by (first | rfl | (simp only [renL, AV.ren, List.nil_append, List.cons_append, rens]; try rfl))) (by (first | rfl | (simp only [renL, AV.ren, List.nil_append, List.cons_append, rens]; try rfl))) ?_
  conv => whnf
  repeat refine go ?_
  refine ACall.val (by kernel_rfl) (f56 s.rmas h.rmas.1) (by (first | rfl | (simp only [renL, AV.ren, List.nil_append, List.cons_append, rens]; try rfl))) (by (first | rfl | (simp only [renL, AV.ren, List.nil_append, List.cons_append, rens]; try rfl))) ?_
  conv => whnf
  repeat refine go ?_
  refine ACall.val (by kernel_rfl) (f40 s.now) rfl rfl ?_
  cases timeB s.now with
  | false =>
    conv => whnf
    repeat refine ru ?_
    exact AFin.val rfl ⟨rfl, rfl⟩
  | true =>
  conv => whnf
  repeat refine ru ?_
  refine ACall.val (by kernel_rfl) (f58 (s.rmas.map (fun x : Rm => x.id)) s.nRma (by rw [List.length_map]; exact h.rmas.1)) (by (first | rfl | (simp only [renL, AV.ren, List.nil_append, List.cons_append, rens]; try rfl))) (by (first | rfl | (simp only [renL, AV.ren, List.nil_append, List.cons_append, rens]; try rfl))) ?_
  cases tabB (s.rmas.map (fun x : Rm => x.id)) s.nRma with
  | false =>
    conv => whnf
    repeat refine ru ?_
    exact AFin.val rfl ⟨rfl, rfl⟩
  | true =>
  conv => whnf
  repeat refine ru ?_
  refine ACall.val (by kernel_rfl) (f58 (s.works.map (fun x : Wk => x.id)) s.nWork (by rw [List.length_map]; exact h.works.1)) (by (first | rfl | (simp only [renL, AV.ren, List.nil_append, List.cons_append, rens]; try rfl))) (by (first | rfl | (simp only [renL, AV.ren, List.nil_append, List.cons_append, rens]; try rfl))) ?_
  cases tabB (s.works.map (fun x : Wk => x.id)) s.nWork with
  | false =>
    conv => whnf
    repeat refine ru ?_
    exact AFin.val rfl ⟨rfl, rfl⟩
  | true =>
  conv => whnf
  repeat refine ru ?_
  refine ACall.val (by kernel_rfl) (f58 (s.claims.map (fun x : Cl => x.id)) s.nClaim (by rw [List.length_map]; exact h.claims.1)) (by (first | rfl | (simp only [renL, AV.ren, List.nil_append, List.cons_append, rens]; try rfl))) (by (first | rfl | (simp only [renL, AV.ren, List.nil_append, List.cons_append, rens]; try rfl))) ?_
  cases tabB (s.claims.map (fun x : Cl => x.id)) s.nClaim with
  | false =>
    conv => whnf
    repeat refine ru ?_
    exact AFin.val rfl ⟨rfl, rfl⟩
  | true =>
  conv => whnf
  repeat refine ru ?_
  refine ACall.val (by kernel_rfl) (f58 (s.memos.map (fun x : Mo => x.id)) s.nMemo (by rw [List.length_map]; exact h.memos.1)) (by (first | rfl | (simp only [renL, AV.ren, List.nil_append, List.cons_append, rens]; try rfl))) (by (first | rfl | (simp only [renL, AV.ren, List.nil_append, List.cons_append, rens]; try rfl))) ?_
  cases tabB (s.memos.map (fun x : Mo => x.id)) s.nMemo with
  | false =>
    conv => whnf
    repeat refine ru ?_
    exact AFin.val rfl ⟨rfl, rfl⟩
  | true =>
  conv => whnf
  repeat refine ru ?_
  refine ACall.val (by kernel_rfl) (f59 s.items h.items) (by (first | rfl | (simp only [renL, AV.ren, List.nil_append, List.cons_append, rens]; try rfl))) (by (first | rfl | (simp only [renL, AV.ren, List.nil_append, List.cons_append, rens]; try rfl))) ?_
  conv => whnf
  repeat refine ru ?_
  refine ACall.val (by kernel_rfl) (f61 s.orders h.orders.1) (by (first | rfl | (simp only [renL, AV.ren, List.nil_append, List.cons_append, rens]; try rfl))) (by (first | rfl | (simp only [renL, AV.ren, List.nil_append, List.cons_append, rens]; try rfl))) ?_
  conv => whnf
  repeat refine ru ?_
  refine ACall.val (by kernel_rfl) (f58 (s.items.map (fun x : It => x.id)) 1000000 (by rw [List.length_map]; exact h.items)) (by (first | rfl | (simp only [renL, AV.ren, List.nil_append, List.cons_append, rens]; try rfl))) (by (first | rfl | (simp only [renL, AV.ren, List.nil_append, List.cons_append, rens]; try rfl))) ?_
  cases tabB (s.items.map (fun x : It => x.id)) 1000000 with
  | false =>
    conv => whnf
    repeat refine ru ?_
    exact AFin.val rfl ⟨rfl, rfl⟩
  | true =>
  conv => whnf
  repeat refine ru ?_
  refine ACall.val (by kernel_rfl) (f58 (s.orders.map (fun x : Od => x.id)) 1000000 (by rw [List.length_map]; exact h.orders.1)) (by (first | rfl | (simp only [renL, AV.ren, List.nil_append, List.cons_append, rens]; try rfl))) (by (first | rfl | (simp only [renL, AV.ren, List.nil_append, List.cons_append, rens]; try rfl))) ?_
  cases tabB (s.orders.map (fun x : Od => x.id)) 1000000 with
  | false =>
    conv => whnf
    repeat refine ru ?_
    exact AFin.val rfl ⟨rfl, rfl⟩
  | true =>
  conv => whnf
  repeat refine ru ?_
  by_cases h1 : (s.units.length : Int) ≤ 400
  case neg =>
    refine ASplit.no (decide_eq_false h1) ?_
    rw [decide_eq_false h1]
    conv => whnf
    repeat refine ru ?_
    exact AFin.val rfl ⟨rfl, rfl⟩
  refine ASplit.yes (decide_eq_true h1) ?_
  rw [decide_eq_true h1]
  conv => whnf
  repeat refine ru ?_
  refine ACall.val (by kernel_rfl) (f64 s h.units.1) (by (first | rfl | (simp only [renL, AV.ren, List.nil_append, List.cons_append, rens]; try rfl))) (by (first | rfl | (simp only [renL, AV.ren, List.nil_append, List.cons_append, rens]; try rfl))) ?_
  conv => whnf
  repeat refine ru ?_
  refine ACall.val (by kernel_rfl) (f63 (serS s) hser) (by (first | rfl | (simp only [renL, AV.ren, List.nil_append, List.cons_append, rens]; try rfl))) (by (first | rfl | (simp only [renL, AV.ren, List.nil_append, List.cons_append, rens]; try rfl))) ?_
  conv => whnf
  repeat refine ru ?_
  exact AFin.val rfl ⟨rfl, rfl⟩
theorem und122 : P.underlying 122 = some (.map 3 4) := by kernel_rfl
def keyT : List Dn → (Int → Bool) → Bool
  | [], _ => true
  | d :: l, g => if idB d.key = true ∧ g d.key = false ∧ (d.cmd.size : Int) ≤ 2000 ∧ (d.reply.size : Int) ≤ 2000 then keyT l (upd g d.key true) else false
def keysB (s : Sta) : Bool := keyT s.keys (fun _ => false) && decide ((s.keys.length : Int) ≤ 32)
theorem idB_iff {n : Int} : idB n = true ↔ 1 ≤ n ∧ n ≤ 999999 := by simp [idB]
theorem f16 (s : Sta) (h : StaOk s) : Fun P 16 [stA s] (bV (keysB s)) := by
  refine spec_of hT (f := 16) (fn := Go.Proofs.Tryz.f16) (c := body Go.Proofs.Tryz.f16) (by kernel_rfl) (by kernel_rfl) ?_
  unfold keysB
  generalize hR : keyT s.keys (fun _ => false) = R
  have hl1 := h.keys
  conv => whnf
  repeat refine go ?_
  refine AOp.makeMap ?_
  conv => whnf
  repeat refine go ?_
  refine ALoop.mk (fun n E H => ∃ (i : Nat) (g : Int → Bool) (L : List (Int × Bool)) (bs : List Nat) (clk : Nat), n = s.keys.length - i ∧ i ≤ s.keys.length ∧ MapIs nOk L false g ∧ keyT (s.keys.drop i) g = R ∧
      E = pad [stA s, .ptr 0 0, bV false, .mp 1, .any, .any, .any, .any, .any, dnsV s.keys, nV s.keys.length, nV i] 50 ∧ H = [.cells 72 (stC s), .map (em nV bV L) bs clk]) (n := s.keys.length) _ _
    ⟨0, _, [], [], 0, rfl, Nat.zero_le _, MapIs.nil, hR, rfl, rfl⟩ (Conv.fit (by repeat' (first | exact Fit.nil | refine Fit.any ?_ | refine Fit.same ?_))) ?_
  rintro _ _ _ ⟨i, g, L, bs, clk, rfl, hi, hM, hI, rfl, rfl⟩
  conv => whnf
  repeat refine go ?_
  refine ACond.dec (fun h => ?_) (fun h => ?_)
  · have hil : i < s.keys.length := by omega
    have w1 : IntKind.wrap .i64 ((i : Int) + 1) = ((i + 1 : Nat) : Int) := by rw [wrap_i64 _ (by omega) (by omega)]; omega
    rw [List.drop_eq_getElem_cons hil, keyT] at hI
    generalize hd : s.keys[i] = d at hI
    have hno : ¬ (idB d.key = true ∧ g d.key = false ∧ (d.cmd.size : Int) ≤ 2000 ∧ (d.reply.size : Int) ≤ 2000) → false = R := fun hn => by rw [if_neg hn] at hI; exact hI
    conv => whnf
    repeat (first | refine go ?_ | ((first | refine AReq.mk (by omega) ?_ | refine AIdx.flat (enc := dnC) dnC_len (xs := s.keys) (i := i) hil ?_); conv => whnf))
    rw [hd]
    by_cases h1 : d.key < 1
    · refine ASplit.yes (decide_eq_true h1) ?_
      conv => whnf
      repeat (first | refine ru ?_ | ((first | refine AReq.mk (by omega) ?_ | refine AIdx.flat (enc := dnC) dnC_len (xs := s.keys) (i := i) hil ?_); conv => whnf))
      refine AOut.stay ?_
      conv => whnf
      repeat (first | refine ru ?_ | ((first | refine AReq.mk (by omega) ?_ | refine AIdx.flat (enc := dnC) dnC_len (xs := s.keys) (i := i) hil ?_); conv => whnf))
      exact AFin.val rfl ⟨by rw [← hno (fun hn => by have := idB_iff.1 hn.1; omega)]; rfl, rfl⟩
    refine ASplit.no (decide_eq_false h1) ?_
    conv => whnf
    repeat (first | refine go ?_ | ((first | refine AReq.mk (by omega) ?_ | refine AIdx.flat (enc := dnC) dnC_len (xs := s.keys) (i := i) hil ?_); conv => whnf))
    by_cases h2 : 999999 < d.key
    · refine ASplit.yes (decide_eq_true h2) ?_
      conv => whnf
      repeat (first | refine ru ?_ | ((first | refine AReq.mk (by omega) ?_ | refine AIdx.flat (enc := dnC) dnC_len (xs := s.keys) (i := i) hil ?_); conv => whnf))
      refine AOut.stay ?_
      conv => whnf
      repeat (first | refine ru ?_ | ((first | refine AReq.mk (by omega) ?_ | refine AIdx.flat (enc := dnC) dnC_len (xs := s.keys) (i := i) hil ?_); conv => whnf))
      exact AFin.val rfl ⟨by rw [← hno (fun hn => by have := idB_iff.1 hn.1; omega)]; rfl, rfl⟩
    refine ASplit.no (decide_eq_false h2) ?_
    have hok : nOk d.key := nOk_of (by omega) (by omega)
    conv => whnf
    repeat (first | refine go ?_ | ((first | refine AReq.mk (by omega) ?_ | refine AIdx.flat (enc := dnC) dnC_len (xs := s.keys) (i := i) hil ?_); conv => whnf))
    refine AOp.getM 1 d.key hT nK und122 hne4 (eb := bV) rfl hM hok rfl rfl rfl ?_
    rcases Bool.eq_false_or_eq_true (g d.key) with h3 | h3
    · rw [h3]
      conv => whnf
      repeat (first | refine ru ?_ | ((first | refine AReq.mk (by omega) ?_ | refine AIdx.flat (enc := dnC) dnC_len (xs := s.keys) (i := i) hil ?_); conv => whnf))
      refine AOut.stay ?_
      conv => whnf
      repeat (first | refine ru ?_ | ((first | refine AReq.mk (by omega) ?_ | refine AIdx.flat (enc := dnC) dnC_len (xs := s.keys) (i := i) hil ?_); conv => whnf))
      exact AFin.val rfl ⟨by rw [← hno (fun hn => by rw [h3] at hn; exact Bool.noConfusion hn.2.1)]; rfl, rfl⟩
    rw [h3]
    conv => whnf
    repeat (first | refine ru ?_ | ((first | refine AReq.mk (by omega) ?_ | refine AIdx.flat (enc := dnC) dnC_len (xs := s.keys) (i := i) hil ?_); conv => whnf))
    by_cases h4 : 2000 < (d.cmd.size : Int)
    · refine ASplit.yes (decide_eq_true h4) ?_
      conv => whnf
      repeat (first | refine ru ?_ | ((first | refine AReq.mk (by omega) ?_ | refine AIdx.flat (enc := dnC) dnC_len (xs := s.keys) (i := i) hil ?_); conv => whnf))
      refine AOut.stay ?_
      conv => whnf
      repeat (first | refine ru ?_ | ((first | refine AReq.mk (by omega) ?_ | refine AIdx.flat (enc := dnC) dnC_len (xs := s.keys) (i := i) hil ?_); conv => whnf))
      exact AFin.val rfl ⟨by rw [← hno (fun hn => by omega)]; rfl, rfl⟩
    refine ASplit.no (decide_eq_false h4) ?_
    conv => whnf
    repeat (first | refine ru ?_ | ((first | refine AReq.mk (by omega) ?_ | refine AIdx.flat (enc := dnC) dnC_len (xs := s.keys) (i := i) hil ?_); conv => whnf))
    by_cases h5 : 2000 < (d.reply.size : Int)
    · refine ACond.yes (decide_eq_true h5) ?_
      conv => whnf
      repeat (first | refine ru ?_ | ((first | refine AReq.mk (by omega) ?_ | refine AIdx.flat (enc := dnC) dnC_len (xs := s.keys) (i := i) hil ?_); conv => whnf))
      refine AOut.stay ?_
      conv => whnf
      repeat (first | refine ru ?_ | ((first | refine AReq.mk (by omega) ?_ | refine AIdx.flat (enc := dnC) dnC_len (xs := s.keys) (i := i) hil ?_); conv => whnf))
      exact AFin.val rfl ⟨by rw [← hno (fun hn => by omega)]; rfl, rfl⟩
    refine ACond.no (decide_eq_false h5) ?_
    rw [if_pos ⟨idB_iff.2 ⟨by omega, by omega⟩, h3, by omega, by omega⟩] at hI
    conv => whnf
    repeat (first | refine ru ?_ | ((first | refine AReq.mk (by omega) ?_ | refine AIdx.flat (enc := dnC) dnC_len (xs := s.keys) (i := i) hil ?_); conv => whnf))
    refine AOp.putM 1 d.key true nK und122 hM hok rfl rfl rfl rfl ?_
    intro L' bs' clk' hM'
    conv => whnf
    repeat (first | refine ru ?_ | ((first | refine AReq.mk (by omega) ?_ | refine AIdx.flat (enc := dnC) dnC_len (xs := s.keys) (i := i) hil ?_); conv => whnf))
    rw [w1]
    exact AHead.mk (s.keys.length - (i + 1)) _ _ (by omega) ⟨i + 1, _, L', bs', clk', rfl, by omega, hM', hI, rfl, rfl⟩ (Conv.ren [0, 1] _ (by simp) (by simp) (by simp only [pad, renL, AV.ren, rens]; repeat' (first | exact Fit.nil | refine Fit.any ?_ | refine Fit.same ?_)) (.same (by simp only [ABlk.ren, stC_ren]; rfl) (.same (by simp only [ABlk.ren, ren_emB]; rfl) .nil)))
  · rw [List.drop_of_length_le (by omega)] at hI
    conv => whnf
    repeat refine go ?_
    refine AOut.stay ?_
    conv => whnf
    repeat refine go ?_
    exact AFin.val rfl ⟨by rw [← hI]; rfl, rfl⟩
theorem f30 (s : Sta) : Fun P 30 [stA s] (bV (decide (0 < (s.rules.asks.length : Int)))) := by
  refine spec_of hT (f := 30) (fn := Go.Proofs.Tryz.f30) (c := body Go.Proofs.Tryz.f30) (by kernel_rfl) (by kernel_rfl) ?_
  conv => whnf
  repeat' (first | refine go ?_ | ((first | refine ASplit.yes rfl ?_ | refine ASplit.no rfl ?_ | refine ACond.yes rfl ?_ | refine ACond.no rfl ?_ | refine ASplit.dec (fun _ => ?_) (fun _ => ?_) | refine ASplit.ndec (fun _ => ?_) (fun _ => ?_) | refine ACond.dec (fun _ => ?_) (fun _ => ?_) | refine ACond.ndec (fun _ => ?_) (fun _ => ?_)) <;> conv => whnf))
  all_goals exact AFin.val rfl ⟨rfl, rfl⟩
end Go.Aw.U1

set_option linter.unusedSimpArgs false
set_option linter.unusedVariables false
set_option maxHeartbeats 4000000
namespace Go.Aw.U1
open Go Go.Proofs

theorem f129g (l : List It) (hl : l.length ≤ 1000000) :
    Fun P 129 [itsV l, .fn 66 [] []] (nV (idxF (fun x => !itB x) l 0)) := by
  refine spec_of hT (f := 129) (fn := Go.Proofs.Tryz.f129) (c := body Go.Proofs.Tryz.f129) (by kernel_rfl) (by kernel_rfl) ?_
  generalize hR : idxF (fun x => !itB x) l 0 = R
  conv => whnf
  repeat refine go ?_
  refine ALoop.mk (fun n E H => ∃ i : Nat, n = l.length - i ∧ i ≤ l.length ∧ idxF (fun x => !itB x) (l.drop i) i = R ∧
      E = pad [itsV l, .fn 66 [] [], .any, .any, nV 0, .any, .any, nV l.length, nV i] 19 ∧ H = []) (n := l.length) _ _
    ⟨0, rfl, Nat.zero_le _, hR, rfl, rfl⟩ (Conv.fit (by repeat' (first | exact Fit.nil | refine Fit.any ?_ | refine Fit.same ?_))) ?_
  rintro _ _ _ ⟨i, rfl, hi, hI, rfl, rfl⟩
  conv => whnf
  repeat refine go ?_
  refine ACond.dec (fun h1 => ?_) (fun h1 => ?_)
  · have hil : i < l.length := by omega
    have w1 : IntKind.wrap .i64 ((i : Int) + 1) = ((i + 1 : Nat) : Int) := by rw [wrap_i64 _ (by omega) (by omega)]; omega
    rw [idxF_drop hil] at hI
    conv => whnf
    repeat (first | refine go ?_ | ((first | refine AReq.mk (by omega) ?_ | refine AIdx.flat (enc := itC) itC_len (xs := l) (i := i) hil ?_ | refine ACall.val (args := [.agg (itC l[i])]) (by kernel_rfl) (f66 l[i]) (by (first | rfl | (simp only [renL, AV.ren, List.nil_append, List.cons_append, rens]; try rfl))) rfl ?_); conv => whnf))
    refine ACond.mk (fun h4 => ?_) (fun h4 => ?_)
    · conv => whnf
      repeat (first | refine go ?_ | ((first | refine AReq.mk (by omega) ?_ | refine AIdx.flat (enc := itC) itC_len (xs := l) (i := i) hil ?_ | refine ACall.val (args := [.agg (itC l[i])]) (by kernel_rfl) (f66 l[i]) (by (first | rfl | (simp only [renL, AV.ren, List.nil_append, List.cons_append, rens]; try rfl))) rfl ?_); conv => whnf))
      refine AOut.stay ?_
      refine AFin.val rfl ⟨?_, rfl⟩
      rw [if_pos h4] at hI
      rw [hI]
    · conv => whnf
      repeat (first | refine go ?_ | ((first | refine AReq.mk (by omega) ?_ | refine AIdx.flat (enc := itC) itC_len (xs := l) (i := i) hil ?_ | refine ACall.val (args := [.agg (itC l[i])]) (by kernel_rfl) (f66 l[i]) (by (first | rfl | (simp only [renL, AV.ren, List.nil_append, List.cons_append, rens]; try rfl))) rfl ?_); conv => whnf))
      rw [w1]
      exact AHead.mk (l.length - (i + 1)) _ _ (by omega) ⟨i + 1, rfl, by omega, by rw [← hI]; exact (if_neg (fun h5 => Bool.noConfusion (h5.symm.trans h4))).symm, rfl, rfl⟩ (Conv.fit (by repeat' (first | exact Fit.nil | refine Fit.any ?_ | refine Fit.same ?_)))
  · rw [idxF_end (by omega)] at hI
    conv => whnf
    repeat refine go ?_
    refine AOut.stay ?_
    conv => whnf
    repeat refine go ?_
    exact AFin.val rfl ⟨congrArg nV hI, rfl⟩
theorem f65 (l : List It) (hl : l.length ≤ 1000000) : Fun P 65 [itsV l, .fn 66 [] []] (bV (l.any (fun x => !itB x))) := by
  refine spec_of hT (f := 65) (fn := Go.Proofs.Tryz.f65) (c := body Go.Proofs.Tryz.f65) (by kernel_rfl) (by kernel_rfl) ?_
  conv => whnf
  repeat refine go ?_
  refine ACall.val (args := [itsV l, .fn 66 [] []]) (by kernel_rfl) (f129g l hl) (by (first | rfl | (simp only [renL, AV.ren, List.nil_append, List.cons_append, rens]; try rfl))) rfl ?_
  conv => whnf
  repeat refine go ?_
  exact AFin.val rfl ⟨congrArg bV (idxF_any _ l), rfl⟩
def shipsM (o : Option (ByteArray → Bool)) (k : (ByteArray → Bool) → Bool) : Bool :=
  match o with
  | none => false
  | some g => k g
def hasI (s : Sta) (id : Int) : Bool := (s.items.find? (fun x => decide (x.id = id))).isSome
def shipsT (s : Sta) : List Od → (ByteArray → Bool) → Bool
  | [], _ => true
  | o :: os, g => if ordC o = 0 ∧ o.at_ ≤ s.now ∧ o.ls.all (fun l => hasI s l.item) = true then shipsM (twS (serF o) g) (shipsT s os) else false
def shipsB (s : Sta) : Bool := !s.items.any (fun x => !itB x) && shipsT s s.orders (fun _ => false)
theorem serF_ok {o : Od} (ho : odOk o) : (serF o).length ≤ 8000000 ∧ ∀ x ∈ serF o, sOk x := by
  unfold serF
  split
  case isFalse => simp
  rename_i h
  have h8 : o.ls.length ≤ 8 := by
    unfold ordC at h
    split at h
    · rename_i h2
      simp only [ordB, headB, Bool.and_eq_true, decide_eq_true_eq] at h2
      omega
    · omega
  constructor
  · have : ∀ (l : List Ln), (∀ x ∈ l, x.ss.length ≤ 1000000) → (l.flatMap (·.ss)).length ≤ 1000000 * l.length := by
      intro l
      induction l with
      | nil => intro _; simp
      | cons a l ih => intro hx; rw [List.flatMap_cons, List.length_append, List.length_cons]; have := ih fun x hx' => hx x (by simp [hx']); have := hx a (by simp); omega
    have := this o.ls fun x hx => (ho.2 x hx).2
    omega
  · intro x hx
    obtain ⟨l, hl, hxl⟩ := List.mem_flatMap.1 hx
    exact (ho.2 l hl).1.2 x hxl
theorem f17 (s : Sta) (h : StaOk s) : Fun P 17 [stA s] (bV (shipsB s)) := by
  refine spec_of hT (f := 17) (fn := Go.Proofs.Tryz.f17) (c := body Go.Proofs.Tryz.f17) (by kernel_rfl) (by kernel_rfl) ?_
  unfold shipsB
  have hol := h.orders.1
  generalize hR : shipsT s s.orders (fun _ => false) = R
  conv => whnf
  repeat refine go ?_
  refine ACall.val (args := [itsV s.items, .fn 66 [] []]) (by kernel_rfl) (f65 s.items h.items) (by (first | rfl | (simp only [renL, AV.ren, List.nil_append, List.cons_append, rens]; try rfl))) rfl ?_
  cases s.items.any (fun x => !itB x) with
  | true =>
    conv => whnf
    repeat refine ru ?_
    exact AFin.val rfl ⟨rfl, rfl⟩
  | false =>
  conv => whnf
  repeat refine ru ?_
  refine AOp.makeMap ?_
  conv => whnf
  repeat refine go ?_
  refine ALoop.mk (fun n E H => ∃ (i : Nat) (g : ByteArray → Bool) (L : List (ByteArray × Bool)) (bs : List Nat) (clk : Nat), n = s.orders.length - i ∧ i ≤ s.orders.length ∧ MapIs sOk L false g ∧ shipsT s (s.orders.drop i) g = R ∧
      E = pad [stA s, .ptr 0 0, bV false, .mp 1, .any, .any, .any, .any, .any, .any, .any, .any, .any, .any, .any, .any, .any, .any, .any, odsV s.orders, nV s.orders.length, nV i] 68 ∧ H = [.cells 72 (stC s), .map (em sV bV L) bs clk]) (n := s.orders.length) _ _
    ⟨0, _, [], [], 0, rfl, Nat.zero_le _, MapIs.nil, hR, rfl, rfl⟩ (Conv.fit (by repeat' (first | exact Fit.nil | refine Fit.any ?_ | refine Fit.same ?_))) ?_
  rintro _ _ _ ⟨i, g, L, bs, clk, rfl, hi, hM, hI, rfl, rfl⟩
  conv => whnf
  repeat refine go ?_
  refine ACond.dec (fun h1 => ?_) (fun h1 => ?_)
  · have hil : i < s.orders.length := by omega
    have w1 : IntKind.wrap .i64 ((i : Int) + 1) = ((i + 1 : Nat) : Int) := by rw [wrap_i64 _ (by omega) (by omega)]; omega
    have hoo : odOk s.orders[i] := h.orders.2 _ (List.getElem_mem hil)
    rw [List.drop_eq_getElem_cons hil, shipsT] at hI
    generalize ho : s.orders[i] = o at hI hoo
    have hsf := serF_ok hoo
    have hls := hoo.1
    have hno : ¬ (ordC o = 0 ∧ o.at_ ≤ s.now ∧ o.ls.all (fun l => hasI s l.item) = true) → false = R := fun hn => by rw [if_neg hn] at hI; exact hI
    conv => whnf
    repeat (first | refine go ?_ | ((first | refine AReq.mk (by omega) ?_ | refine AIdx.flat (enc := odC) odC_len (xs := s.orders) (i := i) hil ?_); conv => whnf))
    rw [ho]
    refine ACall.val (by kernel_rfl) (f11 o hoo) (by (first | rfl | (simp only [renL, AV.ren, List.nil_append, List.cons_append, rens]; try rfl))) rfl ?_
    by_cases g1 : ordC o = 0
    case neg =>
      conv => whnf
      repeat refine go ?_
      refine ASplit.yes (by rw [decide_eq_false g1]; rfl) ?_
      conv => whnf
      repeat refine ru ?_
      refine AOut.stay ?_
      conv => whnf
      repeat refine ru ?_
      exact AFin.val rfl ⟨by rw [← hno (fun hn => g1 hn.1)]; rfl, rfl⟩
    conv => whnf
    repeat refine go ?_
    refine ASplit.no (by rw [decide_eq_true g1]; rfl) ?_
    conv => whnf
    repeat refine go ?_
    by_cases g2 : s.now < o.at_
    · refine ACond.yes (decide_eq_true g2) ?_
      conv => whnf
      repeat refine ru ?_
      refine AOut.stay ?_
      conv => whnf
      repeat refine ru ?_
      exact AFin.val rfl ⟨by rw [← hno (fun hn => by omega)]; rfl, rfl⟩
    refine ACond.no (decide_eq_false g2) ?_
    conv => whnf
    repeat refine go ?_
    refine ALoop.mk (fun n E H => ∃ (k : Nat), n = o.ls.length - k ∧ k ≤ o.ls.length ∧ (∀ j (hj : j < o.ls.length), j < k → hasI s o.ls[j].item = true) ∧
        E = pad [stA s, .ptr 0 0, bV false, .mp 1, .any, .ptr 2 0, .any, .any, .any, .any, .any, .any, .any, .any, .any, .any, .any, .any, .any, odsV s.orders, nV s.orders.length, nV i, .any, .any, .any, .any, .any, .any, .any, .any, .any, .any, .any, .any, .any, .any, .any, lnsV o.ls, nV o.ls.length, nV k] 68 ∧ H = [.cells 72 (stC s), .map (em sV bV L) bs clk, .cells 46 (odC o)]) (n := o.ls.length) _ _
      ⟨0, rfl, Nat.zero_le _, fun j _ hj => absurd hj (Nat.not_lt_zero _), rfl, rfl⟩ (Conv.fit (by repeat' (first | exact Fit.nil | refine Fit.any ?_ | refine Fit.same ?_))) ?_
    rintro _ _ _ ⟨k, rfl, hk, hall, rfl, rfl⟩
    conv => whnf
    repeat refine go ?_
    refine ACond.dec (fun h2 => ?_) (fun h2 => ?_)
    · have hkl : k < o.ls.length := by omega
      have w2 : IntKind.wrap .i64 ((k : Int) + 1) = ((k + 1 : Nat) : Int) := by rw [wrap_i64 _ (by omega) (by omega)]; omega
      conv => whnf
      repeat (first | refine go ?_ | ((first | refine AReq.mk (by omega) ?_ | refine AIdx.flat (enc := lnC) lnC_len (xs := o.ls) (i := k) hkl ?_ | refine ACall.val (by kernel_rfl) (f27 s o.ls[k].item h.items) (by (first | rfl | (simp only [renL, AV.ren, List.nil_append, List.cons_append, rens]; try rfl))) (by (first | rfl | (simp only [renL, AV.ren, List.nil_append, List.cons_append, rens]; try rfl))) ?_); conv => whnf))
      refine ACond.mk (fun h3 => ?_) (fun h3 => ?_)
      · have h4 : hasI s o.ls[k].item = false := nb1 h3
        conv => whnf
        repeat (first | refine go ?_ | ((first | refine AReq.mk (by omega) ?_ | refine AIdx.flat (enc := lnC) lnC_len (xs := o.ls) (i := k) hkl ?_ | refine ACall.val (by kernel_rfl) (f27 s o.ls[k].item h.items) (by (first | rfl | (simp only [renL, AV.ren, List.nil_append, List.cons_append, rens]; try rfl))) (by (first | rfl | (simp only [renL, AV.ren, List.nil_append, List.cons_append, rens]; try rfl))) ?_); conv => whnf))
        refine AOut.stay ?_
        conv => whnf
        repeat (first | refine go ?_ | ((first | refine AReq.mk (by omega) ?_ | refine AIdx.flat (enc := lnC) lnC_len (xs := o.ls) (i := k) hkl ?_ | refine ACall.val (by kernel_rfl) (f27 s o.ls[k].item h.items) (by (first | rfl | (simp only [renL, AV.ren, List.nil_append, List.cons_append, rens]; try rfl))) (by (first | rfl | (simp only [renL, AV.ren, List.nil_append, List.cons_append, rens]; try rfl))) ?_); conv => whnf))
        refine AOut.stay ?_
        conv => whnf
        repeat (first | refine go ?_ | ((first | refine AReq.mk (by omega) ?_ | refine AIdx.flat (enc := lnC) lnC_len (xs := o.ls) (i := k) hkl ?_ | refine ACall.val (by kernel_rfl) (f27 s o.ls[k].item h.items) (by (first | rfl | (simp only [renL, AV.ren, List.nil_append, List.cons_append, rens]; try rfl))) (by (first | rfl | (simp only [renL, AV.ren, List.nil_append, List.cons_append, rens]; try rfl))) ?_); conv => whnf))
        refine AFin.val rfl ⟨?_, rfl⟩
        rw [← hno (fun hn => by rw [all_get hkl h4] at hn; exact Bool.noConfusion hn.2.2)]; rfl
      · have h4 : hasI s o.ls[k].item = true := nb0 h3
        conv => whnf
        repeat (first | refine go ?_ | ((first | refine AReq.mk (by omega) ?_ | refine AIdx.flat (enc := lnC) lnC_len (xs := o.ls) (i := k) hkl ?_ | refine ACall.val (by kernel_rfl) (f27 s o.ls[k].item h.items) (by (first | rfl | (simp only [renL, AV.ren, List.nil_append, List.cons_append, rens]; try rfl))) (by (first | rfl | (simp only [renL, AV.ren, List.nil_append, List.cons_append, rens]; try rfl))) ?_); conv => whnf))
        rw [w2]
        refine AHead.mk (o.ls.length - (k + 1)) _ _ (by omega) ⟨k + 1, rfl, by omega, ?_, rfl, rfl⟩ (Conv.ren [0, 1, 2] _ (by simp) (by simp) (by simp only [pad, renL, AV.ren, rens]; repeat' (first | exact Fit.nil | refine Fit.any ?_ | refine Fit.same ?_)) (.same (by simp only [ABlk.ren, stC_ren]; rfl) (.same (by simp only [ABlk.ren, ren_emS]; rfl) (.same (by simp only [ABlk.ren, odC_ren]; rfl) .nil))))
        intro j hj hjk
        rcases Nat.lt_or_ge j k with g | g
        · exact hall j hj g
        · obtain rfl : j = k := by omega
          exact h4
    · have hal : o.ls.all (fun l => hasI s l.item) = true := by
        rw [List.all_eq_true]
        intro r hr
        obtain ⟨j, hj, rfl⟩ := List.mem_iff_getElem.1 hr
        exact hall j hj (by omega)
      rw [if_pos ⟨g1, by omega, hal⟩] at hI
      conv => whnf
      repeat refine go ?_
      refine AOut.stay ?_
      conv => whnf
      repeat refine go ?_
      refine ACall.val (by kernel_rfl) (f68 o hoo) (by (first | rfl | (simp only [renL, AV.ren, List.nil_append, List.cons_append, rens]; try rfl))) (by (first | rfl | (simp only [renL, AV.ren, List.nil_append, List.cons_append, rens]; try rfl))) ?_
      generalize hss : serF o = ss at hI hsf
      conv => whnf
      repeat refine go ?_
      refine ALoop.mk (fun n E H => ∃ (k : Nat) (g : ByteArray → Bool) (L : List (ByteArray × Bool)) (bs : List Nat) (clk : Nat), n = ss.length - k ∧ k ≤ ss.length ∧ MapIs sOk L false g ∧ shipsM (twS (ss.drop k) g) (shipsT s (s.orders.drop (i + 1))) = R ∧
          E = pad [stA s, .ptr 0 0, bV false, .mp 1, .any, .any, .any, .any, .any, .any, .any, .any, .any, .any, .any, .any, .any, .any, .any, odsV s.orders, nV s.orders.length, nV i, .any, .any, .any, .any, .any, .any, .any, .any, .any, .any, .any, .any, .any, .any, .any, .any, .any, .any, .any, .any, .any, .any, .any, .any, .any, .any, .any, .any, .any, .any, .any, .any, .any, ssV ss, nV ss.length, nV k] 68 ∧ H = [.cells 72 (stC s), .map (em sV bV L) bs clk]) (n := ss.length) _ _
        ⟨0, g, L, bs, clk, rfl, Nat.zero_le _, hM, hI, rfl, rfl⟩ (Conv.ren [0, 1] _ (by simp) (by simp) (by simp only [pad, renL, AV.ren, rens]; repeat' (first | exact Fit.nil | refine Fit.any ?_ | refine Fit.same ?_)) (.same (by simp only [ABlk.ren, stC_ren]; rfl) (.same (by simp only [ABlk.ren, ren_emS]; rfl) .nil))) ?_
      rintro _ _ _ ⟨k, g, L, bs, clk, rfl, hk, hM, hI, rfl, rfl⟩
      conv => whnf
      repeat refine go ?_
      refine ACond.dec (fun h2 => ?_) (fun h2 => ?_)
      · have hkl : k < ss.length := by omega
        have w2 : IntKind.wrap .i64 ((k : Int) + 1) = ((k + 1 : Nat) : Int) := by rw [wrap_i64 _ (by omega) (by omega)]; omega
        rw [List.drop_eq_getElem_cons hkl, twS] at hI
        conv => whnf
        repeat refine go ?_
        refine AReq.mk (by omega) ?_
        conv => whnf
        repeat refine go ?_
        refine AIdx.flat (enc := sC) sC_len (xs := ss) (i := k) hkl ?_
        conv => whnf
        repeat refine go ?_
        refine AOp.getM 1 ss[k] hT sK und126 hne4 (eb := bV) rfl hM (hsf.2 _ (List.getElem_mem hkl)) rfl rfl rfl ?_
        conv => whnf
        repeat refine go ?_
        refine ACond.mk (fun h4 => ?_) (fun h4 => ?_)
        · rw [if_pos h4] at hI
          conv => whnf
          repeat refine go ?_
          refine AOut.stay ?_
          conv => whnf
          repeat refine go ?_
          refine AOut.stay ?_
          conv => whnf
          repeat refine go ?_
          exact AFin.val rfl ⟨congrArg bV hI, rfl⟩
        · rw [if_neg (by rw [h4]; decide)] at hI
          conv => whnf
          repeat refine go ?_
          refine AOp.putM 1 ss[k] true sK und126 hM (hsf.2 _ (List.getElem_mem hkl)) rfl rfl rfl rfl ?_
          intro L' bs' clk' hM'
          conv => whnf
          repeat refine go ?_
          rw [w2]
          exact AHead.mk (ss.length - (k + 1)) _ _ (by omega) ⟨k + 1, _, L', bs', clk', rfl, by omega, hM', hI, rfl, rfl⟩ (Conv.fit (by repeat' (first | exact Fit.nil | refine Fit.any ?_ | refine Fit.same ?_)))
      · rw [List.drop_of_length_le (by omega)] at hI
        conv => whnf
        repeat refine go ?_
        refine AOut.stay ?_
        conv => whnf
        repeat refine go ?_
        rw [w1]
        exact AHead.mk (s.orders.length - (i + 1)) _ _ (by omega) ⟨i + 1, g, L, bs, clk, rfl, by omega, hM, hI, rfl, rfl⟩ (Conv.fit (by repeat' (first | exact Fit.nil | refine Fit.any ?_ | refine Fit.same ?_)))
  · rw [List.drop_of_length_le (by omega)] at hI
    conv => whnf
    repeat refine go ?_
    refine AOut.stay ?_
    conv => whnf
    repeat refine go ?_
    exact AFin.val rfl ⟨congrArg bV hI, rfl⟩
end Go.Aw.U1

