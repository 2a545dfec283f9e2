/-
  The statement AuditUnits: any unit may have come of any other one, or not, and any node is reached from any other one, or not, as the document says, without any condition.
-/
import Derived.Test.YtgpnhbekepoebaaGreatR02
import Derived.Test.YtgpnhbekepoebaaGreatR00
set_option linter.unusedSimpArgs false
set_option linter.unusedVariables false
set_option linter.unusedSimpArgs false
set_option linter.unusedVariables false
set_option maxHeartbeats 2000000
namespace Go.Aw.U1
open Go Go.Proofs

def lifeC (st way : Int) : Int := if nodeB st way then 0 else 33
theorem f49 (st way : Int) : Fun P 49 [ndA st way] (nV (lifeC st way)) := by
  refine spec_of hT (f := 49) (fn := Go.Proofs.Tryz.f49) (c := body Go.Proofs.Tryz.f49) (by kernel_rfl) (by kernel_rfl) ?_
  unfold lifeC nodeB
  conv => whnf
  repeat refine go ?_
  refine ACall.val (by kernel_rfl) (f130 st way) rfl rfl ?_
  rcases Bool.eq_false_or_eq_true (termB st way) with g | g
  · rw [g]
    conv => whnf
    repeat refine ru ?_
    exact AFin.val rfl ⟨rfl, rfl⟩
  rw [g]
  conv => whnf
  repeat refine ru ?_
  refine ACall.val (by kernel_rfl) (f50 st way) rfl (actV_ren _ _) ?_
  generalize actF st way = l
  cases l with
  | nil =>
    conv => whnf
    repeat refine ru ?_
    exact AFin.val rfl ⟨rfl, rfl⟩
  | cons a l =>
    unfold actV isV
    conv => whnf
    repeat refine ru ?_
    refine AAny.iff.2 fun b hb => ?_
    rw [hb (by simp)]
    conv => whnf
    repeat refine ru ?_
    exact AFin.val rfl ⟨rfl, rfl⟩
def unB (u : Un) : Bool := decide (serC u.s = 0) && nodeB u.state u.way && standB u && gradedB u && heldB u
theorem f46 (u : Un) (hu : sOk u.s) : Fun P 46 [unA u] (nV (if unB u then 0 else 40)) := by
  refine spec_of hT (f := 46) (fn := Go.Proofs.Tryz.f46) (c := body Go.Proofs.Tryz.f46) (by kernel_rfl) (by kernel_rfl) ?_
  conv => whnf
  repeat' (first | refine go ?_ | ((first | refine ASplit.yes rfl ?_ | refine ASplit.no rfl ?_ | refine ACond.yes rfl ?_ | refine ACond.no rfl ?_ | refine ASplit.dec (fun _ => ?_) (fun _ => ?_) | refine ASplit.ndec (fun _ => ?_) (fun _ => ?_) | refine ACond.dec (fun _ => ?_) (fun _ => ?_) | refine ACond.ndec (fun _ => ?_) (fun _ => ?_) | refine ACall.val (by kernel_rfl) (f123 u.s hu) rfl rfl ?_ | refine ACall.val (by kernel_rfl) (f124 u) rfl rfl ?_ | refine ACall.val (by kernel_rfl) (f49 u.state u.way) rfl rfl ?_ | refine ACall.val (by kernel_rfl) (f125 u) rfl rfl ?_ | refine ACall.val (by kernel_rfl) (f126 u) rfl rfl ?_ | refine ACall.val (by kernel_rfl) (f127 u) rfl rfl ?_ | (refine ASplit.mk (fun _ => ?_) (fun _ => ?_)) | (refine ACond.mk (fun _ => ?_) (fun _ => ?_))) <;> conv => whnf))
  all_goals refine AFin.val rfl ⟨congrArg nV ?_, rfl⟩
  all_goals simp_all [unB, lifeC]
/-! ### wants -/
theorem idxF_any {α : Type} (p : α → Bool) (l : List α) : decide (0 ≤ idxF p l 0) = l.any p := by
  rcases idxF_or p l 0 with ⟨h1, h2⟩ | ⟨i, hi, h1, h2⟩
  · rw [show idxF p l 0 = -1 from h1]
    symm
    rw [show decide ((0 : Int) ≤ -1) = false by decide, List.any_eq_false]
    intro x hx
    rw [List.find?_eq_none] at h2
    exact h2 x hx
  · rw [show idxF p l 0 = (i : Int) by simpa using h1]
    symm
    rw [decide_eq_true (by omega), List.any_eq_true]
    exact ⟨l[i], List.getElem_mem hi, List.find?_some h2⟩
theorem f327 (l : List Wn) (cl : Nat) (caps : List AV) (p : Wn → Bool) (hl : l.length ≤ 9223372036854775807) (hc : callOk P cl = true) (hcr : ∀ ρ, renL ρ caps = caps) (h : ∀ w ∈ l, Fun P cl (.agg (wnC w) :: caps) (bV (p w))) :
    Fun P 327 [wnsV l, .fn cl [] caps] (nV (idxF p l 0)) := by
  refine spec_of hT (f := 327) (fn := Go.Proofs.Tryz.f327) (c := body Go.Proofs.Tryz.f327) (by kernel_rfl) (by kernel_rfl) ?_
  generalize hR : idxF p l 0 = R
  conv => whnf
  repeat refine go ?_
  refine ALoop.mk (fun n E H => ∃ i : Nat, n = l.length - i ∧ i ≤ l.length ∧ idxF p (l.drop i) i = R ∧
      E = pad [wnsV l, .fn cl [] caps, .any, .any, nV 0, .any, .any, nV l.length, nV i] 19 ∧ H = []) (n := l.length) _ _
    ⟨0, rfl, Nat.zero_le _, hR, rfl, rfl⟩ (Conv.fit (by repeat' (first | exact Fit.nil | refine Fit.any ?_ | refine Fit.same ?_))) ?_
  rintro _ _ _ ⟨i, rfl, hi, hI, rfl, rfl⟩
  conv => whnf
  repeat refine go ?_
  refine ACond.dec (fun h1 => ?_) (fun h1 => ?_)
  · have hil : i < l.length := by omega
    have w1 : IntKind.wrap .i64 ((i : Int) + 1) = ((i + 1 : Nat) : Int) := by rw [wrap_i64 _ (by omega) (by omega)]; omega
    rw [idxF_drop hil] at hI
    conv => whnf
    repeat (first | refine go ?_ | ((first | refine AReq.mk (by omega) ?_ | refine AIdx.flat (enc := wnC) wnC_len (xs := l) (i := i) hil ?_ | refine ACall.val (args := .agg (wnC l[i]) :: caps) hc (h l[i] (List.getElem_mem hil)) (by rw [renL, hcr]; rfl) rfl ?_); conv => whnf))
    refine ACond.mk (fun h4 => ?_) (fun h4 => ?_)
    · conv => whnf
      repeat (first | refine go ?_ | ((first | refine AReq.mk (by omega) ?_ | refine AIdx.flat (enc := wnC) wnC_len (xs := l) (i := i) hil ?_ | refine ACall.val (args := .agg (wnC l[i]) :: caps) hc (h l[i] (List.getElem_mem hil)) (by rw [renL, hcr]; rfl) rfl ?_); conv => whnf))
      refine AOut.stay ?_
      refine AFin.val rfl ⟨?_, rfl⟩
      rw [if_pos h4] at hI
      rw [hI]
    · conv => whnf
      repeat (first | refine go ?_ | ((first | refine AReq.mk (by omega) ?_ | refine AIdx.flat (enc := wnC) wnC_len (xs := l) (i := i) hil ?_ | refine ACall.val (args := .agg (wnC l[i]) :: caps) hc (h l[i] (List.getElem_mem hil)) (by rw [renL, hcr]; rfl) rfl ?_); conv => whnf))
      rw [w1]
      exact AHead.mk (l.length - (i + 1)) _ _ (by omega) ⟨i + 1, rfl, by omega, by rw [← hI]; exact (if_neg (fun h5 => Bool.noConfusion (h5.symm.trans h4))).symm, rfl, rfl⟩ (Conv.fit (by repeat' (first | exact Fit.nil | refine Fit.any ?_ | refine Fit.same ?_)))
  · rw [idxF_end (by omega)] at hI
    conv => whnf
    repeat refine go ?_
    refine AOut.stay ?_
    conv => whnf
    repeat refine go ?_
    exact AFin.val rfl ⟨congrArg nV hI, rfl⟩
theorem f242 (l : List Wn) (cl : Nat) (caps : List AV) (p : Wn → Bool) (hl : l.length ≤ 9223372036854775807) (hc : callOk P cl = true) (hcr : ∀ ρ, renL ρ caps = caps) (h : ∀ w ∈ l, Fun P cl (.agg (wnC w) :: caps) (bV (p w))) :
    Fun P 242 [wnsV l, .fn cl [] caps] (bV (l.any p)) := by
  refine spec_of hT (f := 242) (fn := Go.Proofs.Tryz.f242) (c := body Go.Proofs.Tryz.f242) (by kernel_rfl) (by kernel_rfl) ?_
  conv => whnf
  repeat refine go ?_
  refine ACall.val (args := [wnsV l, .fn cl [] caps]) (by kernel_rfl) (f327 l cl caps p hl hc hcr h) (by simp only [renL, AV.ren, hcr, wnsV_ren]) rfl ?_
  conv => whnf
  repeat refine go ?_
  exact AFin.val rfl ⟨congrArg bV (idxF_any p l), rfl⟩
def wantT : Int → List Wn → Bool
  | _, [] => true
  | last, w :: l => (decide (last < w.line) && decide (w.line < 8) && decide (1 ≤ w.qty) && decide (w.qty ≤ 20) && decide (0 ≤ w.got) && decide (w.got ≤ w.qty)) && wantT w.line l
def wantB (l : List Wn) : Bool := wantT (-1) l && decide (0 < (l.length : Int))
theorem f325 (l : List Wn) (hl : l.length ≤ 9223372036854775807) : Fun P 325 [wnsV l] (bV (wantB l)) := by
  refine spec_of hT (f := 325) (fn := Go.Proofs.Tryz.f325) (c := body Go.Proofs.Tryz.f325) (by kernel_rfl) (by kernel_rfl) ?_
  unfold wantB
  generalize hR : wantT (-1) l = R
  conv => whnf
  repeat refine go ?_
  refine ALoop.mk (fun n E H => ∃ (i : Nat) (last : Int), n = l.length - i ∧ i ≤ l.length ∧ wantT last (l.drop i) = R ∧
      E = pad [wnsV l, .any, bV false, nV last, .any, .any, wnsV l, nV l.length, nV i] 49 ∧ H = []) (n := l.length) _ _
    ⟨0, -1, rfl, Nat.zero_le _, hR, rfl, rfl⟩ (Conv.fit (by repeat' (first | exact Fit.nil | refine Fit.any ?_ | refine Fit.same ?_))) ?_
  rintro _ _ _ ⟨i, last, rfl, hi, hI, rfl, rfl⟩
  conv => whnf
  repeat refine go ?_
  refine ACond.dec (fun h => ?_) (fun h => ?_)
  · have hil : i < l.length := by omega
    have w1 : IntKind.wrap .i64 ((i : Int) + 1) = ((i + 1 : Nat) : Int) := by rw [wrap_i64 _ (by omega) (by omega)]; omega
    rw [List.drop_eq_getElem_cons hil, wantT] at hI
    generalize hB : (decide (last < l[i].line) && decide (l[i].line < 8) && decide (1 ≤ l[i].qty) && decide (l[i].qty ≤ 20) && decide (0 ≤ l[i].got) && decide (l[i].got ≤ l[i].qty)) = B at hI
    have hB2 : B = true ↔ last < l[i].line ∧ l[i].line < 8 ∧ 1 ≤ l[i].qty ∧ l[i].qty ≤ 20 ∧ 0 ≤ l[i].got ∧ l[i].got ≤ l[i].qty := by rw [← hB]; simp [and_assoc]
    conv => whnf
    repeat' (first | refine go ?_ | ((first | refine ASplit.yes rfl ?_ | refine ASplit.no rfl ?_ | refine ACond.yes rfl ?_ | refine ACond.no rfl ?_ | refine ASplit.dec (fun _ => ?_) (fun _ => ?_) | refine ASplit.ndec (fun _ => ?_) (fun _ => ?_) | refine ACond.dec (fun _ => ?_) (fun _ => ?_) | refine ACond.ndec (fun _ => ?_) (fun _ => ?_) | refine AReq.mk (by omega) ?_ | refine AIdx.flat (enc := wnC) wnC_len (xs := l) (i := i) hil ?_) <;> conv => whnf))
    all_goals first
      | (have hf : B = false := by
           cases e : B with
           | false => rfl
           | true => have := hB2.1 e; omega
         rw [hf, Bool.false_and] at hI
         refine AOut.stay ?_
         conv => whnf
         repeat ((first | refine AO.cons hT ?_ | refine AO.nil ?_ | refine AW.seq ?_ | refine AW.region ?_ | refine AW.ret ?_); conv => whnf)
         refine AFin.val rfl ⟨congrArg bV ?_, rfl⟩
         rw [← hI]; rfl)
      | (have ht : B = true := hB2.2 (by omega)
         rw [ht, Bool.true_and] at hI
         rw [w1]
         exact AHead.mk (l.length - (i + 1)) _ _ (by omega) ⟨i + 1, l[i].line, rfl, by omega, hI, rfl, rfl⟩ (Conv.ren [] _ (by simp) (by simp) (by simp only [pad, renL, AV.ren, rens]; repeat' (first | exact Fit.nil | refine Fit.any ?_ | refine Fit.same ?_)) .nil))
  · rw [List.drop_of_length_le (by omega)] at hI
    conv => whnf
    repeat refine go ?_
    refine AOut.stay ?_
    conv => whnf
    repeat refine go ?_
    refine AFin.val rfl ⟨congrArg bV ?_, rfl⟩
    rw [← hI]; rfl
end Go.Aw.U1

set_option linter.unusedSimpArgs false
set_option linter.unusedVariables false
set_option maxHeartbeats 4000000
set_option maxRecDepth 8000
namespace Go.Aw.U1
open Go Go.Proofs

/-! what is reached -/
abbrev Nd := Int × Int
def ledF (act : Int) : Int := if act = 1 then 2 else if act = 3 then 4 else if act = 4 then 6 else if act = 5 then 9 else if act = 7 then 5 else if act = 8 then 7 else if act = 9 then 8 else 3
def decF (way : Int) : Int := if way = 1 then 6 else if way = 2 ∨ way = 3 then 3 else if way = 4 then 8 else 9
def nextF (n : Nd) (act way : Int) : Nd × Int :=
  if nodeB n.1 n.2 then
    if act < 1 ∨ 9 < act then ((0, 0), 30) else if (actF n.1 n.2).contains act then (if act ≠ 2 then ((ledF act, n.2), 0) else if way < 1 ∨ 5 < way then ((0, 0), 2) else ((decF way, way), 0)) else ((0, 0), 33)
  else ((0, 0), 33)
/-- one more node -/
def add1 (S : List Nd) (r : Nd × Int) : List Nd := if r.2 = 0 ∧ S.contains r.1 = false then S ++ [r.1] else S
def addW (n : Nd) (act : Int) : Nat → Int → List Nd → List Nd
  | 0, _, S => S
  | k + 1, w, S => if w ≤ 5 then addW n act k (w + 1) (add1 S (nextF n act w)) else S
def addA (n : Nd) : List Int → List Nd → List Nd
  | [], S => S
  | a :: l, S => addA n l (addW n a 5 1 S)
def bfsO : Nat → List Nd → Nat → Option (List Nd)
  | 0, _, _ => none
  | f + 1, S, i => match S[i]? with | none => some S | some n => bfsO f (addA n (actF n.1 n.2) S) (i + 1)
def closure (a : Nd) : List Nd := (bfsO 20 [a] 0).getD []
def reachB (a b : Nd) : Bool := nodeB a.1 a.2 && nodeB b.1 b.2 && (closure a).contains b
theorem add1_sub (S : List Nd) (r : Nd × Int) : S.length ≤ (add1 S r).length ∧ ∀ x ∈ S, x ∈ add1 S r := by
  unfold add1
  split
  · simp; intro a b h; exact .inl h
  · exact ⟨Nat.le_refl _, fun _ h => h⟩
theorem addW_sub (n : Nd) (act : Int) : ∀ (k : Nat) (w : Int) (S : List Nd), S.length ≤ (addW n act k w S).length ∧ ∀ x ∈ S, x ∈ addW n act k w S
  | 0, _, S => ⟨Nat.le_refl _, fun _ h => h⟩
  | k + 1, w, S => by
    rw [addW]
    split
    · have h1 := add1_sub S (nextF n act w)
      have h2 := addW_sub n act k (w + 1) (add1 S (nextF n act w))
      exact ⟨by omega, fun x hx => h2.2 x (h1.2 x hx)⟩
    · exact ⟨Nat.le_refl _, fun _ h => h⟩
theorem addA_sub (n : Nd) : ∀ (l : List Int) (S : List Nd), S.length ≤ (addA n l S).length ∧ ∀ x ∈ S, x ∈ addA n l S
  | [], S => ⟨Nat.le_refl _, fun _ h => h⟩
  | a :: l, S => by
    have h1 := addW_sub n a 5 1 S
    have h2 := addA_sub n l (addW n a 5 1 S)
    exact ⟨by rw [addA]; omega, fun x hx => h2.2 x (h1.2 x hx)⟩
theorem bfs_sub : ∀ {f : Nat} {S C : List Nd} {i : Nat}, bfsO f S i = some C → S.length ≤ C.length ∧ ∀ x ∈ S, x ∈ C
  | 0, _, _, _, h => by cases h
  | f + 1, S, C, i, h => by
    rw [bfsO] at h
    split at h
    · cases h; exact ⟨Nat.le_refl _, fun _ h => h⟩
    · rename_i n hn
      have h1 := addA_sub n (actF n.1 n.2) S
      have h2 := bfs_sub h
      exact ⟨by omega, fun x hx => h2.2 x (h1.2 x hx)⟩
def nodesL : List Nd := [(1, 0), (2, 0), (3, 2), (3, 3), (4, 2), (5, 3), (6, 1), (6, 2), (7, 3), (8, 4), (8, 3), (9, 5), (9, 2)]
theorem node_mem {a b : Int} (h : nodeB a b = true) : (a, b) ∈ nodesL := by
  unfold nodeB termB actF at h
  simp only [nodesL, List.mem_cons, Prod.mk.injEq, List.not_mem_nil, or_false]
  repeat' split at h
  all_goals simp_all
theorem closure_ok : ∀ a ∈ nodesL, bfsO 20 [a] 0 = some (closure a) ∧ (closure a).length ≤ 13 := by decide +kernel

/-! the document's -/
abbrev Ed := Int × Int × Int × Int × Int × Int
def edgesL : List Ed := [(1, 0, 1, 0, 2, 0), (2, 0, 2, 1, 6, 1), (2, 0, 2, 2, 3, 2), (2, 0, 2, 3, 3, 3), (2, 0, 2, 4, 8, 4), (2, 0, 2, 5, 9, 5), (3, 2, 3, 0, 4, 2), (4, 2, 4, 0, 6, 2), (4, 2, 5, 0, 9, 2), (4, 2, 6, 0, 3, 2), (3, 3, 7, 0, 5, 3), (5, 3, 8, 0, 7, 3), (5, 3, 9, 0, 8, 3)]
def nodeR (st way : Int) : Bool := edgesL.any fun e => (decide (e.1 = st) && decide (e.2.1 = way)) || (decide (e.2.2.2.2.1 = st) && decide (e.2.2.2.2.2 = way))
def stepE (x : Nd) : List Ed → List Nd → List Nd
  | [], out => out
  | e :: l, out => stepE x l (if e.1 = x.1 ∧ e.2.1 = x.2 ∧ e.2.2.1 ≠ 6 then out ++ [(e.2.2.2.2.1, e.2.2.2.2.2)] else out)
/-- one round: none, when the node is there -/
def stepR (b : Nd) : List Nd → List Nd → Option (List Nd)
  | [], out => some out
  | x :: l, out => if x.1 = b.1 ∧ x.2 = b.2 then none else stepR b l (stepE x edgesL out)
def refR (b : Nd) : Nat → List Nd → Bool
  | 0, _ => false
  | n + 1, l => match stepR b l [] with | none => true | some l' => refR b n l'
def reachR (a b : Nd) : Bool := nodeR a.1 a.2 && nodeR b.1 b.2 && (refR b 8 [a] || (decide (a.1 = 4) && decide (b.1 = 3) && decide (a.2 = b.2)))
theorem nodeR_mem {a b : Int} (h : nodeR a b = true) : (a, b) ∈ nodesL := by
  unfold nodeR edgesL at h
  simp only [List.any_cons, List.any_nil, Bool.or_eq_true, Bool.and_eq_true, decide_eq_true_eq, Bool.or_false] at h
  simp only [nodesL, List.mem_cons, Prod.mk.injEq, List.not_mem_nil, or_false]
  rcases h with h | h | h | h | h | h | h | h | h | h | h | h | h
  all_goals (rcases h with ⟨h1, h2⟩ | ⟨h1, h2⟩ <;> simp [← h1, ← h2])
theorem nodes_both : ∀ a ∈ nodesL, nodeB a.1 a.2 = true ∧ nodeR a.1 a.2 = true := by decide +kernel
theorem node_eq (a b : Int) : nodeR a b = nodeB a b := by
  refine Bool.eq_iff_iff.2 ⟨fun h => (nodes_both _ (nodeR_mem h)).1, fun h => (nodes_both _ (node_mem h)).2⟩
theorem reach_all : ∀ a ∈ nodesL, ∀ b ∈ nodesL, reachR a b = reachB a b := by decide +kernel
theorem reach_eq (a b : Nd) : reachR a b = reachB a b := by
  by_cases ha : nodeB a.1 a.2 = true
  · by_cases hb : nodeB b.1 b.2 = true
    · exact reach_all a (node_mem ha) b (node_mem hb)
    · simp only [Bool.not_eq_true] at hb
      simp [reachR, reachB, node_eq, hb]
  · simp only [Bool.not_eq_true] at ha
    simp [reachR, reachB, node_eq, ha]

def ndC (n : Nd) : List AV := [nV n.1, nV n.2]
theorem ndC_len (n : Nd) : (ndC n).length = 2 := rfl
theorem fr_nd (ρ : Nat → Nat) (l : List Nd) : renL ρ (l.flatMap ndC) = l.flatMap ndC := flat_ren (enc := ndC) (fun _ _ => rfl) ρ l
def ndsV (l : List Nd) : AV := .vs 2 l.length (l.flatMap ndC)
theorem ndsV_ren (ρ : Nat → Nat) (l : List Nd) : (ndsV l).ren ρ = ndsV l := by simp only [ndsV, AV.ren, fr_nd]
theorem f132 (a : Int) : Fun P 132 [nV a] (nV (ledF a)) := by
  refine spec_of hT (f := 132) (fn := Go.Proofs.Tryz.f132) (c := body Go.Proofs.Tryz.f132) (by kernel_rfl) (by kernel_rfl) ?_
  conv => whnf
  repeat' (first | refine go ?_ | ((first | refine ASplit.yes rfl ?_ | refine ASplit.no rfl ?_ | refine ACond.yes rfl ?_ | refine ACond.no rfl ?_ | refine ASplit.dec (fun _ => ?_) (fun _ => ?_) | refine ASplit.ndec (fun _ => ?_) (fun _ => ?_) | refine ACond.dec (fun _ => ?_) (fun _ => ?_) | refine ACond.ndec (fun _ => ?_) (fun _ => ?_)) <;> conv => whnf))
  all_goals refine AFin.val rfl ⟨congrArg nV ?_, rfl⟩
  all_goals (unfold ledF; simp_all)
theorem f133 (a : Int) : Fun P 133 [nV a] (nV (decF a)) := by
  refine spec_of hT (f := 133) (fn := Go.Proofs.Tryz.f133) (c := body Go.Proofs.Tryz.f133) (by kernel_rfl) (by kernel_rfl) ?_
  conv => whnf
  repeat' (first | refine go ?_ | ((first | refine ASplit.yes rfl ?_ | refine ASplit.no rfl ?_ | refine ACond.yes rfl ?_ | refine ACond.no rfl ?_ | refine ASplit.dec (fun _ => ?_) (fun _ => ?_) | refine ASplit.ndec (fun _ => ?_) (fun _ => ?_) | refine ACond.dec (fun _ => ?_) (fun _ => ?_) | refine ACond.ndec (fun _ => ?_) (fun _ => ?_)) <;> conv => whnf))
  all_goals refine AFin.val rfl ⟨congrArg nV ?_, rfl⟩
  all_goals (unfold decF; simp_all)
theorem f131 (st way a : Int) : Fun P 131 [ndA st way, nV a] (bV ((actF st way).contains a)) := by
  refine spec_of hT (f := 131) (fn := Go.Proofs.Tryz.f131) (c := body Go.Proofs.Tryz.f131) (by kernel_rfl) (by kernel_rfl) ?_
  have hlen : (actF st way).length ≤ 3 := by unfold actF; repeat' split
                                             all_goals simp
  conv => whnf
  repeat refine go ?_
  refine ACall.val (args := [ndA st way]) (by kernel_rfl) (f50 st way) rfl (actV_ren _ _) ?_
  generalize actF st way = l at hlen
  cases l with
  | nil =>
    unfold actV
    conv => whnf
    repeat refine ru ?_
    refine ALoop.un ?_
    refine ALp.step (T := T) ?_
    conv => whnf
    repeat refine ru ?_
    exact AFin.val rfl ⟨rfl, rfl⟩
  | cons b l' =>
  unfold actV isV
  conv => whnf
  repeat refine ru ?_
  refine ALoop.mk (fun n E H => ∃ (i : Nat), n = (b :: l').length - i ∧ i ≤ (b :: l').length ∧ (∀ k (hk : k < (b :: l').length), k < i → (b :: l')[k] ≠ a) ∧
      E = pad [ndA st way, nV a, .ptr 0 0, .any, bV false, .any, .any, .any, isV (b :: l'), nV (b :: l').length, nV i] 18 ∧ H = [.cells 28 [nV st, nV way]]) (n := (b :: l').length) _ _
    ⟨0, rfl, Nat.zero_le _, fun k _ hk => absurd hk (Nat.not_lt_zero _), rfl, rfl⟩ (Conv.fit (by repeat' (first | exact Fit.nil | refine Fit.any ?_ | refine Fit.same ?_))) ?_
  generalize b :: l' = l at hlen
  rintro _ _ _ ⟨i, rfl, hi, hI, rfl, rfl⟩
  conv => whnf
  repeat refine go ?_
  refine ACond.dec (fun h1 => ?_) (fun h1 => ?_)
  · have hil : i < l.length := by omega
    have w1 : IntKind.wrap .i64 ((i : Int) + 1) = ((i + 1 : Nat) : Int) := by rw [wrap_i64 _ (by omega) (by omega)]; omega
    conv => whnf
    repeat (first | refine go ?_ | ((first | refine AReq.mk (by omega) ?_ | refine AIdx.flat (enc := iC) iC_len (xs := l) (i := i) hil ?_); conv => whnf))
    refine ACond.dec (fun h2 => ?_) (fun h2 => ?_)
    · conv => whnf
      repeat refine ru ?_
      refine AOut.stay ?_
      conv => whnf
      repeat refine ru ?_
      refine AFin.val rfl ⟨congrArg bV ?_, rfl⟩
      rw [← h2]; symm
      exact List.contains_iff_mem.2 (List.getElem_mem hil)
    · conv => whnf
      repeat refine ru ?_
      rw [w1]
      refine AHead.mk (l.length - (i + 1)) _ _ (by omega) ⟨i + 1, rfl, by omega, fun k hk hki => ?_, rfl, rfl⟩ (Conv.fit (by repeat' (first | exact Fit.nil | refine Fit.any ?_ | refine Fit.same ?_)))
      rcases Nat.lt_or_ge k i with g | g
      · exact hI k hk g
      · obtain rfl : k = i := by omega
        exact h2
  · conv => whnf
    repeat refine go ?_
    refine AOut.stay ?_
    conv => whnf
    repeat refine go ?_
    refine AFin.val rfl ⟨congrArg bV ?_, rfl⟩
    symm
    rw [← Bool.not_eq_true, List.contains_iff_mem]
    intro hm
    obtain ⟨k, hk, hk2⟩ := List.mem_iff_getElem.1 hm
    exact hI k hk (by omega) hk2
theorem f51 (n : Nd) (a w : Int) : Fun P 51 [ndA n.1 n.2, .agg [nV a, nV w]] (.tup [ndA (nextF n a w).1.1 (nextF n a w).1.2, nV (nextF n a w).2]) := by
  refine spec_of hT (f := 51) (fn := Go.Proofs.Tryz.f51) (c := body Go.Proofs.Tryz.f51) (by kernel_rfl) (by kernel_rfl) ?_
  unfold nextF
  conv => whnf
  repeat (first | refine go ?_ | ((first | refine AW.plan (id := 12) hm (.one 0 (.one 3 (.one 1 (.imm 4 (.one 2 (.one 5 (.one 6 (.one 7 .nil)))))))) (by kernel_rfl) ?_ | refine AW.plan (id := 9) hm (.one 0 (.one 3 (.one 1 (.imm 4 (.one 2 (.one 5 (.one 6 (.one 7 .nil)))))))) (by kernel_rfl) ?_); conv => whnf))
  refine ACall.val (args := [ndA n.1 n.2]) (by kernel_rfl) (f49 n.1 n.2) rfl rfl ?_
  unfold lifeC
  cases hn : nodeB n.1 n.2 with
  | false =>
    conv => whnf
    repeat (first | refine ru ?_ | ((first | refine AW.plan (id := 12) hm (.one 0 (.one 3 (.one 1 (.imm 4 (.one 2 (.one 5 (.one 6 (.one 7 .nil)))))))) (by kernel_rfl) ?_ | refine AW.plan (id := 9) hm (.one 0 (.one 3 (.one 1 (.imm 4 (.one 2 (.one 5 (.one 6 (.one 7 .nil)))))))) (by kernel_rfl) ?_); conv => whnf))
    exact AFin.val rfl ⟨rfl, rfl⟩
  | true =>
  rw [if_pos rfl]
  conv => whnf
  repeat (first | refine ru ?_ | ((first | refine AW.plan (id := 12) hm (.one 0 (.one 3 (.one 1 (.imm 4 (.one 2 (.one 5 (.one 6 (.one 7 .nil)))))))) (by kernel_rfl) ?_ | refine AW.plan (id := 9) hm (.one 0 (.one 3 (.one 1 (.imm 4 (.one 2 (.one 5 (.one 6 (.one 7 .nil)))))))) (by kernel_rfl) ?_); conv => whnf))
  refine ASplit.dec (fun h1 => ?_) (fun h1 => ?_)
  · rw [if_pos (show a < 1 ∨ 9 < a from .inl h1)]
    conv => whnf
    repeat (first | refine ru ?_ | ((first | refine AW.plan (id := 12) hm (.one 0 (.one 3 (.one 1 (.imm 4 (.one 2 (.one 5 (.one 6 (.one 7 .nil)))))))) (by kernel_rfl) ?_ | refine AW.plan (id := 9) hm (.one 0 (.one 3 (.one 1 (.imm 4 (.one 2 (.one 5 (.one 6 (.one 7 .nil)))))))) (by kernel_rfl) ?_); conv => whnf))
    exact AFin.val rfl ⟨rfl, rfl⟩
  conv => whnf
  repeat (first | refine ru ?_ | ((first | refine AW.plan (id := 12) hm (.one 0 (.one 3 (.one 1 (.imm 4 (.one 2 (.one 5 (.one 6 (.one 7 .nil)))))))) (by kernel_rfl) ?_ | refine AW.plan (id := 9) hm (.one 0 (.one 3 (.one 1 (.imm 4 (.one 2 (.one 5 (.one 6 (.one 7 .nil)))))))) (by kernel_rfl) ?_); conv => whnf))
  refine ACond.dec (fun h2 => ?_) (fun h2 => ?_)
  · rw [if_pos (show a < 1 ∨ 9 < a from .inr h2)]
    conv => whnf
    repeat (first | refine ru ?_ | ((first | refine AW.plan (id := 12) hm (.one 0 (.one 3 (.one 1 (.imm 4 (.one 2 (.one 5 (.one 6 (.one 7 .nil)))))))) (by kernel_rfl) ?_ | refine AW.plan (id := 9) hm (.one 0 (.one 3 (.one 1 (.imm 4 (.one 2 (.one 5 (.one 6 (.one 7 .nil)))))))) (by kernel_rfl) ?_); conv => whnf))
    exact AFin.val rfl ⟨rfl, rfl⟩
  rw [if_neg (show ¬ (a < 1 ∨ 9 < a) by omega)]
  conv => whnf
  repeat (first | refine ru ?_ | ((first | refine AW.plan (id := 12) hm (.one 0 (.one 3 (.one 1 (.imm 4 (.one 2 (.one 5 (.one 6 (.one 7 .nil)))))))) (by kernel_rfl) ?_ | refine AW.plan (id := 9) hm (.one 0 (.one 3 (.one 1 (.imm 4 (.one 2 (.one 5 (.one 6 (.one 7 .nil)))))))) (by kernel_rfl) ?_); conv => whnf))
  refine ACall.val (args := [ndA n.1 n.2, nV a]) (by kernel_rfl) (f131 n.1 n.2 a) rfl rfl ?_
  cases hc : (actF n.1 n.2).contains a with
  | false =>
    conv => whnf
    repeat (first | refine ru ?_ | ((first | refine AW.plan (id := 12) hm (.one 0 (.one 3 (.one 1 (.imm 4 (.one 2 (.one 5 (.one 6 (.one 7 .nil)))))))) (by kernel_rfl) ?_ | refine AW.plan (id := 9) hm (.one 0 (.one 3 (.one 1 (.imm 4 (.one 2 (.one 5 (.one 6 (.one 7 .nil)))))))) (by kernel_rfl) ?_); conv => whnf))
    exact AFin.val rfl ⟨rfl, rfl⟩
  | true =>
  rw [if_pos rfl]
  conv => whnf
  repeat (first | refine ru ?_ | ((first | refine AW.plan (id := 12) hm (.one 0 (.one 3 (.one 1 (.imm 4 (.one 2 (.one 5 (.one 6 (.one 7 .nil)))))))) (by kernel_rfl) ?_ | refine AW.plan (id := 9) hm (.one 0 (.one 3 (.one 1 (.imm 4 (.one 2 (.one 5 (.one 6 (.one 7 .nil)))))))) (by kernel_rfl) ?_); conv => whnf))
  refine ACond.ndec (fun h3 => ?_) (fun h3 => ?_)
  · rw [if_pos (show a ≠ 2 from h3)]
    refine AW.conv _ _ (Conv.freeze 0 rfl) ?_
    conv => whnf
    repeat (first | refine ru ?_ | ((first | refine AW.plan (id := 12) hm (.one 0 (.one 3 (.one 1 (.imm 4 (.one 2 (.one 5 (.one 6 (.one 7 .nil)))))))) (by kernel_rfl) ?_ | refine AW.plan (id := 9) hm (.one 0 (.one 3 (.one 1 (.imm 4 (.one 2 (.one 5 (.one 6 (.one 7 .nil)))))))) (by kernel_rfl) ?_); conv => whnf))
    refine ACall.val (args := [nV a]) (by kernel_rfl) (f132 a) rfl rfl ?_
    conv => whnf
    repeat (first | refine ru ?_ | ((first | refine AW.plan (id := 12) hm (.one 0 (.one 3 (.one 1 (.imm 4 (.one 2 (.one 5 (.one 6 (.one 7 .nil)))))))) (by kernel_rfl) ?_ | refine AW.plan (id := 9) hm (.one 0 (.one 3 (.one 1 (.imm 4 (.one 2 (.one 5 (.one 6 (.one 7 .nil)))))))) (by kernel_rfl) ?_); conv => whnf))
    exact AFin.val rfl ⟨rfl, rfl⟩
  rw [if_neg (show ¬ a ≠ 2 by omega)]
  conv => whnf
  repeat (first | refine ru ?_ | ((first | refine AW.plan (id := 12) hm (.one 0 (.one 3 (.one 1 (.imm 4 (.one 2 (.one 5 (.one 6 (.one 7 .nil)))))))) (by kernel_rfl) ?_ | refine AW.plan (id := 9) hm (.one 0 (.one 3 (.one 1 (.imm 4 (.one 2 (.one 5 (.one 6 (.one 7 .nil)))))))) (by kernel_rfl) ?_); conv => whnf))
  refine ASplit.dec (fun h4 => ?_) (fun h4 => ?_)
  · rw [if_pos (show w < 1 ∨ 5 < w from .inl h4)]
    conv => whnf
    repeat (first | refine ru ?_ | ((first | refine AW.plan (id := 12) hm (.one 0 (.one 3 (.one 1 (.imm 4 (.one 2 (.one 5 (.one 6 (.one 7 .nil)))))))) (by kernel_rfl) ?_ | refine AW.plan (id := 9) hm (.one 0 (.one 3 (.one 1 (.imm 4 (.one 2 (.one 5 (.one 6 (.one 7 .nil)))))))) (by kernel_rfl) ?_); conv => whnf))
    exact AFin.val rfl ⟨rfl, rfl⟩
  conv => whnf
  repeat (first | refine ru ?_ | ((first | refine AW.plan (id := 12) hm (.one 0 (.one 3 (.one 1 (.imm 4 (.one 2 (.one 5 (.one 6 (.one 7 .nil)))))))) (by kernel_rfl) ?_ | refine AW.plan (id := 9) hm (.one 0 (.one 3 (.one 1 (.imm 4 (.one 2 (.one 5 (.one 6 (.one 7 .nil)))))))) (by kernel_rfl) ?_); conv => whnf))
  refine ACond.dec (fun h5 => ?_) (fun h5 => ?_)
  · rw [if_pos (show w < 1 ∨ 5 < w from .inr h5)]
    conv => whnf
    repeat (first | refine ru ?_ | ((first | refine AW.plan (id := 12) hm (.one 0 (.one 3 (.one 1 (.imm 4 (.one 2 (.one 5 (.one 6 (.one 7 .nil)))))))) (by kernel_rfl) ?_ | refine AW.plan (id := 9) hm (.one 0 (.one 3 (.one 1 (.imm 4 (.one 2 (.one 5 (.one 6 (.one 7 .nil)))))))) (by kernel_rfl) ?_); conv => whnf))
    exact AFin.val rfl ⟨rfl, rfl⟩
  rw [if_neg (show ¬ (w < 1 ∨ 5 < w) by omega)]
  refine AW.conv _ _ (Conv.freeze 1 rfl) ?_
  conv => whnf
  repeat (first | refine ru ?_ | ((first | refine AW.plan (id := 12) hm (.one 0 (.one 3 (.one 1 (.imm 4 (.one 2 (.one 5 (.one 6 (.one 7 .nil)))))))) (by kernel_rfl) ?_ | refine AW.plan (id := 9) hm (.one 0 (.one 3 (.one 1 (.imm 4 (.one 2 (.one 5 (.one 6 (.one 7 .nil)))))))) (by kernel_rfl) ?_); conv => whnf))
  refine ACall.val (args := [nV w]) (by kernel_rfl) (f133 w) rfl rfl ?_
  conv => whnf
  repeat (first | refine ru ?_ | ((first | refine AW.plan (id := 12) hm (.one 0 (.one 3 (.one 1 (.imm 4 (.one 2 (.one 5 (.one 6 (.one 7 .nil)))))))) (by kernel_rfl) ?_ | refine AW.plan (id := 9) hm (.one 0 (.one 3 (.one 1 (.imm 4 (.one 2 (.one 5 (.one 6 (.one 7 .nil)))))))) (by kernel_rfl) ?_); conv => whnf))
  exact AFin.val rfl ⟨rfl, rfl⟩
end Go.Aw.U1

/-
  Aw, part 59: a slice written out, taken as own memory.
-/
set_option linter.unusedSimpArgs false
set_option linter.unusedVariables false
set_option maxHeartbeats 1000000
namespace Go.Aw
open Go

section
variable {P : Program} {T : Nat → TI} {C : Ctx} {m : Mu} {I : Nat → Prop} {H : List ABlk} {w : World}

def buildSliceO (T : Nat → TI) (t len : Nat) (E : List AV) (ps : List (Nat × Operand)) (H : List ABlk) (K : AV → List ABlk → Prop) : Prop :=
  match (T t).u with
  | .slice e => okT T e <| ifK (Nat.ble (len * (T e).size) 16777216) <| cellsK (T e).zero fun _ => anysK (len * (T e).size) fun cs =>
      fillK (fun i => some (i * (T e).size, (T e).size)) E ps cs fun cs => K (.ms (T e).size H.length 0 len) (H ++ [.cells e cs])
  | _ => False

theorem buildSliceO_sound (hT : TOk P T) (h : St C m I H w) {t len : Nat} {E : List AV} {a : Act} (hE : RepL w m I E a.tmps.toList) {ps : Array (Nat × Operand)} {K : AV → List ABlk → Prop} (hk : buildSliceO T t len E ps.toList H K) :
    Mem P C w m I K (Instr.buildSlice t len (ps.map fun p => (p.1, a.eval p.2))) := by
  unfold buildSliceO at hk
  cases hU : (T t).u with
  | slice e =>
    rw [hU] at hk
    simp only [okT_iff, ifK_iff] at hk
    obtain ⟨hne, hle, hk⟩ := hk
    have hle' := Nat.le_of_ble_eq_true hle
    obtain ⟨_, zs, z, hk, _, g2, g3, g4, g5⟩ := zero_cells (w := w) (m := m) (I := I) hT hne hk
    rw [anysK_eq] at hk
    let base : List Value := (List.range (len * (T e).size)).map (fun i => z.cells[i % z.cells.size]!)
    have hbl : base.length = len * (T e).size := by simp [base]
    have hb1 : ∀ u ∈ base, u.oneCell' = true := by
      intro u hu
      simp only [base, List.mem_map, List.mem_range] at hu
      obtain ⟨i, hi, rfl⟩ := hu
      have hs : z.cells.size = (T e).size := by rw [g3]; simpa using g4
      have h0 : 0 < z.cells.size := by
        rw [hs]; rcases Nat.eq_zero_or_pos (T e).size with h0 | h0
        · rw [h0] at hi; simp at hi
        · exact h0
      have hlt : i % z.cells.size < z.cells.size := Nat.mod_lt _ h0
      rw [getElem!_pos z.cells _ hlt]
      refine g2 _ ?_
      have : z.cells.toList = zs := by rw [g3]
      rw [← this]; simp
    have hbr : RepL w m I (List.replicate (len * (T e).size) .any) base := by rw [← hbl]; exact RepL.any base
    obtain ⟨cs, us, k1, k2, k3, k4, k5⟩ := fillK_sound hE hk hbr hb1
    obtain ⟨hs, he⟩ := h.alloc (t := e) (xs := cs) (ys := us) ⟨us, [], by simp, k2⟩ k3
    refine ⟨_, .slice (some ⟨w.heap.size, 0, none⟩) len len, _, _, I, _, k1, ?_, hs, he, ?_⟩
    · simp only [Rep]
      rw [← h.n, Mu.push_new.1, Mu.push_new.2]
      refine ⟨by simp [Mu.push], .inr ⟨_, len, 0, rfl, by simp, by omega, by rw [k4, hbl]; omega, fun _ => rfl⟩⟩
    · simp only [Instr.buildSlice, Sem.run_bind, und_slice hT hU, Result.andThen_ok, run_sizeOf_tab hT hne, Sem.run_ite]
      rw [if_neg (by omega)]
      simp only [Sem.run_pure, Result.andThen_ok, Sem.run_bind, Sem.run_ite]
      by_cases h0 : len * (T e).size = 0
      · have hb0 : base = [] := List.eq_nil_of_length_eq_zero (by rw [hbl, h0])
        rw [if_pos h0]
        have harr : (Array.range (len * (T e).size)).map (fun x => (#[] : Array Value)[x % (#[] : Array Value).size]!) = ⟨base⟩ := by
          rw [hb0, h0]; apply Array.ext'; simp
        simp only [harr, Array.toList_map, k5, newRow, Sem.run_bind, run_newObj, Sem.run_pure, Result.andThen_ok]
        rfl
      · rw [if_neg h0]
        have harr : (Array.range (len * (T e).size)).map (fun x => z.cells[x % z.cells.size]!) = ⟨base⟩ := by
          apply Array.ext'; simp [base]
        simp only [g5, harr, Array.toList_map, k5, newRow, Sem.run_bind, run_newObj, Sem.run_pure, Result.andThen_ok]
        rfl
  | _ => rw [hU] at hk; exact hk.elim

theorem AOp.sliceO {E : List AV} {K : AV → List ABlk → Prop} {t n : Nat} {ps : Array (Nat × Operand)} (hT : TOk P T) (k : buildSliceO T t n E ps.toList H K) : AOp P (.buildSlice t n ps) E H K := by
  rw [AOp.iff]
  intro C m I w a d type pos after guard Q hs hE
  have hm := buildSliceO_sound (P := P) (C := C) hT hs hE (ps := ps) (K := K) k
  exact wp_mem (s := Instr.buildSlice t n (ps.map fun (i, x) => (i, a.eval x))) hm rfl
end
end Go.Aw

set_option linter.unusedSimpArgs false
set_option linter.unusedVariables false
set_option maxHeartbeats 2000000
namespace Go.Aw.U1
open Go Go.Proofs

def rmOk (r : Rm) : Prop := r.ws.length ≤ 9223372036854775807
def rmaB (r : Rm) : Bool := idB r.id && idB r.order && timeB r.until_ && wantB r.ws && ((decide (r.state = 1) && r.ws.any waitsB) || (decide (r.state = 2) && !r.ws.any waitsB) || decide (r.state = 3))
def rmaC (r : Rm) : Int := if rmaB r then 0 else 40
theorem f240 (r : Rm) (hr : rmOk r) : Fun P 240 [rmA r] (nV (rmaC r)) := by
  refine spec_of hT (f := 240) (fn := Go.Proofs.Tryz.f240) (c := body Go.Proofs.Tryz.f240) (by kernel_rfl) (by kernel_rfl) ?_
  conv => whnf
  repeat' (first | refine go ?_ | ((first | refine ASplit.yes rfl ?_ | refine ASplit.no rfl ?_ | refine ACond.yes rfl ?_ | refine ACond.no rfl ?_ | refine ASplit.dec (fun _ => ?_) (fun _ => ?_) | refine ASplit.ndec (fun _ => ?_) (fun _ => ?_) | refine ACond.dec (fun _ => ?_) (fun _ => ?_) | refine ACond.ndec (fun _ => ?_) (fun _ => ?_) | refine ACall.val (by kernel_rfl) (f324 _) rfl rfl ?_ | refine ACall.val (by kernel_rfl) (f147 _) rfl rfl ?_ | refine ACall.val (by kernel_rfl) (f325 r.ws hr) (by (first | rfl | (simp only [renL, AV.ren, List.nil_append, List.cons_append, rens]; try rfl))) rfl ?_ | refine ACall.val (args := [wnsV r.ws, .fn 326 [] []]) (by kernel_rfl) (f242 r.ws 326 [] waitsB hr (by kernel_rfl) (fun _ => rfl) (fun w _ => f326 w)) (by (first | rfl | (simp only [renL, AV.ren, List.nil_append, List.cons_append, rens]; try rfl))) rfl ?_ | (refine ASplit.mk (fun _ => ?_) (fun _ => ?_)) | (refine ACond.mk (fun _ => ?_) (fun _ => ?_))) <;> conv => whnf))
  all_goals refine AFin.val rfl ⟨congrArg nV ?_, rfl⟩
  all_goals simp_all [rmaC, rmaB]
def holdT (line st : Int) : List Wn → Int
  | [] => 0
  | w :: l => if w.line = line then if st = 1 then w.qty else w.got else holdT line st l
def holdF (r : Rm) (line : Int) : Int := if rmaC r = 0 then holdT line r.state r.ws else 0
theorem f328 (r : Rm) (line : Int) (hr : rmOk r) : Fun P 328 [rmA r, nV line] (nV (holdF r line)) := by
  refine spec_of hT (f := 328) (fn := Go.Proofs.Tryz.f328) (c := body Go.Proofs.Tryz.f328) (by kernel_rfl) (by kernel_rfl) ?_
  have hr1 : r.ws.length ≤ 9223372036854775807 := hr
  unfold holdF
  conv => whnf
  repeat refine go ?_
  refine ACall.val (by kernel_rfl) (f240 r hr) (by (first | rfl | (simp only [renL, AV.ren, List.nil_append, List.cons_append, rens]; try rfl))) rfl ?_
  conv => whnf
  repeat refine go ?_
  refine ACond.ndec (fun h4 => ?_) (fun h4 => ?_)
  · rw [if_neg h4]
    conv => whnf
    repeat refine go ?_
    exact AFin.val rfl ⟨rfl, rfl⟩
  rw [if_pos h4]
  generalize hR : holdT line r.state r.ws = R
  conv => whnf
  repeat refine go ?_
  refine ALoop.mk (fun n E H => ∃ (i : Nat), n = r.ws.length - i ∧ i ≤ r.ws.length ∧ holdT line r.state (r.ws.drop i) = R ∧
      E = pad [rmA r, nV line, .ptr 0 0, .any, nV 0, .any, .any, .any, .any, .any, .any, wnsV r.ws, nV r.ws.length, nV i] 35 ∧ H = [.cells 123 (rmC r)]) (n := r.ws.length) _ _
    ⟨0, rfl, Nat.zero_le _, hR, rfl, rfl⟩ (Conv.fit (by repeat' (first | exact Fit.nil | refine Fit.any ?_ | refine Fit.same ?_))) ?_
  rintro _ _ _ ⟨i, rfl, hi, hI, rfl, rfl⟩
  conv => whnf
  repeat refine go ?_
  refine ACond.dec (fun h => ?_) (fun h => ?_)
  · have hil : i < r.ws.length := by omega
    have w1 : IntKind.wrap .i64 ((i : Int) + 1) = ((i + 1 : Nat) : Int) := by rw [wrap_i64 _ (by omega) (by omega)]; omega
    rw [List.drop_eq_getElem_cons hil, holdT] at hI
    conv => whnf
    repeat (first | refine go ?_ | ((first | refine AReq.mk (by omega) ?_ | refine AIdx.flat (enc := wnC) wnC_len (xs := r.ws) (i := i) hil ?_); conv => whnf))
    by_cases h5 : r.ws[i].line = line
    · rw [if_pos h5] at hI
      refine ASplit.yes (decide_eq_true h5) ?_
      conv => whnf
      repeat (first | refine go ?_ | ((first | refine AReq.mk (by omega) ?_ | refine AIdx.flat (enc := wnC) wnC_len (xs := r.ws) (i := i) hil ?_); conv => whnf))
      by_cases h6 : r.state = 1
      · rw [if_pos h6] at hI
        refine ACond.yes (decide_eq_true h6) ?_
        conv => whnf
        repeat (first | refine go ?_ | ((first | refine AReq.mk (by omega) ?_ | refine AIdx.flat (enc := wnC) wnC_len (xs := r.ws) (i := i) hil ?_); conv => whnf))
        refine AOut.stay ?_
        conv => whnf
        repeat (first | refine go ?_ | ((first | refine AReq.mk (by omega) ?_ | refine AIdx.flat (enc := wnC) wnC_len (xs := r.ws) (i := i) hil ?_); conv => whnf))
        exact AFin.val rfl ⟨congrArg nV hI, rfl⟩
      · rw [if_neg h6] at hI
        refine ACond.no (decide_eq_false h6) ?_
        conv => whnf
        repeat (first | refine go ?_ | ((first | refine AReq.mk (by omega) ?_ | refine AIdx.flat (enc := wnC) wnC_len (xs := r.ws) (i := i) hil ?_); conv => whnf))
        refine ACond.yes (decide_eq_true h5) ?_
        conv => whnf
        repeat (first | refine go ?_ | ((first | refine AReq.mk (by omega) ?_ | refine AIdx.flat (enc := wnC) wnC_len (xs := r.ws) (i := i) hil ?_); conv => whnf))
        refine AOut.stay ?_
        conv => whnf
        repeat (first | refine go ?_ | ((first | refine AReq.mk (by omega) ?_ | refine AIdx.flat (enc := wnC) wnC_len (xs := r.ws) (i := i) hil ?_); conv => whnf))
        exact AFin.val rfl ⟨congrArg nV hI, rfl⟩
    · rw [if_neg h5] at hI
      refine ASplit.no (decide_eq_false h5) ?_
      conv => whnf
      repeat (first | refine go ?_ | ((first | refine AReq.mk (by omega) ?_ | refine AIdx.flat (enc := wnC) wnC_len (xs := r.ws) (i := i) hil ?_); conv => whnf))
      refine ACond.no rfl ?_
      conv => whnf
      repeat (first | refine go ?_ | ((first | refine AReq.mk (by omega) ?_ | refine AIdx.flat (enc := wnC) wnC_len (xs := r.ws) (i := i) hil ?_); conv => whnf))
      refine ACond.no (decide_eq_false h5) ?_
      conv => whnf
      repeat (first | refine go ?_ | ((first | refine AReq.mk (by omega) ?_ | refine AIdx.flat (enc := wnC) wnC_len (xs := r.ws) (i := i) hil ?_); conv => whnf))
      rw [w1]
      exact AHead.mk (r.ws.length - (i + 1)) _ _ (by omega) ⟨i + 1, rfl, by omega, hI, rfl, rfl⟩ (Conv.ren [0] _ (by simp) (by simp) (by simp only [pad, renL, AV.ren, rens]; repeat' (first | exact Fit.nil | refine Fit.any ?_ | refine Fit.same ?_)) (.same (by simp only [ABlk.ren, rmC_ren]; rfl) .nil))
  · rw [List.drop_of_length_le (by omega)] at hI
    conv => whnf
    repeat refine go ?_
    refine AOut.stay ?_
    conv => whnf
    repeat refine go ?_
    exact AFin.val rfl ⟨congrArg nV hI, rfl⟩
theorem wantT_bd : ∀ {l : List Wn} {last : Int}, wantT last l = true → ∀ w ∈ l, last < w.line ∧ w.line < 8 ∧ 1 ≤ w.qty ∧ w.qty ≤ 20 ∧ 0 ≤ w.got ∧ w.got ≤ w.qty
  | [], _, _, w, hw => by simp at hw
  | x :: l, last, h, w, hw => by
    simp only [wantT, Bool.and_eq_true, decide_eq_true_eq] at h
    obtain ⟨⟨⟨⟨⟨⟨h1, h2⟩, h3⟩, h4⟩, h5⟩, h6⟩, h7⟩ := h
    rcases List.mem_cons.1 hw with rfl | hw
    · exact ⟨h1, h2, h3, h4, h5, h6⟩
    · have := wantT_bd h7 w hw
      exact ⟨by omega, this.2⟩
theorem rma_want {r : Rm} (h : rmaC r = 0) : wantT (-1) r.ws = true := by
  unfold rmaC at h
  split at h
  · rename_i h2
    simp only [rmaB, wantB, Bool.and_eq_true] at h2
    exact h2.1.2.1
  · omega
theorem holdT_bd {line st : Int} : ∀ {l : List Wn}, (∀ w ∈ l, 1 ≤ w.qty ∧ w.qty ≤ 20 ∧ 0 ≤ w.got ∧ w.got ≤ w.qty) → 0 ≤ holdT line st l ∧ holdT line st l ≤ 20
  | [], _ => by simp [holdT]
  | w :: l, h => by
    have h1 := h w (by simp)
    have h2 := holdT_bd (line := line) (st := st) (l := l) fun w hw => h w (by simp [hw])
    rw [holdT]
    split
    · split <;> omega
    · exact h2
theorem holdF_bd (r : Rm) (line : Int) : 0 ≤ holdF r line ∧ holdF r line ≤ 20 := by
  unfold holdF
  split
  · rename_i h
    exact holdT_bd fun w hw => (wantT_bd (rma_want h) w hw).2.2
  · omega
def heldT (order line : Int) : List Rm → Int → Int
  | [], n => n
  | r :: l, n => if r.order = order then heldT order line l (n + holdF r line) else heldT order line l n
def rmsOk (l : List Rm) : Prop := l.length ≤ 1000000 ∧ ∀ r ∈ l, rmOk r
theorem f243 (s : Sta) (order line : Int) (hr : rmsOk s.rmas) : Fun P 243 [stA s, nV order, nV line] (nV (heldT order line s.rmas 0)) := by
  refine spec_of hT (f := 243) (fn := Go.Proofs.Tryz.f243) (c := body Go.Proofs.Tryz.f243) (by kernel_rfl) (by kernel_rfl) ?_
  have hr1 := hr.1
  generalize hR : heldT order line s.rmas 0 = R
  conv => whnf
  repeat refine go ?_
  refine ALoop.mk (fun n E H => ∃ (i : Nat) (k : Int), n = s.rmas.length - i ∧ i ≤ s.rmas.length ∧ 0 ≤ k ∧ k ≤ 20 * i ∧ heldT order line (s.rmas.drop i) k = R ∧
      E = pad [stA s, nV order, nV line, .ptr 0 0, .any, .any, nV 0, nV k, .any, .any, .any, rmsV s.rmas, nV s.rmas.length, nV i] 28 ∧ H = [.cells 44 (stC s)]) (n := s.rmas.length) _ _
    ⟨0, 0, rfl, Nat.zero_le _, by omega, by omega, hR, rfl, rfl⟩ (Conv.fit (by repeat' (first | exact Fit.nil | refine Fit.any ?_ | refine Fit.same ?_))) ?_
  rintro _ _ _ ⟨i, k, rfl, hi, hk0, hk1, hI, rfl, rfl⟩
  conv => whnf
  repeat refine go ?_
  refine ACond.dec (fun h => ?_) (fun h => ?_)
  · have hil : i < s.rmas.length := by omega
    have w1 : IntKind.wrap .i64 ((i : Int) + 1) = ((i + 1 : Nat) : Int) := by rw [wrap_i64 _ (by omega) (by omega)]; omega
    have hb := holdF_bd s.rmas[i] line
    have w2 : IntKind.wrap .i64 (k + holdF s.rmas[i] line) = k + holdF s.rmas[i] line := by rw [wrap_i64 _ (by omega) (by omega)]
    rw [List.drop_eq_getElem_cons hil, heldT] at hI
    conv => whnf
    repeat (first | refine go ?_ | ((first | refine AReq.mk (by omega) ?_ | refine AIdx.flat (enc := rmC) rmC_len (xs := s.rmas) (i := i) hil ?_ | refine ACall.val (by kernel_rfl) (f328 s.rmas[i] line (hr.2 _ (List.getElem_mem hil))) (by (first | rfl | (simp only [renL, AV.ren, List.nil_append, List.cons_append, rens]; try rfl))) rfl ?_); conv => whnf))
    refine ACond.dec (fun h5 => ?_) (fun h5 => ?_)
    · rw [if_pos h5] at hI
      conv => whnf
      repeat (first | refine go ?_ | ((first | refine AReq.mk (by omega) ?_ | refine AIdx.flat (enc := rmC) rmC_len (xs := s.rmas) (i := i) hil ?_ | refine ACall.val (by kernel_rfl) (f328 s.rmas[i] line (hr.2 _ (List.getElem_mem hil))) (by (first | rfl | (simp only [renL, AV.ren, List.nil_append, List.cons_append, rens]; try rfl))) rfl ?_); conv => whnf))
      rw [w1, w2]
      exact AHead.mk (s.rmas.length - (i + 1)) _ _ (by omega) ⟨i + 1, _, rfl, by omega, by omega, by omega, hI, rfl, rfl⟩ (Conv.ren [0] _ (by simp) (by simp) (by simp only [pad, renL, AV.ren, rens]; repeat' (first | exact Fit.nil | refine Fit.any ?_ | refine Fit.same ?_)) (.same (by simp only [ABlk.ren, stC_ren]; rfl) .nil))
    · rw [if_neg h5] at hI
      conv => whnf
      repeat (first | refine go ?_ | ((first | refine AReq.mk (by omega) ?_ | refine AIdx.flat (enc := rmC) rmC_len (xs := s.rmas) (i := i) hil ?_ | refine ACall.val (by kernel_rfl) (f328 s.rmas[i] line (hr.2 _ (List.getElem_mem hil))) (by (first | rfl | (simp only [renL, AV.ren, List.nil_append, List.cons_append, rens]; try rfl))) rfl ?_); conv => whnf))
      rw [w1]
      exact AHead.mk (s.rmas.length - (i + 1)) _ _ (by omega) ⟨i + 1, _, rfl, by omega, by omega, by omega, hI, rfl, rfl⟩ (Conv.ren [0] _ (by simp) (by simp) (by simp only [pad, renL, AV.ren, rens]; repeat' (first | exact Fit.nil | refine Fit.any ?_ | refine Fit.same ?_)) (.same (by simp only [ABlk.ren, stC_ren]; rfl) .nil))
  · rw [List.drop_of_length_le (by omega)] at hI
    conv => whnf
    repeat refine go ?_
    refine AOut.stay ?_
    conv => whnf
    repeat refine go ?_
    exact AFin.val rfl ⟨congrArg nV hI, rfl⟩
end Go.Aw.U1

set_option linter.unusedSimpArgs false
set_option linter.unusedVariables false
set_option maxHeartbeats 2000000
namespace Go.Aw.U1
open Go Go.Proofs

def findO (s : Sta) (id : Int) : Option Od := s.orders.find? (fun x => decide (x.id = id))
def odsOk (l : List Od) : Prop := l.length ≤ 1000000 ∧ ∀ o ∈ l, odOk o
def freeF (s : Sta) (order line : Int) : Int :=
  match findO s order with
  | none => 0
  | some o => match o.ls[line.toNat]? with
    | none => 0
    | some l => if 0 ≤ line then (l.ss.length : Int) - heldT order line s.rmas 0 else 0
theorem heldT_bd (order line : Int) : ∀ (l : List Rm) (n : Int), 0 ≤ n → n ≤ heldT order line l n ∧ heldT order line l n ≤ n + 20 * l.length
  | [], n, _ => by simp [heldT]
  | r :: l, n, hn => by
    have hb := holdF_bd r line
    rw [heldT, List.length_cons]
    split
    · have := heldT_bd order line l (n + holdF r line) (by omega); omega
    · have := heldT_bd order line l n hn; omega
theorem f161 (s : Sta) (order line : Int) (hr : rmsOk s.rmas) (ho : odsOk s.orders) : Fun P 161 [stA s, nV order, nV line] (nV (freeF s order line)) := by
  refine spec_of hT (f := 161) (fn := Go.Proofs.Tryz.f161) (c := body Go.Proofs.Tryz.f161) (by kernel_rfl) (by kernel_rfl) ?_
  generalize hR : freeF s order line = R
  have hb := heldT_bd order line s.rmas 0 (by omega)
  have hr1 := hr.1
  have hf9 := f108 s order ho.1
  rw [← findO] at hf9
  cases hfo : findO s order with
  | none =>
    rw [hfo] at hf9
    simp only [Option.getD_none, Option.isSome_none] at hf9
    have hz : 0 = R := by rw [← hR, freeF, hfo]
    conv => whnf
    repeat (first | refine go ?_ | (refine AW.plan (id := 4) hm (.one 0 (.one 2 (.one 8 (.one 9 (.imm 1 (.one 3 (.one 4 (.imm 5 (.one 6 (.one 7 (.one 10 (.one 11 (.one 12 .nil))))))))))))) (by kernel_rfl) ?_; conv => whnf))
    refine ACall.val (by kernel_rfl) hf9 (by (first | rfl | (simp only [renL, AV.ren, List.nil_append, List.cons_append, rens]; try rfl))) (by (first | rfl | (simp only [renL, AV.ren, List.nil_append, List.cons_append, rens]; try rfl))) ?_
    conv => whnf
    repeat (first | refine ru ?_ | (refine AW.plan (id := 4) hm (.one 0 (.one 2 (.one 8 (.one 9 (.imm 1 (.one 3 (.one 4 (.imm 5 (.one 6 (.one 7 (.one 10 (.one 11 (.one 12 .nil))))))))))))) (by kernel_rfl) ?_; conv => whnf))
    exact AFin.val rfl ⟨congrArg nV hz, rfl⟩
  | some o =>
    rw [hfo] at hf9
    simp only [Option.getD_some, Option.isSome_some] at hf9
    have hoo : odOk o := ho.2 _ (List.mem_of_find?_eq_some hfo)
    have hol := hoo.1
    conv => whnf
    repeat (first | refine go ?_ | (refine AW.plan (id := 4) hm (.one 0 (.one 2 (.one 8 (.one 9 (.imm 1 (.one 3 (.one 4 (.imm 5 (.one 6 (.one 7 (.one 10 (.one 11 (.one 12 .nil))))))))))))) (by kernel_rfl) ?_; conv => whnf))
    refine ACall.val (by kernel_rfl) hf9 (by (first | rfl | (simp only [renL, AV.ren, List.nil_append, List.cons_append, rens]; try rfl))) (by (first | rfl | (simp only [renL, AV.ren, List.nil_append, List.cons_append, rens]; try rfl))) ?_
    conv => whnf
    repeat (first | refine ru ?_ | (refine AW.plan (id := 4) hm (.one 0 (.one 2 (.one 8 (.one 9 (.imm 1 (.one 3 (.one 4 (.imm 5 (.one 6 (.one 7 (.one 10 (.one 11 (.one 12 .nil))))))))))))) (by kernel_rfl) ?_; conv => whnf))
    refine ASplit.dec (fun h1 => ?_) (fun h1 => ?_)
    · conv => whnf
      repeat (first | refine ru ?_ | (refine AW.plan (id := 4) hm (.one 0 (.one 2 (.one 8 (.one 9 (.imm 1 (.one 3 (.one 4 (.imm 5 (.one 6 (.one 7 (.one 10 (.one 11 (.one 12 .nil))))))))))))) (by kernel_rfl) ?_; conv => whnf))
      refine AFin.val rfl ⟨congrArg nV ?_, rfl⟩
      rw [← hR, freeF, hfo]
      simp only
      cases o.ls[line.toNat]? with
      | none => rfl
      | some l => exact (if_neg (by omega)).symm
    conv => whnf
    repeat (first | refine ru ?_ | (refine AW.plan (id := 4) hm (.one 0 (.one 2 (.one 8 (.one 9 (.imm 1 (.one 3 (.one 4 (.imm 5 (.one 6 (.one 7 (.one 10 (.one 11 (.one 12 .nil))))))))))))) (by kernel_rfl) ?_; conv => whnf))
    refine ACond.dec (fun h2 => ?_) (fun h2 => ?_)
    · conv => whnf
      repeat (first | refine ru ?_ | (refine AW.plan (id := 4) hm (.one 0 (.one 2 (.one 8 (.one 9 (.imm 1 (.one 3 (.one 4 (.imm 5 (.one 6 (.one 7 (.one 10 (.one 11 (.one 12 .nil))))))))))))) (by kernel_rfl) ?_; conv => whnf))
      refine AFin.val rfl ⟨congrArg nV ?_, rfl⟩
      rw [← hR, freeF, hfo]
      simp only
      rw [List.getElem?_eq_none (show o.ls.length ≤ line.toNat by omega)]
    have hlt : line.toNat < o.ls.length := by omega
    have hz : (o.ls[line.toNat].ss.length : Int) - heldT order line s.rmas 0 = R := by
      rw [← hR, freeF, hfo]
      simp only
      rw [List.getElem?_eq_getElem hlt]
      exact (if_pos (by omega)).symm
    have hss := (hoo.2 _ (List.getElem_mem hlt)).2
    refine AW.conv _ _ (Conv.freeze 1 rfl) ?_
    conv => whnf
    repeat (first | refine go ?_ | ((first | refine AW.plan (id := 4) hm (.one 0 (.one 2 (.one 8 (.one 9 (.imm 1 (.one 3 (.one 4 (.imm 5 (.one 6 (.one 7 (.one 10 (.one 11 (.one 12 .nil))))))))))))) (by kernel_rfl) ?_ | refine AReq.mk (by omega) ?_ | refine AIdx.flat (enc := lnC) lnC_len (xs := o.ls) (i := line.toNat) hlt ?_ | refine ACall.val (by kernel_rfl) (f243 s order line hr) (by (first | rfl | (simp only [renL, AV.ren, List.nil_append, List.cons_append, rens]; try rfl))) (by (first | rfl | (simp only [renL, AV.ren, List.nil_append, List.cons_append, rens]; try rfl))) ?_); conv => whnf))
    have w2 : IntKind.wrap .i64 ((o.ls[line.toNat].ss.length : Int) - heldT order line s.rmas 0) = (o.ls[line.toNat].ss.length : Int) - heldT order line s.rmas 0 := by rw [wrap_i64 _ (by omega) (by omega)]
    rw [w2]
    exact AFin.val rfl ⟨congrArg nV hz, rfl⟩
def muchB (o : Od) (w : Wn) : Bool :=
  match o.ls[w.line.toNat]? with
  | none => true
  | some l => decide ((l.ss.length : Int) < w.qty)
theorem f241 (o : Od) (w : Wn) (hw : 0 ≤ w.line) : Fun P 241 [wnA w, .ip (odC o)] (bV (muchB o w)) := by
  refine spec_of hT (f := 241) (fn := Go.Proofs.Tryz.f241) (c := body Go.Proofs.Tryz.f241) (by kernel_rfl) (by kernel_rfl) ?_
  unfold muchB
  conv => whnf
  repeat (first | refine go ?_ | (refine AW.plan (id := 1) hm (.one 0 (.one 2 (.one 3 (.one 4 (.one 1 (.one 5 (.one 6 (.one 7 (.one 9 (.one 11 (.one 10 (.one 12 (.one 13 (.one 14 (.one 15 (.one 16 (.one 8 (.one 17 (.one 18 (.one 19 .nil)))))))))))))))))))) (by kernel_rfl) ?_; conv => whnf))
  refine ASplit.dec (fun h1 => ?_) (fun h1 => ?_)
  · rw [List.getElem?_eq_none (show o.ls.length ≤ w.line.toNat by omega)]
    conv => whnf
    repeat (first | refine ru ?_ | (refine AW.plan (id := 1) hm (.one 0 (.one 2 (.one 3 (.one 4 (.one 1 (.one 5 (.one 6 (.one 7 (.one 9 (.one 11 (.one 10 (.one 12 (.one 13 (.one 14 (.one 15 (.one 16 (.one 8 (.one 17 (.one 18 (.one 19 .nil)))))))))))))))))))) (by kernel_rfl) ?_; conv => whnf))
    exact AFin.val rfl ⟨rfl, rfl⟩
  · have hlt : w.line.toNat < o.ls.length := by omega
    rw [List.getElem?_eq_getElem hlt]
    conv => whnf
    repeat (first | refine go ?_ | ((first | refine AW.plan (id := 1) hm (.one 0 (.one 2 (.one 3 (.one 4 (.one 1 (.one 5 (.one 6 (.one 7 (.one 9 (.one 11 (.one 10 (.one 12 (.one 13 (.one 14 (.one 15 (.one 16 (.one 8 (.one 17 (.one 18 (.one 19 .nil)))))))))))))))))))) (by kernel_rfl) ?_ | refine AReq.mk (by omega) ?_ | refine AIdx.flat (enc := lnC) lnC_len (xs := o.ls) (i := w.line.toNat) hlt ?_); conv => whnf))
    exact AFin.val rfl ⟨rfl, rfl⟩
def fitsB (r : Rm) (o : Od) : Bool := decide (rmaC r = 0) && decide (ordC o = 0) && decide (r.order = o.id) && !r.ws.any (muchB o)
theorem f160 (r : Rm) (o : Od) (hr : rmOk r) (ho : odOk o) : Fun P 160 [rmA r, odA o] (bV (fitsB r o)) := by
  refine spec_of hT (f := 160) (fn := Go.Proofs.Tryz.f160) (c := body Go.Proofs.Tryz.f160) (by kernel_rfl) (by kernel_rfl) ?_
  unfold fitsB
  conv => whnf
  repeat refine go ?_
  refine ACall.val (by kernel_rfl) (f240 r hr) (by (first | rfl | (simp only [renL, AV.ren, List.nil_append, List.cons_append, rens]; try rfl))) rfl ?_
  by_cases h1 : rmaC r = 0
  case neg =>
    rw [decide_eq_false h1]
    conv => whnf
    repeat refine go ?_
    refine ASplit.yes (by rw [decide_eq_false h1]; rfl) ?_
    conv => whnf
    repeat refine ru ?_
    exact AFin.val rfl ⟨rfl, rfl⟩
  rw [decide_eq_true h1]
  conv => whnf
  repeat refine go ?_
  refine ASplit.no (by rw [decide_eq_true h1]; rfl) ?_
  conv => whnf
  repeat refine go ?_
  refine ACall.val (by kernel_rfl) (f135 o ho) (by (first | rfl | (simp only [renL, AV.ren, List.nil_append, List.cons_append, rens]; try rfl))) rfl ?_
  by_cases h2 : ordC o = 0
  case neg =>
    rw [decide_eq_false h2]
    conv => whnf
    repeat refine go ?_
    refine ASplit.yes (by rw [decide_eq_false h2]; rfl) ?_
    conv => whnf
    repeat refine ru ?_
    exact AFin.val rfl ⟨rfl, rfl⟩
  rw [decide_eq_true h2]
  conv => whnf
  repeat refine go ?_
  refine ASplit.no (by rw [decide_eq_true h2]; rfl) ?_
  conv => whnf
  repeat refine go ?_
  by_cases h3 : r.order = o.id
  case neg =>
    rw [decide_eq_false h3]
    refine ACond.yes rfl ?_
    conv => whnf
    repeat refine ru ?_
    exact AFin.val rfl ⟨rfl, rfl⟩
  rw [decide_eq_true h3]
  refine ACond.no rfl ?_
  conv => whnf
  repeat refine go ?_
  refine ACall.clo (l := 1) (g := 241) (a := wnsV r.ws) (xs := odC o) (t := 119) rfl ?_
  refine ACall.val (by kernel_rfl) (f242 r.ws 241 [.ip (odC o)] (muchB o) hr (by kernel_rfl) (fun ρ => by simp only [renL, AV.ren, odC_ren]) (fun w hw => f241 o w (by have := (wantT_bd (rma_want h1) w hw).1; omega))) (by simp only [renL, AV.ren, odC_ren, wnsV_ren]) rfl ?_
  conv => whnf
  repeat refine go ?_
  exact AFin.val rfl ⟨rfl, rfl⟩
end Go.Aw.U1

set_option linter.unusedSimpArgs false
set_option linter.unusedVariables false
set_option maxHeartbeats 2000000
namespace Go.Aw.U1
open Go Go.Proofs

structure Sh where
  o : Int
  l : Int
  p : Int
  ok : Bool
def shA (x : Sh) : AV := .tup [nV x.o, nV x.l, nV x.p, bV x.ok]
def shL (s : ByteArray) : List Ln → Int → Option (Int × Int)
  | [], _ => none
  | l :: ls, i => if 0 ≤ idxF (fun x => s.toList == x.toList) l.ss 0 then some (i, idxF (fun x => s.toList == x.toList) l.ss 0) else shL s ls (i + 1)
def shT (s : ByteArray) : List Od → Sh
  | [] => ⟨0, 0, 0, false⟩
  | o :: os => match shL s o.ls 0 with
    | some p => ⟨o.id, p.1, p.2, true⟩
    | none => shT s os
def shM (id : Int) (x : Option (Int × Int)) (r : Sh) : Sh :=
  match x with
  | some p => ⟨id, p.1, p.2, true⟩
  | none => r
theorem shT_cons (s : ByteArray) (o : Od) (os : List Od) : shT s (o :: os) = shM o.id (shL s o.ls 0) (shT s os) := rfl
theorem f244 (t : Sta) (s : ByteArray) (ho : odsOk t.orders) : Fun P 244 [stA t, sV s] (shA (shT s t.orders)) := by
  refine spec_of hT (f := 244) (fn := Go.Proofs.Tryz.f244) (c := body Go.Proofs.Tryz.f244) (by kernel_rfl) (by kernel_rfl) ?_
  have ho1 := ho.1
  generalize hR : shT s t.orders = R
  conv => whnf
  repeat refine go ?_
  refine ALoop.mk (fun n E H => ∃ (i : Nat), n = t.orders.length - i ∧ i ≤ t.orders.length ∧ shT s (t.orders.drop i) = R ∧
      E = pad [stA t, sV s, .ptr 0 0, .any, nV 0, nV 0, nV 0, bV false, .any, .any, .any, .any, .any, .any, odsV t.orders, nV t.orders.length, nV i] 40 ∧ H = [.cells 44 (stC t)]) (n := t.orders.length) _ _
    ⟨0, rfl, Nat.zero_le _, hR, rfl, rfl⟩ (Conv.fit (by repeat' (first | exact Fit.nil | refine Fit.any ?_ | refine Fit.same ?_))) ?_
  rintro _ _ _ ⟨i, rfl, hi, hI, rfl, rfl⟩
  conv => whnf
  repeat refine go ?_
  refine ACond.dec (fun h => ?_) (fun h => ?_)
  · have hil : i < t.orders.length := by omega
    have w1 : IntKind.wrap .i64 ((i : Int) + 1) = ((i + 1 : Nat) : Int) := by rw [wrap_i64 _ (by omega) (by omega)]; omega
    rw [List.drop_eq_getElem_cons hil, shT_cons] at hI
    have hoo : odOk t.orders[i] := ho.2 _ (List.getElem_mem hil)
    generalize hoi : t.orders[i] = o at hI hoo
    have hol := hoo.1
    conv => whnf
    repeat (first | refine go ?_ | ((first | refine AReq.mk (by omega) ?_ | refine AIdx.flat (enc := odC) odC_len (xs := t.orders) (i := i) hil ?_); conv => whnf))
    rw [hoi]
    refine ALoop.mk (fun n E H => ∃ (k : Nat), n = o.ls.length - k ∧ k ≤ o.ls.length ∧ shM o.id (shL s (o.ls.drop k) k) (shT s (t.orders.drop (i + 1))) = R ∧
        E = pad [stA t, sV s, .ptr 0 0, .any, nV 0, nV 0, nV 0, bV false, .any, .ptr 1 0, .any, .any, .any, .any, odsV t.orders, nV t.orders.length, nV i, .any, .any, .any, .any, lnsV o.ls, nV o.ls.length, nV k] 40 ∧ H = [.cells 44 (stC t), .cells 119 (odC o)]) (n := o.ls.length) _ _
      ⟨0, rfl, Nat.zero_le _, hI, rfl, rfl⟩ (Conv.fit (by repeat' (first | exact Fit.nil | refine Fit.any ?_ | refine Fit.same ?_))) ?_
    rintro _ _ _ ⟨k, rfl, hk, hI, rfl, rfl⟩
    conv => whnf
    repeat refine go ?_
    refine ACond.dec (fun h2 => ?_) (fun h2 => ?_)
    · have hkl : k < o.ls.length := by omega
      have w2 : IntKind.wrap .i64 ((k : Int) + 1) = ((k + 1 : Nat) : Int) := by rw [wrap_i64 _ (by omega) (by omega)]; omega
      have hsk := (hoo.2 _ (List.getElem_mem hkl)).2
      rw [List.drop_eq_getElem_cons hkl, shL] at hI
      conv => whnf
      repeat (first | refine go ?_ | ((first | refine AReq.mk (by omega) ?_ | refine AIdx.flat (enc := lnC) lnC_len (xs := o.ls) (i := k) hkl ?_ | refine ACall.val (by kernel_rfl) (f329 o.ls[k].ss s hsk) (by (first | rfl | (simp only [renL, AV.ren, List.nil_append, List.cons_append, rens]; try rfl))) rfl ?_); conv => whnf))
      refine ACond.dec (fun h3 => ?_) (fun h3 => ?_)
      · rw [if_pos h3] at hI
        conv => whnf
        repeat (first | refine go ?_ | ((first | refine AReq.mk (by omega) ?_ | refine AIdx.flat (enc := lnC) lnC_len (xs := o.ls) (i := k) hkl ?_ | refine ACall.val (by kernel_rfl) (f329 o.ls[k].ss s hsk) (by (first | rfl | (simp only [renL, AV.ren, List.nil_append, List.cons_append, rens]; try rfl))) rfl ?_); conv => whnf))
        refine AOut.stay ?_
        conv => whnf
        repeat (first | refine go ?_ | ((first | refine AReq.mk (by omega) ?_ | refine AIdx.flat (enc := lnC) lnC_len (xs := o.ls) (i := k) hkl ?_ | refine ACall.val (by kernel_rfl) (f329 o.ls[k].ss s hsk) (by (first | rfl | (simp only [renL, AV.ren, List.nil_append, List.cons_append, rens]; try rfl))) rfl ?_); conv => whnf))
        refine AOut.stay ?_
        conv => whnf
        repeat (first | refine go ?_ | ((first | refine AReq.mk (by omega) ?_ | refine AIdx.flat (enc := lnC) lnC_len (xs := o.ls) (i := k) hkl ?_ | refine ACall.val (by kernel_rfl) (f329 o.ls[k].ss s hsk) (by (first | rfl | (simp only [renL, AV.ren, List.nil_append, List.cons_append, rens]; try rfl))) rfl ?_); conv => whnf))
        exact AFin.val rfl ⟨congrArg shA hI, rfl⟩
      · rw [if_neg h3] at hI
        conv => whnf
        repeat (first | refine go ?_ | ((first | refine AReq.mk (by omega) ?_ | refine AIdx.flat (enc := lnC) lnC_len (xs := o.ls) (i := k) hkl ?_ | refine ACall.val (by kernel_rfl) (f329 o.ls[k].ss s hsk) (by (first | rfl | (simp only [renL, AV.ren, List.nil_append, List.cons_append, rens]; try rfl))) rfl ?_); conv => whnf))
        rw [w2]
        exact AHead.mk (o.ls.length - (k + 1)) _ _ (by omega) ⟨k + 1, rfl, by omega, hI, rfl, rfl⟩ (Conv.ren [0, 1] _ (by simp) (by simp) (by simp only [pad, renL, AV.ren, rens]; repeat' (first | exact Fit.nil | refine Fit.any ?_ | refine Fit.same ?_)) (.same (by simp only [ABlk.ren, stC_ren]; rfl) (.same (by simp only [ABlk.ren, odC_ren]; rfl) .nil)))
    · rw [List.drop_of_length_le (by omega)] at hI
      conv => whnf
      repeat refine go ?_
      refine AOut.stay ?_
      conv => whnf
      repeat refine go ?_
      rw [w1]
      exact AHead.mk (t.orders.length - (i + 1)) _ _ (by omega) ⟨i + 1, rfl, by omega, hI, rfl, rfl⟩ (Conv.ren [0] _ (by simp) (by simp) (by simp only [pad, renL, AV.ren, rens]; repeat' (first | exact Fit.nil | refine Fit.any ?_ | refine Fit.same ?_)) (.same (by simp only [ABlk.ren, stC_ren]; rfl) .nil))
  · rw [List.drop_of_length_le (by omega)] at hI
    conv => whnf
    repeat refine go ?_
    refine AOut.stay ?_
    conv => whnf
    repeat refine go ?_
    exact AFin.val rfl ⟨congrArg shA hI, rfl⟩
theorem flat_len {α : Type} {enc : α → List AV} {n : Nat} (h : ∀ x, (enc x).length = n) : ∀ l : List α, (l.flatMap enc).length = l.length * n
  | [] => by simp
  | x :: l => by rw [List.flatMap_cons, List.length_append, h, flat_len h l, List.length_cons, Nat.add_mul]; omega
def serF (o : Od) : List ByteArray := if ordC o = 0 then o.ls.flatMap (·.ss) else []
theorem f56 (o : Od) (ho : odOk o) : Fun P 56 [odA o] (ssV (serF o)) := by
  refine spec_of hT (f := 56) (fn := Go.Proofs.Tryz.f56) (c := body Go.Proofs.Tryz.f56) (by kernel_rfl) (by kernel_rfl) ?_
  unfold serF
  have hol := ho.1
  conv => whnf
  repeat refine go ?_
  refine ACall.val (by kernel_rfl) (f135 o ho) (by (first | rfl | (simp only [renL, AV.ren, List.nil_append, List.cons_append, rens]; try rfl))) rfl ?_
  conv => whnf
  repeat refine go ?_
  refine ACond.ndec (fun h4 => ?_) (fun h4 => ?_)
  · rw [if_neg h4]
    conv => whnf
    repeat refine go ?_
    exact AFin.to (ssV []) [] (Conv.out .nil (fun ρ => by (first | rfl | (simp only [renL, AV.ren, List.nil_append, List.cons_append, rens]; try rfl)))) ⟨rfl, rfl⟩
  rw [if_pos h4]
  generalize hR : o.ls.flatMap (·.ss) = R
  have hb9 : (T 9).bytes = 16 := by kernel_rfl
  conv => whnf
  repeat refine go ?_
  refine ALoop.mk (fun n E H => ∃ (i : Nat) (acc : List ByteArray), n = o.ls.length - i ∧ i ≤ o.ls.length ∧ acc.length ≤ 1000000 * i ∧ acc ++ (o.ls.drop i).flatMap (·.ss) = R ∧
      E = pad [odA o, .ptr 0 0, .any, .ms 1 1 0 acc.length, .any, .any, .any, .any, .any, .any, lnsV o.ls, nV o.ls.length, nV i] 22 ∧ H = [.cells 119 (odC o), .cells 9 (acc.flatMap sC)]) (n := o.ls.length) _ _
    ⟨0, [], rfl, Nat.zero_le _, by simp, hR, rfl, rfl⟩ (Conv.own (sz := 1) 9 (by repeat' (first | exact FitN.nil | refine FitN.any ?_ | refine FitN.own ?_ | refine FitN.same ?_))) ?_
  rintro _ _ _ ⟨i, acc, rfl, hi, ha, hI, rfl, rfl⟩
  have fl1 := flat_len sC_len acc
  conv => whnf
  repeat refine go ?_
  refine ACond.dec (fun h => ?_) (fun h => ?_)
  · have hil : i < o.ls.length := by omega
    have w1 : IntKind.wrap .i64 ((i : Int) + 1) = ((i + 1 : Nat) : Int) := by rw [wrap_i64 _ (by omega) (by omega)]; omega
    have hss := (ho.2 _ (List.getElem_mem hil)).2
    rw [List.drop_eq_getElem_cons hil, List.flatMap_cons, ← List.append_assoc] at hI
    conv => whnf
    repeat (first | refine go ?_ | ((first | refine AReq.mk (by omega) ?_ | refine AIdx.flat (enc := lnC) lnC_len (xs := o.ls) (i := i) hil ?_ | refine AReq.mk (by rw [hb9]; omega) ?_); conv => whnf))
    rw [w1]
    refine AHead.mk (o.ls.length - (i + 1)) _ _ (by omega) ⟨i + 1, acc ++ o.ls[i].ss, rfl, by omega, by rw [List.length_append]; omega, hI, rfl, rfl⟩ ?_
    rw [List.length_append, List.flatMap_append]
    exact Conv.ren [0, 3] _ (by simp) (by decide) (by simp only [pad, renL, AV.ren, rens]; repeat' (first | exact Fit.nil | refine Fit.any ?_ | refine Fit.same ?_)) (.same (by simp only [ABlk.ren, odC_ren]; rfl) (.same (by simp only [ABlk.ren, renL_append, fr_s]; rfl) .nil))
  · rw [List.drop_of_length_le (by omega), List.flatMap_nil, List.append_nil] at hI
    subst hI
    conv => whnf
    repeat refine go ?_
    refine AOut.stay ?_
    conv => whnf
    repeat refine go ?_
    exact AFin.to (ssV acc) [] (Conv.out (.sm' rfl (by omega) rfl rfl) (fun ρ => by (first | rfl | (simp only [renL, AV.ren, List.nil_append, List.cons_append, rens]; try rfl)))) ⟨rfl, rfl⟩
end Go.Aw.U1

set_option linter.unusedSimpArgs false
set_option linter.unusedVariables false
set_option maxHeartbeats 2000000
namespace Go.Aw.U1
open Go Go.Proofs

theorem rep_flat (n : Nat) : (List.replicate n [nV 0]).flatten = (List.replicate n (0 : Int)).flatMap iC := by
  induction n with
  | zero => rfl
  | succ n ih => rw [List.replicate_succ, List.replicate_succ, List.flatten_cons, List.flatMap_cons, ih]; rfl
theorem rep_flatS (n : Nat) : (List.replicate n [sV eS]).flatten = (List.replicate n eS).flatMap sC := by
  induction n with
  | zero => rfl
  | succ n ih => rw [List.replicate_succ, List.replicate_succ, List.flatten_cons, List.flatMap_cons, ih]; rfl

theorem f140 (x : Wk) : Fun P 140 [.agg (wkC x)] (nV x.id) := by
  refine spec_of hT (f := 140) (fn := Go.Proofs.Tryz.f140) (c := body Go.Proofs.Tryz.f140) (by kernel_rfl) (by kernel_rfl) ?_
  conv => whnf
  repeat' (first | refine go ?_ | ((first | refine ASplit.yes rfl ?_ | refine ASplit.no rfl ?_ | refine ACond.yes rfl ?_ | refine ACond.no rfl ?_ | refine ASplit.dec (fun _ => ?_) (fun _ => ?_) | refine ASplit.ndec (fun _ => ?_) (fun _ => ?_) | refine ACond.dec (fun _ => ?_) (fun _ => ?_) | refine ACond.ndec (fun _ => ?_) (fun _ => ?_)) <;> conv => whnf))
  all_goals exact AFin.val rfl ⟨rfl, rfl⟩
theorem f139 (l : List Wk) (hl : l.length ≤ 1000000) : Fun P 139 [wksV l, .fn 140 [] []] (isV (l.map (·.id))) := by
  refine spec_of hT (f := 139) (fn := Go.Proofs.Tryz.f139) (c := body Go.Proofs.Tryz.f139) (by kernel_rfl) (by kernel_rfl) ?_
  have hb3 : (T 3).bytes = 8 := by kernel_rfl
  have hml : (l.map (·.id)).length = (List.replicate l.length (0 : Int)).length := by simp
  conv => whnf
  repeat (first | refine go ?_ | (refine AReq.mk (by rw [hb3]; omega) ?_; conv => whnf))
  refine ALoop.mk (fun n E H => ∃ i : Nat, n = l.length - i ∧ i ≤ l.length ∧
      E = pad [wksV l, .fn 140 [] [], .any, .any, .any, .ms 1 0 0 l.length, .any, .any, .any, .any, .any, wksV l, nV l.length, nV i] 26 ∧ H = [.cells 3 ((mix (l.map (·.id)) (List.replicate l.length (0 : Int)) i).flatMap iC)]) (n := l.length) _ _
    ⟨0, rfl, Nat.zero_le _, rfl, ?_⟩ (Conv.fit (by repeat' (first | exact Fit.nil | refine Fit.any ?_ | refine Fit.same ?_))) ?_
  · rw [mix_zero, ← rep_flat]; rfl
  rintro _ _ _ ⟨i, rfl, hi, rfl, rfl⟩
  conv => whnf
  repeat refine go ?_
  refine ACond.dec (fun h => ?_) (fun h => ?_)
  · have hil : i < l.length := by omega
    have w1 : IntKind.wrap .i64 ((i : Int) + 1) = ((i + 1 : Nat) : Int) := by rw [wrap_i64 _ (by omega) (by omega)]; omega
    have hmx : (mix (l.map (·.id)) (List.replicate l.length (0 : Int)) i).length = l.length := by rw [mix_len hml]; simp
    have hst := mix_set hml (i := i) (by simpa using hil)
    conv => whnf
    repeat (first | refine go ?_ | ((first | refine AReq.mk (by omega) ?_ | refine AIdx.flat (enc := wkC) wkC_len (xs := l) (i := i) hil ?_ | refine ACall.val (args := [.agg (wkC l[i])]) (by kernel_rfl) (f140 l[i]) (by (first | rfl | (simp only [renL, AV.ren, List.nil_append, List.cons_append, rens]; try rfl))) rfl ?_); conv => whnf))
    refine AReq.mk rfl ?_
    refine AUpd.flat iC_len i l[i].id ?_ (by rw [hmx]; exact hil) rfl ?_
    · simp
    rw [show (mix (l.map (·.id)) (List.replicate l.length (0 : Int)) i).set i l[i].id = mix (l.map (·.id)) (List.replicate l.length (0 : Int)) (i + 1) by rw [← hst, List.getElem_map]]
    conv => whnf
    repeat (first | refine go ?_ | ((first | refine AReq.mk (by omega) ?_ | refine AIdx.flat (enc := wkC) wkC_len (xs := l) (i := i) hil ?_ | refine ACall.val (args := [.agg (wkC l[i])]) (by kernel_rfl) (f140 l[i]) (by (first | rfl | (simp only [renL, AV.ren, List.nil_append, List.cons_append, rens]; try rfl))) rfl ?_); conv => whnf))
    rw [w1]
    exact AHead.mk (l.length - (i + 1)) _ _ (by omega) ⟨i + 1, rfl, by omega, rfl, rfl⟩ (Conv.ren [0] _ (by simp) (by simp) (by simp only [pad, renL, AV.ren, rens]; repeat' (first | exact Fit.nil | refine Fit.any ?_ | refine Fit.same ?_)) (.same (by simp only [ABlk.ren, fr_i]; rfl) .nil))
  · obtain rfl : i = l.length := by omega
    rw [mix_all (by simp) (by simp)]
    conv => whnf
    repeat refine go ?_
    refine AOut.stay ?_
    conv => whnf
    repeat refine go ?_
    exact AFin.to (isV (l.map (·.id))) [] (Conv.out (.sm' rfl (by rw [flat_len iC_len]) rfl (by simp)) (fun ρ => by (first | rfl | (simp only [renL, AV.ren, List.nil_append, List.cons_append, rens]; try rfl)))) ⟨rfl, rfl⟩

theorem f142 (x : Cl) : Fun P 142 [.agg (clC x)] (nV x.id) := by
  refine spec_of hT (f := 142) (fn := Go.Proofs.Tryz.f142) (c := body Go.Proofs.Tryz.f142) (by kernel_rfl) (by kernel_rfl) ?_
  conv => whnf
  repeat' (first | refine go ?_ | ((first | refine ASplit.yes rfl ?_ | refine ASplit.no rfl ?_ | refine ACond.yes rfl ?_ | refine ACond.no rfl ?_ | refine ASplit.dec (fun _ => ?_) (fun _ => ?_) | refine ASplit.ndec (fun _ => ?_) (fun _ => ?_) | refine ACond.dec (fun _ => ?_) (fun _ => ?_) | refine ACond.ndec (fun _ => ?_) (fun _ => ?_)) <;> conv => whnf))
  all_goals exact AFin.val rfl ⟨rfl, rfl⟩
theorem f141 (l : List Cl) (hl : l.length ≤ 1000000) : Fun P 141 [clsV l, .fn 142 [] []] (isV (l.map (·.id))) := by
  refine spec_of hT (f := 141) (fn := Go.Proofs.Tryz.f141) (c := body Go.Proofs.Tryz.f141) (by kernel_rfl) (by kernel_rfl) ?_
  have hb3 : (T 3).bytes = 8 := by kernel_rfl
  have hml : (l.map (·.id)).length = (List.replicate l.length (0 : Int)).length := by simp
  conv => whnf
  repeat (first | refine go ?_ | (refine AReq.mk (by rw [hb3]; omega) ?_; conv => whnf))
  refine ALoop.mk (fun n E H => ∃ i : Nat, n = l.length - i ∧ i ≤ l.length ∧
      E = pad [clsV l, .fn 142 [] [], .any, .any, .any, .ms 1 0 0 l.length, .any, .any, .any, .any, .any, clsV l, nV l.length, nV i] 26 ∧ H = [.cells 3 ((mix (l.map (·.id)) (List.replicate l.length (0 : Int)) i).flatMap iC)]) (n := l.length) _ _
    ⟨0, rfl, Nat.zero_le _, rfl, ?_⟩ (Conv.fit (by repeat' (first | exact Fit.nil | refine Fit.any ?_ | refine Fit.same ?_))) ?_
  · rw [mix_zero, ← rep_flat]; rfl
  rintro _ _ _ ⟨i, rfl, hi, rfl, rfl⟩
  conv => whnf
  repeat refine go ?_
  refine ACond.dec (fun h => ?_) (fun h => ?_)
  · have hil : i < l.length := by omega
    have w1 : IntKind.wrap .i64 ((i : Int) + 1) = ((i + 1 : Nat) : Int) := by rw [wrap_i64 _ (by omega) (by omega)]; omega
    have hmx : (mix (l.map (·.id)) (List.replicate l.length (0 : Int)) i).length = l.length := by rw [mix_len hml]; simp
    have hst := mix_set hml (i := i) (by simpa using hil)
    conv => whnf
    repeat (first | refine go ?_ | ((first | refine AReq.mk (by omega) ?_ | refine AIdx.flat (enc := clC) clC_len (xs := l) (i := i) hil ?_ | refine ACall.val (args := [.agg (clC l[i])]) (by kernel_rfl) (f142 l[i]) (by (first | rfl | (simp only [renL, AV.ren, List.nil_append, List.cons_append, rens]; try rfl))) rfl ?_); conv => whnf))
    refine AReq.mk rfl ?_
    refine AUpd.flat iC_len i l[i].id ?_ (by rw [hmx]; exact hil) rfl ?_
    · simp
    rw [show (mix (l.map (·.id)) (List.replicate l.length (0 : Int)) i).set i l[i].id = mix (l.map (·.id)) (List.replicate l.length (0 : Int)) (i + 1) by rw [← hst, List.getElem_map]]
    conv => whnf
    repeat (first | refine go ?_ | ((first | refine AReq.mk (by omega) ?_ | refine AIdx.flat (enc := clC) clC_len (xs := l) (i := i) hil ?_ | refine ACall.val (args := [.agg (clC l[i])]) (by kernel_rfl) (f142 l[i]) (by (first | rfl | (simp only [renL, AV.ren, List.nil_append, List.cons_append, rens]; try rfl))) rfl ?_); conv => whnf))
    rw [w1]
    exact AHead.mk (l.length - (i + 1)) _ _ (by omega) ⟨i + 1, rfl, by omega, rfl, rfl⟩ (Conv.ren [0] _ (by simp) (by simp) (by simp only [pad, renL, AV.ren, rens]; repeat' (first | exact Fit.nil | refine Fit.any ?_ | refine Fit.same ?_)) (.same (by simp only [ABlk.ren, fr_i]; rfl) .nil))
  · obtain rfl : i = l.length := by omega
    rw [mix_all (by simp) (by simp)]
    conv => whnf
    repeat refine go ?_
    refine AOut.stay ?_
    conv => whnf
    repeat refine go ?_
    exact AFin.to (isV (l.map (·.id))) [] (Conv.out (.sm' rfl (by rw [flat_len iC_len]) rfl (by simp)) (fun ρ => by (first | rfl | (simp only [renL, AV.ren, List.nil_append, List.cons_append, rens]; try rfl)))) ⟨rfl, rfl⟩

theorem f144 (x : Mo) : Fun P 144 [.agg (moC x)] (nV x.id) := by
  refine spec_of hT (f := 144) (fn := Go.Proofs.Tryz.f144) (c := body Go.Proofs.Tryz.f144) (by kernel_rfl) (by kernel_rfl) ?_
  conv => whnf
  repeat' (first | refine go ?_ | ((first | refine ASplit.yes rfl ?_ | refine ASplit.no rfl ?_ | refine ACond.yes rfl ?_ | refine ACond.no rfl ?_ | refine ASplit.dec (fun _ => ?_) (fun _ => ?_) | refine ASplit.ndec (fun _ => ?_) (fun _ => ?_) | refine ACond.dec (fun _ => ?_) (fun _ => ?_) | refine ACond.ndec (fun _ => ?_) (fun _ => ?_)) <;> conv => whnf))
  all_goals exact AFin.val rfl ⟨rfl, rfl⟩
theorem f143 (l : List Mo) (hl : l.length ≤ 1000000) : Fun P 143 [mosV l, .fn 144 [] []] (isV (l.map (·.id))) := by
  refine spec_of hT (f := 143) (fn := Go.Proofs.Tryz.f143) (c := body Go.Proofs.Tryz.f143) (by kernel_rfl) (by kernel_rfl) ?_
  have hb3 : (T 3).bytes = 8 := by kernel_rfl
  have hml : (l.map (·.id)).length = (List.replicate l.length (0 : Int)).length := by simp
  conv => whnf
  repeat (first | refine go ?_ | (refine AReq.mk (by rw [hb3]; omega) ?_; conv => whnf))
  refine ALoop.mk (fun n E H => ∃ i : Nat, n = l.length - i ∧ i ≤ l.length ∧
      E = pad [mosV l, .fn 144 [] [], .any, .any, .any, .ms 1 0 0 l.length, .any, .any, .any, .any, .any, mosV l, nV l.length, nV i] 26 ∧ H = [.cells 3 ((mix (l.map (·.id)) (List.replicate l.length (0 : Int)) i).flatMap iC)]) (n := l.length) _ _
    ⟨0, rfl, Nat.zero_le _, rfl, ?_⟩ (Conv.fit (by repeat' (first | exact Fit.nil | refine Fit.any ?_ | refine Fit.same ?_))) ?_
  · rw [mix_zero, ← rep_flat]; rfl
  rintro _ _ _ ⟨i, rfl, hi, rfl, rfl⟩
  conv => whnf
  repeat refine go ?_
  refine ACond.dec (fun h => ?_) (fun h => ?_)
  · have hil : i < l.length := by omega
    have w1 : IntKind.wrap .i64 ((i : Int) + 1) = ((i + 1 : Nat) : Int) := by rw [wrap_i64 _ (by omega) (by omega)]; omega
    have hmx : (mix (l.map (·.id)) (List.replicate l.length (0 : Int)) i).length = l.length := by rw [mix_len hml]; simp
    have hst := mix_set hml (i := i) (by simpa using hil)
    conv => whnf
    repeat (first | refine go ?_ | ((first | refine AReq.mk (by omega) ?_ | refine AIdx.flat (enc := moC) moC_len (xs := l) (i := i) hil ?_ | refine ACall.val (args := [.agg (moC l[i])]) (by kernel_rfl) (f144 l[i]) (by (first | rfl | (simp only [renL, AV.ren, List.nil_append, List.cons_append, rens]; try rfl))) rfl ?_); conv => whnf))
    refine AReq.mk rfl ?_
    refine AUpd.flat iC_len i l[i].id ?_ (by rw [hmx]; exact hil) rfl ?_
    · simp
    rw [show (mix (l.map (·.id)) (List.replicate l.length (0 : Int)) i).set i l[i].id = mix (l.map (·.id)) (List.replicate l.length (0 : Int)) (i + 1) by rw [← hst, List.getElem_map]]
    conv => whnf
    repeat (first | refine go ?_ | ((first | refine AReq.mk (by omega) ?_ | refine AIdx.flat (enc := moC) moC_len (xs := l) (i := i) hil ?_ | refine ACall.val (args := [.agg (moC l[i])]) (by kernel_rfl) (f144 l[i]) (by (first | rfl | (simp only [renL, AV.ren, List.nil_append, List.cons_append, rens]; try rfl))) rfl ?_); conv => whnf))
    rw [w1]
    exact AHead.mk (l.length - (i + 1)) _ _ (by omega) ⟨i + 1, rfl, by omega, rfl, rfl⟩ (Conv.ren [0] _ (by simp) (by simp) (by simp only [pad, renL, AV.ren, rens]; repeat' (first | exact Fit.nil | refine Fit.any ?_ | refine Fit.same ?_)) (.same (by simp only [ABlk.ren, fr_i]; rfl) .nil))
  · obtain rfl : i = l.length := by omega
    rw [mix_all (by simp) (by simp)]
    conv => whnf
    repeat refine go ?_
    refine AOut.stay ?_
    conv => whnf
    repeat refine go ?_
    exact AFin.to (isV (l.map (·.id))) [] (Conv.out (.sm' rfl (by rw [flat_len iC_len]) rfl (by simp)) (fun ρ => by (first | rfl | (simp only [renL, AV.ren, List.nil_append, List.cons_append, rens]; try rfl)))) ⟨rfl, rfl⟩

theorem f146 (x : Rm) : Fun P 146 [.agg (rmC x)] (nV x.id) := by
  refine spec_of hT (f := 146) (fn := Go.Proofs.Tryz.f146) (c := body Go.Proofs.Tryz.f146) (by kernel_rfl) (by kernel_rfl) ?_
  conv => whnf
  repeat' (first | refine go ?_ | ((first | refine ASplit.yes rfl ?_ | refine ASplit.no rfl ?_ | refine ACond.yes rfl ?_ | refine ACond.no rfl ?_ | refine ASplit.dec (fun _ => ?_) (fun _ => ?_) | refine ASplit.ndec (fun _ => ?_) (fun _ => ?_) | refine ACond.dec (fun _ => ?_) (fun _ => ?_) | refine ACond.ndec (fun _ => ?_) (fun _ => ?_)) <;> conv => whnf))
  all_goals exact AFin.val rfl ⟨rfl, rfl⟩
theorem f145 (l : List Rm) (hl : l.length ≤ 1000000) : Fun P 145 [rmsV l, .fn 146 [] []] (isV (l.map (·.id))) := by
  refine spec_of hT (f := 145) (fn := Go.Proofs.Tryz.f145) (c := body Go.Proofs.Tryz.f145) (by kernel_rfl) (by kernel_rfl) ?_
  have hb3 : (T 3).bytes = 8 := by kernel_rfl
  have hml : (l.map (·.id)).length = (List.replicate l.length (0 : Int)).length := by simp
  conv => whnf
  repeat (first | refine go ?_ | (refine AReq.mk (by rw [hb3]; omega) ?_; conv => whnf))
  refine ALoop.mk (fun n E H => ∃ i : Nat, n = l.length - i ∧ i ≤ l.length ∧
      E = pad [rmsV l, .fn 146 [] [], .any, .any, .any, .ms 1 0 0 l.length, .any, .any, .any, .any, .any, rmsV l, nV l.length, nV i] 26 ∧ H = [.cells 3 ((mix (l.map (·.id)) (List.replicate l.length (0 : Int)) i).flatMap iC)]) (n := l.length) _ _
    ⟨0, rfl, Nat.zero_le _, rfl, ?_⟩ (Conv.fit (by repeat' (first | exact Fit.nil | refine Fit.any ?_ | refine Fit.same ?_))) ?_
  · rw [mix_zero, ← rep_flat]; rfl
  rintro _ _ _ ⟨i, rfl, hi, rfl, rfl⟩
  conv => whnf
  repeat refine go ?_
  refine ACond.dec (fun h => ?_) (fun h => ?_)
  · have hil : i < l.length := by omega
    have w1 : IntKind.wrap .i64 ((i : Int) + 1) = ((i + 1 : Nat) : Int) := by rw [wrap_i64 _ (by omega) (by omega)]; omega
    have hmx : (mix (l.map (·.id)) (List.replicate l.length (0 : Int)) i).length = l.length := by rw [mix_len hml]; simp
    have hst := mix_set hml (i := i) (by simpa using hil)
    conv => whnf
    repeat (first | refine go ?_ | ((first | refine AReq.mk (by omega) ?_ | refine AIdx.flat (enc := rmC) rmC_len (xs := l) (i := i) hil ?_ | refine ACall.val (args := [.agg (rmC l[i])]) (by kernel_rfl) (f146 l[i]) (by (first | rfl | (simp only [renL, AV.ren, List.nil_append, List.cons_append, rens]; try rfl))) rfl ?_); conv => whnf))
    refine AReq.mk rfl ?_
    refine AUpd.flat iC_len i l[i].id ?_ (by rw [hmx]; exact hil) rfl ?_
    · simp
    rw [show (mix (l.map (·.id)) (List.replicate l.length (0 : Int)) i).set i l[i].id = mix (l.map (·.id)) (List.replicate l.length (0 : Int)) (i + 1) by rw [← hst, List.getElem_map]]
    conv => whnf
    repeat (first | refine go ?_ | ((first | refine AReq.mk (by omega) ?_ | refine AIdx.flat (enc := rmC) rmC_len (xs := l) (i := i) hil ?_ | refine ACall.val (args := [.agg (rmC l[i])]) (by kernel_rfl) (f146 l[i]) (by (first | rfl | (simp only [renL, AV.ren, List.nil_append, List.cons_append, rens]; try rfl))) rfl ?_); conv => whnf))
    rw [w1]
    exact AHead.mk (l.length - (i + 1)) _ _ (by omega) ⟨i + 1, rfl, by omega, rfl, rfl⟩ (Conv.ren [0] _ (by simp) (by simp) (by simp only [pad, renL, AV.ren, rens]; repeat' (first | exact Fit.nil | refine Fit.any ?_ | refine Fit.same ?_)) (.same (by simp only [ABlk.ren, fr_i]; rfl) .nil))
  · obtain rfl : i = l.length := by omega
    rw [mix_all (by simp) (by simp)]
    conv => whnf
    repeat refine go ?_
    refine AOut.stay ?_
    conv => whnf
    repeat refine go ?_
    exact AFin.to (isV (l.map (·.id))) [] (Conv.out (.sm' rfl (by rw [flat_len iC_len]) rfl (by simp)) (fun ρ => by (first | rfl | (simp only [renL, AV.ren, List.nil_append, List.cons_append, rens]; try rfl)))) ⟨rfl, rfl⟩

theorem f150 (x : It) : Fun P 150 [.agg (itC x)] (nV x.id) := by
  refine spec_of hT (f := 150) (fn := Go.Proofs.Tryz.f150) (c := body Go.Proofs.Tryz.f150) (by kernel_rfl) (by kernel_rfl) ?_
  conv => whnf
  repeat' (first | refine go ?_ | ((first | refine ASplit.yes rfl ?_ | refine ASplit.no rfl ?_ | refine ACond.yes rfl ?_ | refine ACond.no rfl ?_ | refine ASplit.dec (fun _ => ?_) (fun _ => ?_) | refine ASplit.ndec (fun _ => ?_) (fun _ => ?_) | refine ACond.dec (fun _ => ?_) (fun _ => ?_) | refine ACond.ndec (fun _ => ?_) (fun _ => ?_)) <;> conv => whnf))
  all_goals exact AFin.val rfl ⟨rfl, rfl⟩
theorem f149 (l : List It) (hl : l.length ≤ 1000000) : Fun P 149 [itsV l, .fn 150 [] []] (isV (l.map (·.id))) := by
  refine spec_of hT (f := 149) (fn := Go.Proofs.Tryz.f149) (c := body Go.Proofs.Tryz.f149) (by kernel_rfl) (by kernel_rfl) ?_
  have hb3 : (T 3).bytes = 8 := by kernel_rfl
  have hml : (l.map (·.id)).length = (List.replicate l.length (0 : Int)).length := by simp
  conv => whnf
  repeat (first | refine go ?_ | (refine AReq.mk (by rw [hb3]; omega) ?_; conv => whnf))
  refine ALoop.mk (fun n E H => ∃ i : Nat, n = l.length - i ∧ i ≤ l.length ∧
      E = pad [itsV l, .fn 150 [] [], .any, .any, .any, .ms 1 0 0 l.length, .any, .any, .any, .any, .any, itsV l, nV l.length, nV i] 26 ∧ H = [.cells 3 ((mix (l.map (·.id)) (List.replicate l.length (0 : Int)) i).flatMap iC)]) (n := l.length) _ _
    ⟨0, rfl, Nat.zero_le _, rfl, ?_⟩ (Conv.fit (by repeat' (first | exact Fit.nil | refine Fit.any ?_ | refine Fit.same ?_))) ?_
  · rw [mix_zero, ← rep_flat]; rfl
  rintro _ _ _ ⟨i, rfl, hi, rfl, rfl⟩
  conv => whnf
  repeat refine go ?_
  refine ACond.dec (fun h => ?_) (fun h => ?_)
  · have hil : i < l.length := by omega
    have w1 : IntKind.wrap .i64 ((i : Int) + 1) = ((i + 1 : Nat) : Int) := by rw [wrap_i64 _ (by omega) (by omega)]; omega
    have hmx : (mix (l.map (·.id)) (List.replicate l.length (0 : Int)) i).length = l.length := by rw [mix_len hml]; simp
    have hst := mix_set hml (i := i) (by simpa using hil)
    conv => whnf
    repeat (first | refine go ?_ | ((first | refine AReq.mk (by omega) ?_ | refine AIdx.flat (enc := itC) itC_len (xs := l) (i := i) hil ?_ | refine ACall.val (args := [.agg (itC l[i])]) (by kernel_rfl) (f150 l[i]) (by (first | rfl | (simp only [renL, AV.ren, List.nil_append, List.cons_append, rens]; try rfl))) rfl ?_); conv => whnf))
    refine AReq.mk rfl ?_
    refine AUpd.flat iC_len i l[i].id ?_ (by rw [hmx]; exact hil) rfl ?_
    · simp
    rw [show (mix (l.map (·.id)) (List.replicate l.length (0 : Int)) i).set i l[i].id = mix (l.map (·.id)) (List.replicate l.length (0 : Int)) (i + 1) by rw [← hst, List.getElem_map]]
    conv => whnf
    repeat (first | refine go ?_ | ((first | refine AReq.mk (by omega) ?_ | refine AIdx.flat (enc := itC) itC_len (xs := l) (i := i) hil ?_ | refine ACall.val (args := [.agg (itC l[i])]) (by kernel_rfl) (f150 l[i]) (by (first | rfl | (simp only [renL, AV.ren, List.nil_append, List.cons_append, rens]; try rfl))) rfl ?_); conv => whnf))
    rw [w1]
    exact AHead.mk (l.length - (i + 1)) _ _ (by omega) ⟨i + 1, rfl, by omega, rfl, rfl⟩ (Conv.ren [0] _ (by simp) (by simp) (by simp only [pad, renL, AV.ren, rens]; repeat' (first | exact Fit.nil | refine Fit.any ?_ | refine Fit.same ?_)) (.same (by simp only [ABlk.ren, fr_i]; rfl) .nil))
  · obtain rfl : i = l.length := by omega
    rw [mix_all (by simp) (by simp)]
    conv => whnf
    repeat refine go ?_
    refine AOut.stay ?_
    conv => whnf
    repeat refine go ?_
    exact AFin.to (isV (l.map (·.id))) [] (Conv.out (.sm' rfl (by rw [flat_len iC_len]) rfl (by simp)) (fun ρ => by (first | rfl | (simp only [renL, AV.ren, List.nil_append, List.cons_append, rens]; try rfl)))) ⟨rfl, rfl⟩

theorem f152 (x : Od) : Fun P 152 [.agg (odC x)] (nV x.id) := by
  refine spec_of hT (f := 152) (fn := Go.Proofs.Tryz.f152) (c := body Go.Proofs.Tryz.f152) (by kernel_rfl) (by kernel_rfl) ?_
  conv => whnf
  repeat' (first | refine go ?_ | ((first | refine ASplit.yes rfl ?_ | refine ASplit.no rfl ?_ | refine ACond.yes rfl ?_ | refine ACond.no rfl ?_ | refine ASplit.dec (fun _ => ?_) (fun _ => ?_) | refine ASplit.ndec (fun _ => ?_) (fun _ => ?_) | refine ACond.dec (fun _ => ?_) (fun _ => ?_) | refine ACond.ndec (fun _ => ?_) (fun _ => ?_)) <;> conv => whnf))
  all_goals exact AFin.val rfl ⟨rfl, rfl⟩
theorem f151 (l : List Od) (hl : l.length ≤ 1000000) : Fun P 151 [odsV l, .fn 152 [] []] (isV (l.map (·.id))) := by
  refine spec_of hT (f := 151) (fn := Go.Proofs.Tryz.f151) (c := body Go.Proofs.Tryz.f151) (by kernel_rfl) (by kernel_rfl) ?_
  have hb3 : (T 3).bytes = 8 := by kernel_rfl
  have hml : (l.map (·.id)).length = (List.replicate l.length (0 : Int)).length := by simp
  conv => whnf
  repeat (first | refine go ?_ | (refine AReq.mk (by rw [hb3]; omega) ?_; conv => whnf))
  refine ALoop.mk (fun n E H => ∃ i : Nat, n = l.length - i ∧ i ≤ l.length ∧
      E = pad [odsV l, .fn 152 [] [], .any, .any, .any, .ms 1 0 0 l.length, .any, .any, .any, .any, .any, odsV l, nV l.length, nV i] 26 ∧ H = [.cells 3 ((mix (l.map (·.id)) (List.replicate l.length (0 : Int)) i).flatMap iC)]) (n := l.length) _ _
    ⟨0, rfl, Nat.zero_le _, rfl, ?_⟩ (Conv.fit (by repeat' (first | exact Fit.nil | refine Fit.any ?_ | refine Fit.same ?_))) ?_
  · rw [mix_zero, ← rep_flat]; rfl
  rintro _ _ _ ⟨i, rfl, hi, rfl, rfl⟩
  conv => whnf
  repeat refine go ?_
  refine ACond.dec (fun h => ?_) (fun h => ?_)
  · have hil : i < l.length := by omega
    have w1 : IntKind.wrap .i64 ((i : Int) + 1) = ((i + 1 : Nat) : Int) := by rw [wrap_i64 _ (by omega) (by omega)]; omega
    have hmx : (mix (l.map (·.id)) (List.replicate l.length (0 : Int)) i).length = l.length := by rw [mix_len hml]; simp
    have hst := mix_set hml (i := i) (by simpa using hil)
    conv => whnf
    repeat (first | refine go ?_ | ((first | refine AReq.mk (by omega) ?_ | refine AIdx.flat (enc := odC) odC_len (xs := l) (i := i) hil ?_ | refine ACall.val (args := [.agg (odC l[i])]) (by kernel_rfl) (f152 l[i]) (by (first | rfl | (simp only [renL, AV.ren, List.nil_append, List.cons_append, rens]; try rfl))) rfl ?_); conv => whnf))
    refine AReq.mk rfl ?_
    refine AUpd.flat iC_len i l[i].id ?_ (by rw [hmx]; exact hil) rfl ?_
    · simp
    rw [show (mix (l.map (·.id)) (List.replicate l.length (0 : Int)) i).set i l[i].id = mix (l.map (·.id)) (List.replicate l.length (0 : Int)) (i + 1) by rw [← hst, List.getElem_map]]
    conv => whnf
    repeat (first | refine go ?_ | ((first | refine AReq.mk (by omega) ?_ | refine AIdx.flat (enc := odC) odC_len (xs := l) (i := i) hil ?_ | refine ACall.val (args := [.agg (odC l[i])]) (by kernel_rfl) (f152 l[i]) (by (first | rfl | (simp only [renL, AV.ren, List.nil_append, List.cons_append, rens]; try rfl))) rfl ?_); conv => whnf))
    rw [w1]
    exact AHead.mk (l.length - (i + 1)) _ _ (by omega) ⟨i + 1, rfl, by omega, rfl, rfl⟩ (Conv.ren [0] _ (by simp) (by simp) (by simp only [pad, renL, AV.ren, rens]; repeat' (first | exact Fit.nil | refine Fit.any ?_ | refine Fit.same ?_)) (.same (by simp only [ABlk.ren, fr_i]; rfl) .nil))
  · obtain rfl : i = l.length := by omega
    rw [mix_all (by simp) (by simp)]
    conv => whnf
    repeat refine go ?_
    refine AOut.stay ?_
    conv => whnf
    repeat refine go ?_
    exact AFin.to (isV (l.map (·.id))) [] (Conv.out (.sm' rfl (by rw [flat_len iC_len]) rfl (by simp)) (fun ρ => by (first | rfl | (simp only [renL, AV.ren, List.nil_append, List.cons_append, rens]; try rfl)))) ⟨rfl, rfl⟩

def risT : Int → List Int → Int
  | _, [] => 0
  | last, n :: l => if n < 1 ∨ 999999 < n then 31 else if n ≤ last then 32 else risT n l
theorem f234 (l : List Int) (hl : l.length ≤ 1000000) : Fun P 234 [isV l] (nV (risT 0 l)) := by
  refine spec_of hT (f := 234) (fn := Go.Proofs.Tryz.f234) (c := body Go.Proofs.Tryz.f234) (by kernel_rfl) (by kernel_rfl) ?_
  generalize hR : risT 0 l = R
  conv => whnf
  repeat refine go ?_
  refine ALoop.mk (fun n E H => ∃ (i : Nat) (last : Int), n = l.length - i ∧ i ≤ l.length ∧ risT last (l.drop i) = R ∧
      E = pad [isV l, .any, nV 0, nV last, .any, .any, isV l, nV l.length, nV i] 25 ∧ H = []) (n := l.length) _ _
    ⟨0, 0, rfl, Nat.zero_le _, hR, rfl, rfl⟩ (Conv.fit (by repeat' (first | exact Fit.nil | refine Fit.any ?_ | refine Fit.same ?_))) ?_
  rintro _ _ _ ⟨i, last, rfl, hi, hI, rfl, rfl⟩
  conv => whnf
  repeat refine go ?_
  refine ACond.dec (fun h => ?_) (fun h => ?_)
  · have hil : i < l.length := by omega
    have w1 : IntKind.wrap .i64 ((i : Int) + 1) = ((i + 1 : Nat) : Int) := by rw [wrap_i64 _ (by omega) (by omega)]; omega
    rw [List.drop_eq_getElem_cons hil, risT] at hI
    conv => whnf
    repeat' (first | refine go ?_ | ((first | refine ASplit.yes rfl ?_ | refine ASplit.no rfl ?_ | refine ACond.yes rfl ?_ | refine ACond.no rfl ?_ | refine ASplit.dec (fun _ => ?_) (fun _ => ?_) | refine ASplit.ndec (fun _ => ?_) (fun _ => ?_) | refine ACond.dec (fun _ => ?_) (fun _ => ?_) | refine ACond.ndec (fun _ => ?_) (fun _ => ?_) | refine AReq.mk (by omega) ?_ | refine AIdx.flat (enc := iC) iC_len (xs := l) (i := i) hil ?_) <;> conv => whnf))
    all_goals first
      | (rw [if_neg (by omega), if_neg (by omega)] at hI
         rw [w1]
         exact AHead.mk (l.length - (i + 1)) _ _ (by omega) ⟨i + 1, l[i], rfl, by omega, hI, rfl, rfl⟩ (Conv.fit (by repeat' (first | exact Fit.nil | refine Fit.any ?_ | refine Fit.same ?_))))
      | (rw [if_pos (by omega)] at hI
         refine AOut.stay ?_
         conv => whnf
         repeat ((first | refine AOut.stay ?_ | refine AO.cons hT ?_ | refine AO.nil ?_ | refine AW.seq ?_ | refine AW.region ?_ | refine AW.ret ?_); conv => whnf)
         refine AFin.val rfl ⟨congrArg nV ?_, rfl⟩
         exact hI)
      | (rw [if_neg (by omega), if_pos (by omega)] at hI
         refine AOut.stay ?_
         conv => whnf
         repeat ((first | refine AOut.stay ?_ | refine AO.cons hT ?_ | refine AO.nil ?_ | refine AW.seq ?_ | refine AW.region ?_ | refine AW.ret ?_); conv => whnf)
         refine AFin.val rfl ⟨congrArg nV ?_, rfl⟩
         exact hI)
  · rw [List.drop_of_length_le (by omega)] at hI
    conv => whnf
    repeat refine go ?_
    refine AOut.stay ?_
    conv => whnf
    repeat refine go ?_
    exact AFin.val rfl ⟨congrArg nV hI, rfl⟩
def tabB (l : List Int) (next : Int) : Bool := decide ((l.length : Int) ≤ 60) && decide (risT 0 l = 0) && decide (1 ≤ next) && decide (next ≤ 1000000) && (match l.getLast? with | none => true | some n => decide (n < next))
theorem f148 (l : List Int) (next : Int) (hl : l.length ≤ 1000000) : Fun P 148 [isV l, nV next] (bV (tabB l next)) := by
  refine spec_of hT (f := 148) (fn := Go.Proofs.Tryz.f148) (c := body Go.Proofs.Tryz.f148) (by kernel_rfl) (by kernel_rfl) ?_
  conv => whnf
  repeat refine go ?_
  by_cases h1 : 60 < (l.length : Int)
  · refine ASplit.yes (decide_eq_true h1) ?_
    conv => whnf
    repeat refine ru ?_
    exact AFin.val rfl ⟨congrArg bV (by rw [tabB, decide_eq_false (show ¬ (l.length : Int) ≤ 60 by omega)]; simp), rfl⟩
  refine ASplit.no (decide_eq_false h1) ?_
  conv => whnf
  repeat refine go ?_
  refine ACall.val (by kernel_rfl) (f234 l hl) (by (first | rfl | (simp only [renL, AV.ren, List.nil_append, List.cons_append, rens]; try rfl))) rfl ?_
  conv => whnf
  repeat refine go ?_
  by_cases h2 : risT 0 l = 0
  case neg =>
    refine ASplit.yes (by rw [decide_eq_false h2]; rfl) ?_
    conv => whnf
    repeat refine ru ?_
    exact AFin.val rfl ⟨congrArg bV (by rw [tabB, decide_eq_false h2]; simp), rfl⟩
  refine ASplit.no (by rw [decide_eq_true h2]; rfl) ?_
  conv => whnf
  repeat refine go ?_
  by_cases h3 : next < 1
  · refine ASplit.yes (decide_eq_true h3) ?_
    conv => whnf
    repeat refine ru ?_
    exact AFin.val rfl ⟨congrArg bV (by rw [tabB, decide_eq_false (show ¬ 1 ≤ next by omega)]; simp), rfl⟩
  refine ASplit.no (decide_eq_false h3) ?_
  conv => whnf
  repeat refine go ?_
  by_cases h4 : 1000000 < next
  · refine ACond.yes (decide_eq_true h4) ?_
    conv => whnf
    repeat refine ru ?_
    exact AFin.val rfl ⟨congrArg bV (by rw [tabB, decide_eq_false (show ¬ next ≤ 1000000 by omega)]; simp), rfl⟩
  refine ACond.no (decide_eq_false h4) ?_
  have hB : tabB l next = (match l.getLast? with | none => true | some n => decide (n < next)) := by
    rw [tabB, decide_eq_true (show (l.length : Int) ≤ 60 by omega), decide_eq_true h2, decide_eq_true (show 1 ≤ next by omega), decide_eq_true (show next ≤ 1000000 by omega)]
    simp
  rw [hB]
  conv => whnf
  repeat refine go ?_
  by_cases h5 : l = []
  · subst h5
    conv => whnf
    repeat refine ru ?_
    exact AFin.val rfl ⟨rfl, rfl⟩
  have hlp : 0 < l.length := List.length_pos_iff.2 h5
  have w2 : IntKind.wrap .i64 ((l.length : Int) - 1) = ((l.length - 1 : Nat) : Int) := by rw [wrap_i64 _ (by omega) (by omega)]; omega
  have hlast : l.getLast? = some l[l.length - 1] := by rw [List.getLast?_eq_getElem?, List.getElem?_eq_getElem (by omega)]
  rw [hlast]
  refine ASplit.no (decide_eq_false (by omega)) ?_
  conv => whnf
  repeat (first | refine go ?_ | (refine AReq.mk (by omega) ?_; conv => whnf))
  rw [w2]
  conv => whnf
  repeat (first | refine go ?_ | (refine AReq.mk (by omega) ?_; conv => whnf))
  refine AIdx.flat (enc := iC) iC_len (xs := l) (i := l.length - 1) (by omega) ?_
  conv => whnf
  repeat (first | refine go ?_ | (refine AReq.mk (by omega) ?_; conv => whnf))
  exact AFin.val rfl ⟨rfl, rfl⟩
def serS (s : Sta) : List ByteArray := s.units.map (·.s)
theorem f154 (s : Sta) (hl : s.units.length ≤ 1000000) : Fun P 154 [stA s] (ssV (serS s)) := by
  refine spec_of hT (f := 154) (fn := Go.Proofs.Tryz.f154) (c := body Go.Proofs.Tryz.f154) (by kernel_rfl) (by kernel_rfl) ?_
  unfold serS
  have hb9 : (T 9).bytes = 16 := by kernel_rfl
  have hml : (s.units.map (·.s)).length = (List.replicate s.units.length eS).length := by simp
  conv => whnf
  repeat (first | refine go ?_ | (refine AReq.mk (by rw [hb9]; omega) ?_; conv => whnf))
  refine ALoop.mk (fun n E H => ∃ i : Nat, n = s.units.length - i ∧ i ≤ s.units.length ∧
      E = pad [stA s, .ptr 0 0, .any, .ms 1 1 0 s.units.length, .any, .any, .any, .any, .any, .any, .any, .any, .any, unsV s.units, nV s.units.length, nV i] 27 ∧ H = [.cells 134 (stC s), .cells 9 ((mix (s.units.map (·.s)) (List.replicate s.units.length eS) i).flatMap sC)]) (n := s.units.length) _ _
    ⟨0, rfl, Nat.zero_le _, rfl, ?_⟩ (Conv.fit (by repeat' (first | exact Fit.nil | refine Fit.any ?_ | refine Fit.same ?_))) ?_
  · rw [mix_zero, ← rep_flatS]; rfl
  rintro _ _ _ ⟨i, rfl, hi, rfl, rfl⟩
  conv => whnf
  repeat refine go ?_
  refine ACond.dec (fun h => ?_) (fun h => ?_)
  · have hil : i < s.units.length := by omega
    have w1 : IntKind.wrap .i64 ((i : Int) + 1) = ((i + 1 : Nat) : Int) := by rw [wrap_i64 _ (by omega) (by omega)]; omega
    have hmx : (mix (s.units.map (·.s)) (List.replicate s.units.length eS) i).length = s.units.length := by rw [mix_len hml]; simp
    have hst := mix_set hml (i := i) (by simpa using hil)
    conv => whnf
    repeat (first | refine go ?_ | ((first | refine AReq.mk (by omega) ?_ | refine AIdx.flat (enc := unC) unC_len (xs := s.units) (i := i) hil ?_); conv => whnf))
    refine AReq.mk rfl ?_
    refine AUpd.flat sC_len i s.units[i].s ?_ (by rw [hmx]; exact hil) rfl ?_
    · simp
    rw [show (mix (s.units.map (·.s)) (List.replicate s.units.length eS) i).set i s.units[i].s = mix (s.units.map (·.s)) (List.replicate s.units.length eS) (i + 1) by rw [← hst, List.getElem_map]]
    conv => whnf
    repeat (first | refine go ?_ | ((first | refine AReq.mk (by omega) ?_ | refine AIdx.flat (enc := unC) unC_len (xs := s.units) (i := i) hil ?_); conv => whnf))
    rw [w1]
    exact AHead.mk (s.units.length - (i + 1)) _ _ (by omega) ⟨i + 1, rfl, by omega, rfl, rfl⟩ (Conv.ren [0, 1] _ (by simp) (by simp) (by simp only [pad, renL, AV.ren, rens]; repeat' (first | exact Fit.nil | refine Fit.any ?_ | refine Fit.same ?_)) (.same (by simp only [ABlk.ren, stC_ren]; rfl) (.same (by simp only [ABlk.ren, fr_s]; rfl) .nil)))
  · obtain rfl : i = s.units.length := by omega
    rw [mix_all (by simp) (by simp)]
    conv => whnf
    repeat refine go ?_
    refine AOut.stay ?_
    conv => whnf
    repeat refine go ?_
    exact AFin.to (ssV (s.units.map (·.s))) [] (Conv.out (.sm' rfl (by rw [flat_len sC_len]) rfl (by simp)) (fun ρ => by (first | rfl | (simp only [renL, AV.ren, List.nil_append, List.cons_append, rens]; try rfl)))) ⟨rfl, rfl⟩
end Go.Aw.U1

