/-
  The statement AuditMoney: what was paid back is from nothing to what was paid, units that are left and that are done are all, and no more units are there than were shipped, without any condition.
-/
import Derived.Test.YtgpnhbekepoebaaGreatQ09
import Derived.Test.YtgpnhbekepoebaaGreatQ08
import Derived.Test.YtgpnhbekepoebaaGreatQ00
set_option linter.unusedSimpArgs false
set_option linter.unusedVariables false
set_option linter.unusedSimpArgs false
set_option linter.unusedVariables false
set_option maxHeartbeats 4000000
set_option maxRecDepth 30000
namespace Go.Aw.UR
open Go
theorem strict_unique : ∀ {d d' : List Hd}, d.Pairwise (fun x y => hdLt x y = true) → d'.Pairwise (fun x y => hdLt x y = true) → (∀ x, x ∈ d ↔ x ∈ d') → d = d'
  | [], [], _, _, _ => rfl
  | [], y :: d', _, _, h => absurd ((h y).2 (by simp)) (by simp)
  | x :: d, [], _, _, h => absurd ((h x).1 (by simp)) (by simp)
  | x :: d, y :: d', h1, h2, h => by
    obtain ⟨a1, a2⟩ := List.pairwise_cons.1 h1
    obtain ⟨b1, b2⟩ := List.pairwise_cons.1 h2
    have hxy : x = y := by
      rcases List.mem_cons.1 ((h x).1 (by simp)) with e | hx
      · exact e
      · rcases List.mem_cons.1 ((h y).2 (by simp)) with e | hy
        · exact e.symm
        · have := hdLt_trans (a1 y hy) (b1 x hx)
          rw [hdLt_irrefl] at this; cases this
    subst hxy
    rw [strict_unique a2 b2]
    intro z
    constructor
    · intro hz
      rcases List.mem_cons.1 ((h z).1 (by simp [hz])) with rfl | h3
      · have := a1 z hz; rw [hdLt_irrefl] at this; cases this
      · exact h3
    · intro hz
      rcases List.mem_cons.1 ((h z).2 (by simp [hz])) with rfl | h3
      · have := b1 z hz; rw [hdLt_irrefl] at this; cases this
      · exact h3

theorem allOf_unique {l : List Mv} {d d' : List Hd} (h : AllOf l d) (h' : AllOf l d') : d = d' := strict_unique h.lt h'.lt (fun x => by rw [h.mem, h'.mem])


end Go.Aw.UR
namespace Go.Aw.U1
open Go Go.Proofs
/-! what is not run but known: Check, and all that is held -/
def cvM (m : Mv) : UR.Mv := ⟨m.p, m.i, m.q⟩
theorem mvs_cvM (l : List Mv) : UR.mvs (l.map cvM) = mvs l := by
  unfold UR.mvs mvs
  rw [List.length_map, List.flatMap_map]; rfl
def srtB : List UR.Hd → Bool
  | [] => true
  | x :: l => l.all (fun y => UR.hdLt x y) && srtB l
theorem srtB_s : ∀ {l : List UR.Hd}, srtB l = true → l.Pairwise (fun x y => UR.hdLt x y = true)
  | [], _ => .nil
  | x :: l, h => by
    rw [srtB, Bool.and_eq_true, List.all_eq_true] at h
    exact .cons h.1 (srtB_s h.2)
def keyH (l : List UR.Mv) : List UR.Hd := keysM l [] (UR.sumOf l)
theorem keyH_all {l : List UR.Mv} (h : srtB (keyH l) = true) : UR.AllOf l (keyH l) := by
  obtain ⟨h1, h2⟩ := keysM_spec (UR.sumOf l) l [] .nil (by simp)
  exact ⟨srtB_s h, fun x => by rw [keyH, h2 x]; simp⟩
noncomputable def ckM (x : AV) : Option AV :=
  match deL 3 deMv x with
  | some l => cond (Nat.ble l.length 300 && goodB (l.map cvM) && srtB (keyH (l.map cvM))) (some (.tup [UR.hds (keyH (l.map cvM)), nV 0])) none
  | none => none
theorem okM : callOk P 57 = true := by kernel_rfl
theorem ckM_s {x r : AV} {H : List ABlk} (h : ckM x = some r) : Spec P 57 [x] H (fun r' H' => r' = r ∧ H' = H) := by
  unfold ckM at h
  split at h
  · rename_i l hl
    cases hb : (Nat.ble l.length 300 && goodB (l.map cvM) && srtB (keyH (l.map cvM))) <;> rw [hb] at h
    · cases h
    · cases h
      simp only [Bool.and_eq_true] at hb
      have hlen := Nat.le_of_ble_eq_true hb.1.1
      have hg := (goodB_iff _).1 hb.1.2
      have ha := keyH_all hb.2
      have hf : Fun P 57 [mvs l] (.tup [UR.hds (keyH (l.map cvM)), nV 0]) := by
        have := UR.f57v (l.map cvM) (by simp; omega)
        rw [mvs_cvM] at this
        refine this.mono ?_
        rintro _ _ ⟨⟨d, hd, rfl⟩, rfl⟩
        rcases hd with ⟨_, hd⟩ | ⟨hd, _⟩
        · rw [UR.allOf_unique hd ha, UR.chkF_yes hg]; exact ⟨rfl, rfl⟩
        · exact absurd hg hd
      exact (Fun.any (H := H) okM hf (fun ρ => by simp only [renL, mvs_ren]) (fun ρ => by simp only [AV.ren, renL, UR.ren_hds])).wk (.cons (deL_s deMv_s hl) .nil)
  · cases h
noncomputable def ckR (x y : AV) : Option AV :=
  match x with
  | .agg xs => match y with
    | .agg ys => match deSta xs with
      | some a => match deSta ys with
        | some _ => match a.rules.asks with
          | [] => some (bV true)
          | _ => none
        | none => none
      | none => none
    | _ => none
  | _ => none
theorem okR' : callOk P 206 = true := by kernel_rfl
theorem ckR_s {x y r : AV} {H : List ABlk} (h : ckR x y = some r) : Spec P 206 [x, y] H (fun r' H' => r' = r ∧ H' = H) := by
  unfold ckR at h
  split at h
  · rename_i xs
    split at h
    · rename_i ys
      split at h
      · rename_i a ha
        split at h
        · rename_i b hb
          split at h
          · rename_i he
            cases h
            exact (Fun.any (H := H) okR' (f206e a b he) (fun ρ => by simp only [renL, AV.ren, stC_ren]) (fun _ => rfl)).wk (.cons (.agg (deSta_s xs a ha)) (.cons (.agg (deSta_s ys b hb)) .nil))
          · cases h
        · cases h
      · cases h
    · cases h
  · cases h
noncomputable def ckU (x : AV) : Option AV :=
  match x with
  | .agg xs => match deUn xs with
    | some u => cond (sOkB u.s) (some (nV (cond (unB u) 0 40))) none
    | none => none
  | _ => none
theorem okU : callOk P 46 = true := by kernel_rfl
theorem ckU_s {x r : AV} {H : List ABlk} (h : ckU x = some r) : Spec P 46 [x] H (fun r' H' => r' = r ∧ H' = H) := by
  unfold ckU at h
  split at h
  · rename_i xs
    split at h
    · rename_i u hu
      cases hb : sOkB u.s <;> rw [hb] at h
      · cases h
      · cases h
        have hf := (Fun.any (H := H) okU (f46 u (show u.s.size ≤ 9223372036854775807 from of_decide_eq_true hb)) (fun ρ => by simp only [renL, AV.ren, unC_r]) (fun _ => rfl)).wk (.cons (.agg (deUn_s xs u hu)) .nil)
        cases hc : unB u <;> rw [hc] at hf <;> exact hf
    · cases h
  · cases h
/-- the functions of one argument that are known -/
noncomputable def call1 (f : Nat) (x : AV) : Option AV :=
  match Nat.beq f 16 with
  | true => ckA x
  | false => match Nat.beq f 57 with
    | true => ckM x
    | false => match Nat.beq f 46 with
      | true => ckU x
      | false => none
theorem call1_s {f : Nat} {x r : AV} {H : List ABlk} (h : call1 f x = some r) : Spec P f [x] H (fun r' H' => r' = r ∧ H' = H) := by
  unfold call1 at h
  split at h
  · rename_i e; obtain rfl := Nat.eq_of_beq_eq_true e; exact ckA_s h
  split at h
  · rename_i e; obtain rfl := Nat.eq_of_beq_eq_true e; exact ckM_s h
  split at h
  · rename_i e; obtain rfl := Nat.eq_of_beq_eq_true e; exact ckU_s h
  · cases h
def deNd : AV → Option Nd
  | .agg xs => match xs with
    | [a, b] => match deI a with
      | some m => match deI b with
        | some n => some (m, n)
        | none => none
      | none => none
    | _ => none
  | _ => none
theorem deNd_s {x : AV} {n : Nd} (h : deNd x = some n) : Go.Aw.Wk x (ndA n.1 n.2) := by
  unfold deNd at h
  split at h
  · split at h
    · split at h
      · rename_i m h1
        split at h
        · rename_i k h2
          cases h
          exact .agg (.cons (deI_s h1) (.cons (deI_s h2) .nil))
        · cases h
      · cases h
    · cases h
  · cases h
noncomputable def ckN (x y : AV) : Option AV :=
  match deNd x with
  | some a => match deNd y with
    | some b => some (bV (reachB a b))
    | none => none
  | none => none
theorem okN : callOk P 12 = true := by kernel_rfl
theorem ckN_s {x y r : AV} {H : List ABlk} (h : ckN x y = some r) : Spec P 12 [x, y] H (fun r' H' => r' = r ∧ H' = H) := by
  unfold ckN at h
  split at h
  · rename_i a ha
    split at h
    · rename_i b hb
      cases h
      exact (Fun.any (H := H) okN (f12 a b) (fun ρ => rfl) (fun _ => rfl)).wk (.cons (deNd_s ha) (.cons (deNd_s hb) .nil))
    · cases h
  · cases h
/-- the functions of two arguments that are known -/
noncomputable def call2 (f : Nat) (x y : AV) : Option AV :=
  match Nat.beq f 206 with
  | true => ckR x y
  | false => match Nat.beq f 12 with
    | true => ckN x y
    | false => none
theorem call2_s {f : Nat} {x y r : AV} {H : List ABlk} (h : call2 f x y = some r) : Spec P f [x, y] H (fun r' H' => r' = r ∧ H' = H) := by
  unfold call2 at h
  split at h
  · rename_i e; obtain rfl := Nat.eq_of_beq_eq_true e; exact ckR_s h
  split at h
  · rename_i e; obtain rfl := Nat.eq_of_beq_eq_true e; exact ckN_s h
  · cases h
noncomputable def callK (f : Nat) (args : List AV) (H : List ABlk) : Option (AV × List ABlk) :=
  match args with
  | [x] => match call1 f x with
    | some r => some (r, H)
    | none => none
  | [x, y] => match call2 f x y with
    | some r => some (r, H)
    | none => none
  | _ => none
theorem callK_s {f : Nat} {args : List AV} {H : List ABlk} {r : AV} {H' : List ABlk} (h : callK f args H = some (r, H')) : Spec P f args H (fun r' H2 => r' = r ∧ H2 = H') := by
  unfold callK at h
  split at h
  · split at h
    · rename_i e2
      cases h
      exact call1_s e2
    · cases h
  · split at h
    · rename_i e2
      cases h
      exact call2_s e2
    · cases h
  · cases h
noncomputable def xK : Xt := ⟨fun f => Nat.beq f 16 || Nat.beq f 57 || Nat.beq f 46 || Nat.beq f 206 || Nat.beq f 12, fun _ => true, callK, mapX P T (fun _ => false)⟩
theorem xK_ok : XtOk P T xK where
  call := fun f args H r H' h0 => callK_s h0
  op := (mapXt_ok hT (dk := fun _ => false) (gc := fun _ => true) (fun _ h => by cases h)).op
end Go.Aw.U1

/-
  The orders of the regions that the probe of layer 41 runs.
-/
namespace Go.Aw.U1
open Go
def pls9 : List (Nat × List (Nat × Rp)) := [
  (10, [(5, .od (.one 0 (.alt 1 (.one 2 (.one 3 (.one 4 (.one 5 (.one 6 (.one 7 (.one 8 (.one 9 (.one 10 (.one 12 (.one 11 (.one 13 (.one 14 (.one 15 (.one 16 (.one 17 .done)))))))))))))))) (.alt 2 (.one 1 (.one 3 (.one 4 (.one 5 (.one 6 (.one 7 (.one 8 (.one 9 (.one 10 (.one 12 (.one 11 (.one 13 (.one 14 (.one 15 (.one 16 (.one 17 .done)))))))))))))))) .no))))]),
  (12, [(7, .pl (.one 0 (.one 1 (.one 2 (.one 3 (.one 4 (.one 5 .nil)))))))]),
  (15, [(4, .od (.one 0 (.one 3 (.alt 1 (.one 2 (.alt 4 (.one 5 (.one 6 (.alt 7 (.one 8 (.one 9 (.one 10 .done))) (.alt 9 (.one 7 (.one 8 (.one 10 .done))) .no)))) (.alt 6 (.alt 4 (.one 5 (.alt 7 (.one 8 (.one 9 (.one 10 .done))) (.alt 9 (.one 7 (.one 8 (.one 10 .done))) .no))) (.alt 7 (.one 4 (.one 5 (.one 8 (.one 9 (.one 10 .done))))) (.alt 9 (.alt 4 (.one 5 (.one 7 (.one 8 (.one 10 .done)))) (.alt 7 (.one 4 (.one 5 (.one 8 (.one 10 .done)))) .no)) .no))) (.alt 9 (.alt 4 (.one 5 (.one 6 (.one 7 (.one 8 (.one 10 .done))))) (.alt 6 (.alt 4 (.one 5 (.one 7 (.one 8 (.one 10 .done)))) (.alt 7 (.one 4 (.one 5 (.one 8 (.one 10 .done)))) .no)) .no)) .no)))) (.alt 4 (.one 5 (.alt 1 (.one 2 (.one 6 (.alt 7 (.one 8 (.one 9 (.one 10 .done))) (.alt 9 (.one 7 (.one 8 (.one 10 .done))) .no)))) (.alt 6 (.alt 1 (.one 2 (.alt 7 (.one 8 (.one 9 (.one 10 .done))) (.alt 9 (.one 7 (.one 8 (.one 10 .done))) .no))) (.alt 7 (.one 1 (.one 2 (.one 8 (.one 9 (.one 10 .done))))) (.alt 9 (.alt 1 (.one 2 (.one 7 (.one 8 (.one 10 .done)))) (.alt 7 (.one 1 (.one 2 (.one 8 (.one 10 .done)))) .no)) .no))) (.alt 9 (.alt 1 (.one 2 (.one 6 (.one 7 (.one 8 (.one 10 .done))))) (.alt 6 (.alt 1 (.one 2 (.one 7 (.one 8 (.one 10 .done)))) (.alt 7 (.one 1 (.one 2 (.one 8 (.one 10 .done)))) .no)) .no)) .no)))) (.alt 6 (.alt 1 (.one 2 (.alt 4 (.one 5 (.alt 7 (.one 8 (.one 9 (.one 10 .done))) (.alt 9 (.one 7 (.one 8 (.one 10 .done))) .no))) (.alt 7 (.one 4 (.one 5 (.one 8 (.one 9 (.one 10 .done))))) (.alt 9 (.alt 4 (.one 5 (.one 7 (.one 8 (.one 10 .done)))) (.alt 7 (.one 4 (.one 5 (.one 8 (.one 10 .done)))) .no)) .no)))) (.alt 4 (.one 5 (.alt 1 (.one 2 (.alt 7 (.one 8 (.one 9 (.one 10 .done))) (.alt 9 (.one 7 (.one 8 (.one 10 .done))) .no))) (.alt 7 (.one 1 (.one 2 (.one 8 (.one 9 (.one 10 .done))))) (.alt 9 (.alt 1 (.one 2 (.one 7 (.one 8 (.one 10 .done)))) (.alt 7 (.one 1 (.one 2 (.one 8 (.one 10 .done)))) .no)) .no)))) (.alt 7 (.alt 1 (.one 2 (.one 4 (.one 5 (.one 8 (.one 9 (.one 10 .done)))))) (.alt 4 (.one 5 (.one 1 (.one 2 (.one 8 (.one 9 (.one 10 .done)))))) (.alt 9 (.alt 1 (.one 2 (.one 4 (.one 5 (.one 8 (.one 10 .done))))) (.alt 4 (.one 5 (.one 1 (.one 2 (.one 8 (.one 10 .done))))) .no)) .no))) (.alt 9 (.alt 1 (.one 2 (.alt 4 (.one 5 (.one 7 (.one 8 (.one 10 .done)))) (.alt 7 (.one 4 (.one 5 (.one 8 (.one 10 .done)))) .no))) (.alt 4 (.one 5 (.alt 1 (.one 2 (.one 7 (.one 8 (.one 10 .done)))) (.alt 7 (.one 1 (.one 2 (.one 8 (.one 10 .done)))) .no))) (.alt 7 (.alt 1 (.one 2 (.one 4 (.one 5 (.one 8 (.one 10 .done))))) (.alt 4 (.one 5 (.one 1 (.one 2 (.one 8 (.one 10 .done))))) .no)) .no))) .no)))) (.alt 9 (.alt 1 (.one 2 (.alt 4 (.one 5 (.one 6 (.one 7 (.one 8 (.one 10 .done))))) (.alt 6 (.alt 4 (.one 5 (.one 7 (.one 8 (.one 10 .done)))) (.alt 7 (.one 4 (.one 5 (.one 8 (.one 10 .done)))) .no)) .no))) (.alt 4 (.one 5 (.alt 1 (.one 2 (.one 6 (.one 7 (.one 8 (.one 10 .done))))) (.alt 6 (.alt 1 (.one 2 (.one 7 (.one 8 (.one 10 .done)))) (.alt 7 (.one 1 (.one 2 (.one 8 (.one 10 .done)))) .no)) .no))) (.alt 6 (.alt 1 (.one 2 (.alt 4 (.one 5 (.one 7 (.one 8 (.one 10 .done)))) (.alt 7 (.one 4 (.one 5 (.one 8 (.one 10 .done)))) .no))) (.alt 4 (.one 5 (.alt 1 (.one 2 (.one 7 (.one 8 (.one 10 .done)))) (.alt 7 (.one 1 (.one 2 (.one 8 (.one 10 .done)))) .no))) (.alt 7 (.alt 1 (.one 2 (.one 4 (.one 5 (.one 8 (.one 10 .done))))) (.alt 4 (.one 5 (.one 1 (.one 2 (.one 8 (.one 10 .done))))) .no)) .no))) .no))) .no))))))), (9, .pl (.one 0 (.one 2 (.fork 1 (.one 3 (.one 4 .nil)) 3 (.one 4 (.one 1 .nil)) (.one 5 (.one 6 (.one 7 .nil)))))))]),
  (51, [(9, .od (.one 0 (.one 3 (.one 1 (.alt 2 (.one 4 (.one 5 (.one 6 (.one 7 .done)))) (.alt 4 (.one 2 (.one 5 (.one 6 (.one 7 .done)))) .no)))))), (12, .od (.one 0 (.one 3 (.one 1 (.alt 2 (.one 4 (.one 5 (.one 6 (.one 7 .done)))) (.alt 4 (.one 2 (.one 5 (.one 6 (.one 7 .done)))) .no))))))]),
  (134, [(4, .pl (.one 1 (.one 2 (.one 3 (.one 0 (.one 4 (.one 5 .nil)))))))]),
  (209, [(6, .pl (.one 0 (.one 2 (.one 4 (.one 3 (.one 5 (.one 6 (.one 1 (.one 7 (.one 8 (.one 9 (.one 10 (.one 12 (.one 16 (.one 11 (.one 13 (.one 14 (.one 15 (.one 17 (.one 18 (.one 19 .nil)))))))))))))))))))))]),
  (221, [(1, .od (.one 0 (.one 3 (.alt 1 (.one 2 (.one 4 (.one 5 (.one 6 (.one 7 (.one 8 (.one 10 (.one 12 (.one 13 (.one 14 (.one 11 (.one 15 (.one 9 (.one 16 (.one 17 (.one 18 .done)))))))))))))))) (.alt 4 (.one 5 (.one 1 (.one 2 (.one 6 (.one 7 (.one 8 (.one 10 (.one 12 (.one 13 (.one 14 (.one 11 (.one 15 (.one 9 (.one 16 (.one 17 (.one 18 .done)))))))))))))))) .no)))))]),
  (222, [(6, .pl (.one 0 (.one 1 (.one 2 (.one 4 (.one 5 (.one 6 (.one 3 (.one 7 (.one 8 .nil))))))))))]),
  (261, [(6, .pl (.one 0 (.one 1 (.one 2 (.one 4 (.one 5 (.one 6 (.one 3 (.one 7 (.one 8 .nil))))))))))]),
  (263, [(6, .pl (.one 0 (.one 1 (.one 2 (.one 4 (.one 5 (.one 6 (.one 3 (.one 7 (.one 8 .nil))))))))))])]
def pl9 (f i : Nat) : Option Rp := plk pls9 f i
end Go.Aw.U1

