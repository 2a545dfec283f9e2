/-
  The statement AuditUnits: any unit may have come of any other one, or not, and any node is reached from any other one, or not, as the document says, without any condition.
-/
import Derived.Test.YtgpnhbekepoebaaGreatR01
import Derived.Test.YtgpnhbekepoebaaGreatR00
set_option linter.unusedSimpArgs false
set_option linter.unusedVariables false
/-
  Aw, part 42: closed calls are computed: the other operations.
-/
set_option linter.unusedSimpArgs false
set_option linter.unusedVariables false
namespace Go.Aw
open Go

section
variable {R : Type}

noncomputable def lenStrC (x : AV) (K : AV → Option R) : Option R :=
  match x with
  | .v x => match x with
    | .string s => lenC s.data.toList fun n => K (.v (.int .i64 (Int.ofNat n)))
    | _ => none
  | _ => none
theorem lenStrC_s {x : AV} {K : AV → Option R} {K' : AV → Prop} {r : R} (h : lenStrC x K = some r) (hk : ∀ v, K v = some r → K' v) : lenStrK x K' := by
  cases x <;> try (cases h; done)
  rename_i a
  cases a <;> try (cases h; done)
  simp only [lenStrC, lenC_eq] at h
  simp only [lenStrK]
  rw [sizeS]
  exact hk _ h

noncomputable def lenOfC (x : AV) (K : AV → Option R) : Option R :=
  match x with
  | .v x => match x with
    | .slice none n _ => reqC (Nat.beq n 0) (K (.v (.int .i64 (Int.ofNat 0))))
    | _ => none
  | .vs _ n _ => fN n fun n => K (.v (.int .i64 (Int.ofNat n)))
  | .vx _ n _ => fN n fun n => K (.v (.int .i64 (Int.ofNat n)))
  | .ms _ _ _ n => fN n fun n => K (.v (.int .i64 (Int.ofNat n)))
  | _ => none
theorem lenOfC_s {x : AV} {K : AV → Option R} {K' : AV → Prop} {r : R} (h : lenOfC x K = some r) (hk : ∀ v, K v = some r → K' v) : lenOfK x K' := by
  cases x <;> try (cases h; done)
  · rename_i a
    cases a <;> try (cases h; done)
    rename_i o n c
    cases o <;> try (cases h; done)
    simp only [lenOfC] at h
    obtain ⟨h1, h2⟩ := reqC_s h
    simp only [lenOfK, ifK_iff]
    exact ⟨h1, hk _ h2⟩
  all_goals (simp only [lenOfC, fN_eq] at h; exact hk _ h)

noncomputable def eqLenC (cs : List AV) (n : Nat) (K : Option R) : Option R := lenC cs fun m => reqC (Nat.beq m n) K
theorem eqLenC_s {cs : List AV} {n : Nat} {K : Option R} {r : R} (h : eqLenC cs n K = some r) : cs.length = n ∧ K = some r := by
  unfold eqLenC at h
  rw [lenC_eq] at h
  obtain ⟨h1, h2⟩ := reqC_s h
  exact ⟨Nat.eq_of_beq_eq_true h1, h2⟩

noncomputable def fillC (place : Nat → Option (Nat × Nat)) (E : ET) : List (Nat × Operand) → List AV → (List AV → Option R) → Option R
  | [], cs, K => K cs
  | p :: ps, cs, K => match place p.1 with
    | none => none
    | some q => evC E p.2 fun x => cellsC x fun ys => eqLenC ys q.2 (splC cs q.1 ys fun cs => fillC place E ps cs K)
theorem splK_of {xs ys : List AV} {o : Nat} {K : List AV → Prop} : o + ys.length ≤ xs.length → K (spl xs o ys) → splK xs o ys K := by
  induction o generalizing xs K with
  | zero =>
    induction ys generalizing xs K with
    | nil => intro _ h; cases xs <;> simpa [splK, spl] using h
    | cons y ys ih =>
      intro h1 h
      cases xs with
      | nil => simp at h1
      | cons x xs =>
        unfold splK
        refine ih (by simp at h1 ⊢; omega) ?_
        simpa [spl] using h
  | succ o ih =>
    intro h1 h
    cases xs with
    | nil => simp at h1
    | cons x xs =>
      have e : splK (x :: xs) (o + 1) ys K = splK xs o ys fun r => K (x :: r) := by cases ys <;> rfl
      rw [e]
      refine ih (by simp at h1; omega) ?_
      have e : o + 1 + ys.length = (o + ys.length) + 1 := by omega
      simpa [spl, e] using h
theorem fillC_s {place : Nat → Option (Nat × Nat)} {E : ET} (hw : E.wf) : ∀ {ps : List (Nat × Operand)} {cs : List AV} {K : List AV → Option R} {K' : List AV → Prop} {r : R}, fillC place E ps cs K = some r → (∀ v, K v = some r → K' v) → fillK place E.toL ps cs K'
  | [], cs, K, K', r, h, hk => hk _ h
  | p :: ps, cs, K, K', r, h, hk => by
    unfold fillC at h; unfold fillK
    cases hp : place p.1 <;> simp only [hp] at h ⊢ <;> try (cases h; done)
    refine evC_s hw h fun x h => cellsC_s h fun ys h => ?_
    obtain ⟨h1, h⟩ := eqLenC_s h
    obtain ⟨h2, h⟩ := splC_s h
    rw [lenK_iff]
    exact ⟨h1, splK_of h2 (fillC_s hw h hk)⟩

noncomputable def okC (T : Nat → TI) (e : Nat) (K : Option R) : Option R :=
  match (T e).u with
  | .other => none
  | _ => K
theorem okC_s {T : Nat → TI} {e : Nat} {K : Option R} {K' : Prop} {r : R} (h : okC T e K = some r) (hk : K = some r → K') : okT T e K' := by
  unfold okC at h
  rw [okT_iff]
  cases hu : (T e).u <;> simp only [hu] at h <;> first
    | (cases h; done)
    | exact ⟨by simp, hk h⟩

noncomputable def buildC (T : Nat → TI) (t : Nat) (E : ET) (ps : List (Nat × Operand)) (K : AV → Option R) : Option R :=
  match (T t).u with
  | .struct fs => cellsC (T t).zero fun cs => fillC (fun i => match fs[i]? with | some f => some (f.1, f.2.2) | none => none) E ps cs fun cs => K (.agg cs)
  | .arr _ e => okC T e <| cellsC (T t).zero fun cs => fillC (fun i => some (i * (T e).size, (T e).size)) E ps cs fun cs => K (.agg cs)
  | _ => none
theorem buildC_s {T : Nat → TI} {t : Nat} {E : ET} (hw : E.wf) {ps : List (Nat × Operand)} {K : AV → Option R} {K' : AV → Prop} {r : R} (h : buildC T t E ps K = some r) (hk : ∀ v, K v = some r → K' v) : buildK T t E.toL ps K' := by
  unfold buildC at h; unfold buildK
  cases hu : (T t).u <;> simp only [hu] at h ⊢ <;> try (cases h; done)
  · exact okC_s h fun h => cellsC_s h fun cs h => fillC_s hw h fun cs h => hk _ h
  · exact cellsC_s h fun cs h => fillC_s hw h fun cs h => hk _ h

noncomputable def anysC (n : Nat) : (List AV → Option R) → Option R :=
  @Nat.rec (fun _ => (List AV → Option R) → Option R) (fun K => K []) (fun _ g K => g fun r => K (.any :: r)) n
theorem anysC_eq : ∀ (n : Nat) (K : List AV → Option R), anysC n K = K (List.replicate n .any)
  | 0, _ => rfl
  | n + 1, K => by
    have e : anysC (n + 1) K = anysC n fun r => K (.any :: r) := rfl
    rw [e, anysC_eq n, List.replicate_succ]

noncomputable def buildSliceC (T : Nat → TI) (t len : Nat) (E : ET) (ps : List (Nat × Operand)) (K : AV → Option R) : Option R :=
  match (T t).u with
  | .slice e => okC T e <| reqC (Nat.ble (len * (T e).size) 16777216) <| cellsC (T e).zero fun _ => anysC (len * (T e).size) fun cs =>
      fillC (fun i => some (i * (T e).size, (T e).size)) E ps cs fun cs => K (.vx (T e).size len cs)
  | _ => none
theorem buildSliceC_s {T : Nat → TI} {t n : Nat} {E : ET} (hw : E.wf) {ps : List (Nat × Operand)} {K : AV → Option R} {K' : AV → Prop} {r : R} (h : buildSliceC T t n E ps K = some r) (hk : ∀ v, K v = some r → K' v) : buildSliceK T t n E.toL ps K' := by
  unfold buildSliceC at h; unfold buildSliceK
  cases hu : (T t).u <;> simp only [hu] at h ⊢ <;> try (cases h; done)
  refine okC_s h fun h => ?_
  obtain ⟨h1, h⟩ := reqC_s h
  rw [ifK_iff]
  refine ⟨h1, cellsC_s h fun cs h => ?_⟩
  rw [anysC_eq] at h
  rw [anysK_eq]
  exact fillC_s hw h fun cs h => hk _ h

noncomputable def storeC (T : Nat → TI) (H : List ABlk) (t : Nat) (p : AV) (v : AV) (K : List ABlk → Option R) : Option R :=
  cellsC v fun cs =>
  match p with
  | .ptr l o => blkC H l fun b => match b with
    | .cells t' xs => okC T t <| eqLenC cs (T t).size (splC xs o cs fun xs => setHC H l (.cells t' xs) K)
    | _ => none
  | .pe l b0 sz i j => blkC H l fun b => match b with
    | .cells t' xs => okC T t <| eqLenC cs (T t).size (splC xs (b0 + i * sz + j) cs fun xs => setHC H l (.cells t' xs) K)
    | _ => none
  | _ => none
theorem okC_inv {T : Nat → TI} {e : Nat} {K : Option R} {r : R} (h : okC T e K = some r) : (T e).u ≠ .other ∧ K = some r := by
  unfold okC at h
  cases hu : (T e).u <;> simp only [hu] at h <;> first
    | (cases h; done)
    | exact ⟨by simp, h⟩
theorem storeC_s {T : Nat → TI} {H : List ABlk} {t : Nat} {p v : AV} {K : List ABlk → Option R} {K' : List ABlk → Prop} {r : R} (h : storeC T H t p v K = some r) (hk : ∀ H, K H = some r → K' H) : storeK T H t p v K' := by
  unfold storeC at h; unfold storeK
  refine cellsC_s h fun cs h => ?_
  cases p <;> simp only at h ⊢ <;> try (cases h; done)
  · obtain ⟨b, h1, h⟩ := blkC_s h
    rw [blkK_iff]
    refine ⟨b, h1, ?_⟩
    cases b <;> simp only at h ⊢ <;> try (cases h; done)
    obtain ⟨h2, h⟩ := okC_inv h
    obtain ⟨h3, h⟩ := eqLenC_s h
    obtain ⟨h4, h⟩ := splC_s h
    obtain ⟨h5, h⟩ := setHC_s h
    cases hu : (T t).u <;> simp only <;> first
      | exact absurd hu h2
      | (rw [lenK_iff]; exact ⟨h3, splK_of h4 (by rw [setH_iff]; exact ⟨h5, hk _ h⟩)⟩)
      | exact AReq.mk h3 (AUpd.iff.2 ⟨h4, by rw [setH_iff]; exact ⟨h5, hk _ h⟩⟩)
  · obtain ⟨b, h1, h⟩ := blkC_s h
    rw [blkK_iff]
    refine ⟨b, h1, ?_⟩
    cases b <;> simp only at h ⊢ <;> try (cases h; done)
    obtain ⟨h2, h⟩ := okC_inv h
    obtain ⟨h3, h⟩ := eqLenC_s h
    obtain ⟨h4, h⟩ := splC_s h
    obtain ⟨h5, h⟩ := setHC_s h
    cases hu : (T t).u <;> simp only <;> first
      | exact absurd hu h2
      | exact AReq.mk h3 (AUpd.iff.2 ⟨h4, by rw [setH_iff]; exact ⟨h5, hk _ h⟩⟩)

noncomputable def loadAtC (T : Nat → TI) (H : List ABlk) (t : Nat) (p : AV) (K : AV → Option R) : Option R :=
  match p with
  | .ptr l o => blkC H l fun b => seeC b fun xs => drpC xs o fun ys => loadC T t ys K
  | .pe l b0 sz i j => blkC H l fun b => seeC b fun xs => drpC xs b0 fun ys => ctC ys (i * sz) sz fun el => drpC el j fun el => loadC T t el K
  | .ip cs => loadC T t cs K
  | _ => none
theorem loadAtC_s {T : Nat → TI} {H : List ABlk} {t : Nat} {p : AV} {K : AV → Option R} {K' : AV → Prop} {r : R} (h : loadAtC T H t p K = some r) (hk : ∀ v, K v = some r → K' v) : loadAtK T H t p K' := by
  unfold loadAtC at h; unfold loadAtK
  cases p <;> simp only at h ⊢ <;> try (cases h; done)
  · exact loadC_s h hk
  · obtain ⟨b, h1, h⟩ := blkC_s h
    rw [blkK_iff]
    refine ⟨b, h1, seeC_s h fun xs h => ?_⟩
    obtain ⟨h2, h⟩ := drpC_s h
    rw [drp_eq]
    exact loadC_s h hk
  · obtain ⟨b, h1, h⟩ := blkC_s h
    rw [blkK_iff]
    refine ⟨b, h1, seeC_s h fun xs h => ?_⟩
    obtain ⟨h2, h⟩ := drpC_s h
    obtain ⟨h3, h⟩ := ctC_s h
    obtain ⟨h4, h⟩ := drpC_s h
    rw [drp_eq, AIdx.iff]
    refine ⟨h3, ?_⟩
    rw [drp_eq]
    exact loadC_s h hk

noncomputable def fieldAddrC (T : Nat → TI) (s : Nat) (x : AV) (f : Nat) (K : AV → Option R) : Option R :=
  match (T s).u with
  | .struct fs => match fs[f]? with
    | some fo => match x with
      | .ptr l o => fN (o + fo.1) fun o => K (.ptr l o)
      | .pe l b sz i j => fN (j + fo.1) fun j => K (.pe l b sz i j)
      | .ip cs => drpC cs fo.1 fun cs => K (.ip cs)
      | _ => none
    | none => none
  | _ => none
theorem fieldAddrC_s {T : Nat → TI} {s : Nat} {x : AV} {f : Nat} {K : AV → Option R} {K' : AV → Prop} {r : R} (h : fieldAddrC T s x f K = some r) (hk : ∀ v, K v = some r → K' v) : fieldAddrK T s x f K' := by
  unfold fieldAddrC at h; unfold fieldAddrK
  cases hu : (T s).u <;> simp only [hu] at h ⊢ <;> try (cases h; done)
  rename_i fs
  cases hf : fs[f]? <;> simp only [hf] at h ⊢ <;> try (cases h; done)
  cases x <;> simp only at h ⊢ <;> try (cases h; done)
  · obtain ⟨h2, h⟩ := drpC_s h; rw [drp_eq]; exact hk _ h
  · rw [fN_eq] at h; rw [addK_eq]; exact hk _ h
  · rw [fN_eq] at h; rw [addK_eq]; exact hk _ h

noncomputable def indexAddrC (T : Nat → TI) (t : Nat) (x ix : AV) (K : AV → Option R) : Option R :=
  intcC ix fun i =>
  match (T t).u with
  | .arr n e => reqC (decide (0 ≤ i ∧ i < n)) <| match x with
    | .ptr l o => fN i.toNat fun i => K (.pe l o (T e).size i 0)
    | .ip cs => ctC cs (i.toNat * (T e).size) (T e).size fun el => K (.ip el)
    | _ => none
  | .slice e => match x with
    | .ms sz l o n => reqC (Nat.beq sz (T e).size) (reqC (decide (0 ≤ i ∧ i < n)) (fN i.toNat fun i => K (.pe l o sz i 0)))
    | .vs sz n cs => reqC (Nat.beq sz (T e).size) (reqC (decide (0 ≤ i ∧ i < n)) (ctC cs (i.toNat * sz) sz fun el => K (.ip el)))
    | .vx sz n cs => reqC (Nat.beq sz (T e).size) (reqC (decide (0 ≤ i ∧ i < n)) (ctC cs (i.toNat * sz) sz fun el => K (.ip el)))
    | _ => none
  | _ => none
theorem indexAddrC_s {T : Nat → TI} {t : Nat} {x ix : AV} {K : AV → Option R} {K' : AV → Prop} {r : R} (h : indexAddrC T t x ix K = some r) (hk : ∀ v, K v = some r → K' v) : indexAddrK T t x ix K' := by
  unfold indexAddrC at h; unfold indexAddrK
  refine intcC_s h fun i h => ?_
  cases hu : (T t).u <;> simp only [hu] at h ⊢ <;> try (cases h; done)
  · cases x <;> simp only at h ⊢ <;> try (cases h; done)
    · obtain ⟨h1, h⟩ := reqC_s h
      obtain ⟨h2, h⟩ := reqC_s h
      obtain ⟨h3, h⟩ := ctC_s h
      rw [h1]
      exact AReq.mk (of_decide_eq_true h2) (AIdx.iff.2 ⟨h3, hk _ h⟩)
    · obtain ⟨h1, h⟩ := reqC_s h
      obtain ⟨h2, h⟩ := reqC_s h
      obtain ⟨h3, h⟩ := ctC_s h
      rw [h1]
      exact AReq.mk (of_decide_eq_true h2) (AIdx.iff.2 ⟨h3, hk _ h⟩)
    · obtain ⟨h1, h⟩ := reqC_s h
      obtain ⟨h2, h⟩ := reqC_s h
      rw [fN_eq] at h
      rw [h1]
      exact AReq.mk (of_decide_eq_true h2) (hk _ h)
  · obtain ⟨h1, h⟩ := reqC_s h
    cases x <;> simp only at h ⊢ <;> try (cases h; done)
    · obtain ⟨h3, h⟩ := ctC_s h
      exact AReq.mk (of_decide_eq_true h1) (AIdx.iff.2 ⟨h3, hk _ h⟩)
    · rw [fN_eq] at h
      exact AReq.mk (of_decide_eq_true h1) (hk _ h)

noncomputable def btC (l : List UInt8) (i : Nat) (K : AV → Option R) : Option R :=
  @Nat.rec (fun _ => List UInt8 → Option R) (fun l => @List.casesOn UInt8 (fun _ => Option R) l none (fun b _ => fN b.toNat fun n => K (.v (.int .u8 (Int.ofNat n)))))
    (fun _ g l => @List.casesOn UInt8 (fun _ => Option R) l none (fun _ l => g l)) i l
theorem btC_s : ∀ {i : Nat} {l : List UInt8} {K : AV → Option R} {r : R}, btC l i K = some r → i < l.length ∧ K (.v (.int .u8 ((l[i]?.getD 0).toNat : Int))) = some r
  | 0, [], K, r, h => by cases h
  | 0, b :: l, K, r, h => by
    have h : fN b.toNat (fun n => K (.v (.int .u8 (Int.ofNat n)))) = some r := h
    rw [fN_eq] at h
    exact ⟨by simp, h⟩
  | i + 1, [], K, r, h => by cases h
  | i + 1, b :: l, K, r, h => by
    have := btC_s (i := i) (l := l) (K := K) h
    exact ⟨by simp; exact this.1, by simpa using this.2⟩

noncomputable def indexC (T : Nat → TI) (t : Nat) (x ix : AV) (K : AV → Option R) : Option R :=
  intcC ix fun i =>
  match (T t).u with
  | .str => match x with
    | .v x => match x with
      | .string s => reqC (decide (0 ≤ i)) (btC s.data.toList i.toNat K)
      | _ => none
    | _ => none
  | .arr n e => match x with
    | .agg cs => reqC (decide (0 ≤ i ∧ i < n)) (ctC cs (i.toNat * (T e).size) (T e).size fun el => loadC T e el K)
    | _ => none
  | _ => none
theorem indexC_s {T : Nat → TI} {t : Nat} {x ix : AV} {K : AV → Option R} {K' : AV → Prop} {r : R} (h : indexC T t x ix K = some r) (hk : ∀ v, K v = some r → K' v) : indexK T t x ix K' := by
  unfold indexC at h; unfold indexK
  refine intcC_s h fun i h2 => ?_
  clear h
  have h := h2
  clear h2
  cases hu : (T t).u <;> simp only [hu] at h ⊢ <;> try (cases h; done)
  · cases x <;> simp only at h ⊢ <;> try (cases h; done)
    rename_i a
    cases a <;> simp only at h ⊢ <;> try (cases h; done)
    obtain ⟨h1, h⟩ := reqC_s h
    obtain ⟨h2, h⟩ := btC_s h
    have h1 := of_decide_eq_true h1
    exact AReq.mk ⟨h1, by rw [sizeS]; omega⟩ (hk _ h)
  · cases x <;> simp only at h ⊢ <;> try (cases h; done)
    obtain ⟨h1, h⟩ := reqC_s h
    obtain ⟨h2, h⟩ := ctC_s h
    exact AReq.mk (of_decide_eq_true h1) (AIdx.iff.2 ⟨h2, loadC_s h hk⟩)

noncomputable def fieldC (T : Nat → TI) (s : Nat) (x : AV) (f : Nat) (K : AV → Option R) : Option R :=
  match (T s).u with
  | .struct fs => match fs[f]? with
    | some fo => match x with
      | .agg cs => drpC cs fo.1 fun cs => cond fo.2.1 (takC cs fo.2.2 fun r => K (.agg r)) (headC cs K)
      | _ => none
    | none => none
  | _ => none
theorem fieldC_s {T : Nat → TI} {s : Nat} {x : AV} {f : Nat} {K : AV → Option R} {K' : AV → Prop} {r : R} (h : fieldC T s x f K = some r) (hk : ∀ v, K v = some r → K' v) : fieldK T s x f K' := by
  unfold fieldC at h; unfold fieldK
  cases hu : (T s).u <;> simp only [hu] at h ⊢ <;> try (cases h; done)
  rename_i fs
  cases hf : fs[f]? <;> simp only [hf] at h ⊢ <;> try (cases h; done)
  rename_i fo
  cases x <;> simp only at h ⊢ <;> try (cases h; done)
  obtain ⟨h1, h⟩ := drpC_s h
  rw [drp_eq]
  cases hb : fo.2.1 <;> simp only [hb, cond] at h ⊢
  · exact headC_s h hk
  · obtain ⟨h2, h⟩ := takC_s h
    rw [cutK_iff]; exact ⟨h2, hk _ h⟩

/-- cells as bytes -/
noncomputable def bytC (xs : List AV) : (List UInt8 → Option R) → Option R :=
  @List.rec AV (fun _ => (List UInt8 → Option R) → Option R) (fun K => K []) (fun x _ g K => match x with
    | .v x => match x with
      | .int .u8 n => match n with
        | .ofNat n => reqC (Nat.ble n 255) (g fun bs => K (UInt8.ofNat n :: bs))
        | _ => none
      | _ => none
    | _ => none) xs
theorem bytC_s : ∀ {xs : List AV} {K : List UInt8 → Option R} {r : R}, bytC xs K = some r → ∃ bs : List UInt8, xs = bs.map byteC ∧ K bs = some r
  | [], K, r, h => ⟨[], rfl, h⟩
  | x :: xs, K, r, h => by
    cases x <;> try (cases h; done)
    rename_i a
    cases a <;> try (cases h; done)
    rename_i k n
    cases k <;> try (cases h; done)
    cases n <;> try (cases h; done)
    rename_i n
    have h : reqC (Nat.ble n 255) (bytC xs fun bs => K (UInt8.ofNat n :: bs)) = some r := h
    obtain ⟨h1, h⟩ := reqC_s h
    obtain ⟨bs, e, h⟩ := bytC_s h
    refine ⟨UInt8.ofNat n :: bs, ?_, h⟩
    have := Nat.le_of_ble_eq_true h1
    have e2 : (UInt8.ofNat n).toNat = n := by rw [UInt8.toNat_ofNat']; omega
    rw [List.map_cons, ← e, byteC, e2]
    rfl

noncomputable def convC (T : Nat → TI) (src dst : Nat) (H : List ABlk) (x : AV) (K : AV → List ABlk → Option R) : Option R :=
  match (T dst).u with
  | .int k => match (T src).u with
    | .int _ => intcC x fun n => intC k (k.wrap n) fun v => K v H
    | _ => none
  | .str => match (T src).u with
    | .str => match x with
      | .v x => match x with
        | .string s => K (.v (.string s)) H
        | _ => none
      | _ => none
    | .slice e => match (T e).u with
      | .int .u8 => match x with
        | .v _ => none
        | x => contentC H 1 x fun _ cs => bytC cs fun s => K (.v (.string ⟨⟨s⟩⟩)) H
      | _ => none
    | _ => none
  | .slice e => match (T src).u with
    | .str => match (T e).u with
      | .int .u8 => match x with
        | .v x => match x with
          | .string s => contentC H 1 (.v (.string s)) fun n cs => newC H (.cells e cs) fun l H => K (.ms 1 l 0 n) H
          | _ => none
        | _ => none
      | _ => none
    | _ => none
  | _ => none
theorem convC_s {T : Nat → TI} {src dst : Nat} {H : List ABlk} {x : AV} {K : AV → List ABlk → Option R} {K' : AV → List ABlk → Prop} {r : R} (h : convC T src dst H x K = some r) (hk : ∀ v H, K v H = some r → K' v H) : convK T src dst H x K' := by
  unfold convC at h; unfold convK
  cases hd : (T dst).u with
  | int k =>
    simp only [hd] at h ⊢
    cases hs : (T src).u <;> simp only [hs] at h ⊢ <;> try (cases h; done)
    refine intcC_s h fun i h => ?_
    rw [intC_eq] at h
    exact hk _ _ h
  | str =>
    simp only [hd] at h ⊢
    cases hs : (T src).u <;> simp only [hs] at h ⊢ <;> try (cases h; done)
    · cases x <;> try (cases h; done)
      rename_i a
      cases a <;> try (cases h; done)
      exact hk _ _ h
    · rename_i e
      cases he : (T e).u <;> simp only [he] at h ⊢ <;> try (cases h; done)
      rename_i k
      cases k <;> simp only at h ⊢ <;> try (cases h; done)
      cases x <;> simp only at h ⊢ <;> first
        | (cases h; done)
        | (refine contentC_s h fun n cs h => ?_
           obtain ⟨bs, e, h⟩ := bytC_s h
           rw [e]
           exact AStr.mk (hk _ _ h))
  | slice e =>
    simp only [hd] at h ⊢
    cases hs : (T src).u <;> simp only [hs] at h ⊢ <;> try (cases h; done)
    cases he : (T e).u <;> simp only [he] at h ⊢ <;> try (cases h; done)
    rename_i k
    cases k <;> simp only at h ⊢ <;> try (cases h; done)
    cases x <;> simp only at h ⊢ <;> try (cases h; done)
    rename_i a
    cases a <;> try (cases h; done)
    simp only at h ⊢
    have := contentC_s (K' := fun n cs => appK H (.cells e cs) 0 fun l H => K' (.ms 1 l 0 n) H) h fun n cs h => by
      rw [newC_eq] at h
      rw [appK_eq, Nat.zero_add]
      exact hk _ _ h
    simpa [contentK, ifK] using this
  | _ => simp only [hd] at h; cases h

noncomputable def zerosC (n : Nat) (cs : List AV) : (List AV → Option R) → Option R :=
  @Nat.rec (fun _ => (List AV → Option R) → Option R) (fun K => K []) (fun _ g K => g fun r => appC cs r K) n
theorem zerosC_eq (cs : List AV) : ∀ (n : Nat) (K : List AV → Option R), zerosC n cs K = K (List.replicate n cs).flatten
  | 0, K => rfl
  | n + 1, K => by
    have e : zerosC (n + 1) cs K = zerosC n cs fun r => appC cs r K := rfl
    rw [e, zerosC_eq cs n, appC_eq, List.replicate_succ, List.flatten_cons]

noncomputable def makeSliceC (T : Nat → TI) (t : Nat) (H : List ABlk) (len cap : AV) (K : AV → List ABlk → Option R) : Option R :=
  match (T t).u with
  | .slice e => intcC len fun n => intcC cap fun c => reqC (decide (0 ≤ n ∧ n ≤ c ∧ c * (T e).bytes ≤ 281474976710656 ∧ c ≤ 9223372036854775807))
      (cellsC (T e).zero fun cs => eqLenC cs (T e).size (fN n.toNat fun n => zerosC n cs fun zs => newC H (.cells e zs) fun l H => K (.ms (T e).size l 0 n) H))
  | _ => none
theorem makeSliceC_s {T : Nat → TI} {t : Nat} {H : List ABlk} {len cap : AV} {K : AV → List ABlk → Option R} {K' : AV → List ABlk → Prop} {r : R} (h : makeSliceC T t H len cap K = some r) (hk : ∀ v H, K v H = some r → K' v H) : makeSliceK T t H len cap K' := by
  unfold makeSliceC at h; unfold makeSliceK
  cases hd : (T t).u <;> simp only [hd] at h ⊢ <;> try (cases h; done)
  refine intcC_s h fun n h => intcC_s h fun c h => ?_
  obtain ⟨h1, h⟩ := reqC_s h
  refine AReq.mk (of_decide_eq_true h1) ?_
  rw [fv_eq]
  refine cellsC_s h fun cs h => ?_
  obtain ⟨h2, h⟩ := eqLenC_s h
  rw [lenK_iff]
  refine ⟨h2, ?_⟩
  simp only [fN_eq, zerosC_eq, newC_eq] at h
  rw [appK_eq, Nat.zero_add]
  exact hk _ _ h

noncomputable def copyC (T : Nat → TI) (t : Nat) (H : List ABlk) (dst : AV) (src : AV) (K : AV → List ABlk → Option R) : Option R :=
  match (T t).u with
  | .slice e => match dst with
    | .ms sz l o n => reqC (Nat.beq sz (T e).size) (contentC H sz src fun k cs => blkC H l fun b => match b with
        | .cells t' xs => fN (min k n) fun q => takC cs (q * sz) fun r => splC xs o r fun xs => setHC H l (.cells t' xs) fun H => K (.v (.int .i64 (Int.ofNat q))) H
        | _ => none)
    | _ => none
  | _ => none
theorem copyC_s {T : Nat → TI} {t : Nat} {H : List ABlk} {dst src : AV} {K : AV → List ABlk → Option R} {K' : AV → List ABlk → Prop} {r : R} (h : copyC T t H dst src K = some r) (hk : ∀ v H, K v H = some r → K' v H) : copyK T t H dst src K' := by
  unfold copyC at h; unfold copyK
  cases hd : (T t).u <;> simp only [hd] at h ⊢ <;> try (cases h; done)
  cases dst <;> simp only at h ⊢ <;> try (cases h; done)
  obtain ⟨h1, h⟩ := reqC_s h
  rw [h1]
  refine contentC_s h fun k cs h => ?_
  obtain ⟨b, h2, h⟩ := blkC_s h
  rw [blkK_iff]
  refine ⟨b, h2, ?_⟩
  cases b <;> simp only at h ⊢ <;> try (cases h; done)
  rw [fN_eq] at h
  obtain ⟨h3, h⟩ := takC_s h
  obtain ⟨h4, h⟩ := splC_s h
  obtain ⟨h5, h⟩ := setHC_s h
  rw [ACut.iff]
  refine ⟨by omega, ?_⟩
  rw [List.drop_zero, AUpd.iff]
  refine ⟨h4, ?_⟩
  rw [setH_iff]
  exact ⟨h5, hk _ _ h⟩

noncomputable def minmaxC (mx : Bool) : List AV → Int → IntKind → (AV → Option R) → Option R
  | [], n, k, K => K (.v (.int k n))
  | x :: xs, n, k, K => intcC x fun y => match mx with
    | true => minmaxC mx xs (if y > n then y else n) k K
    | false => minmaxC mx xs (if y < n then y else n) k K
theorem minmaxC_s {mx : Bool} : ∀ {xs : List AV} {n : Int} {k : IntKind} {K : AV → Option R} {K' : AV → Prop} {r : R}, minmaxC mx xs n k K = some r → (∀ v, K v = some r → K' v) → minmaxK mx xs n k K'
  | [], n, k, K, K', r, h, hk => hk _ h
  | x :: xs, n, k, K, K', r, h, hk => by
    unfold minmaxC at h; unfold minmaxK
    refine intcC_s h fun y h => ?_
    cases mx <;> simp only at h ⊢ <;> exact minmaxC_s h hk
noncomputable def minmax0C (mx : Bool) (xs : List AV) (K : AV → Option R) : Option R :=
  match xs with
  | [] => none
  | x :: xs => match x with
    | .v x => match x with
      | .int k n => minmaxC mx xs n k fun v => match v with
        | .v v => match v with
          | .int k n => intC k n K
          | _ => none
        | _ => none
      | _ => none
    | _ => none
theorem minmax0C_s {mx : Bool} {xs : List AV} {K : AV → Option R} {K' : AV → Prop} {r : R} (h : minmax0C mx xs K = some r) (hk : ∀ v, K v = some r → K' v) : minmax0K mx xs K' := by
  cases xs <;> try (cases h; done)
  rename_i x xs
  cases x <;> try (cases h; done)
  rename_i a
  cases a <;> try (cases h; done)
  simp only [minmax0C] at h
  simp only [minmax0K]
  refine minmaxC_s h fun v h => ?_
  cases v <;> try (cases h; done)
  rename_i a
  cases a <;> try (cases h; done)
  simp only [intC_eq] at h
  exact hk _ h

noncomputable def builtinC (T : Nat → TI) (b : Builtin) (ts : List Nat) (H : List ABlk) (xs : List AV) (K : AV → List ABlk → Option R) : Option R :=
  match b with
  | .len => match ts with
    | t :: _ => match xs with
      | x :: _ => match (T t).u with
        | .str => lenStrC x fun v => K v H
        | .slice _ => lenOfC x fun v => K v H
        | .arr n _ => intC .i64 n fun v => K v H
        | _ => none
      | _ => none
    | _ => none
  | .append => match ts with
    | t :: t2 :: _ => match xs with
      | x :: y :: _ => match (T t2).u with
        | .int _ => none
        | .other => none
        | _ => match (T t).u with
          | .slice e => contentC H (T e).size y fun n ys => appendC T t H x n ys K
          | _ => none
      | _ => none
    | _ => none
  | .copy => match ts with
    | t :: _ => match xs with
      | x :: y :: _ => copyC T t H x y K
      | _ => none
    | _ => none
  | .min => minmax0C false xs fun v => K v H
  | .max => minmax0C true xs fun v => K v H
  | _ => none
theorem builtinC_s {T : Nat → TI} {b : Builtin} {ts : List Nat} {H : List ABlk} {xs : List AV} {K : AV → List ABlk → Option R} {K' : AV → List ABlk → Prop} {r : R} (h : builtinC T b ts H xs K = some r) (hk : ∀ v H, K v H = some r → K' v H) : builtinK T b ts H xs K' := by
  unfold builtinC at h; unfold builtinK
  cases b <;> simp only at h ⊢ <;> try (cases h; done)
  case len =>
    cases ts <;> simp only at h ⊢ <;> try (cases h; done)
    cases xs <;> simp only at h ⊢ <;> try (cases h; done)
    rename_i t _ x _
    cases hu : (T t).u <;> simp only [hu] at h ⊢ <;> try (cases h; done)
    · exact lenStrC_s h fun v h => hk _ _ h
    · exact lenOfC_s h fun v h => hk _ _ h
    · rw [intC_eq] at h; exact hk _ _ h
  case append =>
    cases ts <;> try (cases h; done)
    rename_i t ts
    cases ts <;> try (cases h; done)
    rename_i t2 ts
    cases xs <;> try (cases h; done)
    rename_i x xs
    cases xs <;> try (cases h; done)
    rename_i y xs
    simp only at h ⊢
    cases hu : (T t2).u <;> simp only [hu] at h ⊢ <;> try (cases h; done)
    all_goals
      cases hv : (T t).u <;> simp only [hv] at h ⊢ <;> try (cases h; done)
      exact contentC_s h fun n ys h => appendC_s h hk
  case copy =>
    cases ts <;> try (cases h; done)
    rename_i t ts
    cases xs <;> try (cases h; done)
    rename_i x xs
    cases xs <;> try (cases h; done)
    exact copyC_s h hk
  case min => exact minmax0C_s h fun v h => hk _ _ h
  case max => exact minmax0C_s h fun v h => hk _ _ h

noncomputable def nthC (xs : List AV) (i : Nat) (K : AV → Option R) : Option R := drpC xs i fun ys => headC ys K
theorem nthC_s {xs : List AV} {i : Nat} {K : AV → Option R} {K' : AV → Prop} {r : R} (h : nthC xs i K = some r) (hk : ∀ v, K v = some r → K' v) : nthK xs i K' := by
  obtain ⟨h1, h⟩ := drpC_s h
  rw [nthK_iff]
  cases hd : xs.drop i with
  | nil => rw [hd] at h; cases h
  | cons x ys =>
    rw [hd] at h
    refine ⟨x, ?_, hk _ h⟩
    have : xs[i]? = (xs.drop i)[0]? := by simp
    rw [this, hd]; rfl

noncomputable def pickC (c a b : AV) (K : AV → Option R) : Option R :=
  match c with
  | .v c => match c with
    | .bool t => cond t (K a) (K b)
    | _ => none
  | _ => none
theorem pickC_s {c a b : AV} {K : AV → Option R} {K' : AV → Prop} {r : R} (h : pickC c a b K = some r) (hk : ∀ v, K v = some r → K' v) : pickK c a b K' := by
  cases c <;> try (cases h; done)
  rename_i x
  cases x <;> try (cases h; done)
  rename_i t
  cases t <;> exact hk _ h

noncomputable def nilCheckC (x : AV) (K : AV → Option R) : Option R :=
  match x with
  | .ptr l o => K (.ptr l o)
  | .pe l b sz i j => K (.pe l b sz i j)
  | .ip xs => K (.ip xs)
  | .fn f fs cs => K (.fn f fs cs)
  | .mp l => K (.mp l)
  | _ => none
theorem nilCheckC_s {x : AV} {K : AV → Option R} {K' : AV → Prop} {r : R} (h : nilCheckC x K = some r) (hk : ∀ v, K v = some r → K' v) : nilCheckK x K' := by
  cases x <;> first | (cases h; done) | exact hk _ h
end
end Go.Aw

/-
  Aw, part 43: closed calls are computed: operations, regions, code, functions.
-/
set_option linter.unusedSimpArgs false
set_option linter.unusedVariables false
namespace Go.Aw
open Go

/-- calls and operations that are told by others -/
structure Xt where
  ext : Nat → Bool
  gc : Nat → Bool
  call : Nat → List AV → List ABlk → Option (AV × List ABlk)
  op : Op → ET → List ABlk → Option (AV × List ABlk)

structure XtOk (P : Program) (T : Nat → TI) (X : Xt) : Prop where
  call : ∀ f args H r H', X.call f args H = some (r, H') → Spec P f args H (fun r' H'' => r' = r ∧ H'' = H')
  op : ∀ op (E : ET) H r H' (K : AV → List ABlk → Prop), E.wf → X.op op E H = some (r, H') → K r H' → AOp P op E.toL H K

def xC {R : Type} (x : Option (AV × List ABlk)) (K : AV → List ABlk → Option R) : Option R :=
  match x with
  | some (v, H) => K v H
  | none => none

abbrev CallC := (R : Type) → Nat → List AV → List ABlk → (AV → List ABlk → Option R) → Option R
def CallOk (P : Program) (call : CallC) : Prop := ∀ (R : Type) g args H (K : AV → List ABlk → Option R) r, call R g args H K = some r → Spec P g args H (fun v H' => K v H' = some r)

section
variable {R : Type}

noncomputable def aopC (P : Program) (T : Nat → TI) (X : Xt) (call : CallC) (op : Op) (E : ET) (H : List ABlk) (K : AV → List ABlk → Option R) : Option R :=
  match op with
  | .move x => evC E x fun v => K v H
  | .assign x => evC E x fun v => K v H
  | .pick c a b => evC E c fun c => evC E a fun a => evC E b fun b => pickC c a b fun v => K v H
  | .alloc t => okC T t <| cellsC (T t).zero fun cs => newC H (.cells t cs) fun l H => K (.ptr l 0) H
  | .box t x => evC E x fun v => cellsC v fun cs => newC H (.cells t cs) fun l H => K (.ptr l 0) H
  | .build t ps => buildC T t E ps.toList fun v => K v H
  | .buildSlice t n ps => buildSliceC T t n E ps.toList fun v => K v H
  | .load t x => evC E x fun p => loadAtC T H t p fun v => K v H
  | .store t x v => evC E x fun p => evC E v fun v => storeC T H t p v fun H => K .any H
  | .nilCheck x => evC E x fun x => nilCheckC x fun v => K v H
  | .binOp op t x y _ => evC E x fun x => evC E y fun y => bopC P T op t x y fun v => K v H
  | .unOp op _ x => evC E x fun x => unC op x fun v => K v H
  | .convert s d x => evC E x fun x => convC T s d H x K
  | .makeFunc fn fs cs => match fn with
    | .func f => evsC E fs.toList fun fs => evsC E cs.toList fun cs => K (.fn f fs cs) H
    | _ => none
  | .makeSlice t l c => match (T t).u with
    | .slice e => okC T e <| evC E l fun l => evC E c fun c => makeSliceC T t H l c K
    | _ => none
  | .slice t x lo hi mx => evC E x fun x => evoC E lo fun lo => evoC E hi fun hi => evoC E mx fun mx => match (T t).u with
    | .arr n e => okC T e <| sliceArrC T n e H x lo hi mx fun v => K v H
    | .slice e => okC T e <| sliceC T t x lo hi mx fun v => K v H
    | .str => sliceC T t x lo hi mx fun v => K v H
    | _ => none
  | .fieldAddr s x f => evC E x fun x => fieldAddrC T s x f fun v => K v H
  | .field s x f => evC E x fun x => fieldC T s x f fun v => K v H
  | .indexAddr t x i => evC E x fun x => evC E i fun i => match (T t).u with
    | .arr _ e => okC T e <| indexAddrC T t x i fun v => K v H
    | .slice e => okC T e <| indexAddrC T t x i fun v => K v H
    | _ => none
  | .index t x i => evC E x fun x => evC E i fun i => match (T t).u with
    | .arr _ e => okC T e <| indexC T t x i fun v => K v H
    | .str => indexC T t x i fun v => K v H
    | _ => none
  | .extract x i => evC E x fun x => match x with
    | .tup xs => nthC xs i fun v => K v H
    | _ => none
  | .call c => match c.callee with
    | .value f => evC E f fun f => evsC E c.args.toList fun xs => match f with
      | .fn g fs cs => reqC (callOk P g) (appC fs xs fun ys => appC ys cs fun ys => call R g ys H K)
      | _ => none
    | .builtin b => match c.argTypes.toList with
      | [] => none
      | t :: ts => match (T t).u with
        | .slice e => evsC E c.args.toList fun xs => okC T e <| builtinC T b (t :: ts) H xs K
        | .map _ _ => match b with
          | .delete => evsC E c.args.toList fun _ => xC (X.op (.call c) E H) K
          | .clear => evsC E c.args.toList fun _ => xC (X.op (.call c) E H) K
          | _ => none
        | _ => evsC E c.args.toList fun xs => builtinC T b (t :: ts) H xs K
    | .invoke _ _ => none
  | op => xC (X.op op E H) K

theorem xC_s {x : Option (AV × List ABlk)} {K : AV → List ABlk → Option R} {r : R} (h : xC x K = some r) : ∃ v H, x = some (v, H) ∧ K v H = some r := by
  cases x with
  | none => cases h
  | some p => exact ⟨p.1, p.2, rfl, h⟩

set_option maxHeartbeats 1000000 in
theorem aopC_s {P : Program} {T : Nat → TI} {X : Xt} {call : CallC} (hX : XtOk P T X) (hc : CallOk P call) {op : Op} {E : ET} (hw : E.wf) {H : List ABlk} {K : AV → List ABlk → Option R} {K' : AV → List ABlk → Prop} {r : R}
    (h : aopC P T X call op E H K = some r) (hk : ∀ v H, K v H = some r → K' v H) : aop P T op E.toL H K' := by
  have hx : ∀ op, xC (X.op op E H) K = some r → AOp P op E.toL H K' := fun op h => by
    obtain ⟨v, H', h1, h2⟩ := xC_s h
    exact hX.op op E H v H' K' hw h1 (hk _ _ h2)
  cases op <;> try (exact hx _ h)
  all_goals (unfold aopC at h; unfold aop; simp only at h ⊢)
  case move x => exact evC_s hw h fun v h => hk _ _ h
  case assign x => exact evC_s hw h fun v h => hk _ _ h
  case pick c a b => exact evC_s hw h fun c h => evC_s hw h fun a h => evC_s hw h fun b h => pickC_s h fun v h => hk _ _ h
  case alloc t =>
    refine okC_s h fun h => cellsC_s h fun cs h => ?_
    rw [newC_eq] at h; rw [appK_eq, Nat.zero_add]; exact hk _ _ h
  case box t x =>
    refine evC_s hw h fun v h => cellsC_s h fun cs h => ?_
    rw [newC_eq] at h; rw [appK_eq, Nat.zero_add]; exact hk _ _ h
  case build t ps => exact buildC_s hw h fun v h => hk _ _ h
  case buildSlice t n ps => exact buildSliceC_s hw h fun v h => hk _ _ h
  case load t x => exact evC_s hw h fun p h => loadAtC_s h fun v h => hk _ _ h
  case store t x v => exact evC_s hw h fun p h => evC_s hw h fun v h => storeC_s h fun H h => hk _ _ h
  case nilCheck x => exact evC_s hw h fun p h => nilCheckC_s h fun v h => hk _ _ h
  case binOp op t x y _ => exact evC_s hw h fun x h => evC_s hw h fun y h => bopC_s h fun v h => hk _ _ h
  case unOp op _ x => exact evC_s hw h fun x h => unC_s h fun v h => hk _ _ h
  case convert s d x => exact evC_s hw h fun x h => convC_s h hk
  case makeFunc fn fs cs =>
    cases fn <;> simp only at h ⊢ <;> try (cases h; done)
    exact evsC_s hw h fun fs h => evsC_s hw h fun cs h => hk _ _ h
  case makeSlice t l c =>
    cases hu : (T t).u <;> simp only [hu] at h ⊢ <;> try (cases h; done)
    exact okC_s h fun h => evC_s hw h fun l h => evC_s hw h fun c h => makeSliceC_s h hk
  case slice t x lo hi mx =>
    refine evC_s hw h fun x h => evoC_s hw h fun lo h => evoC_s hw h fun hi h => evoC_s hw h fun mx h => ?_
    cases hu : (T t).u <;> simp only [hu] at h ⊢ <;> try (cases h; done)
    · exact sliceC_s h fun v h => hk _ _ h
    · exact okC_s h fun h => sliceC_s h fun v h => hk _ _ h
    · exact okC_s h fun h => sliceArrC_s h fun v h => hk _ _ h
  case fieldAddr s x f => exact evC_s hw h fun x h => fieldAddrC_s h fun v h => hk _ _ h
  case field s x f => exact evC_s hw h fun x h => fieldC_s h fun v h => hk _ _ h
  case indexAddr t x i =>
    refine evC_s hw h fun x h => evC_s hw h fun i h => ?_
    cases hu : (T t).u <;> simp only [hu] at h ⊢ <;> try (cases h; done)
    · exact okC_s h fun h => indexAddrC_s h fun v h => hk _ _ h
    · exact okC_s h fun h => indexAddrC_s h fun v h => hk _ _ h
  case index t x i =>
    refine evC_s hw h fun x h => evC_s hw h fun i h => ?_
    cases hu : (T t).u <;> simp only [hu] at h ⊢ <;> try (cases h; done)
    · exact indexC_s h fun v h => hk _ _ h
    · exact okC_s h fun h => indexC_s h fun v h => hk _ _ h
  case extract x i =>
    refine evC_s hw h fun x h => ?_
    cases x <;> simp only at h ⊢ <;> try (cases h; done)
    exact nthC_s h fun v h => hk _ _ h
  case call c =>
    obtain ⟨callee, args, ts⟩ := c
    cases callee <;> simp only at h ⊢ <;> try (cases h; done)
    · refine evC_s hw h fun f h => evsC_s hw h fun xs h => ?_
      cases f <;> simp only at h ⊢ <;> try (cases h; done)
      obtain ⟨h1, h⟩ := reqC_s h
      rw [appC_eq, appC_eq] at h
      rw [ACall.iff]
      exact ⟨h1, (hc _ _ _ _ _ _ h).mono fun r H h => hk _ _ h⟩
    · rename_i b
      cases hts : ts.toList <;> simp only [hts] at h <;> try (cases h; done)
      rename_i t ts'
      cases hu : (T t).u <;> simp only [hu] at h
      case map k e =>
        cases b <;> simp only at h <;> try (cases h; done)
        all_goals exact evsC_s hw h fun xs h => (by simp only [hts, hu]; exact hx _ h)
      case slice e => exact evsC_s hw h fun xs h => (by simp only [hts, hu]; exact okC_s h fun h => builtinC_s h hk)
      all_goals exact evsC_s hw h fun xs h => (by simp only [hts, hu]; exact builtinC_s h hk)

/-! ### guards -/
noncomputable def knDelC (ops : Array Oper) (d : Nat) : List (Nat × Bool) → (List (Nat × Bool) → Option R) → Option R
  | [], K => K []
  | x :: r, K => match dstOf ops x.1 with
    | none => knDelC ops d r K
    | some d' => cond (Nat.beq d' d) (knDelC ops d r K) (knDelC ops d r fun r => K (x :: r))
theorem knDelC_s {ops : Array Oper} {d : Nat} : ∀ {kn : List (Nat × Bool)} {K : List (Nat × Bool) → Option R} {K' : List (Nat × Bool) → Prop} {r : R}, knDelC ops d kn K = some r → (∀ kn, K kn = some r → K' kn) → knDel ops d kn K'
  | [], K, K', r, h, hk => hk _ h
  | x :: kn, K, K', r, h, hk => by
    unfold knDelC at h; unfold knDel
    cases hd : dstOf ops x.1 <;> simp only [hd] at h ⊢
    · exact knDelC_s h hk
    · rename_i d'
      cases hb : Nat.beq d' d <;> simp only [hb, cond] at h ⊢
      · exact knDelC_s h fun kn h => hk _ h
      · exact knDelC_s h hk
noncomputable def knPutC (ops : Array Oper) (d : Option Nat) (kn : List (Nat × Bool)) (K : List (Nat × Bool) → Option R) : Option R :=
  match d with
  | none => K kn
  | some d => knDelC ops d kn K
theorem knPutC_s {ops : Array Oper} {d : Option Nat} {kn : List (Nat × Bool)} {K : List (Nat × Bool) → Option R} {K' : List (Nat × Bool) → Prop} {r : R} (h : knPutC ops d kn K = some r) (hk : ∀ kn, K kn = some r → K' kn) : knPut ops d kn K' := by
  cases d with
  | none => exact hk _ h
  | some d => exact knDelC_s h hk
noncomputable def putC (E : ET) (d : Option Nat) (v : AV) (K : ET → Option R) : Option R :=
  match d with
  | none => K E
  | some d => E.setC d v K
theorem putC_s {E : ET} (hw : E.wf) {d : Option Nat} {v : AV} {K : ET → Option R} {K' : List AV → Prop} {r : R} (h : putC E d v K = some r) (hk : ∀ E : ET, E.wf → K E = some r → K' E.toL) : putK E.toL d v K' := by
  rw [putK_eq]
  cases d with
  | none => exact hk _ hw h
  | some d =>
    obtain ⟨E', h1, h2, h3⟩ := ET.setC_s _ _ _ _ _ hw h
    have := hk _ h2 h1
    rw [h3] at this; exact this

/-- one operation, and how it goes on -/
noncomputable def opC (P : Program) (T : Nat → TI) (X : Xt) (call : CallC) (ops : Array Oper) (o : Oper) (kn : List (Nat × Bool)) (E : ET) (H : List ABlk) (K : List (Nat × Bool) → ET → List ABlk → Option R) : Option R :=
  match o.guard with
  | none => aopC P T X call o.op E H fun v H => putC E o.dst v fun E => knPutC ops o.dst kn fun kn => K kn E H
  | some g => match dstOf ops g.1 with
    | none => none
    | some d => match kno kn g.1 with
      | some b => cond (eqB b g.2) (aopC P T X call o.op E H fun v H => putC E o.dst v fun E => knPutC ops o.dst kn fun kn => K kn E H)
          (putC E o.dst (.v (.tuple #[])) fun E => knPutC ops o.dst kn fun kn => K kn E H)
      | none => match E.get d with
        | .v x => match x with
          | .bool t => fB t fun b => E.setC d (.v (.bool b)) fun E => cond (eqB b g.2) (aopC P T X call o.op E H fun v H => putC E o.dst v fun E => knPutC ops o.dst ((g.1, b) :: kn) fun kn => K kn E H)
              (putC E o.dst (.v (.tuple #[])) fun E => knPutC ops o.dst ((g.1, b) :: kn) fun kn => K kn E H)
          | .tuple _ => putC E o.dst (.v (.tuple #[])) fun E => knPutC ops o.dst kn fun kn => K kn E H
          | _ => none
        | _ => none

theorem opC_s {P : Program} {T : Nat → TI} {X : Xt} {call : CallC} (hX : XtOk P T X) (hc : CallOk P call) {ops : Array Oper} {o : Oper} {kn : List (Nat × Bool)} {E : ET} (hw : E.wf) {H : List ABlk} {K : List (Nat × Bool) → ET → List ABlk → Option R} {K' : List (Nat × Bool) → List AV → List ABlk → Prop} {r : R}
    (h : opC P T X call ops o kn E H K = some r) (hk : ∀ kn (E : ET) H, E.wf → K kn E H = some r → K' kn E.toL H) : opK P T ops o kn E.toL H K' := by
  have hdo : ∀ (E : ET) (hw : E.wf) kn, (aopC P T X call o.op E H fun v H => putC E o.dst v fun E => knPutC ops o.dst kn fun kn => K kn E H) = some r → aop P T o.op E.toL H fun v H => putK E.toL o.dst v fun E => knPut ops o.dst kn fun kn => K' kn E H :=
    fun E hw kn h => aopC_s hX hc hw h fun v H h => putC_s hw h fun E hw h => knPutC_s h fun kn h => hk _ _ _ hw h
  have hno : ∀ (E : ET) (hw : E.wf) kn, (putC E o.dst (.v (.tuple #[])) fun E => knPutC ops o.dst kn fun kn => K kn E H) = some r → putK E.toL o.dst (.v (.tuple #[])) fun E => knPut ops o.dst kn fun kn => K' kn E H :=
    fun E hw kn h => putC_s hw h fun E hw h => knPutC_s h fun kn h => hk _ _ _ hw h
  unfold opC at h; unfold opK
  cases hg : o.guard <;> simp only [hg] at h ⊢
  · exact hdo E hw kn h
  · rename_i g
    cases hd : dstOf ops g.1 <;> simp only [hd] at h ⊢ <;> try (cases h; done)
    rename_i d
    cases hn : kno kn g.1 <;> simp only [hn] at h ⊢
    · simp only [fv_eq]
      rw [← ET.get_eq _ _ hw]
      cases hx : E.get d <;> simp only [hx] at h ⊢ <;> try (cases h; done)
      rename_i x
      cases x <;> simp only at h ⊢ <;> try (cases h; done)
      · rename_i t
        rw [fB_eq] at h
        rw [ASplit.iff, setK_eq]
        obtain ⟨E', h1, h2, h3⟩ := ET.setC_s _ _ _ _ _ hw h
        rw [← h3]
        cases hb : eqB t g.2 <;> simp only [hb, cond] at h1 ⊢
        · exact hno E' h2 _ h1
        · exact hdo E' h2 _ h1
      · exact hno E hw kn h
    · rename_i b
      cases hb : eqB b g.2 <;> simp only [hb, cond] at h ⊢
      · exact hno E hw kn h
      · exact hdo E hw kn h

/-! ### regions in their order -/
/-- an operation told by what it does, in the text's order -/
theorem AO.consA {P : Program} {T : Nat → TI} {ops : Array Oper} {o : Oper} {os : List Oper} {kn : List (Nat × Bool)} {Q : List AV → List ABlk → Prop} {E : List AV} {H : List ABlk} (hg : o.guard = none)
    (h : AOp P o.op E H fun v H => putK E o.dst v fun E => knPut ops o.dst kn fun kn => AO P T ops os kn Q E H) : AO P T ops (o :: os) kn Q E H :=
  ⟨fun C R hR is m I a w hi hs hE hd hkn => by
    cases is with
    | nil => simp at hi
    | cons i is =>
      simp only [List.map_cons, List.cons.injEq] at hi
      obtain ⟨dst, op, type, pos, after, guard⟩ := o
      have hw : Region.wanted ⟨dst, op, type, pos, after, guard⟩ (yielded ops a.tmps) = true := by
        unfold Region.wanted
        simp only at hg
        rw [hg]
      have h1 := AOp.iff.1 h C m I w a dst type pos after guard R hs hE
      simp only [wpOps, hi.1, hw]
      refine .inl (Oper.wp_mono (fun a' w' h' => ?_) h1)
      obtain ⟨x, y, H', m', I', h1, rfl, h3, h4, h5⟩ := h'
      rw [putK_eq] at h1
      obtain ⟨kn', h6, h7⟩ := knPut_spec h1 hkn
      exact h6.run C R hR is m' I' _ w' hi.2 h4 (put_rep (RepL.ext h5 _ _ hE) h3) (by rw [put_defers]; exact hd) (h7 y)⟩

/-- the length of a map -/
theorem AOp.lenMap {P : Program} {E : List AV} {H : List ABlk} {K : AV → List ABlk → Prop} {mo : Operand} {t kt et l : Nat} {es : List (AV × AV)} {bs : List Nat} {clk : Nat} (ht : P.underlying t = some (.map kt et)) (hm : ev E mo = .mp l) (hH : H[l]? = some (.map es bs clk))
    (k : K (.v (.int .i64 es.length)) H) : AOp P (.call ⟨.builtin .len, #[mo], #[t]⟩) E H K := by
  rw [AOp.iff]
  intro C m I w a' dst type pos after guard Q hs hE
  obtain ⟨b, ents, hb, hnI, hw, hr⟩ := hs.map_at hH
  have em1 := ev_rep (o := mo) hE
  rw [hm] at em1
  have e1 := hs.mp_val hb em1
  have hlen : ents.length = es.length := by
    have := hr.1.length
    simpa using this
  refine wp_val_of (s := Builtin.len_ #[t] type ((#[mo] : Array Operand).map a'.eval)) (v := .int .i64 es.length) k (by simp [Rep]) hs (.refl _ _ _) ?_ rfl
  rw [show (#[mo] : Array Operand).map a'.eval = #[a'.eval mo] by simp, e1]
  simp [Builtin.len_, run_underlying ht, MapKept.run_getObj_map hw, Result.andThen, goInt, hlen]

/-- is it the length of a map? -/
def lenM (T : Nat → TI) (o : Oper) : Option (Nat × Operand) :=
  match o.guard with
  | none => match o.op with
    | .call c => match c.callee with
      | .builtin b => match b with
        | .len => match c.argTypes.toList with
          | [t] => match c.args.toList with
            | [x] => match (T t).u with
              | .map _ _ => some (t, x)
              | _ => none
            | _ => none
          | _ => none
        | _ => none
      | _ => none
    | _ => none
  | _ => none
theorem lenM_s {T : Nat → TI} {o : Oper} {t : Nat} {x : Operand} (h : lenM T o = some (t, x)) : o.guard = none ∧ o.op = .call ⟨.builtin .len, #[x], #[t]⟩ := by
  obtain ⟨dst, op, type, pos, after, guard⟩ := o
  unfold lenM at h
  simp only at h ⊢
  split at h <;> try (cases h; done)
  split at h <;> try (cases h; done)
  rename_i c
  obtain ⟨callee, args, ts⟩ := c
  simp only at h
  split at h <;> try (cases h; done)
  split at h <;> try (cases h; done)
  split at h <;> try (cases h; done)
  rename_i hts
  split at h <;> try (cases h; done)
  rename_i hargs
  split at h <;> try (cases h; done)
  cases h
  have e1 : args = #[x] := Array.ext' hargs
  have e2 : ts = #[t] := Array.ext' hts
  rw [e1, e2]
  exact ⟨rfl, rfl⟩

noncomputable def opsC (P : Program) (T : Nat → TI) (X : Xt) (call : CallC) (ops : Array Oper) (os : List Oper) : List (Nat × Bool) → ET → List ABlk → (ET → List ABlk → Option R) → Option R :=
  @List.rec Oper (fun _ => List (Nat × Bool) → ET → List ABlk → (ET → List ABlk → Option R) → Option R) (fun _ E H K => K E H)
    (fun o _ g kn E H K => match lenM T o with
      | some p => match P.underlying p.1 with
        | some (.map _ _) => evC E p.2 fun v => match v with
          | .mp l => blkC H l fun b => match b with
            | .map es bs clk => lenC es fun n => putC E o.dst (.v (.int .i64 (Int.ofNat n))) fun E => knPutC ops o.dst kn fun kn => g kn E H K
            | _ => none
          | _ => none
        | _ => none
      | none => opC P T X call ops o kn E H fun kn E H => g kn E H K) os
theorem opsC_s {P : Program} {T : Nat → TI} (hT : TOk P T) {X : Xt} {call : CallC} (hX : XtOk P T X) (hc : CallOk P call) {ops : Array Oper} : ∀ {os : List Oper} {kn : List (Nat × Bool)} {E : ET} (hw : E.wf) {H : List ABlk} {K : ET → List ABlk → Option R} {Q : List AV → List ABlk → Prop} {r : R},
    opsC P T X call ops os kn E H K = some r → (∀ (E : ET) H, E.wf → K E H = some r → Q E.toL H) → AO P T ops os kn Q E.toL H
  | [], kn, E, hw, H, K, Q, r, h, hk => AO.nil (hk _ _ hw h)
  | o :: os, kn, E, hw, H, K, Q, r, h, hk => by
    have h : (match lenM T o with
      | some p => match P.underlying p.1 with
        | some (.map _ _) => evC E p.2 fun v => match v with
          | .mp l => blkC H l fun b => match b with
            | .map es bs clk => lenC es fun n => putC E o.dst (.v (.int .i64 (Int.ofNat n))) fun E => knPutC ops o.dst kn fun kn => opsC P T X call ops os kn E H K
            | _ => none
          | _ => none
        | _ => none
      | none => opC P T X call ops o kn E H fun kn E H => opsC P T X call ops os kn E H K) = some r := h
    split at h
    · rename_i p hp
      obtain ⟨t, x⟩ := p
      obtain ⟨h1, h2⟩ := lenM_s hp
      split at h <;> try (cases h; done)
      rename_i kt et ht
      refine AO.consA h1 ?_
      rw [h2]
      have key : ∃ l es bs clk, ev E.toL x = .mp l ∧ H[l]? = some (.map es bs clk) ∧ (putC E o.dst (.v (.int .i64 (Int.ofNat es.length))) fun E => knPutC ops o.dst kn fun kn => opsC P T X call ops os kn E H K) = some r := by
        have hgo : ∀ v : AV, (match v with
          | .mp l => blkC H l fun b => match b with
            | .map es bs clk => lenC es fun n => putC E o.dst (.v (.int .i64 (Int.ofNat n))) fun E => knPutC ops o.dst kn fun kn => opsC P T X call ops os kn E H K
            | _ => none
          | _ => none : Option R) = some r → ∃ l es bs clk, v = .mp l ∧ H[l]? = some (.map es bs clk) ∧ (putC E o.dst (.v (.int .i64 (Int.ofNat es.length))) fun E => knPutC ops o.dst kn fun kn => opsC P T X call ops os kn E H K) = some r := by
          intro v h
          split at h <;> try (cases h; done)
          obtain ⟨b, h3, h⟩ := blkC_s h
          split at h <;> try (cases h; done)
          rw [lenC_eq] at h
          exact ⟨_, _, _, _, rfl, h3, h⟩
        cases x <;> simp only [evC] at h <;> try (cases h; done)
        · obtain ⟨l, es, bs, clk, g1, g2, g3⟩ := hgo _ h
          rw [ET.get_eq _ _ hw] at g1
          exact ⟨l, es, bs, clk, g1, g2, g3⟩
      obtain ⟨l, es, bs, clk, g1, g2, g3⟩ := key
      exact AOp.lenMap ht g1 g2 (putC_s hw g3 fun E hw h => knPutC_s h fun kn h => opsC_s hT hX hc hw h hk)
    · exact AO.cons hT (opC_s hX hc hw h fun kn E H hw h => opsC_s hT hX hc hw h hk)
end

/-! ### equality -/
noncomputable def eqV : Value → Value → Bool
  | .int k a, .int k' b => decide (k = k') && decide (a = b)
  | .bool a, .bool b => a == b
  | .string s, .string t => eqU s.data.toList t.data.toList
  | .slice none a b, .slice none c d => Nat.beq a c && Nat.beq b d
  | .pointer none, .pointer none => true
  | .map none, .map none => true
  | .nilFunc, .nilFunc => true
  | .nilIface, .nilIface => true
  | .tuple a, .tuple b => Nat.beq a.toList.length 0 && Nat.beq b.toList.length 0
  | _, _ => false
theorem eqV_s {a b : Value} (h : eqV a b = true) : a = b := by
  unfold eqV at h
  split at h <;> try (cases h; done)
  · simp only [Bool.and_eq_true, decide_eq_true_eq] at h; rw [h.1, h.2]
  · simp only [beq_iff_eq] at h; rw [h]
  · rw [eqU_eq, beq_iff_eq] at h
    congr 1
    exact ByteArray.ext (Array.ext' h)
  · simp only [Bool.and_eq_true] at h
    rw [Nat.eq_of_beq_eq_true h.1, Nat.eq_of_beq_eq_true h.2]
  · rfl
  · rfl
  · rfl
  · rfl
  · rename_i x y
    simp only [Bool.and_eq_true] at h
    have h1 := List.eq_nil_of_length_eq_zero (Nat.eq_of_beq_eq_true h.1)
    have h2 := List.eq_nil_of_length_eq_zero (Nat.eq_of_beq_eq_true h.2)
    congr 1
    exact Array.ext' (h1.trans h2.symm)
mutual
noncomputable def eqAV : AV → AV → Bool
  | .any, y => match y with | .any => true | _ => false
  | .v a, y => match y with | .v b => eqV a b | _ => false
  | .agg xs, y => match y with | .agg ys => eqAVL xs ys | _ => false
  | .tup xs, y => match y with | .tup ys => eqAVL xs ys | _ => false
  | .vs a b xs, y => match y with | .vs c d ys => Nat.beq a c && Nat.beq b d && eqAVL xs ys | _ => false
  | .vx a b xs, y => match y with | .vx c d ys => Nat.beq a c && Nat.beq b d && eqAVL xs ys | _ => false
  | .ip xs, y => match y with | .ip ys => eqAVL xs ys | _ => false
  | .ms a b c d, y => match y with | .ms a' b' c' d' => Nat.beq a a' && Nat.beq b b' && Nat.beq c c' && Nat.beq d d' | _ => false
  | .ptr a b, y => match y with | .ptr c d => Nat.beq a c && Nat.beq b d | _ => false
  | .pe a b c d e, y => match y with | .pe a' b' c' d' e' => Nat.beq a a' && Nat.beq b b' && Nat.beq c c' && Nat.beq d d' && Nat.beq e e' | _ => false
  | .mp a, y => match y with | .mp b => Nat.beq a b | _ => false
  | .fn f fs cs, y => match y with | .fn g gs ds => Nat.beq f g && eqAVL fs gs && eqAVL cs ds | _ => false
noncomputable def eqAVL : List AV → List AV → Bool
  | [], y => match y with | [] => true | _ => false
  | x :: xs, y => match y with | y :: ys => eqAV x y && eqAVL xs ys | _ => false
end
mutual
theorem eqAV_s : ∀ (x y : AV), eqAV x y = true → x = y
  | .any, y, h => by cases y <;> simp only [eqAV] at h <;> first | rfl | cases h
  | .v a, y, h => by cases y <;> simp only [eqAV] at h <;> first | (cases h; done) | rw [eqV_s h]
  | .agg xs, y, h => by cases y <;> simp only [eqAV] at h <;> first | (cases h; done) | rw [eqAVL_s _ _ h]
  | .tup xs, y, h => by cases y <;> simp only [eqAV] at h <;> first | (cases h; done) | rw [eqAVL_s _ _ h]
  | .vs a b xs, y, h => by
    cases y <;> simp only [eqAV, Bool.and_eq_true] at h <;> first | (cases h; done) | rw [Nat.eq_of_beq_eq_true h.1.1, Nat.eq_of_beq_eq_true h.1.2, eqAVL_s _ _ h.2]
  | .vx a b xs, y, h => by
    cases y <;> simp only [eqAV, Bool.and_eq_true] at h <;> first | (cases h; done) | rw [Nat.eq_of_beq_eq_true h.1.1, Nat.eq_of_beq_eq_true h.1.2, eqAVL_s _ _ h.2]
  | .ip xs, y, h => by cases y <;> simp only [eqAV] at h <;> first | (cases h; done) | rw [eqAVL_s _ _ h]
  | .ms a b c d, y, h => by
    cases y <;> simp only [eqAV, Bool.and_eq_true] at h <;> first | (cases h; done) | rw [Nat.eq_of_beq_eq_true h.1.1.1, Nat.eq_of_beq_eq_true h.1.1.2, Nat.eq_of_beq_eq_true h.1.2, Nat.eq_of_beq_eq_true h.2]
  | .ptr a b, y, h => by
    cases y <;> simp only [eqAV, Bool.and_eq_true] at h <;> first | (cases h; done) | rw [Nat.eq_of_beq_eq_true h.1, Nat.eq_of_beq_eq_true h.2]
  | .pe a b c d e, y, h => by
    cases y <;> simp only [eqAV, Bool.and_eq_true] at h <;> first | (cases h; done) | rw [Nat.eq_of_beq_eq_true h.1.1.1.1, Nat.eq_of_beq_eq_true h.1.1.1.2, Nat.eq_of_beq_eq_true h.1.1.2, Nat.eq_of_beq_eq_true h.1.2, Nat.eq_of_beq_eq_true h.2]
  | .mp a, y, h => by cases y <;> simp only [eqAV] at h <;> first | (cases h; done) | rw [Nat.eq_of_beq_eq_true h]
  | .fn f fs cs, y, h => by
    cases y <;> simp only [eqAV, Bool.and_eq_true] at h <;> first | (cases h; done) | rw [Nat.eq_of_beq_eq_true h.1.1, eqAVL_s _ _ h.1.2, eqAVL_s _ _ h.2]
theorem eqAVL_s : ∀ (x y : List AV), eqAVL x y = true → x = y
  | [], y, h => by cases y <;> simp only [eqAVL] at h <;> first | rfl | cases h
  | x :: xs, y, h => by
    cases y <;> simp only [eqAVL, Bool.and_eq_true] at h <;> first | (cases h; done) | rw [eqAV_s _ _ h.1, eqAVL_s _ _ h.2]
end
noncomputable def eqP : List (AV × AV) → List (AV × AV) → Bool
  | [], y => match y with | [] => true | _ => false
  | x :: xs, y => match y with | y :: ys => eqAV x.1 y.1 && eqAV x.2 y.2 && eqP xs ys | _ => false
theorem eqP_s : ∀ (x y : List (AV × AV)), eqP x y = true → x = y
  | [], y, h => by cases y <;> simp only [eqP] at h <;> first | rfl | cases h
  | x :: xs, y, h => by
    cases y <;> simp only [eqP, Bool.and_eq_true] at h <;> first | (cases h; done) | rw [eqP_s _ _ h.2, Prod.ext (eqAV_s _ _ h.1.1) (eqAV_s _ _ h.1.2)]
noncomputable def eqBlk : ABlk → ABlk → Bool
  | .dead, y => match y with | .dead => true | _ => false
  | .cells t xs, y => match y with | .cells t' ys => Nat.beq t t' && eqAVL xs ys | _ => false
  | .ice t xs, y => match y with | .ice t' ys => Nat.beq t t' && eqAVL xs ys | _ => false
  | .map es bs c, y => match y with | .map es' bs' c' => eqP es es' && decide (bs = bs') && Nat.beq c c' | _ => false
  | _, _ => false
theorem eqBlk_s (x y : ABlk) (h : eqBlk x y = true) : x = y := by
  cases x <;> cases y <;> simp only [eqBlk, Bool.and_eq_true, decide_eq_true_eq] at h <;> first
    | rfl
    | (cases h; done)
    | rw [Nat.eq_of_beq_eq_true h.1, eqAVL_s _ _ h.2]
    | rw [eqP_s _ _ h.1.1, h.1.2, Nat.eq_of_beq_eq_true h.2]
noncomputable def eqH : List ABlk → List ABlk → Bool
  | [], y => match y with | [] => true | _ => false
  | x :: xs, y => match y with | y :: ys => eqBlk x y && eqH xs ys | _ => false
theorem eqH_s : ∀ (x y : List ABlk), eqH x y = true → x = y
  | [], y, h => by cases y <;> simp only [eqH] at h <;> first | rfl | cases h
  | x :: xs, y, h => by
    cases y <;> simp only [eqH, Bool.and_eq_true] at h <;> first | (cases h; done) | rw [eqBlk_s _ _ h.1, eqH_s _ _ h.2]
noncomputable def eqET : ET → ET → Bool
  | .leaf x, y => match y with | .leaf y => eqAV x y | _ => false
  | .node n a b, y => match y with | .node m c d => Nat.beq n m && eqET a c && eqET b d | _ => false
theorem eqET_s : ∀ (x y : ET), eqET x y = true → x = y
  | .leaf x, y, h => by cases y <;> simp only [eqET] at h <;> first | (cases h; done) | rw [eqAV_s _ _ h]
  | .node n a b, y, h => by
    cases y <;> simp only [eqET, Bool.and_eq_true] at h <;> first | (cases h; done) | rw [Nat.eq_of_beq_eq_true h.1.1, eqET_s _ _ h.1.2, eqET_s _ _ h.2]
end Go.Aw

set_option linter.unusedSimpArgs false
set_option linter.unusedVariables false
set_option maxHeartbeats 2000000
namespace Go.Aw.U1
open Go Go.Proofs

theorem cntT_ge (s : ByteArray) : ∀ (n pos : Nat) (k : Int), k ≤ cntT s n pos k
  | 0, _, k => Int.le_refl _
  | n + 1, pos, k => by
    rw [cntT]
    split
    · have := cntT_ge s n (pos + (Utf8.decode s pos).2) (k + 1); omega
    · exact Int.le_refl _
def eS : ByteArray := ⟨#[]⟩
/-- what is folded of what is left -/
def foldT (s : ByteArray) : Nat → Nat → Int → List Int → ByteArray × Int
  | 0, _, _, out => (runesBytes out, 0)
  | n + 1, pos, last, out => if pos < s.size then (if okR (Utf8.decode s pos).1 last = true then foldT s n (pos + (Utf8.decode s pos).2) (clsF (Utf8.decode s pos).1) (out ++ [foldR (Utf8.decode s pos).1]) else (eS, 9)) else (runesBytes out, 0)
def dashS : ByteArray := ⟨#[45]⟩
def foldF (s : ByteArray) : ByteArray × Int :=
  if cntT s s.size 0 0 < 1 ∨ 16 < cntT s s.size 0 0 ∨ sufB s dashS = true then (eS, 9) else foldT s s.size 0 3 []
theorem rI_ren (ρ : Nat → Nat) : ∀ l : List Int, renL ρ (l.map rI) = l.map rI
  | [] => rfl
  | x :: l => by rw [List.map_cons, renL, rI_ren ρ l]; rfl
def txtE (p : ByteArray × Int) : AV := .tup [sV p.1, nV p.2]
theorem f223 (s : ByteArray) (hs : s.size ≤ 9223372036854775807) : Fun P 223 [sV s] (txtE (foldF s)) := by
  refine spec_of hT (f := 223) (fn := Go.Proofs.Tryz.f223) (c := body Go.Proofs.Tryz.f223) (by kernel_rfl) (by kernel_rfl) ?_
  conv => whnf
  repeat refine go ?_
  refine ACall.val (by kernel_rfl) (f304 s hs) rfl rfl ?_
  conv => whnf
  repeat refine go ?_
  unfold foldF
  generalize hN : cntT s s.size 0 0 = N
  have hN0 : 0 ≤ N := by rw [← hN]; exact cntT_ge s s.size 0 0
  refine ASplit.dec (fun h1 => ?_) (fun h1 => ?_)
  · rw [if_pos (.inl h1)]
    conv => whnf
    repeat refine ru ?_
    exact AFin.val rfl ⟨rfl, rfl⟩
  conv => whnf
  repeat refine ru ?_
  refine ASplit.dec (fun h2 => ?_) (fun h2 => ?_)
  · rw [if_pos (.inr (.inl h2))]
    conv => whnf
    repeat refine ru ?_
    exact AFin.val rfl ⟨rfl, rfl⟩
  conv => whnf
  repeat refine ru ?_
  refine ACall.val (by kernel_rfl) (f305 s dashS hs) rfl rfl ?_
  rcases Bool.eq_false_or_eq_true (sufB s dashS) with g | g
  · rw [if_pos (.inr (.inr g)), g]
    conv => whnf
    repeat refine ru ?_
    exact AFin.val rfl ⟨rfl, rfl⟩
  rw [if_neg (by rw [g]; exact fun h => h.elim h1 (fun h => h.elim h2 (fun h => Bool.noConfusion h))), g]
  conv => whnf
  repeat refine ru ?_
  refine ACall.spec (by kernel_rfl) f306 rfl ?_
  rintro _ _ ⟨rfl, rfl⟩
  have hb21 : (T 21).bytes = 4 := by kernel_rfl
  conv => whnf
  repeat refine go ?_
  refine AReq.mk (by rw [hb21]; omega) ?_
  conv => whnf
  repeat refine go ?_
  refine AOp.rangeS und9 rfl ?_
  conv => whnf
  repeat refine go ?_
  generalize hR : foldT s s.size 0 3 [] = R
  refine ALoop.mk (fun n E H => ∃ (pos : Nat) (last : Int) (out : List Int), s.size - pos ≤ n ∧ cntT s n pos out.length = N ∧ foldT s n pos last out = R ∧
      E = pad [sV s, .any, sV eS, nV 0, nV N, .fn 385 [] [.ptr 0 0], .ms 1 1 0 out.length, .any, .any, .any, .any, .any, .any, .any, .any, .any, .any, .any, .any, .any, .any, .any, .any, .any, .any, .ptr 2 0] 40 ∧
      H = [.cells 3 [nV last], .cells 21 (out.map rI), sIt s pos]) (n := s.size) _ _
    ⟨0, 3, [], by omega, hN, hR, rfl, rfl⟩ (Conv.fit (by repeat' (first | exact Fit.nil | refine Fit.any ?_ | refine Fit.same ?_))) ?_
  rintro n _ _ ⟨pos, last, out, hpn, hC, hI, rfl, rfl⟩
  conv => whnf
  repeat refine go ?_
  refine AOp.nextS (li := 2) (s := s) (pos := pos) rfl rfl (fun h0 => ?_) (fun h0 => ?_)
  · have hR2 : (runesBytes out, (0 : Int)) = R := by
      rw [← hI]
      cases n with
      | zero => rfl
      | succ n => rw [foldT, if_neg h0]
    conv => whnf
    repeat refine ru ?_
    refine AOut.stay ?_
    conv => whnf
    refine AW.seq ?_
    conv => whnf
    refine AW.region ?_
    conv => whnf
    refine AO.cons hT ?_
    conv => whnf
    refine AO.consA rfl ?_
    refine AOp.runes (l := 1) (ns := out) (t' := 21) und256 und21 und9 ?_ ?_ ?_
    · rfl
    · rfl
    conv => whnf
    repeat refine go ?_
    exact AFin.val rfl ⟨congrArg txtE hR2, rfl⟩
  · obtain ⟨n, rfl⟩ : ∃ m, n = m + 1 := ⟨n - 1, by omega⟩
    have hw := dec_pos s pos
    rw [foldT, if_pos h0] at hI
    rw [cntT, if_pos h0] at hC
    have hge := cntT_ge s n (pos + (Utf8.decode s pos).2) (out.length + 1)
    conv => whnf
    repeat refine ru ?_
    refine ACall.of (by kernel_rfl) (f385 (Utf8.decode s pos).1 last) [0] [] (by simp) (.same rfl .nil) (by simp) (by simp) (LendL.same [rI (Utf8.decode s pos).1, .ptr 0 0]) (.inl rfl) ?_
    rintro _ _ ⟨rfl, rfl⟩
    rcases Bool.eq_false_or_eq_true (okR (Utf8.decode s pos).1 last) with g | g
    case inr =>
      rw [g, if_neg (by decide)] at hI
      rw [g]
      conv => whnf
      repeat refine ru ?_
      refine AOut.stay ?_
      conv => whnf
      repeat refine ru ?_
      exact AFin.val rfl ⟨congrArg txtE hI, rfl⟩
    rw [g, if_pos rfl] at hI
    rw [g]
    conv => whnf
    repeat refine ru ?_
    refine ACall.val (by kernel_rfl) (f307 (Utf8.decode s pos).1) rfl rfl ?_
    conv => whnf
    repeat (first | refine ru ?_ | (refine AReq.mk (by rw [hb21]; simp; omega) ?_; conv => whnf))
    refine AHead.mk n _ _ (by omega) ⟨pos + (Utf8.decode s pos).2, _, out ++ [foldR (Utf8.decode s pos).1], by omega, ?_, hI, rfl, rfl⟩ ?_
    · rw [List.length_append]; exact hC
    · rw [show (out ++ [foldR (Utf8.decode s pos).1]).length = out.length + 1 by simp, show (out ++ [foldR (Utf8.decode s pos).1]).map rI = out.map rI ++ [rI (foldR (Utf8.decode s pos).1)] by simp]
      exact Conv.ren [0, 3, 2] _ (by simp) (by decide) (by repeat' (first | exact Fit.nil | refine Fit.any ?_ | refine Fit.same ?_)) (.same rfl (.same (by simp only [ABlk.ren, renL_append, rI_ren]; rfl) (.same rfl .nil)))
def serC (s : ByteArray) : Int := if !decide ((foldF s).2 = 0) || !((foldF s).1.toList == s.toList) then 9 else 0
theorem f123 (s : ByteArray) (hs : s.size ≤ 9223372036854775807) : Fun P 123 [sV s] (nV (serC s)) := by
  refine spec_of hT (f := 123) (fn := Go.Proofs.Tryz.f123) (c := body Go.Proofs.Tryz.f123) (by kernel_rfl) (by kernel_rfl) ?_
  conv => whnf
  repeat' (first | refine go ?_ | ((first | refine ASplit.yes rfl ?_ | refine ASplit.no rfl ?_ | refine ACond.yes rfl ?_ | refine ACond.no rfl ?_ | refine ASplit.dec (fun _ => ?_) (fun _ => ?_) | refine ASplit.ndec (fun _ => ?_) (fun _ => ?_) | refine ACond.dec (fun _ => ?_) (fun _ => ?_) | refine ACond.ndec (fun _ => ?_) (fun _ => ?_) | refine ACall.val (by kernel_rfl) (f223 s hs) rfl rfl ?_ | (refine ASplit.mk (fun _ => ?_) (fun _ => ?_)) | (refine ACond.mk (fun _ => ?_) (fun _ => ?_))) <;> conv => whnf))
  all_goals refine AFin.val rfl ⟨congrArg nV ?_, rfl⟩
  all_goals simp_all [serC]
end Go.Aw.U1

set_option linter.unusedSimpArgs false
set_option linter.unusedVariables false
set_option maxHeartbeats 2000000
namespace Go.Aw.U1
open Go Go.Proofs

def ssOk (l : List ByteArray) : Prop := l.length ≤ 9223372036854775807 ∧ ∀ s ∈ l, s.size ≤ 9223372036854775807
def ltB : Option ByteArray → ByteArray → Bool
  | none, _ => true
  | some p, s => Op.bytesLess p.toList s.toList
def rowT : Option ByteArray → List ByteArray → Int
  | _, [] => 0
  | p, s :: l => if serC s = 0 then if ltB p s = true then rowT (some s) l else 32 else serC s
def rowF (l : List ByteArray) : Int := rowT none l
theorem rowT_drop {l : List ByteArray} {i : Nat} {p : Option ByteArray} (h : i < l.length) : rowT p (l.drop i) = if serC l[i] = 0 then if ltB p l[i] = true then rowT (some l[i]) (l.drop (i + 1)) else 32 else serC l[i] := by
  rw [List.drop_eq_getElem_cons h, rowT]
theorem f153 (l : List ByteArray) (hl : ssOk l) : Fun P 153 [ssV l] (nV (rowF l)) := by
  refine spec_of hT (f := 153) (fn := Go.Proofs.Tryz.f153) (c := body Go.Proofs.Tryz.f153) (by kernel_rfl) (by kernel_rfl) ?_
  have hl1 := hl.1
  unfold rowF
  generalize hR : rowT none l = R
  conv => whnf
  repeat refine go ?_
  refine ALoop.mk (fun n E H => ∃ (i : Nat) (p : Option ByteArray), n = l.length - i ∧ i ≤ l.length ∧ (i = 0 ∧ p = none ∨ 0 < i ∧ p = l[i - 1]?) ∧ rowT p (l.drop i) = R ∧
      E = pad [ssV l, .any, nV 0, .any, .any, .any, ssV l, nV l.length, nV i] 30 ∧ H = []) (n := l.length) _ _
    ⟨0, none, rfl, Nat.zero_le _, .inl ⟨rfl, rfl⟩, hR, rfl, rfl⟩ (Conv.fit (by repeat' (first | exact Fit.nil | refine Fit.any ?_ | refine Fit.same ?_))) ?_
  rintro _ _ _ ⟨i, p, rfl, hi, hp, hI, rfl, rfl⟩
  conv => whnf
  repeat refine go ?_
  refine ACond.dec (fun h => ?_) (fun h => ?_)
  · have hil : i < l.length := by omega
    have w1 : IntKind.wrap .i64 ((i : Int) + 1) = ((i + 1 : Nat) : Int) := by rw [wrap_i64 _ (by omega) (by omega)]; omega
    rw [rowT_drop hil] at hI
    conv => whnf
    repeat (first | refine go ?_ | ((first | refine AReq.mk (by omega) ?_ | refine AIdx.flat (enc := sC) sC_len (xs := l) (i := i) hil ?_ | refine ACall.val (by kernel_rfl) (f123 l[i] (hl.2 _ (List.getElem_mem hil))) rfl rfl ?_); conv => whnf))
    refine ACond.ndec (fun h4 => ?_) (fun h4 => ?_)
    · rw [if_neg h4] at hI
      conv => whnf
      repeat (first | refine go ?_ | ((first | refine AReq.mk (by omega) ?_ | refine AIdx.flat (enc := sC) sC_len (xs := l) (i := i) hil ?_ | refine ACall.val (by kernel_rfl) (f123 l[i] (hl.2 _ (List.getElem_mem hil))) rfl rfl ?_); conv => whnf))
      refine AOut.stay ?_
      conv => whnf
      repeat (first | refine go ?_ | ((first | refine AReq.mk (by omega) ?_ | refine AIdx.flat (enc := sC) sC_len (xs := l) (i := i) hil ?_ | refine ACall.val (by kernel_rfl) (f123 l[i] (hl.2 _ (List.getElem_mem hil))) rfl rfl ?_); conv => whnf))
      exact AFin.val rfl ⟨congrArg nV hI, rfl⟩
    rw [if_pos h4] at hI
    conv => whnf
    repeat (first | refine go ?_ | ((first | refine AReq.mk (by omega) ?_ | refine AIdx.flat (enc := sC) sC_len (xs := l) (i := i) hil ?_ | refine ACall.val (by kernel_rfl) (f123 l[i] (hl.2 _ (List.getElem_mem hil))) rfl rfl ?_); conv => whnf))
    refine ASplit.dec (fun h5 => ?_) (fun h5 => ?_)
    · rcases hp with ⟨rfl, _⟩ | ⟨h0, hp⟩
      · exact absurd h5 (by simp)
      have hlt : i - 1 < l.length := by clear hp; omega
      rw [List.getElem?_eq_getElem hlt] at hp
      subst hp
      have w2 : IntKind.wrap .i64 ((i : Int) - 1) = ((i - 1 : Nat) : Int) := by rw [wrap_i64 _ (by omega) (by omega)]; omega
      conv => whnf
      repeat (first | refine go ?_ | (refine AReq.mk (by omega) ?_; conv => whnf))
      rw [w2]
      conv => whnf
      repeat (first | refine go ?_ | (refine AReq.mk (by omega) ?_; conv => whnf))
      refine AIdx.flat (enc := sC) sC_len (xs := l) (i := i - 1) (by omega) ?_
      conv => whnf
      repeat (first | refine go ?_ | (refine AReq.mk (by omega) ?_; conv => whnf))
      refine ACond.mk (fun h6 => ?_) (fun h6 => ?_)
      · rw [if_neg (show ¬ (ltB (some l[i - 1]) l[i] = true) by have := nb1 h6; exact fun e => Bool.noConfusion (e.symm.trans this))] at hI
        conv => whnf
        repeat (first | refine go ?_ | (refine AReq.mk (by omega) ?_; conv => whnf))
        refine AOut.stay ?_
        conv => whnf
        repeat (first | refine go ?_ | (refine AReq.mk (by omega) ?_; conv => whnf))
        exact AFin.val rfl ⟨congrArg nV hI, rfl⟩
      · rw [if_pos (show ltB (some l[i - 1]) l[i] = true from nb0 h6)] at hI
        conv => whnf
        repeat (first | refine go ?_ | (refine AReq.mk (by omega) ?_; conv => whnf))
        rw [w1]
        exact AHead.mk (l.length - (i + 1)) _ _ (by omega) ⟨i + 1, _, rfl, by omega, .inr ⟨by omega, by simp [hil]⟩, hI, rfl, rfl⟩ (Conv.fit (by repeat' (first | exact Fit.nil | refine Fit.any ?_ | refine Fit.same ?_)))
    · rcases hp with ⟨rfl, rfl⟩ | ⟨h0, hp⟩
      · rw [if_pos (show ltB none l[0] = true from rfl)] at hI
        conv => whnf
        repeat refine go ?_
        refine ACond.no rfl ?_
        conv => whnf
        repeat refine go ?_
        rw [w1]
        exact AHead.mk (l.length - (0 + 1)) _ _ (by omega) ⟨0 + 1, _, rfl, by omega, .inr ⟨by omega, by simp [hil]⟩, hI, rfl, rfl⟩ (Conv.fit (by repeat' (first | exact Fit.nil | refine Fit.any ?_ | refine Fit.same ?_)))
      · omega
  · rw [List.drop_of_length_le (by omega)] at hI
    conv => whnf
    repeat refine go ?_
    refine AOut.stay ?_
    conv => whnf
    repeat refine go ?_
    exact AFin.val rfl ⟨congrArg nV hI, rfl⟩
def lineC (l : Ln) : Int := if l.item < 1 ∨ 999999 < l.item then 2 else if mayB l = true then if (l.ss.length : Int) < 1 ∨ 20 < (l.ss.length : Int) ∨ rowF l.ss ≠ 0 then 9 else 0 else 8
def lnOk (l : Ln) : Prop := ssOk l.ss ∧ l.ss.length ≤ 1000000
theorem f118 (l : Ln) (hl : lnOk l) : Fun P 118 [lnA l] (nV (lineC l)) := by
  refine spec_of hT (f := 118) (fn := Go.Proofs.Tryz.f118) (c := body Go.Proofs.Tryz.f118) (by kernel_rfl) (by kernel_rfl) ?_
  unfold lineC
  conv => whnf
  repeat' (first | refine go ?_ | ((first | refine ASplit.yes rfl ?_ | refine ASplit.no rfl ?_ | refine ACond.yes rfl ?_ | refine ACond.no rfl ?_ | refine ASplit.dec (fun _ => ?_) (fun _ => ?_) | refine ASplit.ndec (fun _ => ?_) (fun _ => ?_) | refine ACond.dec (fun _ => ?_) (fun _ => ?_) | refine ACond.ndec (fun _ => ?_) (fun _ => ?_) | refine ACall.val (by kernel_rfl) (f153 l.ss hl.1) (by (first | rfl | (simp only [renL, AV.ren, List.nil_append, List.cons_append, rens]; try rfl))) rfl ?_ | refine ACall.val (by kernel_rfl) (f196 l) (by (first | rfl | (simp only [renL, AV.ren, List.nil_append, List.cons_append, rens]; try rfl))) rfl ?_ | (refine ASplit.mk (fun _ => ?_) (fun _ => ?_)) | (refine ACond.mk (fun _ => ?_) (fun _ => ?_))) <;> conv => whnf))
  all_goals refine AFin.val rfl ⟨congrArg nV ?_, rfl⟩
  all_goals (simp_all <;> omega)
end Go.Aw.U1

set_option linter.unusedSimpArgs false
set_option linter.unusedVariables false
set_option maxHeartbeats 2000000
namespace Go.Aw.U1
open Go Go.Proofs

theorem und3 : P.underlying 3 = some (.int .i64) := by kernel_rfl
def nOk (n : Int) : Prop := (Lit.int .i64 n).wf = true
theorem nOk_of {n : Int} (h1 : -9223372036854775808 ≤ n) (h2 : n ≤ 9223372036854775807) : nOk n := by
  simp [nOk, Lit.wf, IntKind.min, IntKind.max, IntKind.signed, IntKind.bits]; omega
theorem nK : KEnc P 3 (fun n : Int => Value.int .i64 n) nV nOk where
  keyed := Go.Maps.int_keyed und3
  lit := fun a h => ⟨_, Go.Maps.keyOf_int_mk und3 h⟩
  inj := by intro a b h; simpa using h
  rep := by intro w m I a y h; simp only [nV, Rep] at h; exact h
def sOk (s : ByteArray) : Prop := s.size ≤ 9223372036854775807
theorem sK : KEnc P 9 (fun s : ByteArray => Value.string s) sV sOk where
  keyed := Go.Maps.string_keyed und9
  lit := by
    intro a h
    refine ⟨.string a.data.toList, ?_⟩
    simp only [keyOf, und9, mapKey]
    exact if_pos h
  inj := by intro a b h; simpa using h
  rep := by intro w m I a y h; simp only [sV, Rep] at h; exact h
theorem und126 : P.underlying 234 = some (.map 9 4) := by kernel_rfl

theorem hne4 : (T 4).u ≠ .other := by simp [show (T 4).u = .bool from rfl]
theorem hne3 : (T 3).u ≠ .other := by simp [show (T 3).u = .int .i64 from rfl]
theorem ren_emS (ρ : Nat → Nat) (L : List (ByteArray × Bool)) : (em sV bV L).map (fun x => (x.1.ren ρ, x.2.ren ρ)) = em sV bV L := by
  simp [em, AV.ren, Function.comp_def]
theorem ren_emB (ρ : Nat → Nat) (L : List (Int × Bool)) : (em nV bV L).map (fun x => (x.1.ren ρ, x.2.ren ρ)) = em nV bV L := by
  simp [em, AV.ren, Function.comp_def]
theorem ren_emI (ρ : Nat → Nat) (L : List (Int × Int)) : (em nV nV L).map (fun x => (x.1.ren ρ, x.2.ren ρ)) = em nV nV L := by
  simp [em, AV.ren, Function.comp_def]
def lnsOk (l : List Ln) : Prop := l.length ≤ 1000000 ∧ ∀ x ∈ l, lnOk x
def odOk (o : Od) : Prop := lnsOk o.ls
def totT : List Ln → Int → Int × Int
  | [], n => (n, 0)
  | l :: ls, n => if (addT [n, l.net, l.tax] 0).2 = 0 then totT ls (addT [n, l.net, l.tax] 0).1 else (0, (addT [n, l.net, l.tax] 0).2)
theorem f226 (l : List Ln) (hl : l.length ≤ 1000000) : Fun P 226 [lnsV l] (numE (totT l 0)) := by
  refine spec_of hT (f := 226) (fn := Go.Proofs.Tryz.f226) (c := body Go.Proofs.Tryz.f226) (by kernel_rfl) (by kernel_rfl) ?_
  generalize hR : totT l 0 = R
  conv => whnf
  repeat refine go ?_
  refine ALoop.mk (fun n E H => ∃ (i : Nat) (s : Int), n = l.length - i ∧ i ≤ l.length ∧ totT (l.drop i) s = R ∧
      E = pad [lnsV l, .any, nV 0, nV 0, nV s, .any, .any, .any, .any, lnsV l, nV l.length, nV i] 31 ∧ H = []) (n := l.length) _ _
    ⟨0, 0, rfl, Nat.zero_le _, hR, rfl, rfl⟩ (Conv.fit (by repeat' (first | exact Fit.nil | refine Fit.any ?_ | refine Fit.same ?_))) ?_
  rintro _ _ _ ⟨i, s, rfl, hi, hI, rfl, rfl⟩
  conv => whnf
  repeat refine go ?_
  refine ACond.dec (fun h => ?_) (fun h => ?_)
  · have hil : i < l.length := by omega
    have w1 : IntKind.wrap .i64 ((i : Int) + 1) = ((i + 1 : Nat) : Int) := by rw [wrap_i64 _ (by omega) (by omega)]; omega
    rw [List.drop_eq_getElem_cons hil, totT] at hI
    conv => whnf
    repeat (first | refine go ?_ | ((first | refine AReq.mk (by omega) ?_ | refine AIdx.flat (enc := lnC) lnC_len (xs := l) (i := i) hil ?_ | refine ACall.fun (args0 := [isV [s, l[i].net, l[i].tax]]) (by kernel_rfl) (f105 [s, l[i].net, l[i].tax] (by simp)) [] (by simp) (.cons (.vx rfl) .nil) (.inl rfl) rfl ?_); conv => whnf))
    refine ACond.ndec (fun h4 => ?_) (fun h4 => ?_)
    · rw [if_neg h4] at hI
      conv => whnf
      repeat (first | refine go ?_ | ((first | refine AReq.mk (by omega) ?_ | refine AIdx.flat (enc := lnC) lnC_len (xs := l) (i := i) hil ?_ | refine ACall.fun (args0 := [isV [s, l[i].net, l[i].tax]]) (by kernel_rfl) (f105 [s, l[i].net, l[i].tax] (by simp)) [] (by simp) (.cons (.vx rfl) .nil) (.inl rfl) rfl ?_); conv => whnf))
      refine AOut.stay ?_
      conv => whnf
      repeat (first | refine go ?_ | ((first | refine AReq.mk (by omega) ?_ | refine AIdx.flat (enc := lnC) lnC_len (xs := l) (i := i) hil ?_ | refine ACall.fun (args0 := [isV [s, l[i].net, l[i].tax]]) (by kernel_rfl) (f105 [s, l[i].net, l[i].tax] (by simp)) [] (by simp) (.cons (.vx rfl) .nil) (.inl rfl) rfl ?_); conv => whnf))
      exact AFin.val rfl ⟨congrArg numE hI, rfl⟩
    · rw [if_pos h4] at hI
      conv => whnf
      repeat (first | refine go ?_ | ((first | refine AReq.mk (by omega) ?_ | refine AIdx.flat (enc := lnC) lnC_len (xs := l) (i := i) hil ?_ | refine ACall.fun (args0 := [isV [s, l[i].net, l[i].tax]]) (by kernel_rfl) (f105 [s, l[i].net, l[i].tax] (by simp)) [] (by simp) (.cons (.vx rfl) .nil) (.inl rfl) rfl ?_); conv => whnf))
      rw [w1]
      exact AHead.mk (l.length - (i + 1)) _ _ (by omega) ⟨i + 1, _, rfl, by omega, hI, rfl, rfl⟩ (Conv.ren [] _ (by simp) (by simp) (by simp only [pad, renL, AV.ren, rens]; repeat' (first | exact Fit.nil | refine Fit.any ?_ | refine Fit.same ?_)) .nil)
  · rw [List.drop_of_length_le (by omega)] at hI
    conv => whnf
    repeat refine go ?_
    refine AOut.stay ?_
    conv => whnf
    repeat refine go ?_
    exact AFin.val rfl ⟨congrArg numE hI, rfl⟩

/-- texts that were seen, one by one: none, when one comes again -/
def twS : List ByteArray → (ByteArray → Bool) → Option (ByteArray → Bool)
  | [], g => some g
  | s :: l, g => if g s = true then none else twS l (upd g s true)
def twL : List Ln → (ByteArray → Bool) → Bool
  | [], _ => false
  | l :: ls, g => match twS l.ss g with
    | none => true
    | some g => twL ls g
def twM (o : Option (ByteArray → Bool)) (ls : List Ln) : Bool :=
  match o with
  | none => true
  | some g => twL ls g
theorem f227 (l : List Ln) (hl : lnsOk l) : Fun P 227 [lnsV l] (bV (twL l (fun _ => false))) := by
  refine spec_of hT (f := 227) (fn := Go.Proofs.Tryz.f227) (c := body Go.Proofs.Tryz.f227) (by kernel_rfl) (by kernel_rfl) ?_
  generalize hR : twL l (fun _ => false) = R
  have hl1 := hl.1
  conv => whnf
  repeat refine go ?_
  refine AOp.makeMap ?_
  conv => whnf
  repeat refine go ?_
  refine ALoop.mk (fun n E H => ∃ (i : Nat) (g : ByteArray → Bool) (L : List (ByteArray × Bool)) (bs : List Nat) (clk : Nat), n = l.length - i ∧ i ≤ l.length ∧ MapIs sOk L false g ∧ twL (l.drop i) g = R ∧
      E = pad [lnsV l, .any, bV false, .mp 0, .any, .any, .any, .any, .any, lnsV l, nV l.length, nV i] 29 ∧ H = [.map (em sV bV L) bs clk]) (n := l.length) _ _
    ⟨0, _, [], [], 0, rfl, Nat.zero_le _, MapIs.nil, hR, rfl, rfl⟩ (Conv.fit (by repeat' (first | exact Fit.nil | refine Fit.any ?_ | refine Fit.same ?_))) ?_
  rintro _ _ _ ⟨i, g, L, bs, clk, rfl, hi, hM, hI, rfl, rfl⟩
  conv => whnf
  repeat refine go ?_
  refine ACond.dec (fun h => ?_) (fun h => ?_)
  · have hil : i < l.length := by omega
    have w1 : IntKind.wrap .i64 ((i : Int) + 1) = ((i + 1 : Nat) : Int) := by rw [wrap_i64 _ (by omega) (by omega)]; omega
    have hss : ssOk l[i].ss := (hl.2 _ (List.getElem_mem hil)).1
    have hs1 := hss.1
    rw [List.drop_eq_getElem_cons hil, twL] at hI
    have hI' : twM (twS l[i].ss g) (l.drop (i + 1)) = R := hI
    clear hI
    conv => whnf
    repeat (first | refine go ?_ | ((first | refine AReq.mk (by omega) ?_ | refine AIdx.flat (enc := lnC) lnC_len (xs := l) (i := i) hil ?_); conv => whnf))
    generalize hss2 : l[i].ss = ss at hss hs1 hI'
    refine ALoop.mk (fun n E H => ∃ (k : Nat) (g : ByteArray → Bool) (L : List (ByteArray × Bool)) (bs : List Nat) (clk : Nat) (x : ABlk), n = ss.length - k ∧ k ≤ ss.length ∧ MapIs sOk L false g ∧ twM (twS (ss.drop k) g) (l.drop (i + 1)) = R ∧
        E = pad [lnsV l, .any, bV false, .mp 0, .any, .any, .any, .any, .any, lnsV l, nV l.length, nV i, .any, .any, .any, .any, ssV ss, nV ss.length, nV k] 29 ∧ H = [.map (em sV bV L) bs clk, x]) (n := ss.length) _ _
      ⟨0, _, L, bs, clk, _, rfl, Nat.zero_le _, hM, hI', rfl, rfl⟩ (Conv.fit (by simp only [lnC, hss2]; repeat' (first | exact Fit.nil | refine Fit.any ?_ | refine Fit.same ?_))) ?_
    rintro _ _ _ ⟨k, g, L, bs, clk, x, rfl, hk, hM, hI, rfl, rfl⟩
    conv => whnf
    repeat refine go ?_
    refine ACond.dec (fun h2 => ?_) (fun h2 => ?_)
    · have hkl : k < ss.length := by omega
      have w2 : IntKind.wrap .i64 ((k : Int) + 1) = ((k + 1 : Nat) : Int) := by rw [wrap_i64 _ (by omega) (by omega)]; omega
      rw [List.drop_eq_getElem_cons hkl, twS] at hI
      conv => whnf
      repeat refine go ?_
      refine AReq.mk (by omega) ?_
      conv => whnf
      repeat refine go ?_
      refine AIdx.flat (enc := sC) sC_len (xs := ss) (i := k) hkl ?_
      conv => whnf
      repeat refine go ?_
      refine AOp.getM 0 ss[k] hT sK und126 hne4 (eb := bV) rfl hM (hss.2 _ (List.getElem_mem hkl)) rfl rfl rfl ?_
      conv => whnf
      repeat refine go ?_
      refine ACond.mk (fun h4 => ?_) (fun h4 => ?_)
      · rw [if_pos h4] at hI
        conv => whnf
        repeat refine go ?_
        refine AOut.stay ?_
        conv => whnf
        repeat refine go ?_
        refine AOut.stay ?_
        conv => whnf
        repeat refine go ?_
        exact AFin.val rfl ⟨congrArg bV hI, rfl⟩
      · rw [if_neg (by rw [h4]; decide)] at hI
        conv => whnf
        repeat refine go ?_
        refine AOp.putM 0 ss[k] true sK und126 hM (hss.2 _ (List.getElem_mem hkl)) rfl rfl rfl rfl ?_
        intro L' bs' clk' hM'
        conv => whnf
        repeat refine go ?_
        rw [w2]
        exact AHead.mk (ss.length - (k + 1)) _ _ (by omega) ⟨k + 1, _, L', bs', clk', _, rfl, by omega, hM', hI, rfl, rfl⟩ (Conv.fit (by repeat' (first | exact Fit.nil | refine Fit.any ?_ | refine Fit.same ?_)))
    · rw [List.drop_of_length_le (by omega)] at hI
      conv => whnf
      repeat refine go ?_
      refine AOut.stay ?_
      conv => whnf
      repeat refine go ?_
      rw [w1]
      exact AHead.mk (l.length - (i + 1)) _ _ (by omega) ⟨i + 1, g, L, bs, clk, rfl, by omega, hM, hI, rfl, rfl⟩ (Conv.ren [0] _ (by simp) (by simp) (by simp only [pad, renL, AV.ren, rens]; repeat' (first | exact Fit.nil | refine Fit.any ?_ | refine Fit.same ?_)) (.same (by simp only [ABlk.ren, ren_emS]; rfl) .nil))
  · rw [List.drop_of_length_le (by omega)] at hI
    conv => whnf
    repeat refine go ?_
    refine AOut.stay ?_
    conv => whnf
    repeat refine go ?_
    exact AFin.val rfl ⟨congrArg bV hI, rfl⟩
end Go.Aw.U1

set_option linter.unusedSimpArgs false
set_option linter.unusedVariables false
set_option maxHeartbeats 2000000
namespace Go.Aw.U1
open Go Go.Proofs

def headB (o : Od) : Bool := decide (1 ≤ o.id) && decide (o.id ≤ 999999) && timeB o.at_ && decide (1 ≤ (o.ls.length : Int)) && decide ((o.ls.length : Int) ≤ 8)
def ordB (o : Od) : Bool := headB o && o.ls.all (fun l => decide (lineC l = 0)) && decide ((totT o.ls 0).2 = 0) && !twL o.ls (fun _ => false)
def ordC (o : Od) : Int := if ordB o then 0 else 40
theorem all_get {α : Type} {p : α → Bool} {l : List α} {i : Nat} (h : i < l.length) (hb : p l[i] = false) : l.all p = false := by
  cases h2 : l.all p with
  | false => rfl
  | true => rw [List.all_eq_true] at h2; rw [h2 _ (List.getElem_mem h)] at hb; cases hb
theorem f135 (o : Od) (ho : odOk o) : Fun P 135 [odA o] (nV (ordC o)) := by
  refine spec_of hT (f := 135) (fn := Go.Proofs.Tryz.f135) (c := body Go.Proofs.Tryz.f135) (by kernel_rfl) (by kernel_rfl) ?_
  have hlen := ho.1
  have hC : ∀ b, ordB o = b → ordC o = if b = true then 0 else 40 := fun b h => by rw [ordC, h]
  generalize ordC o = R at hC
  have hhead : headB o = true ↔ 1 ≤ o.id ∧ o.id ≤ 999999 ∧ timeB o.at_ = true ∧ 1 ≤ (o.ls.length : Int) ∧ (o.ls.length : Int) ≤ 8 := by simp [headB, and_assoc]
  have hno : headB o = false → R = 40 := fun h => by rw [hC false (by simp [ordB, h])]; rfl
  have hnh : ∀ {q : Prop}, q → (q → headB o = true → False) → headB o = false := fun q h => by
    cases e : headB o with
    | false => rfl
    | true => exact (h q e).elim
  conv => whnf
  repeat refine go ?_
  refine ASplit.dec (fun h1 => ?_) (fun h1 => ?_)
  · conv => whnf
    repeat refine ru ?_
    exact AFin.val rfl ⟨congrArg nV (hno (hnh h1 fun h1 e => by have := hhead.1 e; omega)).symm, rfl⟩
  conv => whnf
  repeat refine ru ?_
  refine ASplit.dec (fun h2 => ?_) (fun h2 => ?_)
  · conv => whnf
    repeat refine ru ?_
    exact AFin.val rfl ⟨congrArg nV (hno (hnh h2 fun h1 e => by have := hhead.1 e; omega)).symm, rfl⟩
  conv => whnf
  repeat refine ru ?_
  refine ACall.val (by kernel_rfl) (f147 o.at_) rfl rfl ?_
  rcases Bool.eq_false_or_eq_true (timeB o.at_) with g | g
  case inr =>
    rw [g]
    conv => whnf
    repeat refine ru ?_
    exact AFin.val rfl ⟨congrArg nV (hno (hnh g fun h1 e => by have := hhead.1 e; rw [h1] at this; exact Bool.noConfusion this.2.2.1)).symm, rfl⟩
  rw [g]
  conv => whnf
  repeat refine ru ?_
  refine ASplit.dec (fun h3 => ?_) (fun h3 => ?_)
  · conv => whnf
    repeat refine ru ?_
    exact AFin.val rfl ⟨congrArg nV (hno (hnh h3 fun h1 e => by have := hhead.1 e; omega)).symm, rfl⟩
  conv => whnf
  repeat refine ru ?_
  refine ACond.dec (fun h4 => ?_) (fun h4 => ?_)
  · conv => whnf
    repeat refine ru ?_
    exact AFin.val rfl ⟨congrArg nV (hno (hnh h4 fun h1 e => by have := hhead.1 e; omega)).symm, rfl⟩
  have hh : headB o = true := hhead.2 ⟨by omega, by omega, g, by omega, by omega⟩
  conv => whnf
  repeat refine ru ?_
  refine ALoop.mk (fun n E H => ∃ (i : Nat), n = o.ls.length - i ∧ i ≤ o.ls.length ∧ (∀ k (h : k < o.ls.length), k < i → lineC o.ls[k] = 0) ∧
      E = pad [odA o, .ptr 0 0, nV 0, .any, .any, .any, .any, .any, .any, .any, .any, .any, .any, .any, .any, .any, .any, .any, .any, .any, .any, .any, .any, .any, .any, .any, .any, .any, .any, .any, .any, .any, .any, .any, lnsV o.ls, nV o.ls.length, nV i] 57 ∧ H = [.cells 119 (odC o)]) (n := o.ls.length) _ _
    ⟨0, rfl, Nat.zero_le _, fun k _ h => absurd h (Nat.not_lt_zero _), rfl, rfl⟩ (Conv.fit (by repeat' (first | exact Fit.nil | refine Fit.any ?_ | refine Fit.same ?_))) ?_
  rintro _ _ _ ⟨i, rfl, hi, hI, rfl, rfl⟩
  conv => whnf
  repeat refine go ?_
  refine ACond.dec (fun h => ?_) (fun h => ?_)
  · have hil : i < o.ls.length := by omega
    have w1 : IntKind.wrap .i64 ((i : Int) + 1) = ((i + 1 : Nat) : Int) := by rw [wrap_i64 _ (by omega) (by omega)]; omega
    conv => whnf
    repeat (first | refine go ?_ | ((first | refine AReq.mk (by omega) ?_ | refine AIdx.flat (enc := lnC) lnC_len (xs := o.ls) (i := i) hil ?_ | refine ACall.val (by kernel_rfl) (f118 o.ls[i] (ho.2 _ (List.getElem_mem hil))) (by (first | rfl | (simp only [renL, AV.ren, List.nil_append, List.cons_append, rens]; try rfl))) rfl ?_); conv => whnf))
    refine ACond.ndec (fun h4 => ?_) (fun h4 => ?_)
    · conv => whnf
      repeat (first | refine go ?_ | ((first | refine AReq.mk (by omega) ?_ | refine AIdx.flat (enc := lnC) lnC_len (xs := o.ls) (i := i) hil ?_ | refine ACall.val (by kernel_rfl) (f118 o.ls[i] (ho.2 _ (List.getElem_mem hil))) (by (first | rfl | (simp only [renL, AV.ren, List.nil_append, List.cons_append, rens]; try rfl))) rfl ?_); conv => whnf))
      refine AOut.stay ?_
      conv => whnf
      repeat (first | refine go ?_ | ((first | refine AReq.mk (by omega) ?_ | refine AIdx.flat (enc := lnC) lnC_len (xs := o.ls) (i := i) hil ?_ | refine ACall.val (by kernel_rfl) (f118 o.ls[i] (ho.2 _ (List.getElem_mem hil))) (by (first | rfl | (simp only [renL, AV.ren, List.nil_append, List.cons_append, rens]; try rfl))) rfl ?_); conv => whnf))
      refine AFin.val rfl ⟨congrArg nV ?_, rfl⟩
      rw [hC false ?_]; rfl
      rw [ordB, all_get hil (by rw [decide_eq_false h4])]
      simp
    · conv => whnf
      repeat (first | refine go ?_ | ((first | refine AReq.mk (by omega) ?_ | refine AIdx.flat (enc := lnC) lnC_len (xs := o.ls) (i := i) hil ?_ | refine ACall.val (by kernel_rfl) (f118 o.ls[i] (ho.2 _ (List.getElem_mem hil))) (by (first | rfl | (simp only [renL, AV.ren, List.nil_append, List.cons_append, rens]; try rfl))) rfl ?_); conv => whnf))
      rw [w1]
      refine AHead.mk (o.ls.length - (i + 1)) _ _ (by omega) ⟨i + 1, rfl, by omega, ?_, rfl, rfl⟩ (Conv.ren [0] _ (by simp) (by simp) (by simp only [pad, renL, AV.ren, rens]; repeat' (first | exact Fit.nil | refine Fit.any ?_ | refine Fit.same ?_)) (.same (by simp only [ABlk.ren, odC_ren]; rfl) .nil))
      intro k hk hki
      rcases Nat.lt_or_ge k i with g | g
      · exact hI k hk g
      · obtain rfl : k = i := by omega
        exact h4
  · have hall : o.ls.all (fun l => decide (lineC l = 0)) = true := by
      rw [List.all_eq_true]
      intro r hr
      obtain ⟨k, hk, rfl⟩ := List.mem_iff_getElem.1 hr
      exact decide_eq_true (hI k hk (by omega))
    conv => whnf
    repeat refine go ?_
    refine AOut.stay ?_
    conv => whnf
    repeat (first | refine go ?_ | ((first | refine ACall.val (by kernel_rfl) (f226 o.ls hlen) (by (first | rfl | (simp only [renL, AV.ren, List.nil_append, List.cons_append, rens]; try rfl))) rfl ?_ | refine ACall.val (by kernel_rfl) (f227 o.ls ho) (by (first | rfl | (simp only [renL, AV.ren, List.nil_append, List.cons_append, rens]; try rfl))) rfl ?_); conv => whnf))
    refine ASplit.ndec (fun h4 => ?_) (fun h4 => ?_)
    · conv => whnf
      repeat (first | refine ru ?_ | ((first | refine ACall.val (by kernel_rfl) (f226 o.ls hlen) (by (first | rfl | (simp only [renL, AV.ren, List.nil_append, List.cons_append, rens]; try rfl))) rfl ?_ | refine ACall.val (by kernel_rfl) (f227 o.ls ho) (by (first | rfl | (simp only [renL, AV.ren, List.nil_append, List.cons_append, rens]; try rfl))) rfl ?_); conv => whnf))
      refine AFin.val rfl ⟨congrArg nV ?_, rfl⟩
      rw [hC false (by rw [ordB, decide_eq_false h4]; simp)]; rfl
    · conv => whnf
      repeat (first | refine ru ?_ | ((first | refine ACall.val (by kernel_rfl) (f226 o.ls hlen) (by (first | rfl | (simp only [renL, AV.ren, List.nil_append, List.cons_append, rens]; try rfl))) rfl ?_ | refine ACall.val (by kernel_rfl) (f227 o.ls ho) (by (first | rfl | (simp only [renL, AV.ren, List.nil_append, List.cons_append, rens]; try rfl))) rfl ?_); conv => whnf))
      rcases Bool.eq_false_or_eq_true (twL o.ls (fun _ => false)) with g2 | g2
      · rw [g2]
        conv => whnf
        repeat (first | refine ru ?_ | ((first | refine ACall.val (by kernel_rfl) (f226 o.ls hlen) (by (first | rfl | (simp only [renL, AV.ren, List.nil_append, List.cons_append, rens]; try rfl))) rfl ?_ | refine ACall.val (by kernel_rfl) (f227 o.ls ho) (by (first | rfl | (simp only [renL, AV.ren, List.nil_append, List.cons_append, rens]; try rfl))) rfl ?_); conv => whnf))
        refine AFin.val rfl ⟨congrArg nV ?_, rfl⟩
        rw [hC false (by rw [ordB, g2]; simp)]; rfl
      · rw [g2]
        conv => whnf
        repeat (first | refine ru ?_ | ((first | refine ACall.val (by kernel_rfl) (f226 o.ls hlen) (by (first | rfl | (simp only [renL, AV.ren, List.nil_append, List.cons_append, rens]; try rfl))) rfl ?_ | refine ACall.val (by kernel_rfl) (f227 o.ls ho) (by (first | rfl | (simp only [renL, AV.ren, List.nil_append, List.cons_append, rens]; try rfl))) rfl ?_); conv => whnf))
        refine AFin.val rfl ⟨congrArg nV ?_, rfl⟩
        rw [hC true (by rw [ordB, g2, hall, hh, decide_eq_true h4]; rfl)]; rfl
theorem f329 (l : List ByteArray) (s0 : ByteArray) (hl : l.length ≤ 1000000) : Fun P 329 [ssV l, sV s0] (nV (idxF (fun x => s0.toList == x.toList) l 0)) := by
  refine spec_of hT (f := 329) (fn := Go.Proofs.Tryz.f329) (c := body Go.Proofs.Tryz.f329) (by kernel_rfl) (by kernel_rfl) ?_
  generalize hR : idxF (fun x => s0.toList == x.toList) l 0 = R
  conv => whnf
  repeat refine go ?_
  refine ALoop.mk (fun n E H => ∃ i : Nat, n = l.length - i ∧ i ≤ l.length ∧ idxF (fun x => s0.toList == x.toList) (l.drop i) i = R ∧
      E = pad [ssV l, sV s0, .any, .any, nV 0, .any, .any, nV l.length, nV i] 19 ∧ H = []) (n := l.length) _ _
    ⟨0, rfl, Nat.zero_le _, hR, rfl, rfl⟩ (Conv.fit (by repeat' (first | exact Fit.nil | refine Fit.any ?_ | refine Fit.same ?_))) ?_
  rintro _ _ _ ⟨i, rfl, hi, hI, rfl, rfl⟩
  conv => whnf
  repeat refine go ?_
  refine ACond.dec (fun h => ?_) (fun h => ?_)
  · have hil : i < l.length := by omega
    have w1 : IntKind.wrap .i64 ((i : Int) + 1) = ((i + 1 : Nat) : Int) := by rw [wrap_i64 _ (by omega) (by omega)]; omega
    rw [idxF_drop hil] at hI
    conv => whnf
    repeat (first | refine go ?_ | ((first | refine AReq.mk (by omega) ?_ | refine AIdx.flat (enc := sC) sC_len (xs := l) (i := i) hil ?_); conv => whnf))
    refine ACond.mk (fun h4 => ?_) (fun h4 => ?_)
    · conv => whnf
      repeat (first | refine go ?_ | ((first | refine AReq.mk (by omega) ?_ | refine AIdx.flat (enc := sC) sC_len (xs := l) (i := i) hil ?_); conv => whnf))
      refine AOut.stay ?_
      refine AFin.val rfl ⟨?_, rfl⟩
      rw [if_pos h4] at hI
      rw [hI]
    · conv => whnf
      repeat (first | refine go ?_ | ((first | refine AReq.mk (by omega) ?_ | refine AIdx.flat (enc := sC) sC_len (xs := l) (i := i) hil ?_); conv => whnf))
      rw [w1]
      exact AHead.mk (l.length - (i + 1)) _ _ (by omega) ⟨i + 1, rfl, by omega, by rw [← hI]; exact (if_neg (fun h5 => Bool.noConfusion (h5.symm.trans h4))).symm, rfl, rfl⟩ (Conv.fit (by repeat' (first | exact Fit.nil | refine Fit.any ?_ | refine Fit.same ?_)))
  · rw [idxF_end (by omega)] at hI
    conv => whnf
    repeat refine go ?_
    refine AOut.stay ?_
    conv => whnf
    repeat refine go ?_
    exact AFin.val rfl ⟨congrArg nV hI, rfl⟩
end Go.Aw.U1

set_option linter.unusedSimpArgs false
set_option linter.unusedVariables false
set_option maxHeartbeats 2000000
namespace Go.Aw.U1
open Go Go.Proofs

/-! ### nodes -/
def ndA (st way : Int) : AV := .agg [nV st, nV way]
def termB (st way : Int) : Bool :=
  if st = 6 then decide (way = 1) || decide (way = 2) else if st = 7 then decide (way = 3) else if st = 8 then decide (way = 4) || decide (way = 3) else if st = 9 then decide (way = 5) || decide (way = 2) else false
theorem f130 (st way : Int) : Fun P 130 [ndA st way] (bV (termB st way)) := by
  refine spec_of hT (f := 130) (fn := Go.Proofs.Tryz.f130) (c := body Go.Proofs.Tryz.f130) (by kernel_rfl) (by kernel_rfl) ?_
  unfold termB
  conv => whnf
  repeat' (first | refine go ?_ | ((first | refine ASplit.yes rfl ?_ | refine ASplit.no rfl ?_ | refine ACond.yes rfl ?_ | refine ACond.no rfl ?_ | refine ASplit.dec (fun _ => ?_) (fun _ => ?_) | refine ASplit.ndec (fun _ => ?_) (fun _ => ?_) | refine ACond.dec (fun _ => ?_) (fun _ => ?_) | refine ACond.ndec (fun _ => ?_) (fun _ => ?_)) <;> conv => whnf))
  all_goals refine AFin.val rfl ⟨congrArg bV ?_, rfl⟩
  all_goals simp_all
def actF (st way : Int) : List Int :=
  if st = 1 ∧ way = 0 then [1] else if st = 2 ∧ way = 0 then [2] else if st = 3 ∧ way = 2 then [3] else if st = 3 ∧ way = 3 then [7] else if st = 4 ∧ way = 2 then [4, 5, 6] else if st = 5 ∧ way = 3 then [8, 9] else []
def actV (l : List Int) : AV :=
  match l with
  | [] => .v (.slice none 0 0)
  | l => isV l
theorem actV_ren (ρ : Nat → Nat) (l : List Int) : (actV l).ren ρ = actV l := by cases l with
  | nil => rfl
  | cons a l => exact isV_ren ρ _
def nodeB (st way : Int) : Bool := termB st way || !(actF st way).isEmpty
theorem eqNd {st way a b : Int} {K : AV → Prop} (k : K (bV (decide (st = a) && decide (way = b)))) : AEqs P .eql 28 (.agg [nV st, nV way]) (.agg [nV a, nV b]) K :=
  AEqs.eql (ks := [.int .i64, .int .i64]) (vx := [.int .i64 st, .int .i64 way]) (vy := [.int .i64 a, .int .i64 b]) (by kernel_rfl) (by kernel_rfl) rfl rfl rfl rfl (by rw [show eqL [Value.int .i64 st, .int .i64 way] [.int .i64 a, .int .i64 b] = (decide (st = a) && decide (way = b)) by simp [eqL, eqv]]; exact k)
theorem and_iff {p q : Prop} [Decidable p] [Decidable q] : (decide p && decide q) = true ↔ p ∧ q := by simp
theorem f50 (st way : Int) : Fun P 50 [ndA st way] (actV (actF st way)) := by
  refine spec_of hT (f := 50) (fn := Go.Proofs.Tryz.f50) (c := body Go.Proofs.Tryz.f50) (by kernel_rfl) (by kernel_rfl) ?_
  unfold actF
  conv => whnf
  repeat (first | refine go ?_ | ((first | refine eqNd ?_ | refine AReq.mk (by decide) ?_); conv => whnf))
  refine ACond.mk (fun h => ?_) (fun h => ?_)
  · have h' := and_iff.1 h
    rw [if_pos h']
    conv => whnf
    repeat (first | refine ru ?_ | ((first | refine eqNd ?_ | refine AReq.mk (by decide) ?_); conv => whnf))
    exact AFin.to (isV [1]) [] (Conv.out (.sm rfl rfl) (fun ρ => by (first | rfl | (simp only [renL, AV.ren, List.nil_append, List.cons_append, rens]; try rfl)))) ⟨rfl, rfl⟩
  rw [if_neg (fun h' => Bool.noConfusion ((and_iff.2 h').symm.trans h))]
  clear h
  conv => whnf
  repeat (first | refine go ?_ | ((first | refine eqNd ?_ | refine AReq.mk (by decide) ?_); conv => whnf))
  refine ACond.mk (fun h => ?_) (fun h => ?_)
  · have h' := and_iff.1 h
    rw [if_pos h']
    conv => whnf
    repeat (first | refine ru ?_ | ((first | refine eqNd ?_ | refine AReq.mk (by decide) ?_); conv => whnf))
    exact AFin.to (isV [2]) [] (Conv.out (.sm rfl rfl) (fun ρ => by (first | rfl | (simp only [renL, AV.ren, List.nil_append, List.cons_append, rens]; try rfl)))) ⟨rfl, rfl⟩
  rw [if_neg (fun h' => Bool.noConfusion ((and_iff.2 h').symm.trans h))]
  clear h
  conv => whnf
  repeat (first | refine go ?_ | ((first | refine eqNd ?_ | refine AReq.mk (by decide) ?_); conv => whnf))
  refine ACond.mk (fun h => ?_) (fun h => ?_)
  · have h' := and_iff.1 h
    rw [if_pos h']
    conv => whnf
    repeat (first | refine ru ?_ | ((first | refine eqNd ?_ | refine AReq.mk (by decide) ?_); conv => whnf))
    exact AFin.to (isV [3]) [] (Conv.out (.sm rfl rfl) (fun ρ => by (first | rfl | (simp only [renL, AV.ren, List.nil_append, List.cons_append, rens]; try rfl)))) ⟨rfl, rfl⟩
  rw [if_neg (fun h' => Bool.noConfusion ((and_iff.2 h').symm.trans h))]
  clear h
  conv => whnf
  repeat (first | refine go ?_ | ((first | refine eqNd ?_ | refine AReq.mk (by decide) ?_); conv => whnf))
  refine ACond.mk (fun h => ?_) (fun h => ?_)
  · have h' := and_iff.1 h
    rw [if_pos h']
    conv => whnf
    repeat (first | refine ru ?_ | ((first | refine eqNd ?_ | refine AReq.mk (by decide) ?_); conv => whnf))
    exact AFin.to (isV [7]) [] (Conv.out (.sm rfl rfl) (fun ρ => by (first | rfl | (simp only [renL, AV.ren, List.nil_append, List.cons_append, rens]; try rfl)))) ⟨rfl, rfl⟩
  rw [if_neg (fun h' => Bool.noConfusion ((and_iff.2 h').symm.trans h))]
  clear h
  conv => whnf
  repeat (first | refine go ?_ | ((first | refine eqNd ?_ | refine AReq.mk (by decide) ?_); conv => whnf))
  refine ACond.mk (fun h => ?_) (fun h => ?_)
  · have h' := and_iff.1 h
    rw [if_pos h']
    conv => whnf
    repeat (first | refine ru ?_ | ((first | refine eqNd ?_ | refine AReq.mk (by decide) ?_); conv => whnf))
    exact AFin.to (isV [4, 5, 6]) [] (Conv.out (.sm rfl rfl) (fun ρ => by (first | rfl | (simp only [renL, AV.ren, List.nil_append, List.cons_append, rens]; try rfl)))) ⟨rfl, rfl⟩
  rw [if_neg (fun h' => Bool.noConfusion ((and_iff.2 h').symm.trans h))]
  clear h
  conv => whnf
  repeat (first | refine go ?_ | ((first | refine eqNd ?_ | refine AReq.mk (by decide) ?_); conv => whnf))
  refine ACond.mk (fun h => ?_) (fun h => ?_)
  · have h' := and_iff.1 h
    rw [if_pos h']
    conv => whnf
    repeat (first | refine ru ?_ | ((first | refine eqNd ?_ | refine AReq.mk (by decide) ?_); conv => whnf))
    exact AFin.to (isV [8, 9]) [] (Conv.out (.sm rfl rfl) (fun ρ => by (first | rfl | (simp only [renL, AV.ren, List.nil_append, List.cons_append, rens]; try rfl)))) ⟨rfl, rfl⟩
  rw [if_neg (fun h' => Bool.noConfusion ((and_iff.2 h').symm.trans h))]
  clear h
  conv => whnf
  repeat (first | refine go ?_ | ((first | refine eqNd ?_ | refine AReq.mk (by decide) ?_); conv => whnf))
  exact AFin.val rfl ⟨rfl, rfl⟩
theorem f124 (u : Un) : Fun P 124 [unA u] (ndA u.state u.way) := by
  refine spec_of hT (f := 124) (fn := Go.Proofs.Tryz.f124) (c := body Go.Proofs.Tryz.f124) (by kernel_rfl) (by kernel_rfl) ?_
  conv => whnf
  repeat' (first | refine go ?_ | ((first | refine ASplit.yes rfl ?_ | refine ASplit.no rfl ?_ | refine ACond.yes rfl ?_ | refine ACond.no rfl ?_ | refine ASplit.dec (fun _ => ?_) (fun _ => ?_) | refine ASplit.ndec (fun _ => ?_) (fun _ => ?_) | refine ACond.dec (fun _ => ?_) (fun _ => ?_) | refine ACond.ndec (fun _ => ?_) (fun _ => ?_)) <;> conv => whnf))
  all_goals exact AFin.val rfl ⟨rfl, rfl⟩
def standB (u : Un) : Bool := idB u.order && idB u.rma && decide (0 ≤ u.line) && decide (u.line < 8) && decide (0 ≤ u.place) && decide (u.place < 20) && timeB u.at_
theorem f125 (u : Un) : Fun P 125 [unA u] (bV (standB u)) := by
  refine spec_of hT (f := 125) (fn := Go.Proofs.Tryz.f125) (c := body Go.Proofs.Tryz.f125) (by kernel_rfl) (by kernel_rfl) ?_
  unfold standB
  conv => whnf
  repeat' (first | refine go ?_ | ((first | refine ASplit.yes rfl ?_ | refine ASplit.no rfl ?_ | refine ACond.yes rfl ?_ | refine ACond.no rfl ?_ | refine ASplit.dec (fun _ => ?_) (fun _ => ?_) | refine ASplit.ndec (fun _ => ?_) (fun _ => ?_) | refine ACond.dec (fun _ => ?_) (fun _ => ?_) | refine ACond.ndec (fun _ => ?_) (fun _ => ?_) | refine ACall.val (by kernel_rfl) (f224 _) rfl rfl ?_ | refine ACall.val (by kernel_rfl) (f147 _) rfl rfl ?_ | (refine ASplit.mk (fun _ => ?_) (fun _ => ?_)) | (refine ACond.mk (fun _ => ?_) (fun _ => ?_))) <;> conv => whnf))
  all_goals refine AFin.val rfl ⟨congrArg bV ?_, rfl⟩
  all_goals (simp_all <;> (intros; omega))
def gradedB (u : Un) : Bool := if u.state = 1 then decide (u.grade = 0) else decide (0 ≤ u.grade) && decide (u.grade < 4)
theorem f126 (u : Un) : Fun P 126 [unA u] (bV (gradedB u)) := by
  refine spec_of hT (f := 126) (fn := Go.Proofs.Tryz.f126) (c := body Go.Proofs.Tryz.f126) (by kernel_rfl) (by kernel_rfl) ?_
  unfold gradedB
  conv => whnf
  repeat' (first | refine go ?_ | ((first | refine ASplit.yes rfl ?_ | refine ASplit.no rfl ?_ | refine ACond.yes rfl ?_ | refine ACond.no rfl ?_ | refine ASplit.dec (fun _ => ?_) (fun _ => ?_) | refine ASplit.ndec (fun _ => ?_) (fun _ => ?_) | refine ACond.dec (fun _ => ?_) (fun _ => ?_) | refine ACond.ndec (fun _ => ?_) (fun _ => ?_)) <;> conv => whnf))
  all_goals refine AFin.val rfl ⟨congrArg bV ?_, rfl⟩
  all_goals (simp_all <;> (intros; omega))
def heldB (u : Un) : Bool := if u.state = 4 ∨ u.state = 5 then idB u.in_ else decide (u.in_ = 0)
theorem f127 (u : Un) : Fun P 127 [unA u] (bV (heldB u)) := by
  refine spec_of hT (f := 127) (fn := Go.Proofs.Tryz.f127) (c := body Go.Proofs.Tryz.f127) (by kernel_rfl) (by kernel_rfl) ?_
  unfold heldB
  conv => whnf
  repeat' (first | refine go ?_ | ((first | refine ASplit.yes rfl ?_ | refine ASplit.no rfl ?_ | refine ACond.yes rfl ?_ | refine ACond.no rfl ?_ | refine ASplit.dec (fun _ => ?_) (fun _ => ?_) | refine ASplit.ndec (fun _ => ?_) (fun _ => ?_) | refine ACond.dec (fun _ => ?_) (fun _ => ?_) | refine ACond.ndec (fun _ => ?_) (fun _ => ?_) | refine ACall.val (by kernel_rfl) (f224 _) rfl rfl ?_) <;> conv => whnf))
  all_goals refine AFin.val rfl ⟨congrArg bV ?_, rfl⟩
  all_goals simp_all
end Go.Aw.U1

