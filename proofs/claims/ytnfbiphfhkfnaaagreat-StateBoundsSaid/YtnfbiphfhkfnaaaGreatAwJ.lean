/-
  The statement StateBounds: of a state that may be, of no line more is authorised, received or paid back than was shipped and paid, without any condition.
-/
import Derived.Test.YtnfbiphfhkfnaaaGreatAwI
import Derived.Test.YtnfbiphfhkfnaaaGreatAwG
set_option linter.unusedSimpArgs false
set_option linter.unusedVariables false
/-
  Aw, part 42: closed calls are computed: the other operations.
-/
set_option linter.unusedSimpArgs false
set_option linter.unusedVariables false
namespace Go.Aw
open Go

section
variable {R : Type}

noncomputable def lenStrC (x : AV) (K : AV → Option R) : Option R :=
  match x with
  | .v x => match x with
    | .string s => lenC s.data.toList fun n => K (.v (.int .i64 (Int.ofNat n)))
    | _ => none
  | _ => none
theorem lenStrC_s {x : AV} {K : AV → Option R} {K' : AV → Prop} {r : R} (h : lenStrC x K = some r) (hk : ∀ v, K v = some r → K' v) : lenStrK x K' := by
  cases x <;> try (cases h; done)
  rename_i a
  cases a <;> try (cases h; done)
  simp only [lenStrC, lenC_eq] at h
  simp only [lenStrK]
  rw [sizeS]
  exact hk _ h

noncomputable def lenOfC (x : AV) (K : AV → Option R) : Option R :=
  match x with
  | .v x => match x with
    | .slice none n _ => reqC (Nat.beq n 0) (K (.v (.int .i64 (Int.ofNat 0))))
    | _ => none
  | .vs _ n _ => fN n fun n => K (.v (.int .i64 (Int.ofNat n)))
  | .vx _ n _ => fN n fun n => K (.v (.int .i64 (Int.ofNat n)))
  | .ms _ _ _ n => fN n fun n => K (.v (.int .i64 (Int.ofNat n)))
  | _ => none
theorem lenOfC_s {x : AV} {K : AV → Option R} {K' : AV → Prop} {r : R} (h : lenOfC x K = some r) (hk : ∀ v, K v = some r → K' v) : lenOfK x K' := by
  cases x <;> try (cases h; done)
  · rename_i a
    cases a <;> try (cases h; done)
    rename_i o n c
    cases o <;> try (cases h; done)
    simp only [lenOfC] at h
    obtain ⟨h1, h2⟩ := reqC_s h
    simp only [lenOfK, ifK_iff]
    exact ⟨h1, hk _ h2⟩
  all_goals (simp only [lenOfC, fN_eq] at h; exact hk _ h)

noncomputable def eqLenC (cs : List AV) (n : Nat) (K : Option R) : Option R := lenC cs fun m => reqC (Nat.beq m n) K
theorem eqLenC_s {cs : List AV} {n : Nat} {K : Option R} {r : R} (h : eqLenC cs n K = some r) : cs.length = n ∧ K = some r := by
  unfold eqLenC at h
  rw [lenC_eq] at h
  obtain ⟨h1, h2⟩ := reqC_s h
  exact ⟨Nat.eq_of_beq_eq_true h1, h2⟩

noncomputable def fillC (place : Nat → Option (Nat × Nat)) (E : ET) : List (Nat × Operand) → List AV → (List AV → Option R) → Option R
  | [], cs, K => K cs
  | p :: ps, cs, K => match place p.1 with
    | none => none
    | some q => evC E p.2 fun x => cellsC x fun ys => eqLenC ys q.2 (splC cs q.1 ys fun cs => fillC place E ps cs K)
theorem splK_of {xs ys : List AV} {o : Nat} {K : List AV → Prop} : o + ys.length ≤ xs.length → K (spl xs o ys) → splK xs o ys K := by
  induction o generalizing xs K with
  | zero =>
    induction ys generalizing xs K with
    | nil => intro _ h; cases xs <;> simpa [splK, spl] using h
    | cons y ys ih =>
      intro h1 h
      cases xs with
      | nil => simp at h1
      | cons x xs =>
        unfold splK
        refine ih (by simp at h1 ⊢; omega) ?_
        simpa [spl] using h
  | succ o ih =>
    intro h1 h
    cases xs with
    | nil => simp at h1
    | cons x xs =>
      have e : splK (x :: xs) (o + 1) ys K = splK xs o ys fun r => K (x :: r) := by cases ys <;> rfl
      rw [e]
      refine ih (by simp at h1; omega) ?_
      have e : o + 1 + ys.length = (o + ys.length) + 1 := by omega
      simpa [spl, e] using h
theorem fillC_s {place : Nat → Option (Nat × Nat)} {E : ET} (hw : E.wf) : ∀ {ps : List (Nat × Operand)} {cs : List AV} {K : List AV → Option R} {K' : List AV → Prop} {r : R}, fillC place E ps cs K = some r → (∀ v, K v = some r → K' v) → fillK place E.toL ps cs K'
  | [], cs, K, K', r, h, hk => hk _ h
  | p :: ps, cs, K, K', r, h, hk => by
    unfold fillC at h; unfold fillK
    cases hp : place p.1 <;> simp only [hp] at h ⊢ <;> try (cases h; done)
    refine evC_s hw h fun x h => cellsC_s h fun ys h => ?_
    obtain ⟨h1, h⟩ := eqLenC_s h
    obtain ⟨h2, h⟩ := splC_s h
    rw [lenK_iff]
    exact ⟨h1, splK_of h2 (fillC_s hw h hk)⟩

noncomputable def okC (T : Nat → TI) (e : Nat) (K : Option R) : Option R :=
  match (T e).u with
  | .other => none
  | _ => K
theorem okC_s {T : Nat → TI} {e : Nat} {K : Option R} {K' : Prop} {r : R} (h : okC T e K = some r) (hk : K = some r → K') : okT T e K' := by
  unfold okC at h
  rw [okT_iff]
  cases hu : (T e).u <;> simp only [hu] at h <;> first
    | (cases h; done)
    | exact ⟨by simp, hk h⟩

noncomputable def buildC (T : Nat → TI) (t : Nat) (E : ET) (ps : List (Nat × Operand)) (K : AV → Option R) : Option R :=
  match (T t).u with
  | .struct fs => cellsC (T t).zero fun cs => fillC (fun i => match fs[i]? with | some f => some (f.1, f.2.2) | none => none) E ps cs fun cs => K (.agg cs)
  | .arr _ e => okC T e <| cellsC (T t).zero fun cs => fillC (fun i => some (i * (T e).size, (T e).size)) E ps cs fun cs => K (.agg cs)
  | _ => none
theorem buildC_s {T : Nat → TI} {t : Nat} {E : ET} (hw : E.wf) {ps : List (Nat × Operand)} {K : AV → Option R} {K' : AV → Prop} {r : R} (h : buildC T t E ps K = some r) (hk : ∀ v, K v = some r → K' v) : buildK T t E.toL ps K' := by
  unfold buildC at h; unfold buildK
  cases hu : (T t).u <;> simp only [hu] at h ⊢ <;> try (cases h; done)
  · exact okC_s h fun h => cellsC_s h fun cs h => fillC_s hw h fun cs h => hk _ h
  · exact cellsC_s h fun cs h => fillC_s hw h fun cs h => hk _ h

noncomputable def anysC (n : Nat) : (List AV → Option R) → Option R :=
  @Nat.rec (fun _ => (List AV → Option R) → Option R) (fun K => K []) (fun _ g K => g fun r => K (.any :: r)) n
theorem anysC_eq : ∀ (n : Nat) (K : List AV → Option R), anysC n K = K (List.replicate n .any)
  | 0, _ => rfl
  | n + 1, K => by
    have e : anysC (n + 1) K = anysC n fun r => K (.any :: r) := rfl
    rw [e, anysC_eq n, List.replicate_succ]

noncomputable def buildSliceC (T : Nat → TI) (t len : Nat) (E : ET) (ps : List (Nat × Operand)) (K : AV → Option R) : Option R :=
  match (T t).u with
  | .slice e => okC T e <| reqC (Nat.ble (len * (T e).size) 16777216) <| cellsC (T e).zero fun _ => anysC (len * (T e).size) fun cs =>
      fillC (fun i => some (i * (T e).size, (T e).size)) E ps cs fun cs => K (.vx (T e).size len cs)
  | _ => none
theorem buildSliceC_s {T : Nat → TI} {t n : Nat} {E : ET} (hw : E.wf) {ps : List (Nat × Operand)} {K : AV → Option R} {K' : AV → Prop} {r : R} (h : buildSliceC T t n E ps K = some r) (hk : ∀ v, K v = some r → K' v) : buildSliceK T t n E.toL ps K' := by
  unfold buildSliceC at h; unfold buildSliceK
  cases hu : (T t).u <;> simp only [hu] at h ⊢ <;> try (cases h; done)
  refine okC_s h fun h => ?_
  obtain ⟨h1, h⟩ := reqC_s h
  rw [ifK_iff]
  refine ⟨h1, cellsC_s h fun cs h => ?_⟩
  rw [anysC_eq] at h
  rw [anysK_eq]
  exact fillC_s hw h fun cs h => hk _ h

noncomputable def storeC (T : Nat → TI) (H : List ABlk) (t : Nat) (p : AV) (v : AV) (K : List ABlk → Option R) : Option R :=
  cellsC v fun cs =>
  match p with
  | .ptr l o => blkC H l fun b => match b with
    | .cells t' xs => okC T t <| eqLenC cs (T t).size (splC xs o cs fun xs => setHC H l (.cells t' xs) K)
    | _ => none
  | .pe l b0 sz i j => blkC H l fun b => match b with
    | .cells t' xs => okC T t <| eqLenC cs (T t).size (splC xs (b0 + i * sz + j) cs fun xs => setHC H l (.cells t' xs) K)
    | _ => none
  | _ => none
theorem okC_inv {T : Nat → TI} {e : Nat} {K : Option R} {r : R} (h : okC T e K = some r) : (T e).u ≠ .other ∧ K = some r := by
  unfold okC at h
  cases hu : (T e).u <;> simp only [hu] at h <;> first
    | (cases h; done)
    | exact ⟨by simp, h⟩
theorem storeC_s {T : Nat → TI} {H : List ABlk} {t : Nat} {p v : AV} {K : List ABlk → Option R} {K' : List ABlk → Prop} {r : R} (h : storeC T H t p v K = some r) (hk : ∀ H, K H = some r → K' H) : storeK T H t p v K' := by
  unfold storeC at h; unfold storeK
  refine cellsC_s h fun cs h => ?_
  cases p <;> simp only at h ⊢ <;> try (cases h; done)
  · obtain ⟨b, h1, h⟩ := blkC_s h
    rw [blkK_iff]
    refine ⟨b, h1, ?_⟩
    cases b <;> simp only at h ⊢ <;> try (cases h; done)
    obtain ⟨h2, h⟩ := okC_inv h
    obtain ⟨h3, h⟩ := eqLenC_s h
    obtain ⟨h4, h⟩ := splC_s h
    obtain ⟨h5, h⟩ := setHC_s h
    cases hu : (T t).u <;> simp only <;> first
      | exact absurd hu h2
      | (rw [lenK_iff]; exact ⟨h3, splK_of h4 (by rw [setH_iff]; exact ⟨h5, hk _ h⟩)⟩)
      | exact AReq.mk h3 (AUpd.iff.2 ⟨h4, by rw [setH_iff]; exact ⟨h5, hk _ h⟩⟩)
  · obtain ⟨b, h1, h⟩ := blkC_s h
    rw [blkK_iff]
    refine ⟨b, h1, ?_⟩
    cases b <;> simp only at h ⊢ <;> try (cases h; done)
    obtain ⟨h2, h⟩ := okC_inv h
    obtain ⟨h3, h⟩ := eqLenC_s h
    obtain ⟨h4, h⟩ := splC_s h
    obtain ⟨h5, h⟩ := setHC_s h
    cases hu : (T t).u <;> simp only <;> first
      | exact absurd hu h2
      | exact AReq.mk h3 (AUpd.iff.2 ⟨h4, by rw [setH_iff]; exact ⟨h5, hk _ h⟩⟩)

noncomputable def loadAtC (T : Nat → TI) (H : List ABlk) (t : Nat) (p : AV) (K : AV → Option R) : Option R :=
  match p with
  | .ptr l o => blkC H l fun b => seeC b fun xs => drpC xs o fun ys => loadC T t ys K
  | .pe l b0 sz i j => blkC H l fun b => seeC b fun xs => drpC xs b0 fun ys => ctC ys (i * sz) sz fun el => drpC el j fun el => loadC T t el K
  | .ip cs => loadC T t cs K
  | _ => none
theorem loadAtC_s {T : Nat → TI} {H : List ABlk} {t : Nat} {p : AV} {K : AV → Option R} {K' : AV → Prop} {r : R} (h : loadAtC T H t p K = some r) (hk : ∀ v, K v = some r → K' v) : loadAtK T H t p K' := by
  unfold loadAtC at h; unfold loadAtK
  cases p <;> simp only at h ⊢ <;> try (cases h; done)
  · exact loadC_s h hk
  · obtain ⟨b, h1, h⟩ := blkC_s h
    rw [blkK_iff]
    refine ⟨b, h1, seeC_s h fun xs h => ?_⟩
    obtain ⟨h2, h⟩ := drpC_s h
    rw [drp_eq]
    exact loadC_s h hk
  · obtain ⟨b, h1, h⟩ := blkC_s h
    rw [blkK_iff]
    refine ⟨b, h1, seeC_s h fun xs h => ?_⟩
    obtain ⟨h2, h⟩ := drpC_s h
    obtain ⟨h3, h⟩ := ctC_s h
    obtain ⟨h4, h⟩ := drpC_s h
    rw [drp_eq, AIdx.iff]
    refine ⟨h3, ?_⟩
    rw [drp_eq]
    exact loadC_s h hk

noncomputable def fieldAddrC (T : Nat → TI) (s : Nat) (x : AV) (f : Nat) (K : AV → Option R) : Option R :=
  match (T s).u with
  | .struct fs => match fs[f]? with
    | some fo => match x with
      | .ptr l o => fN (o + fo.1) fun o => K (.ptr l o)
      | .pe l b sz i j => fN (j + fo.1) fun j => K (.pe l b sz i j)
      | .ip cs => drpC cs fo.1 fun cs => K (.ip cs)
      | _ => none
    | none => none
  | _ => none
theorem fieldAddrC_s {T : Nat → TI} {s : Nat} {x : AV} {f : Nat} {K : AV → Option R} {K' : AV → Prop} {r : R} (h : fieldAddrC T s x f K = some r) (hk : ∀ v, K v = some r → K' v) : fieldAddrK T s x f K' := by
  unfold fieldAddrC at h; unfold fieldAddrK
  cases hu : (T s).u <;> simp only [hu] at h ⊢ <;> try (cases h; done)
  rename_i fs
  cases hf : fs[f]? <;> simp only [hf] at h ⊢ <;> try (cases h; done)
  cases x <;> simp only at h ⊢ <;> try (cases h; done)
  · obtain ⟨h2, h⟩ := drpC_s h; rw [drp_eq]; exact hk _ h
  · rw [fN_eq] at h; rw [addK_eq]; exact hk _ h
  · rw [fN_eq] at h; rw [addK_eq]; exact hk _ h

noncomputable def indexAddrC (T : Nat → TI) (t : Nat) (x ix : AV) (K : AV → Option R) : Option R :=
  intcC ix fun i =>
  match (T t).u with
  | .arr n e => reqC (decide (0 ≤ i ∧ i < n)) <| match x with
    | .ptr l o => fN i.toNat fun i => K (.pe l o (T e).size i 0)
    | .ip cs => ctC cs (i.toNat * (T e).size) (T e).size fun el => K (.ip el)
    | _ => none
  | .slice e => match x with
    | .ms sz l o n => reqC (Nat.beq sz (T e).size) (reqC (decide (0 ≤ i ∧ i < n)) (fN i.toNat fun i => K (.pe l o sz i 0)))
    | .vs sz n cs => reqC (Nat.beq sz (T e).size) (reqC (decide (0 ≤ i ∧ i < n)) (ctC cs (i.toNat * sz) sz fun el => K (.ip el)))
    | .vx sz n cs => reqC (Nat.beq sz (T e).size) (reqC (decide (0 ≤ i ∧ i < n)) (ctC cs (i.toNat * sz) sz fun el => K (.ip el)))
    | _ => none
  | _ => none
theorem indexAddrC_s {T : Nat → TI} {t : Nat} {x ix : AV} {K : AV → Option R} {K' : AV → Prop} {r : R} (h : indexAddrC T t x ix K = some r) (hk : ∀ v, K v = some r → K' v) : indexAddrK T t x ix K' := by
  unfold indexAddrC at h; unfold indexAddrK
  refine intcC_s h fun i h => ?_
  cases hu : (T t).u <;> simp only [hu] at h ⊢ <;> try (cases h; done)
  · cases x <;> simp only at h ⊢ <;> try (cases h; done)
    · obtain ⟨h1, h⟩ := reqC_s h
      obtain ⟨h2, h⟩ := reqC_s h
      obtain ⟨h3, h⟩ := ctC_s h
      rw [h1]
      exact AReq.mk (of_decide_eq_true h2) (AIdx.iff.2 ⟨h3, hk _ h⟩)
    · obtain ⟨h1, h⟩ := reqC_s h
      obtain ⟨h2, h⟩ := reqC_s h
      obtain ⟨h3, h⟩ := ctC_s h
      rw [h1]
      exact AReq.mk (of_decide_eq_true h2) (AIdx.iff.2 ⟨h3, hk _ h⟩)
    · obtain ⟨h1, h⟩ := reqC_s h
      obtain ⟨h2, h⟩ := reqC_s h
      rw [fN_eq] at h
      rw [h1]
      exact AReq.mk (of_decide_eq_true h2) (hk _ h)
  · obtain ⟨h1, h⟩ := reqC_s h
    cases x <;> simp only at h ⊢ <;> try (cases h; done)
    · obtain ⟨h3, h⟩ := ctC_s h
      exact AReq.mk (of_decide_eq_true h1) (AIdx.iff.2 ⟨h3, hk _ h⟩)
    · rw [fN_eq] at h
      exact AReq.mk (of_decide_eq_true h1) (hk _ h)

noncomputable def btC (l : List UInt8) (i : Nat) (K : AV → Option R) : Option R :=
  @Nat.rec (fun _ => List UInt8 → Option R) (fun l => @List.casesOn UInt8 (fun _ => Option R) l none (fun b _ => fN b.toNat fun n => K (.v (.int .u8 (Int.ofNat n)))))
    (fun _ g l => @List.casesOn UInt8 (fun _ => Option R) l none (fun _ l => g l)) i l
theorem btC_s : ∀ {i : Nat} {l : List UInt8} {K : AV → Option R} {r : R}, btC l i K = some r → i < l.length ∧ K (.v (.int .u8 ((l[i]?.getD 0).toNat : Int))) = some r
  | 0, [], K, r, h => by cases h
  | 0, b :: l, K, r, h => by
    have h : fN b.toNat (fun n => K (.v (.int .u8 (Int.ofNat n)))) = some r := h
    rw [fN_eq] at h
    exact ⟨by simp, h⟩
  | i + 1, [], K, r, h => by cases h
  | i + 1, b :: l, K, r, h => by
    have := btC_s (i := i) (l := l) (K := K) h
    exact ⟨by simp; exact this.1, by simpa using this.2⟩

noncomputable def indexC (T : Nat → TI) (t : Nat) (x ix : AV) (K : AV → Option R) : Option R :=
  intcC ix fun i =>
  match (T t).u with
  | .str => match x with
    | .v x => match x with
      | .string s => reqC (decide (0 ≤ i)) (btC s.data.toList i.toNat K)
      | _ => none
    | _ => none
  | .arr n e => match x with
    | .agg cs => reqC (decide (0 ≤ i ∧ i < n)) (ctC cs (i.toNat * (T e).size) (T e).size fun el => loadC T e el K)
    | _ => none
  | _ => none
theorem indexC_s {T : Nat → TI} {t : Nat} {x ix : AV} {K : AV → Option R} {K' : AV → Prop} {r : R} (h : indexC T t x ix K = some r) (hk : ∀ v, K v = some r → K' v) : indexK T t x ix K' := by
  unfold indexC at h; unfold indexK
  refine intcC_s h fun i h2 => ?_
  clear h
  have h := h2
  clear h2
  cases hu : (T t).u <;> simp only [hu] at h ⊢ <;> try (cases h; done)
  · cases x <;> simp only at h ⊢ <;> try (cases h; done)
    rename_i a
    cases a <;> simp only at h ⊢ <;> try (cases h; done)
    obtain ⟨h1, h⟩ := reqC_s h
    obtain ⟨h2, h⟩ := btC_s h
    have h1 := of_decide_eq_true h1
    exact AReq.mk ⟨h1, by rw [sizeS]; omega⟩ (hk _ h)
  · cases x <;> simp only at h ⊢ <;> try (cases h; done)
    obtain ⟨h1, h⟩ := reqC_s h
    obtain ⟨h2, h⟩ := ctC_s h
    exact AReq.mk (of_decide_eq_true h1) (AIdx.iff.2 ⟨h2, loadC_s h hk⟩)

noncomputable def fieldC (T : Nat → TI) (s : Nat) (x : AV) (f : Nat) (K : AV → Option R) : Option R :=
  match (T s).u with
  | .struct fs => match fs[f]? with
    | some fo => match x with
      | .agg cs => drpC cs fo.1 fun cs => cond fo.2.1 (takC cs fo.2.2 fun r => K (.agg r)) (headC cs K)
      | _ => none
    | none => none
  | _ => none
theorem fieldC_s {T : Nat → TI} {s : Nat} {x : AV} {f : Nat} {K : AV → Option R} {K' : AV → Prop} {r : R} (h : fieldC T s x f K = some r) (hk : ∀ v, K v = some r → K' v) : fieldK T s x f K' := by
  unfold fieldC at h; unfold fieldK
  cases hu : (T s).u <;> simp only [hu] at h ⊢ <;> try (cases h; done)
  rename_i fs
  cases hf : fs[f]? <;> simp only [hf] at h ⊢ <;> try (cases h; done)
  rename_i fo
  cases x <;> simp only at h ⊢ <;> try (cases h; done)
  obtain ⟨h1, h⟩ := drpC_s h
  rw [drp_eq]
  cases hb : fo.2.1 <;> simp only [hb, cond] at h ⊢
  · exact headC_s h hk
  · obtain ⟨h2, h⟩ := takC_s h
    rw [cutK_iff]; exact ⟨h2, hk _ h⟩

/-- cells as bytes -/
noncomputable def bytC (xs : List AV) : (List UInt8 → Option R) → Option R :=
  @List.rec AV (fun _ => (List UInt8 → Option R) → Option R) (fun K => K []) (fun x _ g K => match x with
    | .v x => match x with
      | .int .u8 n => match n with
        | .ofNat n => reqC (Nat.ble n 255) (g fun bs => K (UInt8.ofNat n :: bs))
        | _ => none
      | _ => none
    | _ => none) xs
theorem bytC_s : ∀ {xs : List AV} {K : List UInt8 → Option R} {r : R}, bytC xs K = some r → ∃ bs : List UInt8, xs = bs.map byteC ∧ K bs = some r
  | [], K, r, h => ⟨[], rfl, h⟩
  | x :: xs, K, r, h => by
    cases x <;> try (cases h; done)
    rename_i a
    cases a <;> try (cases h; done)
    rename_i k n
    cases k <;> try (cases h; done)
    cases n <;> try (cases h; done)
    rename_i n
    have h : reqC (Nat.ble n 255) (bytC xs fun bs => K (UInt8.ofNat n :: bs)) = some r := h
    obtain ⟨h1, h⟩ := reqC_s h
    obtain ⟨bs, e, h⟩ := bytC_s h
    refine ⟨UInt8.ofNat n :: bs, ?_, h⟩
    have := Nat.le_of_ble_eq_true h1
    have e2 : (UInt8.ofNat n).toNat = n := by rw [UInt8.toNat_ofNat']; omega
    rw [List.map_cons, ← e, byteC, e2]
    rfl

noncomputable def convC (T : Nat → TI) (src dst : Nat) (H : List ABlk) (x : AV) (K : AV → List ABlk → Option R) : Option R :=
  match (T dst).u with
  | .int k => match (T src).u with
    | .int _ => intcC x fun n => intC k (k.wrap n) fun v => K v H
    | _ => none
  | .str => match (T src).u with
    | .str => match x with
      | .v x => match x with
        | .string s => K (.v (.string s)) H
        | _ => none
      | _ => none
    | .slice e => match (T e).u with
      | .int .u8 => match x with
        | .v _ => none
        | x => contentC H 1 x fun _ cs => bytC cs fun s => K (.v (.string ⟨⟨s⟩⟩)) H
      | _ => none
    | _ => none
  | .slice e => match (T src).u with
    | .str => match (T e).u with
      | .int .u8 => match x with
        | .v x => match x with
          | .string s => contentC H 1 (.v (.string s)) fun n cs => newC H (.cells e cs) fun l H => K (.ms 1 l 0 n) H
          | _ => none
        | _ => none
      | _ => none
    | _ => none
  | _ => none
theorem convC_s {T : Nat → TI} {src dst : Nat} {H : List ABlk} {x : AV} {K : AV → List ABlk → Option R} {K' : AV → List ABlk → Prop} {r : R} (h : convC T src dst H x K = some r) (hk : ∀ v H, K v H = some r → K' v H) : convK T src dst H x K' := by
  unfold convC at h; unfold convK
  cases hd : (T dst).u with
  | int k =>
    simp only [hd] at h ⊢
    cases hs : (T src).u <;> simp only [hs] at h ⊢ <;> try (cases h; done)
    refine intcC_s h fun i h => ?_
    rw [intC_eq] at h
    exact hk _ _ h
  | str =>
    simp only [hd] at h ⊢
    cases hs : (T src).u <;> simp only [hs] at h ⊢ <;> try (cases h; done)
    · cases x <;> try (cases h; done)
      rename_i a
      cases a <;> try (cases h; done)
      exact hk _ _ h
    · rename_i e
      cases he : (T e).u <;> simp only [he] at h ⊢ <;> try (cases h; done)
      rename_i k
      cases k <;> simp only at h ⊢ <;> try (cases h; done)
      cases x <;> simp only at h ⊢ <;> first
        | (cases h; done)
        | (refine contentC_s h fun n cs h => ?_
           obtain ⟨bs, e, h⟩ := bytC_s h
           rw [e]
           exact AStr.mk (hk _ _ h))
  | slice e =>
    simp only [hd] at h ⊢
    cases hs : (T src).u <;> simp only [hs] at h ⊢ <;> try (cases h; done)
    cases he : (T e).u <;> simp only [he] at h ⊢ <;> try (cases h; done)
    rename_i k
    cases k <;> simp only at h ⊢ <;> try (cases h; done)
    cases x <;> simp only at h ⊢ <;> try (cases h; done)
    rename_i a
    cases a <;> try (cases h; done)
    simp only at h ⊢
    have := contentC_s (K' := fun n cs => appK H (.cells e cs) 0 fun l H => K' (.ms 1 l 0 n) H) h fun n cs h => by
      rw [newC_eq] at h
      rw [appK_eq, Nat.zero_add]
      exact hk _ _ h
    simpa [contentK, ifK] using this
  | _ => simp only [hd] at h; cases h

noncomputable def zerosC (n : Nat) (cs : List AV) : (List AV → Option R) → Option R :=
  @Nat.rec (fun _ => (List AV → Option R) → Option R) (fun K => K []) (fun _ g K => g fun r => appC cs r K) n
theorem zerosC_eq (cs : List AV) : ∀ (n : Nat) (K : List AV → Option R), zerosC n cs K = K (List.replicate n cs).flatten
  | 0, K => rfl
  | n + 1, K => by
    have e : zerosC (n + 1) cs K = zerosC n cs fun r => appC cs r K := rfl
    rw [e, zerosC_eq cs n, appC_eq, List.replicate_succ, List.flatten_cons]

noncomputable def makeSliceC (T : Nat → TI) (t : Nat) (H : List ABlk) (len cap : AV) (K : AV → List ABlk → Option R) : Option R :=
  match (T t).u with
  | .slice e => intcC len fun n => intcC cap fun c => reqC (decide (0 ≤ n ∧ n ≤ c ∧ c * (T e).bytes ≤ 281474976710656 ∧ c ≤ 9223372036854775807))
      (cellsC (T e).zero fun cs => eqLenC cs (T e).size (fN n.toNat fun n => zerosC n cs fun zs => newC H (.cells e zs) fun l H => K (.ms (T e).size l 0 n) H))
  | _ => none
theorem makeSliceC_s {T : Nat → TI} {t : Nat} {H : List ABlk} {len cap : AV} {K : AV → List ABlk → Option R} {K' : AV → List ABlk → Prop} {r : R} (h : makeSliceC T t H len cap K = some r) (hk : ∀ v H, K v H = some r → K' v H) : makeSliceK T t H len cap K' := by
  unfold makeSliceC at h; unfold makeSliceK
  cases hd : (T t).u <;> simp only [hd] at h ⊢ <;> try (cases h; done)
  refine intcC_s h fun n h => intcC_s h fun c h => ?_
  obtain ⟨h1, h⟩ := reqC_s h
  refine AReq.mk (of_decide_eq_true h1) ?_
  rw [fv_eq]
  refine cellsC_s h fun cs h => ?_
  obtain ⟨h2, h⟩ := eqLenC_s h
  rw [lenK_iff]
  refine ⟨h2, ?_⟩
  simp only [fN_eq, zerosC_eq, newC_eq] at h
  rw [appK_eq, Nat.zero_add]
  exact hk _ _ h

noncomputable def copyC (T : Nat → TI) (t : Nat) (H : List ABlk) (dst : AV) (src : AV) (K : AV → List ABlk → Option R) : Option R :=
  match (T t).u with
  | .slice e => match dst with
    | .ms sz l o n => reqC (Nat.beq sz (T e).size) (contentC H sz src fun k cs => blkC H l fun b => match b with
        | .cells t' xs => fN (min k n) fun q => takC cs (q * sz) fun r => splC xs o r fun xs => setHC H l (.cells t' xs) fun H => K (.v (.int .i64 (Int.ofNat q))) H
        | _ => none)
    | _ => none
  | _ => none
theorem copyC_s {T : Nat → TI} {t : Nat} {H : List ABlk} {dst src : AV} {K : AV → List ABlk → Option R} {K' : AV → List ABlk → Prop} {r : R} (h : copyC T t H dst src K = some r) (hk : ∀ v H, K v H = some r → K' v H) : copyK T t H dst src K' := by
  unfold copyC at h; unfold copyK
  cases hd : (T t).u <;> simp only [hd] at h ⊢ <;> try (cases h; done)
  cases dst <;> simp only at h ⊢ <;> try (cases h; done)
  obtain ⟨h1, h⟩ := reqC_s h
  rw [h1]
  refine contentC_s h fun k cs h => ?_
  obtain ⟨b, h2, h⟩ := blkC_s h
  rw [blkK_iff]
  refine ⟨b, h2, ?_⟩
  cases b <;> simp only at h ⊢ <;> try (cases h; done)
  rw [fN_eq] at h
  obtain ⟨h3, h⟩ := takC_s h
  obtain ⟨h4, h⟩ := splC_s h
  obtain ⟨h5, h⟩ := setHC_s h
  rw [ACut.iff]
  refine ⟨by omega, ?_⟩
  rw [List.drop_zero, AUpd.iff]
  refine ⟨h4, ?_⟩
  rw [setH_iff]
  exact ⟨h5, hk _ _ h⟩

noncomputable def minmaxC (mx : Bool) : List AV → Int → IntKind → (AV → Option R) → Option R
  | [], n, k, K => K (.v (.int k n))
  | x :: xs, n, k, K => intcC x fun y => match mx with
    | true => minmaxC mx xs (if y > n then y else n) k K
    | false => minmaxC mx xs (if y < n then y else n) k K
theorem minmaxC_s {mx : Bool} : ∀ {xs : List AV} {n : Int} {k : IntKind} {K : AV → Option R} {K' : AV → Prop} {r : R}, minmaxC mx xs n k K = some r → (∀ v, K v = some r → K' v) → minmaxK mx xs n k K'
  | [], n, k, K, K', r, h, hk => hk _ h
  | x :: xs, n, k, K, K', r, h, hk => by
    unfold minmaxC at h; unfold minmaxK
    refine intcC_s h fun y h => ?_
    cases mx <;> simp only at h ⊢ <;> exact minmaxC_s h hk
noncomputable def minmax0C (mx : Bool) (xs : List AV) (K : AV → Option R) : Option R :=
  match xs with
  | [] => none
  | x :: xs => match x with
    | .v x => match x with
      | .int k n => minmaxC mx xs n k fun v => match v with
        | .v v => match v with
          | .int k n => intC k n K
          | _ => none
        | _ => none
      | _ => none
    | _ => none
theorem minmax0C_s {mx : Bool} {xs : List AV} {K : AV → Option R} {K' : AV → Prop} {r : R} (h : minmax0C mx xs K = some r) (hk : ∀ v, K v = some r → K' v) : minmax0K mx xs K' := by
  cases xs <;> try (cases h; done)
  rename_i x xs
  cases x <;> try (cases h; done)
  rename_i a
  cases a <;> try (cases h; done)
  simp only [minmax0C] at h
  simp only [minmax0K]
  refine minmaxC_s h fun v h => ?_
  cases v <;> try (cases h; done)
  rename_i a
  cases a <;> try (cases h; done)
  simp only [intC_eq] at h
  exact hk _ h

noncomputable def builtinC (T : Nat → TI) (b : Builtin) (ts : List Nat) (H : List ABlk) (xs : List AV) (K : AV → List ABlk → Option R) : Option R :=
  match b with
  | .len => match ts with
    | t :: _ => match xs with
      | x :: _ => match (T t).u with
        | .str => lenStrC x fun v => K v H
        | .slice _ => lenOfC x fun v => K v H
        | .arr n _ => intC .i64 n fun v => K v H
        | _ => none
      | _ => none
    | _ => none
  | .append => match ts with
    | t :: t2 :: _ => match xs with
      | x :: y :: _ => match (T t2).u with
        | .int _ => none
        | .other => none
        | _ => match (T t).u with
          | .slice e => contentC H (T e).size y fun n ys => appendC T t H x n ys K
          | _ => none
      | _ => none
    | _ => none
  | .copy => match ts with
    | t :: _ => match xs with
      | x :: y :: _ => copyC T t H x y K
      | _ => none
    | _ => none
  | .min => minmax0C false xs fun v => K v H
  | .max => minmax0C true xs fun v => K v H
  | _ => none
theorem builtinC_s {T : Nat → TI} {b : Builtin} {ts : List Nat} {H : List ABlk} {xs : List AV} {K : AV → List ABlk → Option R} {K' : AV → List ABlk → Prop} {r : R} (h : builtinC T b ts H xs K = some r) (hk : ∀ v H, K v H = some r → K' v H) : builtinK T b ts H xs K' := by
  unfold builtinC at h; unfold builtinK
  cases b <;> simp only at h ⊢ <;> try (cases h; done)
  case len =>
    cases ts <;> simp only at h ⊢ <;> try (cases h; done)
    cases xs <;> simp only at h ⊢ <;> try (cases h; done)
    rename_i t _ x _
    cases hu : (T t).u <;> simp only [hu] at h ⊢ <;> try (cases h; done)
    · exact lenStrC_s h fun v h => hk _ _ h
    · exact lenOfC_s h fun v h => hk _ _ h
    · rw [intC_eq] at h; exact hk _ _ h
  case append =>
    cases ts <;> try (cases h; done)
    rename_i t ts
    cases ts <;> try (cases h; done)
    rename_i t2 ts
    cases xs <;> try (cases h; done)
    rename_i x xs
    cases xs <;> try (cases h; done)
    rename_i y xs
    simp only at h ⊢
    cases hu : (T t2).u <;> simp only [hu] at h ⊢ <;> try (cases h; done)
    all_goals
      cases hv : (T t).u <;> simp only [hv] at h ⊢ <;> try (cases h; done)
      exact contentC_s h fun n ys h => appendC_s h hk
  case copy =>
    cases ts <;> try (cases h; done)
    rename_i t ts
    cases xs <;> try (cases h; done)
    rename_i x xs
    cases xs <;> try (cases h; done)
    exact copyC_s h hk
  case min => exact minmax0C_s h fun v h => hk _ _ h
  case max => exact minmax0C_s h fun v h => hk _ _ h

noncomputable def nthC (xs : List AV) (i : Nat) (K : AV → Option R) : Option R := drpC xs i fun ys => headC ys K
theorem nthC_s {xs : List AV} {i : Nat} {K : AV → Option R} {K' : AV → Prop} {r : R} (h : nthC xs i K = some r) (hk : ∀ v, K v = some r → K' v) : nthK xs i K' := by
  obtain ⟨h1, h⟩ := drpC_s h
  rw [nthK_iff]
  cases hd : xs.drop i with
  | nil => rw [hd] at h; cases h
  | cons x ys =>
    rw [hd] at h
    refine ⟨x, ?_, hk _ h⟩
    have : xs[i]? = (xs.drop i)[0]? := by simp
    rw [this, hd]; rfl

noncomputable def pickC (c a b : AV) (K : AV → Option R) : Option R :=
  match c with
  | .v c => match c with
    | .bool t => cond t (K a) (K b)
    | _ => none
  | _ => none
theorem pickC_s {c a b : AV} {K : AV → Option R} {K' : AV → Prop} {r : R} (h : pickC c a b K = some r) (hk : ∀ v, K v = some r → K' v) : pickK c a b K' := by
  cases c <;> try (cases h; done)
  rename_i x
  cases x <;> try (cases h; done)
  rename_i t
  cases t <;> exact hk _ h

noncomputable def nilCheckC (x : AV) (K : AV → Option R) : Option R :=
  match x with
  | .ptr l o => K (.ptr l o)
  | .pe l b sz i j => K (.pe l b sz i j)
  | .ip xs => K (.ip xs)
  | .fn f fs cs => K (.fn f fs cs)
  | .mp l => K (.mp l)
  | _ => none
theorem nilCheckC_s {x : AV} {K : AV → Option R} {K' : AV → Prop} {r : R} (h : nilCheckC x K = some r) (hk : ∀ v, K v = some r → K' v) : nilCheckK x K' := by
  cases x <;> first | (cases h; done) | exact hk _ h
end
end Go.Aw

/-
  Aw, part 43: closed calls are computed: operations, regions, code, functions.
-/
set_option linter.unusedSimpArgs false
set_option linter.unusedVariables false
namespace Go.Aw
open Go

/-- calls and operations that are told by others -/
structure Xt where
  ext : Nat → Bool
  gc : Nat → Bool
  call : Nat → List AV → List ABlk → Option (AV × List ABlk)
  op : Op → ET → List ABlk → Option (AV × List ABlk)

structure XtOk (P : Program) (T : Nat → TI) (X : Xt) : Prop where
  call : ∀ f args H r H', X.call f args H = some (r, H') → Spec P f args H (fun r' H'' => r' = r ∧ H'' = H')
  op : ∀ op (E : ET) H r H' (K : AV → List ABlk → Prop), E.wf → X.op op E H = some (r, H') → K r H' → AOp P op E.toL H K

def xC {R : Type} (x : Option (AV × List ABlk)) (K : AV → List ABlk → Option R) : Option R :=
  match x with
  | some (v, H) => K v H
  | none => none

abbrev CallC := (R : Type) → Nat → List AV → List ABlk → (AV → List ABlk → Option R) → Option R
def CallOk (P : Program) (call : CallC) : Prop := ∀ (R : Type) g args H (K : AV → List ABlk → Option R) r, call R g args H K = some r → Spec P g args H (fun v H' => K v H' = some r)

section
variable {R : Type}

noncomputable def aopC (P : Program) (T : Nat → TI) (X : Xt) (call : CallC) (op : Op) (E : ET) (H : List ABlk) (K : AV → List ABlk → Option R) : Option R :=
  match op with
  | .move x => evC E x fun v => K v H
  | .assign x => evC E x fun v => K v H
  | .pick c a b => evC E c fun c => evC E a fun a => evC E b fun b => pickC c a b fun v => K v H
  | .alloc t => okC T t <| cellsC (T t).zero fun cs => newC H (.cells t cs) fun l H => K (.ptr l 0) H
  | .box t x => evC E x fun v => cellsC v fun cs => newC H (.cells t cs) fun l H => K (.ptr l 0) H
  | .build t ps => buildC T t E ps.toList fun v => K v H
  | .buildSlice t n ps => buildSliceC T t n E ps.toList fun v => K v H
  | .load t x => evC E x fun p => loadAtC T H t p fun v => K v H
  | .store t x v => evC E x fun p => evC E v fun v => storeC T H t p v fun H => K .any H
  | .nilCheck x => evC E x fun x => nilCheckC x fun v => K v H
  | .binOp op t x y _ => evC E x fun x => evC E y fun y => bopC P T op t x y fun v => K v H
  | .unOp op _ x => evC E x fun x => unC op x fun v => K v H
  | .convert s d x => evC E x fun x => convC T s d H x K
  | .makeFunc fn fs cs => match fn with
    | .func f => evsC E fs.toList fun fs => evsC E cs.toList fun cs => K (.fn f fs cs) H
    | _ => none
  | .makeSlice t l c => match (T t).u with
    | .slice e => okC T e <| evC E l fun l => evC E c fun c => makeSliceC T t H l c K
    | _ => none
  | .slice t x lo hi mx => evC E x fun x => evoC E lo fun lo => evoC E hi fun hi => evoC E mx fun mx => match (T t).u with
    | .arr n e => okC T e <| sliceArrC T n e H x lo hi mx fun v => K v H
    | .slice e => okC T e <| sliceC T t x lo hi mx fun v => K v H
    | .str => sliceC T t x lo hi mx fun v => K v H
    | _ => none
  | .fieldAddr s x f => evC E x fun x => fieldAddrC T s x f fun v => K v H
  | .field s x f => evC E x fun x => fieldC T s x f fun v => K v H
  | .indexAddr t x i => evC E x fun x => evC E i fun i => match (T t).u with
    | .arr _ e => okC T e <| indexAddrC T t x i fun v => K v H
    | .slice e => okC T e <| indexAddrC T t x i fun v => K v H
    | _ => none
  | .index t x i => evC E x fun x => evC E i fun i => match (T t).u with
    | .arr _ e => okC T e <| indexC T t x i fun v => K v H
    | .str => indexC T t x i fun v => K v H
    | _ => none
  | .extract x i => evC E x fun x => match x with
    | .tup xs => nthC xs i fun v => K v H
    | _ => none
  | .call c => match c.callee with
    | .value f => evC E f fun f => evsC E c.args.toList fun xs => match f with
      | .fn g fs cs => reqC (callOk P g) (appC fs xs fun ys => appC ys cs fun ys => call R g ys H K)
      | _ => none
    | .builtin b => match c.argTypes.toList with
      | [] => none
      | t :: ts => match (T t).u with
        | .slice e => evsC E c.args.toList fun xs => okC T e <| builtinC T b (t :: ts) H xs K
        | .map _ _ => match b with
          | .delete => evsC E c.args.toList fun _ => xC (X.op (.call c) E H) K
          | .clear => evsC E c.args.toList fun _ => xC (X.op (.call c) E H) K
          | _ => none
        | _ => evsC E c.args.toList fun xs => builtinC T b (t :: ts) H xs K
    | .invoke _ _ => none
  | op => xC (X.op op E H) K

theorem xC_s {x : Option (AV × List ABlk)} {K : AV → List ABlk → Option R} {r : R} (h : xC x K = some r) : ∃ v H, x = some (v, H) ∧ K v H = some r := by
  cases x with
  | none => cases h
  | some p => exact ⟨p.1, p.2, rfl, h⟩

set_option maxHeartbeats 1000000 in
theorem aopC_s {P : Program} {T : Nat → TI} {X : Xt} {call : CallC} (hX : XtOk P T X) (hc : CallOk P call) {op : Op} {E : ET} (hw : E.wf) {H : List ABlk} {K : AV → List ABlk → Option R} {K' : AV → List ABlk → Prop} {r : R}
    (h : aopC P T X call op E H K = some r) (hk : ∀ v H, K v H = some r → K' v H) : aop P T op E.toL H K' := by
  have hx : ∀ op, xC (X.op op E H) K = some r → AOp P op E.toL H K' := fun op h => by
    obtain ⟨v, H', h1, h2⟩ := xC_s h
    exact hX.op op E H v H' K' hw h1 (hk _ _ h2)
  cases op <;> try (exact hx _ h)
  all_goals (unfold aopC at h; unfold aop; simp only at h ⊢)
  case move x => exact evC_s hw h fun v h => hk _ _ h
  case assign x => exact evC_s hw h fun v h => hk _ _ h
  case pick c a b => exact evC_s hw h fun c h => evC_s hw h fun a h => evC_s hw h fun b h => pickC_s h fun v h => hk _ _ h
  case alloc t =>
    refine okC_s h fun h => cellsC_s h fun cs h => ?_
    rw [newC_eq] at h; rw [appK_eq, Nat.zero_add]; exact hk _ _ h
  case box t x =>
    refine evC_s hw h fun v h => cellsC_s h fun cs h => ?_
    rw [newC_eq] at h; rw [appK_eq, Nat.zero_add]; exact hk _ _ h
  case build t ps => exact buildC_s hw h fun v h => hk _ _ h
  case buildSlice t n ps => exact buildSliceC_s hw h fun v h => hk _ _ h
  case load t x => exact evC_s hw h fun p h => loadAtC_s h fun v h => hk _ _ h
  case store t x v => exact evC_s hw h fun p h => evC_s hw h fun v h => storeC_s h fun H h => hk _ _ h
  case nilCheck x => exact evC_s hw h fun p h => nilCheckC_s h fun v h => hk _ _ h
  case binOp op t x y _ => exact evC_s hw h fun x h => evC_s hw h fun y h => bopC_s h fun v h => hk _ _ h
  case unOp op _ x => exact evC_s hw h fun x h => unC_s h fun v h => hk _ _ h
  case convert s d x => exact evC_s hw h fun x h => convC_s h hk
  case makeFunc fn fs cs =>
    cases fn <;> simp only at h ⊢ <;> try (cases h; done)
    exact evsC_s hw h fun fs h => evsC_s hw h fun cs h => hk _ _ h
  case makeSlice t l c =>
    cases hu : (T t).u <;> simp only [hu] at h ⊢ <;> try (cases h; done)
    exact okC_s h fun h => evC_s hw h fun l h => evC_s hw h fun c h => makeSliceC_s h hk
  case slice t x lo hi mx =>
    refine evC_s hw h fun x h => evoC_s hw h fun lo h => evoC_s hw h fun hi h => evoC_s hw h fun mx h => ?_
    cases hu : (T t).u <;> simp only [hu] at h ⊢ <;> try (cases h; done)
    · exact sliceC_s h fun v h => hk _ _ h
    · exact okC_s h fun h => sliceC_s h fun v h => hk _ _ h
    · exact okC_s h fun h => sliceArrC_s h fun v h => hk _ _ h
  case fieldAddr s x f => exact evC_s hw h fun x h => fieldAddrC_s h fun v h => hk _ _ h
  case field s x f => exact evC_s hw h fun x h => fieldC_s h fun v h => hk _ _ h
  case indexAddr t x i =>
    refine evC_s hw h fun x h => evC_s hw h fun i h => ?_
    cases hu : (T t).u <;> simp only [hu] at h ⊢ <;> try (cases h; done)
    · exact okC_s h fun h => indexAddrC_s h fun v h => hk _ _ h
    · exact okC_s h fun h => indexAddrC_s h fun v h => hk _ _ h
  case index t x i =>
    refine evC_s hw h fun x h => evC_s hw h fun i h => ?_
    cases hu : (T t).u <;> simp only [hu] at h ⊢ <;> try (cases h; done)
    · exact indexC_s h fun v h => hk _ _ h
    · exact okC_s h fun h => indexC_s h fun v h => hk _ _ h
  case extract x i =>
    refine evC_s hw h fun x h => ?_
    cases x <;> simp only at h ⊢ <;> try (cases h; done)
    exact nthC_s h fun v h => hk _ _ h
  case call c =>
    obtain ⟨callee, args, ts⟩ := c
    cases callee <;> simp only at h ⊢ <;> try (cases h; done)
    · refine evC_s hw h fun f h => evsC_s hw h fun xs h => ?_
      cases f <;> simp only at h ⊢ <;> try (cases h; done)
      obtain ⟨h1, h⟩ := reqC_s h
      rw [appC_eq, appC_eq] at h
      rw [ACall.iff]
      exact ⟨h1, (hc _ _ _ _ _ _ h).mono fun r H h => hk _ _ h⟩
    · rename_i b
      cases hts : ts.toList <;> simp only [hts] at h <;> try (cases h; done)
      rename_i t ts'
      cases hu : (T t).u <;> simp only [hu] at h
      case map k e =>
        cases b <;> simp only at h <;> try (cases h; done)
        all_goals exact evsC_s hw h fun xs h => (by simp only [hts, hu]; exact hx _ h)
      case slice e => exact evsC_s hw h fun xs h => (by simp only [hts, hu]; exact okC_s h fun h => builtinC_s h hk)
      all_goals exact evsC_s hw h fun xs h => (by simp only [hts, hu]; exact builtinC_s h hk)

/-! ### guards -/
noncomputable def knDelC (ops : Array Oper) (d : Nat) : List (Nat × Bool) → (List (Nat × Bool) → Option R) → Option R
  | [], K => K []
  | x :: r, K => match dstOf ops x.1 with
    | none => knDelC ops d r K
    | some d' => cond (Nat.beq d' d) (knDelC ops d r K) (knDelC ops d r fun r => K (x :: r))
theorem knDelC_s {ops : Array Oper} {d : Nat} : ∀ {kn : List (Nat × Bool)} {K : List (Nat × Bool) → Option R} {K' : List (Nat × Bool) → Prop} {r : R}, knDelC ops d kn K = some r → (∀ kn, K kn = some r → K' kn) → knDel ops d kn K'
  | [], K, K', r, h, hk => hk _ h
  | x :: kn, K, K', r, h, hk => by
    unfold knDelC at h; unfold knDel
    cases hd : dstOf ops x.1 <;> simp only [hd] at h ⊢
    · exact knDelC_s h hk
    · rename_i d'
      cases hb : Nat.beq d' d <;> simp only [hb, cond] at h ⊢
      · exact knDelC_s h fun kn h => hk _ h
      · exact knDelC_s h hk
noncomputable def knPutC (ops : Array Oper) (d : Option Nat) (kn : List (Nat × Bool)) (K : List (Nat × Bool) → Option R) : Option R :=
  match d with
  | none => K kn
  | some d => knDelC ops d kn K
theorem knPutC_s {ops : Array Oper} {d : Option Nat} {kn : List (Nat × Bool)} {K : List (Nat × Bool) → Option R} {K' : List (Nat × Bool) → Prop} {r : R} (h : knPutC ops d kn K = some r) (hk : ∀ kn, K kn = some r → K' kn) : knPut ops d kn K' := by
  cases d with
  | none => exact hk _ h
  | some d => exact knDelC_s h hk
noncomputable def putC (E : ET) (d : Option Nat) (v : AV) (K : ET → Option R) : Option R :=
  match d with
  | none => K E
  | some d => E.setC d v K
theorem putC_s {E : ET} (hw : E.wf) {d : Option Nat} {v : AV} {K : ET → Option R} {K' : List AV → Prop} {r : R} (h : putC E d v K = some r) (hk : ∀ E : ET, E.wf → K E = some r → K' E.toL) : putK E.toL d v K' := by
  rw [putK_eq]
  cases d with
  | none => exact hk _ hw h
  | some d =>
    obtain ⟨E', h1, h2, h3⟩ := ET.setC_s _ _ _ _ _ hw h
    have := hk _ h2 h1
    rw [h3] at this; exact this

/-- one operation, and how it goes on -/
noncomputable def opC (P : Program) (T : Nat → TI) (X : Xt) (call : CallC) (ops : Array Oper) (o : Oper) (kn : List (Nat × Bool)) (E : ET) (H : List ABlk) (K : List (Nat × Bool) → ET → List ABlk → Option R) : Option R :=
  match o.guard with
  | none => aopC P T X call o.op E H fun v H => putC E o.dst v fun E => knPutC ops o.dst kn fun kn => K kn E H
  | some g => match dstOf ops g.1 with
    | none => none
    | some d => match kno kn g.1 with
      | some b => cond (eqB b g.2) (aopC P T X call o.op E H fun v H => putC E o.dst v fun E => knPutC ops o.dst kn fun kn => K kn E H)
          (putC E o.dst (.v (.tuple #[])) fun E => knPutC ops o.dst kn fun kn => K kn E H)
      | none => match E.get d with
        | .v x => match x with
          | .bool t => fB t fun b => E.setC d (.v (.bool b)) fun E => cond (eqB b g.2) (aopC P T X call o.op E H fun v H => putC E o.dst v fun E => knPutC ops o.dst ((g.1, b) :: kn) fun kn => K kn E H)
              (putC E o.dst (.v (.tuple #[])) fun E => knPutC ops o.dst ((g.1, b) :: kn) fun kn => K kn E H)
          | .tuple _ => putC E o.dst (.v (.tuple #[])) fun E => knPutC ops o.dst kn fun kn => K kn E H
          | _ => none
        | _ => none

theorem opC_s {P : Program} {T : Nat → TI} {X : Xt} {call : CallC} (hX : XtOk P T X) (hc : CallOk P call) {ops : Array Oper} {o : Oper} {kn : List (Nat × Bool)} {E : ET} (hw : E.wf) {H : List ABlk} {K : List (Nat × Bool) → ET → List ABlk → Option R} {K' : List (Nat × Bool) → List AV → List ABlk → Prop} {r : R}
    (h : opC P T X call ops o kn E H K = some r) (hk : ∀ kn (E : ET) H, E.wf → K kn E H = some r → K' kn E.toL H) : opK P T ops o kn E.toL H K' := by
  have hdo : ∀ (E : ET) (hw : E.wf) kn, (aopC P T X call o.op E H fun v H => putC E o.dst v fun E => knPutC ops o.dst kn fun kn => K kn E H) = some r → aop P T o.op E.toL H fun v H => putK E.toL o.dst v fun E => knPut ops o.dst kn fun kn => K' kn E H :=
    fun E hw kn h => aopC_s hX hc hw h fun v H h => putC_s hw h fun E hw h => knPutC_s h fun kn h => hk _ _ _ hw h
  have hno : ∀ (E : ET) (hw : E.wf) kn, (putC E o.dst (.v (.tuple #[])) fun E => knPutC ops o.dst kn fun kn => K kn E H) = some r → putK E.toL o.dst (.v (.tuple #[])) fun E => knPut ops o.dst kn fun kn => K' kn E H :=
    fun E hw kn h => putC_s hw h fun E hw h => knPutC_s h fun kn h => hk _ _ _ hw h
  unfold opC at h; unfold opK
  cases hg : o.guard <;> simp only [hg] at h ⊢
  · exact hdo E hw kn h
  · rename_i g
    cases hd : dstOf ops g.1 <;> simp only [hd] at h ⊢ <;> try (cases h; done)
    rename_i d
    cases hn : kno kn g.1 <;> simp only [hn] at h ⊢
    · simp only [fv_eq]
      rw [← ET.get_eq _ _ hw]
      cases hx : E.get d <;> simp only [hx] at h ⊢ <;> try (cases h; done)
      rename_i x
      cases x <;> simp only at h ⊢ <;> try (cases h; done)
      · rename_i t
        rw [fB_eq] at h
        rw [ASplit.iff, setK_eq]
        obtain ⟨E', h1, h2, h3⟩ := ET.setC_s _ _ _ _ _ hw h
        rw [← h3]
        cases hb : eqB t g.2 <;> simp only [hb, cond] at h1 ⊢
        · exact hno E' h2 _ h1
        · exact hdo E' h2 _ h1
      · exact hno E hw kn h
    · rename_i b
      cases hb : eqB b g.2 <;> simp only [hb, cond] at h ⊢
      · exact hno E hw kn h
      · exact hdo E hw kn h

/-! ### regions in their order -/
/-- an operation told by what it does, in the text's order -/
theorem AO.consA {P : Program} {T : Nat → TI} {ops : Array Oper} {o : Oper} {os : List Oper} {kn : List (Nat × Bool)} {Q : List AV → List ABlk → Prop} {E : List AV} {H : List ABlk} (hg : o.guard = none)
    (h : AOp P o.op E H fun v H => putK E o.dst v fun E => knPut ops o.dst kn fun kn => AO P T ops os kn Q E H) : AO P T ops (o :: os) kn Q E H :=
  ⟨fun C R hR is m I a w hi hs hE hd hkn => by
    cases is with
    | nil => simp at hi
    | cons i is =>
      simp only [List.map_cons, List.cons.injEq] at hi
      obtain ⟨dst, op, type, pos, after, guard⟩ := o
      have hw : Region.wanted ⟨dst, op, type, pos, after, guard⟩ (yielded ops a.tmps) = true := by
        unfold Region.wanted
        simp only at hg
        rw [hg]
      have h1 := AOp.iff.1 h C m I w a dst type pos after guard R hs hE
      simp only [wpOps, hi.1, hw]
      refine .inl (Oper.wp_mono (fun a' w' h' => ?_) h1)
      obtain ⟨x, y, H', m', I', h1, rfl, h3, h4, h5⟩ := h'
      rw [putK_eq] at h1
      obtain ⟨kn', h6, h7⟩ := knPut_spec h1 hkn
      exact h6.run C R hR is m' I' _ w' hi.2 h4 (put_rep (RepL.ext h5 _ _ hE) h3) (by rw [put_defers]; exact hd) (h7 y)⟩

/-- the length of a map -/
theorem AOp.lenMap {P : Program} {E : List AV} {H : List ABlk} {K : AV → List ABlk → Prop} {mo : Operand} {t kt et l : Nat} {es : List (AV × AV)} {bs : List Nat} {clk : Nat} (ht : P.underlying t = some (.map kt et)) (hm : ev E mo = .mp l) (hH : H[l]? = some (.map es bs clk))
    (k : K (.v (.int .i64 es.length)) H) : AOp P (.call ⟨.builtin .len, #[mo], #[t]⟩) E H K := by
  rw [AOp.iff]
  intro C m I w a' dst type pos after guard Q hs hE
  obtain ⟨b, ents, hb, hnI, hw, hr⟩ := hs.map_at hH
  have em1 := ev_rep (o := mo) hE
  rw [hm] at em1
  have e1 := hs.mp_val hb em1
  have hlen : ents.length = es.length := by
    have := hr.1.length
    simpa using this
  refine wp_val_of (s := Builtin.len_ #[t] type ((#[mo] : Array Operand).map a'.eval)) (v := .int .i64 es.length) k (by simp [Rep]) hs (.refl _ _ _) ?_ rfl
  rw [show (#[mo] : Array Operand).map a'.eval = #[a'.eval mo] by simp, e1]
  simp [Builtin.len_, run_underlying ht, MapKept.run_getObj_map hw, Result.andThen, goInt, hlen]

/-- is it the length of a map? -/
def lenM (T : Nat → TI) (o : Oper) : Option (Nat × Operand) :=
  match o.guard with
  | none => match o.op with
    | .call c => match c.callee with
      | .builtin b => match b with
        | .len => match c.argTypes.toList with
          | [t] => match c.args.toList with
            | [x] => match (T t).u with
              | .map _ _ => some (t, x)
              | _ => none
            | _ => none
          | _ => none
        | _ => none
      | _ => none
    | _ => none
  | _ => none
theorem lenM_s {T : Nat → TI} {o : Oper} {t : Nat} {x : Operand} (h : lenM T o = some (t, x)) : o.guard = none ∧ o.op = .call ⟨.builtin .len, #[x], #[t]⟩ := by
  obtain ⟨dst, op, type, pos, after, guard⟩ := o
  unfold lenM at h
  simp only at h ⊢
  split at h <;> try (cases h; done)
  split at h <;> try (cases h; done)
  rename_i c
  obtain ⟨callee, args, ts⟩ := c
  simp only at h
  split at h <;> try (cases h; done)
  split at h <;> try (cases h; done)
  split at h <;> try (cases h; done)
  rename_i hts
  split at h <;> try (cases h; done)
  rename_i hargs
  split at h <;> try (cases h; done)
  cases h
  have e1 : args = #[x] := Array.ext' hargs
  have e2 : ts = #[t] := Array.ext' hts
  rw [e1, e2]
  exact ⟨rfl, rfl⟩

noncomputable def opsC (P : Program) (T : Nat → TI) (X : Xt) (call : CallC) (ops : Array Oper) (os : List Oper) : List (Nat × Bool) → ET → List ABlk → (ET → List ABlk → Option R) → Option R :=
  @List.rec Oper (fun _ => List (Nat × Bool) → ET → List ABlk → (ET → List ABlk → Option R) → Option R) (fun _ E H K => K E H)
    (fun o _ g kn E H K => match lenM T o with
      | some p => match P.underlying p.1 with
        | some (.map _ _) => evC E p.2 fun v => match v with
          | .mp l => blkC H l fun b => match b with
            | .map es bs clk => lenC es fun n => putC E o.dst (.v (.int .i64 (Int.ofNat n))) fun E => knPutC ops o.dst kn fun kn => g kn E H K
            | _ => none
          | _ => none
        | _ => none
      | none => opC P T X call ops o kn E H fun kn E H => g kn E H K) os
theorem opsC_s {P : Program} {T : Nat → TI} (hT : TOk P T) {X : Xt} {call : CallC} (hX : XtOk P T X) (hc : CallOk P call) {ops : Array Oper} : ∀ {os : List Oper} {kn : List (Nat × Bool)} {E : ET} (hw : E.wf) {H : List ABlk} {K : ET → List ABlk → Option R} {Q : List AV → List ABlk → Prop} {r : R},
    opsC P T X call ops os kn E H K = some r → (∀ (E : ET) H, E.wf → K E H = some r → Q E.toL H) → AO P T ops os kn Q E.toL H
  | [], kn, E, hw, H, K, Q, r, h, hk => AO.nil (hk _ _ hw h)
  | o :: os, kn, E, hw, H, K, Q, r, h, hk => by
    have h : (match lenM T o with
      | some p => match P.underlying p.1 with
        | some (.map _ _) => evC E p.2 fun v => match v with
          | .mp l => blkC H l fun b => match b with
            | .map es bs clk => lenC es fun n => putC E o.dst (.v (.int .i64 (Int.ofNat n))) fun E => knPutC ops o.dst kn fun kn => opsC P T X call ops os kn E H K
            | _ => none
          | _ => none
        | _ => none
      | none => opC P T X call ops o kn E H fun kn E H => opsC P T X call ops os kn E H K) = some r := h
    split at h
    · rename_i p hp
      obtain ⟨t, x⟩ := p
      obtain ⟨h1, h2⟩ := lenM_s hp
      split at h <;> try (cases h; done)
      rename_i kt et ht
      refine AO.consA h1 ?_
      rw [h2]
      have key : ∃ l es bs clk, ev E.toL x = .mp l ∧ H[l]? = some (.map es bs clk) ∧ (putC E o.dst (.v (.int .i64 (Int.ofNat es.length))) fun E => knPutC ops o.dst kn fun kn => opsC P T X call ops os kn E H K) = some r := by
        have hgo : ∀ v : AV, (match v with
          | .mp l => blkC H l fun b => match b with
            | .map es bs clk => lenC es fun n => putC E o.dst (.v (.int .i64 (Int.ofNat n))) fun E => knPutC ops o.dst kn fun kn => opsC P T X call ops os kn E H K
            | _ => none
          | _ => none : Option R) = some r → ∃ l es bs clk, v = .mp l ∧ H[l]? = some (.map es bs clk) ∧ (putC E o.dst (.v (.int .i64 (Int.ofNat es.length))) fun E => knPutC ops o.dst kn fun kn => opsC P T X call ops os kn E H K) = some r := by
          intro v h
          split at h <;> try (cases h; done)
          obtain ⟨b, h3, h⟩ := blkC_s h
          split at h <;> try (cases h; done)
          rw [lenC_eq] at h
          exact ⟨_, _, _, _, rfl, h3, h⟩
        cases x <;> simp only [evC] at h <;> try (cases h; done)
        · obtain ⟨l, es, bs, clk, g1, g2, g3⟩ := hgo _ h
          rw [ET.get_eq _ _ hw] at g1
          exact ⟨l, es, bs, clk, g1, g2, g3⟩
      obtain ⟨l, es, bs, clk, g1, g2, g3⟩ := key
      exact AOp.lenMap ht g1 g2 (putC_s hw g3 fun E hw h => knPutC_s h fun kn h => opsC_s hT hX hc hw h hk)
    · exact AO.cons hT (opC_s hX hc hw h fun kn E H hw h => opsC_s hT hX hc hw h hk)
end

/-! ### equality -/
noncomputable def eqV : Value → Value → Bool
  | .int k a, .int k' b => decide (k = k') && decide (a = b)
  | .bool a, .bool b => a == b
  | .string s, .string t => eqU s.data.toList t.data.toList
  | .slice none a b, .slice none c d => Nat.beq a c && Nat.beq b d
  | .pointer none, .pointer none => true
  | .map none, .map none => true
  | .nilFunc, .nilFunc => true
  | .nilIface, .nilIface => true
  | .tuple a, .tuple b => Nat.beq a.toList.length 0 && Nat.beq b.toList.length 0
  | _, _ => false
theorem eqV_s {a b : Value} (h : eqV a b = true) : a = b := by
  unfold eqV at h
  split at h <;> try (cases h; done)
  · simp only [Bool.and_eq_true, decide_eq_true_eq] at h; rw [h.1, h.2]
  · simp only [beq_iff_eq] at h; rw [h]
  · rw [eqU_eq, beq_iff_eq] at h
    congr 1
    exact ByteArray.ext (Array.ext' h)
  · simp only [Bool.and_eq_true] at h
    rw [Nat.eq_of_beq_eq_true h.1, Nat.eq_of_beq_eq_true h.2]
  · rfl
  · rfl
  · rfl
  · rfl
  · rename_i x y
    simp only [Bool.and_eq_true] at h
    have h1 := List.eq_nil_of_length_eq_zero (Nat.eq_of_beq_eq_true h.1)
    have h2 := List.eq_nil_of_length_eq_zero (Nat.eq_of_beq_eq_true h.2)
    congr 1
    exact Array.ext' (h1.trans h2.symm)
mutual
noncomputable def eqAV : AV → AV → Bool
  | .any, y => match y with | .any => true | _ => false
  | .v a, y => match y with | .v b => eqV a b | _ => false
  | .agg xs, y => match y with | .agg ys => eqAVL xs ys | _ => false
  | .tup xs, y => match y with | .tup ys => eqAVL xs ys | _ => false
  | .vs a b xs, y => match y with | .vs c d ys => Nat.beq a c && Nat.beq b d && eqAVL xs ys | _ => false
  | .vx a b xs, y => match y with | .vx c d ys => Nat.beq a c && Nat.beq b d && eqAVL xs ys | _ => false
  | .ip xs, y => match y with | .ip ys => eqAVL xs ys | _ => false
  | .ms a b c d, y => match y with | .ms a' b' c' d' => Nat.beq a a' && Nat.beq b b' && Nat.beq c c' && Nat.beq d d' | _ => false
  | .ptr a b, y => match y with | .ptr c d => Nat.beq a c && Nat.beq b d | _ => false
  | .pe a b c d e, y => match y with | .pe a' b' c' d' e' => Nat.beq a a' && Nat.beq b b' && Nat.beq c c' && Nat.beq d d' && Nat.beq e e' | _ => false
  | .mp a, y => match y with | .mp b => Nat.beq a b | _ => false
  | .fn f fs cs, y => match y with | .fn g gs ds => Nat.beq f g && eqAVL fs gs && eqAVL cs ds | _ => false
noncomputable def eqAVL : List AV → List AV → Bool
  | [], y => match y with | [] => true | _ => false
  | x :: xs, y => match y with | y :: ys => eqAV x y && eqAVL xs ys | _ => false
end
mutual
theorem eqAV_s : ∀ (x y : AV), eqAV x y = true → x = y
  | .any, y, h => by cases y <;> simp only [eqAV] at h <;> first | rfl | cases h
  | .v a, y, h => by cases y <;> simp only [eqAV] at h <;> first | (cases h; done) | rw [eqV_s h]
  | .agg xs, y, h => by cases y <;> simp only [eqAV] at h <;> first | (cases h; done) | rw [eqAVL_s _ _ h]
  | .tup xs, y, h => by cases y <;> simp only [eqAV] at h <;> first | (cases h; done) | rw [eqAVL_s _ _ h]
  | .vs a b xs, y, h => by
    cases y <;> simp only [eqAV, Bool.and_eq_true] at h <;> first | (cases h; done) | rw [Nat.eq_of_beq_eq_true h.1.1, Nat.eq_of_beq_eq_true h.1.2, eqAVL_s _ _ h.2]
  | .vx a b xs, y, h => by
    cases y <;> simp only [eqAV, Bool.and_eq_true] at h <;> first | (cases h; done) | rw [Nat.eq_of_beq_eq_true h.1.1, Nat.eq_of_beq_eq_true h.1.2, eqAVL_s _ _ h.2]
  | .ip xs, y, h => by cases y <;> simp only [eqAV] at h <;> first | (cases h; done) | rw [eqAVL_s _ _ h]
  | .ms a b c d, y, h => by
    cases y <;> simp only [eqAV, Bool.and_eq_true] at h <;> first | (cases h; done) | rw [Nat.eq_of_beq_eq_true h.1.1.1, Nat.eq_of_beq_eq_true h.1.1.2, Nat.eq_of_beq_eq_true h.1.2, Nat.eq_of_beq_eq_true h.2]
  | .ptr a b, y, h => by
    cases y <;> simp only [eqAV, Bool.and_eq_true] at h <;> first | (cases h; done) | rw [Nat.eq_of_beq_eq_true h.1, Nat.eq_of_beq_eq_true h.2]
  | .pe a b c d e, y, h => by
    cases y <;> simp only [eqAV, Bool.and_eq_true] at h <;> first | (cases h; done) | rw [Nat.eq_of_beq_eq_true h.1.1.1.1, Nat.eq_of_beq_eq_true h.1.1.1.2, Nat.eq_of_beq_eq_true h.1.1.2, Nat.eq_of_beq_eq_true h.1.2, Nat.eq_of_beq_eq_true h.2]
  | .mp a, y, h => by cases y <;> simp only [eqAV] at h <;> first | (cases h; done) | rw [Nat.eq_of_beq_eq_true h]
  | .fn f fs cs, y, h => by
    cases y <;> simp only [eqAV, Bool.and_eq_true] at h <;> first | (cases h; done) | rw [Nat.eq_of_beq_eq_true h.1.1, eqAVL_s _ _ h.1.2, eqAVL_s _ _ h.2]
theorem eqAVL_s : ∀ (x y : List AV), eqAVL x y = true → x = y
  | [], y, h => by cases y <;> simp only [eqAVL] at h <;> first | rfl | cases h
  | x :: xs, y, h => by
    cases y <;> simp only [eqAVL, Bool.and_eq_true] at h <;> first | (cases h; done) | rw [eqAV_s _ _ h.1, eqAVL_s _ _ h.2]
end
noncomputable def eqP : List (AV × AV) → List (AV × AV) → Bool
  | [], y => match y with | [] => true | _ => false
  | x :: xs, y => match y with | y :: ys => eqAV x.1 y.1 && eqAV x.2 y.2 && eqP xs ys | _ => false
theorem eqP_s : ∀ (x y : List (AV × AV)), eqP x y = true → x = y
  | [], y, h => by cases y <;> simp only [eqP] at h <;> first | rfl | cases h
  | x :: xs, y, h => by
    cases y <;> simp only [eqP, Bool.and_eq_true] at h <;> first | (cases h; done) | rw [eqP_s _ _ h.2, Prod.ext (eqAV_s _ _ h.1.1) (eqAV_s _ _ h.1.2)]
noncomputable def eqBlk : ABlk → ABlk → Bool
  | .dead, y => match y with | .dead => true | _ => false
  | .cells t xs, y => match y with | .cells t' ys => Nat.beq t t' && eqAVL xs ys | _ => false
  | .ice t xs, y => match y with | .ice t' ys => Nat.beq t t' && eqAVL xs ys | _ => false
  | .map es bs c, y => match y with | .map es' bs' c' => eqP es es' && decide (bs = bs') && Nat.beq c c' | _ => false
  | _, _ => false
theorem eqBlk_s (x y : ABlk) (h : eqBlk x y = true) : x = y := by
  cases x <;> cases y <;> simp only [eqBlk, Bool.and_eq_true, decide_eq_true_eq] at h <;> first
    | rfl
    | (cases h; done)
    | rw [Nat.eq_of_beq_eq_true h.1, eqAVL_s _ _ h.2]
    | rw [eqP_s _ _ h.1.1, h.1.2, Nat.eq_of_beq_eq_true h.2]
noncomputable def eqH : List ABlk → List ABlk → Bool
  | [], y => match y with | [] => true | _ => false
  | x :: xs, y => match y with | y :: ys => eqBlk x y && eqH xs ys | _ => false
theorem eqH_s : ∀ (x y : List ABlk), eqH x y = true → x = y
  | [], y, h => by cases y <;> simp only [eqH] at h <;> first | rfl | cases h
  | x :: xs, y, h => by
    cases y <;> simp only [eqH, Bool.and_eq_true] at h <;> first | (cases h; done) | rw [eqBlk_s _ _ h.1, eqH_s _ _ h.2]
noncomputable def eqET : ET → ET → Bool
  | .leaf x, y => match y with | .leaf y => eqAV x y | _ => false
  | .node n a b, y => match y with | .node m c d => Nat.beq n m && eqET a c && eqET b d | _ => false
theorem eqET_s : ∀ (x y : ET), eqET x y = true → x = y
  | .leaf x, y, h => by cases y <;> simp only [eqET] at h <;> first | (cases h; done) | rw [eqAV_s _ _ h]
  | .node n a b, y, h => by
    cases y <;> simp only [eqET, Bool.and_eq_true] at h <;> first | (cases h; done) | rw [Nat.eq_of_beq_eq_true h.1.1, eqET_s _ _ h.1.2, eqET_s _ _ h.2]
end Go.Aw

