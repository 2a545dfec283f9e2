/-
  Part of a general proof tool: equality of structs, maps, the sort of the library, no condition.
-/
import Derived.Test.YtllchkemgjmjiaaGreatDoorAwD
import Derived.Laws.StructEq
import Derived.ChangeKeysEq
import Derived.Maps.Keyed
import Derived.DeepKeys4
import Derived.Laws.IdiomRangeMap
import Derived.Shelf.GgSortFunc.InsertionK
import Derived.Sort.Statements
set_option linter.unusedSimpArgs false
set_option linter.unusedVariables false
/-
  Aw, part 21: equality of structs; maps.
-/
set_option linter.unusedSimpArgs false
set_option linter.unusedVariables false
namespace Go.Aw
open Go Go.Maps

section
variable {P : Program} {T : Nat → TI} {C : Ctx} {m : Mu} {I : Nat → Prop} {H : List ABlk} {w : World}

/-! ### equality of structs whose fields are numbers, bools, texts -/
inductive EK where
  | int (k : IntKind)
  | bool
  | str

def ekOf (P : Program) (t : Nat) : Option EK :=
  match P.underlying t with
  | some (.int k) => some (.int k)
  | some .bool => some .bool
  | some .string => some .str
  | _ => none

def EK.fits : EK → Value → Bool
  | .int k, .int k' _ => k == k'
  | .bool, .bool _ => true
  | .str, .string _ => true
  | _, _ => false

def fitsL : List EK → List Value → Bool
  | [], [] => true
  | k :: ks, v :: vs => k.fits v && fitsL ks vs
  | _, _ => false

/-- two cells are the same -/
def eqv : Value → Value → Bool
  | .int _ a, .int _ b => decide (a = b)
  | .bool a, .bool b => a == b
  | .string a, .string b => a.toList == b.toList
  | _, _ => false

def eqL : List Value → List Value → Bool
  | [], [] => true
  | x :: xs, y :: ys => eqv x y && eqL xs ys
  | _, _ => false

theorem run_equal_cell {d : Nat} {t : Nat} {k : EK} {a b : Value} (h : ekOf P t = some k) (ha : k.fits a = true) (hb : k.fits b = true) : (Op.equalIn (d + 1) t a b).run P w = .ok (eqv a b) w := by
  unfold ekOf at h
  split at h <;> try (cases h; done)
  all_goals (cases h; rename_i hu)
  · cases a <;> simp only [EK.fits] at ha <;> try (cases ha; done)
    cases b <;> simp only [EK.fits] at hb <;> try (cases hb; done)
    rename_i k1 n1 k2 n2
    have e1 := eq_of_beq ha
    have e2 := eq_of_beq hb
    subst e1; subst e2
    rw [run_equalIn_int w d t _ _ n1 n2 hu]
    rfl
  · cases a <;> simp only [EK.fits] at ha <;> try (cases ha; done)
    cases b <;> simp only [EK.fits] at hb <;> try (cases hb; done)
    rw [run_equalIn_bool' w d t _ _ hu]
    rfl
  · cases a <;> simp only [EK.fits] at ha <;> try (cases ha; done)
    cases b <;> simp only [EK.fits] at hb <;> try (cases hb; done)
    rw [run_equalIn_string w d t _ _ hu]
    rfl

theorem run_part_cell {t : Nat} {k : EK} {xs : List Value} {o : Nat} {v : Value} (h : ekOf P t = some k) (hv : xs[o]? = some v) : (part t ⟨xs⟩ o).run P w = .ok v w := by
  have : (isAgg t).run P w = .ok false w := by
    unfold ekOf at h
    split at h <;> try (cases h; done)
    all_goals (rename_i hu; simp [isAgg, run_underlying hu])
  simp [part, this, hv]

def fieldsFlat (P : Program) : Nat → List Field → Option (List EK)
  | _, [] => some []
  | o, f :: fs => if (f.offset == o && f.name != "_") = true then (match ekOf P f.type with
      | some k => (match fieldsFlat P (o + 1) fs with | some ks => some (k :: ks) | none => none)
      | none => none) else none

theorem run_eqFields {d : Nat} : ∀ {fs : List Field} {ks : List EK} {o : Nat} {xs ys : List Value}, fieldsFlat P o fs = some ks → fitsL ks (xs.drop o) = true → fitsL ks (ys.drop o) = true →
    (Op.eqFields (d + 1) ⟨xs⟩ ⟨ys⟩ fs).run P w = .ok (eqL (xs.drop o) (ys.drop o)) w
  | [], ks, o, xs, ys, h, hx, hy => by
    simp only [fieldsFlat, Option.some.injEq] at h
    subst h
    cases hdx : xs.drop o with
    | cons x r => rw [hdx] at hx; simp [fitsL] at hx
    | nil =>
      cases hdy : ys.drop o with
      | cons y r => rw [hdy] at hy; simp [fitsL] at hy
      | nil => simp [Op.eqFields, eqL]
  | f :: fs, ks, o, xs, ys, h, hx, hy => by
    unfold fieldsFlat at h
    split at h
    · rename_i hc
      simp only [Bool.and_eq_true, beq_iff_eq, bne_iff_ne] at hc
      split at h
      · rename_i k hk
        split at h
        · rename_i ks' hks
          cases h
          cases hdx : xs.drop o with
          | nil => rw [hdx] at hx; simp [fitsL] at hx
          | cons x rx =>
            cases hdy : ys.drop o with
            | nil => rw [hdy] at hy; simp [fitsL] at hy
            | cons y ry =>
              rw [hdx] at hx; rw [hdy] at hy
              simp only [fitsL, Bool.and_eq_true] at hx hy
              have gx : xs[o]? = some x := by
                have : (xs.drop o)[0]? = some x := by rw [hdx]; rfl
                simpa using this
              have gy : ys[o]? = some y := by
                have : (ys.drop o)[0]? = some y := by rw [hdy]; rfl
                simpa using this
              have hrx : xs.drop (o + 1) = rx := by rw [← List.drop_drop, hdx]; rfl
              have hry : ys.drop (o + 1) = ry := by rw [← List.drop_drop, hdy]; rfl
              have ih := run_eqFields (d := d) (xs := xs) (ys := ys) hks (by rw [hrx]; exact hx.2) (by rw [hry]; exact hy.2)
              rw [hrx, hry] at ih
              have e1 : (part f.type ⟨xs⟩ f.offset).run P w = .ok x w := by rw [hc.1]; exact run_part_cell hk gx
              have e2 : (part f.type ⟨ys⟩ f.offset).run P w = .ok y w := by rw [hc.1]; exact run_part_cell hk gy
              simp only [Op.eqFields, hc.2, ne_eq, not_false_eq_true, if_true, Sem.run_bind, e1, e2, Result.andThen_ok, run_equal_cell (d := d) (w := w) hk hx.1 hy.1, eqL]
              cases eqv x y with
              | false => simp
              | true => simpa using ih
        · cases h
      · cases h
    · cases h

/-- the kinds of a struct's or an array's cells, one a field -/
def flatOf (P : Program) (t : Nat) : Option (List EK) :=
  match P.underlying t with
  | some (.struct fs) => if P.stoodInHeld t = true then none else fieldsFlat P 0 fs.toList
  | _ => none

theorem run_equal_flat {d : Nat} {t : Nat} {ks : List EK} {xs ys : List Value} (h : flatOf P t = some ks) (hx : fitsL ks xs = true) (hy : fitsL ks ys = true) :
    (Op.equalIn (d + 2) t (.agg ⟨xs⟩) (.agg ⟨ys⟩)).run P w = .ok (eqL xs ys) w := by
  unfold flatOf at h
  split at h
  · rename_i fs hu
    split at h
    · cases h
    · rename_i hs
      have hf : P.fieldsOf t = fs := by simp [Program.fieldsOf, hu]
      rw [run_equalIn_struct w (d + 1) t ⟨xs⟩ ⟨ys⟩ (by rw [hf]; exact hu) (by simpa using hs), hf]
      have := run_eqFields (w := w) (d := d) (xs := xs) (ys := ys) h (by simpa using hx) (by simpa using hy)
      simpa using this
  · cases h

theorem fieldsFlat_guard {d : Nat} : ∀ {fs : List Field} {ks : List EK} {o : Nat}, fieldsFlat P o fs = some ks → (fs.any fun f => f.name != "_" && P.eqGuardType (d + 1) f.type) = false
  | [], _, _, _ => rfl
  | f :: fs, ks, o, h => by
    unfold fieldsFlat at h
    split at h
    · split at h
      · rename_i k hk
        split at h
        · rename_i ks' hks
          simp only [List.any_cons, fieldsFlat_guard (d := d) hks, Bool.or_false]
          have : P.eqGuardType (d + 1) f.type = false := by
            unfold ekOf at hk
            unfold Program.eqGuardType
            split at hk <;> rename_i hu <;> first
              | (cases hk; done)
              | simp only [hu]
          rw [this, Bool.and_false]
        · cases h
      · cases h
    · cases h

theorem guard_flat {op : BinOp} {t : Nat} {ks : List EK} {x y : Operand} {X Y : Array Value} (h : flatOf P t = some ks) (hd : (Nat.ble 2 P.depth) = true) : (eqGuard op t x y (.agg X) (.agg Y)).run P w = .ok () w := by
  have hd := Nat.le_of_ble_eq_true hd
  have hg : P.eqGuardType P.depth t = false := by
    obtain ⟨d, hd⟩ : ∃ d, P.depth = d + 2 := ⟨P.depth - 2, by omega⟩
    rw [hd]
    unfold flatOf at h
    unfold Program.eqGuardType
    split at h
    · rename_i fs hu
      split at h
      · cases h
      · simp only [hu]
        have := fieldsFlat_guard (d := d) h
        rw [← Array.any_toList]
        exact this
    · cases h
  unfold eqGuard
  cases op <;> simp [hg]

def valsOf : List AV → Option (List Value)
  | [] => some []
  | .v x :: xs => match valsOf xs with | some r => some (x :: r) | none => none
  | _ :: _ => none

theorem vals_rep : ∀ {xs : List AV} {vs ys : List Value}, valsOf xs = some vs → RepL w m I xs ys → ys = vs
  | [], vs, ys, h, hr => by simp only [valsOf, Option.some.injEq] at h; subst h; simpa only [RepL] using hr
  | x :: xs, vs, ys, h, hr => by
    cases x <;> simp only [valsOf] at h <;> try (cases h; done)
    split at h
    · rename_i r hr'
      cases h
      simp only [RepL, Rep] at hr
      obtain ⟨y, zs, rfl, rfl, h2⟩ := hr
      rw [vals_rep hr' h2]
    · cases h

theorem AEqs.eql {t : Nat} {ks : List EK} {xs ys : List AV} {vx vy : List Value} {K : AV → Prop} (h : flatOf P t = some ks) (hd : (Nat.ble 2 P.depth) = true) (ex : valsOf xs = some vx) (ey : valsOf ys = some vy) (hx : fitsL ks vx = true) (hy : fitsL ks vy = true)
    (k : K (.v (.bool (eqL vx vy)))) : AEqs P .eql t (.agg xs) (.agg ys) K := by
  rw [AEqs.iff]
  intro w m I X Y ox oy h1 h2
  simp only [Rep] at h1 h2
  obtain ⟨X, rfl, h1, _⟩ := h1
  obtain ⟨Y, rfl, h2, _⟩ := h2
  rw [vals_rep ex h1, vals_rep ey h2]
  refine .ofv k (fun w' => ?_)
  rw [Sem.run_bind, guard_flat h hd]
  show (binOp .eql t (.agg ⟨vx⟩) (.agg ⟨vy⟩)).run P w' = _
  simp only [binOp, Op.equal, Sem.run_bind]
  have := run_equal_flat (w := w') (d := 9998) h hx hy
  rw [show (9998 + 2) = Op.maxDepth from rfl] at this
  rw [this]
  rfl

theorem AEqs.neq {t : Nat} {ks : List EK} {xs ys : List AV} {vx vy : List Value} {K : AV → Prop} (h : flatOf P t = some ks) (hd : (Nat.ble 2 P.depth) = true) (ex : valsOf xs = some vx) (ey : valsOf ys = some vy) (hx : fitsL ks vx = true) (hy : fitsL ks vy = true)
    (k : K (.v (.bool (!eqL vx vy)))) : AEqs P .neq t (.agg xs) (.agg ys) K := by
  rw [AEqs.iff]
  intro w m I X Y ox oy h1 h2
  simp only [Rep] at h1 h2
  obtain ⟨X, rfl, h1, _⟩ := h1
  obtain ⟨Y, rfl, h2, _⟩ := h2
  rw [vals_rep ex h1, vals_rep ey h2]
  refine .ofv k (fun w' => ?_)
  rw [Sem.run_bind, guard_flat h hd]
  show (binOp .neq t (.agg ⟨vx⟩) (.agg ⟨vy⟩)).run P w' = _
  simp only [binOp, Op.equal, Sem.run_bind]
  have := run_equal_flat (w := w') (d := 9998) h hx hy
  rw [show (9998 + 2) = Op.maxDepth from rfl] at this
  rw [this]
  rfl
end
end Go.Aw

/-
  Aw, part 22: maps.
-/
set_option linter.unusedSimpArgs false
set_option linter.unusedVariables false
namespace Go.Aw
open Go Go.Maps

section
variable {P : Program} {T : Nat → TI} {C : Ctx} {m : Mu} {I : Nat → Prop} {H : List ABlk} {w : World}

/-- what an operand stands for -/
def ev (E : List AV) : Operand → AV
  | .tmp t => lk E t
  | .const v => .v v
  | .func f => .fn f [] []
  | .global _ => .any

theorem ev_rep {E : List AV} {a : Act} {o : Operand} (hE : RepL w m I E a.tmps.toList) : Rep w m I (ev E o) (a.eval o) := by
  cases o with
  | global g => simp only [ev, Rep]
  | tmp t =>
    obtain ⟨x, rfl, h⟩ := evK_sound (o := .tmp t) (K := fun x => x = ev E (.tmp t)) hE (by simp only [evK, fv_eq, ev])
    exact h
  | const v =>
    obtain ⟨x, rfl, h⟩ := evK_sound (o := .const v) (K := fun x => x = ev E (.const v)) hE (by simp only [evK, ev])
    exact h
  | func f =>
    obtain ⟨x, rfl, h⟩ := evK_sound (o := .func f) (K := fun x => x = ev E (.func f)) hE (by simp only [evK, ev])
    exact h

/-- A kind of keys, told by data. -/
structure KEnc {α : Type} (P : Program) (kt : Nat) (kv : α → Value) (ek : α → AV) (ok : α → Prop) : Prop where
  keyed : Keyed P kt
  lit : ∀ a, ok a → ∃ l, keyOf P kt (kv a) = some l
  inj : ∀ a b, kv a = kv b → a = b
  rep : ∀ (w : World) (m : Mu) (I : Nat → Prop) a y, Rep w m I (ek a) y → y = kv a

/-- a map's entries, told by data -/
def em {α β : Type} (ek : α → AV) (ev : β → AV) (l : List (α × β)) : List (AV × AV) := l.map fun p => (ek p.1, ev p.2)

variable {α β : Type} {kv : α → Value} {ek : α → AV} {ok : α → Prop} {eb : β → AV} {L : List (α × β)} {kt et t : Nat}

theorem em_keys (hK : KEnc P kt kv ek ok) : ∀ {L : List (α × β)} {ys : List Value}, RepL w m I ((em ek eb L).map (·.1)) ys → ys = L.map fun p => kv p.1
  | [], ys, h => by simpa [em, RepL] using h
  | p :: L, ys, h => by
    simp only [em, List.map_cons, RepL] at h
    obtain ⟨y, zs, rfl, h1, h2⟩ := h
    have e1 := hK.rep _ _ _ _ _ h1
    have e2 := em_keys hK (L := L) (ys := zs) (by simpa [em] using h2)
    rw [e1, e2, List.map_cons]

/-- Where a key is found. -/
theorem find_em (hK : KEnc P kt kv ek ok) {bs : List Nat} {clk : Nat} {ents : List MapEntry} (hr : MapRep w m I (em ek eb L) bs clk ents) (hL : ∀ p ∈ L, ok p.1) {a : α} (ha : ok a) (w' : World) :
    ((Instr.findKey kt (kv a) ents).run P w' = .ok none w' ∧ ∀ p ∈ L, p.1 ≠ a) ∨ ∃ (j : Nat) (b : β) (e : MapEntry), (Instr.findKey kt (kv a) ents).run P w' = .ok (some (j, e.val)) w' ∧ L[j]? = some (a, b) ∧ ents[j]? = some e ∧ e.key = kv a ∧ Rep w m I (eb b) e.val := by
  have hkeys := em_keys hK hr.1
  have hlen : ents.length = L.length := by have := congrArg List.length hkeys; simpa using this
  have hget : ∀ (j : Nat) (e : MapEntry), ents[j]? = some e → ∃ p, L[j]? = some p ∧ e.key = kv p.1 := by
    intro j e he
    have h1 : (ents.map (·.key))[j]? = some e.key := by rw [List.getElem?_map, he]; rfl
    rw [hkeys, List.getElem?_map] at h1
    cases hp : L[j]? with
    | none => rw [hp] at h1; cases h1
    | some p => rw [hp] at h1; exact ⟨p, rfl, by simpa using h1.symm⟩
  obtain ⟨lx, hlx⟩ := hK.lit a ha
  rcases hK.keyed.find w' hlx ents (fun e he => by
    obtain ⟨j, hj⟩ := List.getElem?_of_mem he
    obtain ⟨p, hp, hk⟩ := hget j e hj
    rw [hk]; exact hK.lit _ (hL p (List.mem_of_getElem? hp))) with ⟨h1, h2⟩ | ⟨j, e, h1, h2, h3⟩
  · refine .inl ⟨h1, fun p hp hpa => ?_⟩
    obtain ⟨j, hj⟩ := List.getElem?_of_mem hp
    have hjl : j < ents.length := by rw [hlen]; exact (List.getElem?_eq_some_iff.1 hj).1
    obtain ⟨p', hp', hk⟩ := hget j ents[j] (List.getElem?_eq_getElem hjl)
    rw [hj] at hp'; cases hp'
    exact h2 _ (List.getElem_mem hjl) (by rw [hk, hpa])
  · obtain ⟨p, hp, hk⟩ := hget j e h2
    have hpa : p.1 = a := hK.inj _ _ (hk.symm.trans h3)
    obtain ⟨p1, p2⟩ := p
    simp only at hpa
    subst hpa
    refine .inr ⟨j, p2, e, h1, hp, h2, h3, ?_⟩
    have hval : ((em ek eb L).map (·.2))[j]? = some (eb p2) := by simp [em, hp]
    obtain ⟨y, hy, hrep⟩ := hr.2.1.get hval
    rw [List.getElem?_map, h2] at hy
    cases hy
    exact hrep

/-- a map that is there -/
theorem St.map_at (h : St C m I H w) {l : Nat} {es : List (AV × AV)} {bs : List Nat} {clk : Nat} (hl : H[l]? = some (.map es bs clk)) :
    ∃ b ents, m.blk l = some b ∧ ¬ I b ∧ w.heap[b]? = some (.map ⟨ents⟩ clk) ∧ MapRep w m I es bs clk ents := by
  have := h.blks l _ hl
  simpa only [BlkRep] using this

theorem St.mp_val (h : St C m I H w) {l b : Nat} {y : Value} (hb : m.blk l = some b) (hr : Rep w m I (.mp l) y) : y = .map (some b) := by
  simp only [Rep] at hr
  obtain ⟨_, b', h1, h2⟩ := hr
  rw [hb] at h1; cases h1
  exact h2

/-- a map's block gets other entries -/
theorem St.putMap (h : St C m I H w) {l b : Nat} {es es' : List (AV × AV)} {bs bs' : List Nat} {clk clk' : Nat} {o : Array MapEntry} {ents' : List MapEntry} (hl : H[l]? = some (.map es bs clk)) (hb : m.blk l = some b) (hw : w.heap[b]? = some (.map o clk))
    (hr : MapRep w m I es' bs' clk' ents') :
    St C m I (H.set l (.map es' bs' clk')) { w with heap := w.heap.setIfInBounds b (.map ⟨ents'⟩ clk') } ∧ Ext w m I { w with heap := w.heap.setIfInBounds b (.map ⟨ents'⟩ clk') } m I := by
  have hlt : b < w.heap.size := (Array.getElem?_eq_some_iff.1 hw).1
  have hB := h.blks l _ hl
  have hnI := (hB.lt trivial hb).2
  refine h.put hl trivial (by simp) ⟨rfl, rfl⟩ (fun b' hb' => by
    show (w.heap.setIfInBounds b _)[b']? = _
    rw [Array.getElem?_setIfInBounds_ne (fun e => hb' (by rw [← e]; exact hb))]) (fun he => ?_)
  simp only [BlkRep]
  exact ⟨b, ents', hb, hnI, by simp [hlt], hr.ext he⟩

theorem wp_val_of {op : Op} {dst : Option Tmp} {type : TypeId} {pos : String} {after : Array Edge} {guard : Option (Nat × Bool)} {a : Act} {K : AV → List ABlk → Prop} {Q : Exit → Act → World → Prop} {s : Sem Value} {x : AV} {v : Value} {H' : List ABlk} {m' : Mu} {I' : Nat → Prop} {w' : World}
    (hk : K x H') (hr : Rep w' m' I' x v) (hs : St C m' I' H' w') (he : Ext w m I w' m' I') (hrun : s.run P w = .ok v w') (hop : execOp a.eval ⟨dst, op, type, pos, after, guard⟩ = do let v ← s; pure (.value v)) :
    (⟨dst, op, type, pos, after, guard⟩ : Oper).wp P a w (After C w m I a dst K) Q :=
  wp_mem (o := ⟨dst, op, type, pos, after, guard⟩) ⟨x, v, H', m', I', w', hk, hr, hs, he, hrun⟩ hop

theorem wp_unit_of {op : Op} {dst : Option Tmp} {type : TypeId} {pos : String} {after : Array Edge} {guard : Option (Nat × Bool)} {a : Act} {K : AV → List ABlk → Prop} {Q : Exit → Act → World → Prop} {s : Sem Unit} {H' : List ABlk} {m' : Mu} {I' : Nat → Prop} {w' : World}
    (hk : K .any H') (hs : St C m' I' H' w') (he : Ext w m I w' m' I') (hrun : s.run P w = .ok () w') (hop : execOp a.eval ⟨dst, op, type, pos, after, guard⟩ = do s; pure .skip) :
    (⟨dst, op, type, pos, after, guard⟩ : Oper).wp P a w (After C w m I a dst K) Q := by
  unfold Oper.wp
  rw [hop, Sem.run_bind, hrun]
  exact ⟨.any, undef, H', m', I', hk, rfl, by simp [Rep], hs, he⟩

/-! ### the operations -/
theorem AOp.makeMap {E : List AV} {K : AV → List ABlk → Prop} (k : K (.mp H.length) (H ++ [.map [] [] 0])) : AOp P (.makeMap t none) E H K := by
  rw [AOp.iff]
  intro C m I w a dst type pos after guard Q hs hE
  obtain ⟨hs', he⟩ := hs.push (w' := w.alloc (.map #[] 0)) (bo := some w.heap.size) (s := 0) (B := .map [] [] 0) (by simp) ⟨rfl, rfl⟩ (fun b hb => by show (w.heap.push _)[b]? = _; rw [Array.getElem?_push, if_neg (Nat.ne_of_lt hb)]) (fun b hb => by cases hb; exact Nat.le_refl _) (fun he => by
    simp only [BlkRep, Mu.push_new.1]
    refine ⟨w.heap.size, [], rfl, fun hi => by have := hs.immlt _ hi; omega, (by show (w.heap.push _)[w.heap.size]? = _; rw [Array.getElem?_push, if_pos rfl]), ?_⟩
    simp [MapRep, RepL])
  refine wp_val_of (s := Instr.makeMap t none) (v := .map (some w.heap.size)) (w' := w.alloc (.map #[] 0)) k ?_ hs' he rfl rfl
  simp only [Rep]
  rw [← hs.n, Mu.push_new.1]
  exact ⟨by simp [Mu.push], _, rfl, rfl⟩

def lookRes (c : Bool) (x : AV) (b : Bool) : AV :=
  match c with
  | true => .tup [x, .v (.bool b)]
  | false => x

theorem AOp.lookup {E : List AV} {K : AV → List ABlk → Prop} {mo ko : Operand} {c : Bool} {l : Nat} {bs : List Nat} {clk : Nat} {a : α}
    (hT : TOk P T) (hK : KEnc P kt kv ek ok) (ht : P.underlying t = some (.map kt et)) (hne : (T et).u ≠ .other) (hm : ev E mo = .mp l) (hk : ev E ko = ek a) (hH : H[l]? = some (.map (em ek eb L) bs clk)) (hL : ∀ p ∈ L, ok p.1) (ha : ok a)
    (h0 : (∀ p ∈ L, p.1 ≠ a) → K (lookRes c (T et).zero false) H) (h1 : ∀ (j : Nat) b, L[j]? = some (a, b) → K (lookRes c (eb b) true) H) : AOp P (.lookup t mo ko c) E H K := by
  rw [AOp.iff]
  intro C m I w a' dst type pos after guard Q hs hE
  obtain ⟨b, ents, hb, hnI, hw, hr⟩ := hs.map_at hH
  have em1 := ev_rep (o := mo) hE
  have ek1 := ev_rep (o := ko) hE
  rw [hm] at em1; rw [hk] at ek1
  have e1 := hs.mp_val hb em1
  have e2 := hK.rep _ _ _ _ _ ek1
  obtain ⟨lx, hlx⟩ := hK.lit a ha
  have hchk := fun em => hK.keyed.check w em hlx
  have hgo : ∀ (x : AV) (v : Value) (bo : Bool), K (lookRes c x bo) H → Rep w m I x v → (Instr.lookup t (.map (some b)) (kv a) c).run P w = .ok (if c then .tuple #[v, .bool bo] else v) w →
      (⟨dst, .lookup t mo ko c, type, pos, after, guard⟩ : Oper).wp P a' w (After C w m I a' dst K) Q := by
    intro x v bo hk hx hrun
    rw [← e1, ← e2] at hrun
    refine wp_val_of hk ?_ hs (.refl _ _ _) hrun rfl
    cases c with
    | false => exact hx
    | true => simp only [lookRes, Rep, RepL]; exact ⟨_, rfl, v, _, rfl, hx, .bool bo, [], rfl, rfl, rfl⟩
  rcases find_em hK hr hL ha w with ⟨f1, f2⟩ | ⟨j, bv, e, f1, f2, f3, f4, f5⟩
  · obtain ⟨d, i, z, g1, g2, g3, g4, g5, g6, g7, g8⟩ := hT.info (t := et) rfl hne
    refine hgo _ z false (h0 f2) (zok_rep w m I _ _ g7) ?_
    simp [Instr.lookup, run_underlying ht, MapKept.run_getObj_map hw, hchk, f1, zeroValue, run_typeInfo_of g2, g6]
  · refine hgo _ e.val true (h1 j bv f2) f5 ?_
    simp [Instr.lookup, run_underlying ht, MapKept.run_getObj_map hw, hchk, f1]

theorem AOp.lookupNil {E : List AV} {K : AV → List ABlk → Prop} {mo ko : Operand} {c : Bool} {a : α}
    (hT : TOk P T) (hK : KEnc P kt kv ek ok) (ht : P.underlying t = some (.map kt et)) (hne : (T et).u ≠ .other) (hm : ev E mo = .v (.map none)) (hk : ev E ko = ek a) (ha : ok a)
    (h0 : K (lookRes c (T et).zero false) H) : AOp P (.lookup t mo ko c) E H K := by
  rw [AOp.iff]
  intro C m I w a' dst type pos after guard Q hs hE
  have em1 := ev_rep (o := mo) hE
  have ek1 := ev_rep (o := ko) hE
  rw [hm] at em1; rw [hk] at ek1
  have e1 := em1.v_eq
  have e2 := hK.rep _ _ _ _ _ ek1
  obtain ⟨lx, hlx⟩ := hK.lit a ha
  have hchk := fun em => hK.keyed.check w em hlx
  have hfind : (Instr.findKey kt (kv a) []).run P w = .ok none w := by
    rcases hK.keyed.find w hlx [] (by simp) with ⟨h1, _⟩ | ⟨j, e, _, h2, _⟩
    · exact h1
    · simp at h2
  obtain ⟨d, i, z, g1, g2, g3, g4, g5, g6, g7, g8⟩ := hT.info (t := et) rfl hne
  refine wp_val_of (s := Instr.lookup t (a'.eval mo) (a'.eval ko) c) (v := if c then .tuple #[z, .bool false] else z) h0 ?_ hs (.refl _ _ _) ?_ rfl
  · cases c with
    | false => exact zok_rep w m I _ _ g7
    | true => simp only [lookRes, Rep, RepL]; exact ⟨_, rfl, z, _, rfl, zok_rep w m I _ _ g7, .bool false, [], rfl, rfl, rfl⟩
  · rw [e1, e2]
    simp [Instr.lookup, run_underlying ht, hchk, hfind, zeroValue, run_typeInfo_of g2, g6]

theorem set_same {γ : Type} {l : List γ} {i : Nat} {x : γ} (h : l[i]? = some x) : l.set i x = l := by
  apply List.ext_getElem?
  intro k
  rw [List.getElem?_set]
  by_cases hk : i = k
  · subst hk
    obtain ⟨h1, h2⟩ := List.getElem?_eq_some_iff.1 h
    simp [h1, h2]
  · simp [hk]

theorem nodup_at {γ : Type} : ∀ {l : List γ} {i j : Nat} {x : γ}, l.Nodup → l[i]? = some x → l[j]? = some x → i = j
  | [], _, _, _, _, h, _ => by simp at h
  | y :: l, 0, 0, _, _, _, _ => rfl
  | y :: l, 0, j + 1, x, hn, h1, h2 => by
    simp at h1 h2
    subst h1
    exact absurd (List.mem_of_getElem? h2) (List.nodup_cons.1 hn).1
  | y :: l, i + 1, 0, x, hn, h1, h2 => by
    simp at h1 h2
    subst h2
    exact absurd (List.mem_of_getElem? h1) (List.nodup_cons.1 hn).1
  | y :: l, i + 1, j + 1, x, hn, h1, h2 => by
    simp at h1 h2
    rw [nodup_at (List.nodup_cons.1 hn).2 h1 h2]

/-- the entry's element is another one -/
theorem rep_set {L : List (α × β)} {bs : List Nat} {clk : Nat} {ents : List MapEntry} (hr : MapRep w m I (em ek eb L) bs clk ents) {j : Nat} {a : α} {b b' : β} {e : MapEntry} {v : Value} (hj : L[j]? = some (a, b)) (he : ents[j]? = some e) (hv : Rep w m I (eb b') v) :
    MapRep w m I (em ek eb (L.set j (a, b'))) bs clk (ents.set j { e with val := v }) := by
  obtain ⟨r1, r2, r3, r4, r5⟩ := hr
  have k1 : (em ek eb (L.set j (a, b'))).map (·.1) = (em ek eb L).map (·.1) := by
    apply List.ext_getElem?
    intro i
    simp only [em, List.getElem?_map, List.getElem?_set]
    by_cases h : j = i
    · subst h
      obtain ⟨h1, h2⟩ := List.getElem?_eq_some_iff.1 hj
      simp [h1, h2]
    · simp [h]
  have k2 : (em ek eb (L.set j (a, b'))).map (·.2) = ((em ek eb L).map (·.2)).set j (eb b') := by
    simp only [em, List.map_set]
  have k3 : (ents.set j { e with val := v }).map (·.key) = ents.map (·.key) := by
    rw [List.map_set]
    apply set_same
    rw [List.getElem?_map, he]; rfl
  have k4 : (ents.set j { e with val := v }).map (·.val) = (ents.map (·.val)).set j v := List.map_set
  have k5 : (ents.set j { e with val := v }).map (·.born) = bs := by
    rw [List.map_set, r3]
    apply set_same
    rw [← r3, List.getElem?_map, he]; rfl
  refine ⟨by rw [k1, k3]; exact r1, by rw [k2, k4]; exact r2.set j hv, k5, r4, r5⟩

/-- one entry more -/
theorem rep_push {L : List (α × β)} {bs : List Nat} {clk : Nat} {ents : List MapEntry} (hr : MapRep w m I (em ek eb L) bs clk ents) {a : α} {b : β} {k v : Value} (hk : Rep w m I (ek a) k) (hv : Rep w m I (eb b) v) :
    MapRep w m I (em ek eb (L ++ [(a, b)])) (bs ++ [clk]) (clk + 1) (ents ++ [{ key := k, val := v, born := clk }]) := by
  obtain ⟨r1, r2, r3, r4, r5⟩ := hr
  refine ⟨?_, ?_, by simp [r3], ?_, ?_⟩
  · simp only [em, List.map_append, List.map_cons, List.map_nil] at r1 ⊢
    exact RepL.append r1 (by simp only [RepL]; exact ⟨_, _, rfl, hk, rfl⟩)
  · simp only [em, List.map_append, List.map_cons, List.map_nil] at r2 ⊢
    exact RepL.append r2 (by simp only [RepL]; exact ⟨_, _, rfl, hv, rfl⟩)
  · rw [List.nodup_append]
    refine ⟨r4, by simp, fun x hx y hy => ?_⟩
    simp at hy
    have := r5 x hx
    omega
  · intro s hs
    rcases List.mem_append.1 hs with h | h
    · have := r5 s h; omega
    · simp at h; omega

theorem mod_list {ents : List MapEntry} {j : Nat} {e : MapEntry} (f : MapEntry → MapEntry) (he : ents[j]? = some e) : ents.modify j f = ents.set j (f e) := by
  apply List.ext_getElem?
  intro i
  simp only [List.getElem?_modify, List.getElem?_set]
  by_cases h : j = i
  · subst h
    obtain ⟨h1, h2⟩ := List.getElem?_eq_some_iff.1 he
    simp [h1, h2]
  · simp [h]

theorem mod_toArray {ents : List MapEntry} {j : Nat} {e : MapEntry} (f : MapEntry → MapEntry) (he : ents[j]? = some e) : (Array.modify ⟨ents⟩ j f) = ⟨ents.set j (f e)⟩ := by
  apply Array.ext'
  simp only [Array.toList_modify]
  exact mod_list f he

theorem AOp.mapUpdate {E : List AV} {K : AV → List ABlk → Prop} {mo ko xo : Operand} {l : Nat} {bs : List Nat} {clk : Nat} {a : α} {b' : β}
    (hK : KEnc P kt kv ek ok) (ht : P.underlying t = some (.map kt et)) (hm : ev E mo = .mp l) (hk : ev E ko = ek a) (hx : ev E xo = eb b') (hH : H[l]? = some (.map (em ek eb L) bs clk)) (hL : ∀ p ∈ L, ok p.1) (ha : ok a)
    (h0 : (∀ p ∈ L, p.1 ≠ a) → K .any (H.set l (.map (em ek eb (L ++ [(a, b')])) (bs ++ [clk]) (clk + 1)))) (h1 : ∀ (j : Nat) b, L[j]? = some (a, b) → K .any (H.set l (.map (em ek eb (L.set j (a, b'))) bs clk))) : AOp P (.mapUpdate t mo ko xo) E H K := by
  rw [AOp.iff]
  intro C m I w a' dst type pos after guard Q hs hE
  obtain ⟨b, ents, hb, hnI, hw, hr⟩ := hs.map_at hH
  have em1 := ev_rep (o := mo) hE
  have ek1 := ev_rep (o := ko) hE
  have ex1 := ev_rep (o := xo) hE
  rw [hm] at em1; rw [hk] at ek1; rw [hx] at ex1
  have e1 := hs.mp_val hb em1
  have e2 := hK.rep _ _ _ _ _ ek1
  obtain ⟨lx, hlx⟩ := hK.lit a ha
  have hchk := fun em => hK.keyed.check w em hlx
  rcases find_em hK hr hL ha w with ⟨f1, f2⟩ | ⟨j, bv, e, f1, f2, f3, f4, f5⟩
  · obtain ⟨hs', he⟩ := hs.putMap hH hb hw (rep_push hr ek1 ex1)
    refine wp_unit_of (s := Instr.mapUpdate t (a'.eval mo) (a'.eval ko) (a'.eval xo)) (h0 f2) hs' he ?_ rfl
    rw [e1, e2]
    simp [Instr.mapUpdate, run_underlying ht, MapKept.run_getObj_map hw, hchk, f1, MapKept.run_setObj_map _ hw]
  · obtain ⟨hs', he⟩ := hs.putMap hH hb hw (rep_set hr f2 f3 ex1)
    refine wp_unit_of (s := Instr.mapUpdate t (a'.eval mo) (a'.eval ko) (a'.eval xo)) (h1 j bv f2) hs' he ?_ rfl
    have hst := hK.keyed.stays w hlx
    rw [e1, e2]
    simp [Instr.mapUpdate, run_underlying ht, MapKept.run_getObj_map hw, hchk, f1, f3, f4, hst, MapKept.run_setObj_map _ hw]
    rw [mod_list _ f3]

theorem AOp.mapEntry {E : List AV} {K : AV → List ABlk → Prop} {mo ko : Operand} {l : Nat} {bs : List Nat} {clk : Nat} {a : α} {z : β}
    (hT : TOk P T) (hK : KEnc P kt kv ek ok) (ht : P.underlying t = some (.map kt et)) (hne : (T et).u ≠ .other) (hz : (T et).zero = eb z) (hm : ev E mo = .mp l) (hk : ev E ko = ek a) (hH : H[l]? = some (.map (em ek eb L) bs clk)) (hL : ∀ p ∈ L, ok p.1) (ha : ok a)
    (h0 : (∀ p ∈ L, p.1 ≠ a) → bs.length = L.length → K (.tup [eb z, .v (.int .i64 clk)]) (H.set l (.map (em ek eb (L ++ [(a, z)])) (bs ++ [clk]) (clk + 1))))
    (h1 : ∀ (j : Nat) b s, L[j]? = some (a, b) → bs[j]? = some s → K (.tup [eb b, .v (.int .i64 s)]) H) : AOp P (.mapEntry t mo ko) E H K := by
  rw [AOp.iff]
  intro C m I w a' dst type pos after guard Q hs hE
  obtain ⟨b, ents, hb, hnI, hw, hr⟩ := hs.map_at hH
  have em1 := ev_rep (o := mo) hE
  have ek1 := ev_rep (o := ko) hE
  rw [hm] at em1; rw [hk] at ek1
  have e1 := hs.mp_val hb em1
  have e2 := hK.rep _ _ _ _ _ ek1
  obtain ⟨lx, hlx⟩ := hK.lit a ha
  have hchk := fun em => hK.keyed.check w em hlx
  rcases find_em hK hr hL ha w with ⟨f1, f2⟩ | ⟨j, bv, e, f1, f2, f3, f4, f5⟩
  · obtain ⟨d, i, zv, g1, g2, g3, g4, g5, g6, g7, g8⟩ := hT.info (t := et) rfl hne
    have hzr : Rep w m I (eb z) zv := by rw [← hz]; exact zok_rep w m I _ _ g7
    obtain ⟨hs', he⟩ := hs.putMap hH hb hw (rep_push hr ek1 hzr)
    refine wp_val_of (s := Instr.mapEntry t (a'.eval mo) (a'.eval ko)) (v := .tuple #[zv, .int .i64 clk]) (h0 f2 (by have h1 := congrArg List.length (em_keys hK hr.1); have h2 := congrArg List.length hr.2.2.1; simp at h1 h2; omega)) ?_ hs' he ?_ rfl
    · simp only [Rep, RepL]; exact ⟨_, rfl, _, _, rfl, hzr.ext he, _, _, rfl, rfl, rfl⟩
    rw [e1, e2]
    simp [Instr.mapEntry, run_underlying ht, MapKept.run_getObj_map hw, hchk, f1, MapKept.run_setObj_map _ hw, zeroValue, run_typeInfo_of g2, g6, goInt]
  · have hst := hK.keyed.stays w hlx
    have hsame : ents.set j { e with key := kv a } = ents := by
      apply set_same
      rw [f3, ← f4]
    have hid : ({ w with heap := w.heap.setIfInBounds b (.map ⟨ents⟩ clk) } : World) = w := by
      have : w.heap.setIfInBounds b (.map ⟨ents⟩ clk) = w.heap := by
        apply Array.ext_getElem?
        intro i
        rw [Array.getElem?_setIfInBounds]
        split
        · rename_i hi; subst hi; split
          · exact hw.symm
          · rename_i hlt; rw [Array.getElem?_eq_none (by omega)]
        · rfl
      rw [this]
    have hbj : bs[j]? = some e.born := by rw [← hr.2.2.1, List.getElem?_map, f3]; rfl
    refine wp_val_of (s := Instr.mapEntry t (a'.eval mo) (a'.eval ko)) (v := .tuple #[e.val, .int .i64 e.born]) (h1 j bv e.born f2 hbj) ?_ hs (.refl _ _ _) ?_ rfl
    · simp only [Rep, RepL]; exact ⟨_, rfl, _, _, rfl, f5, _, _, rfl, rfl, rfl⟩
    rw [e1, e2]
    simp only [Instr.mapEntry, Sem.run_bind, run_underlying ht, MapKept.run_getObj_map hw, hchk, f1, Result.andThen_ok]
    simp [f3, f4, hst, MapKept.run_setObj_map _ hw, goInt]
    rw [mod_list _ f3, hsame, hid]

theorem AOp.entryStore {E : List AV} {K : AV → List ABlk → Prop} {mo so xo : Operand} {l : Nat} {bs : List Nat} {clk : Nat} {a : α} {b b' : β} {j s : Nat}
    (hK : KEnc P kt kv ek ok) (hm : ev E mo = .mp l) (hso : ev E so = .v (.int .i64 s)) (hx : ev E xo = eb b') (hH : H[l]? = some (.map (em ek eb L) bs clk)) (hj : L[j]? = some (a, b)) (hs' : bs[j]? = some s)
    (k : K .any (H.set l (.map (em ek eb (L.set j (a, b'))) bs clk))) : AOp P (.entryStore t mo so xo) E H K := by
  rw [AOp.iff]
  intro C m I w a' dst type pos after guard Q hs hE
  obtain ⟨bl, ents, hb, hnI, hw, hr⟩ := hs.map_at hH
  have em1 := ev_rep (o := mo) hE
  have es1 := ev_rep (o := so) hE
  have ex1 := ev_rep (o := xo) hE
  rw [hm] at em1; rw [hso] at es1; rw [hx] at ex1
  have e1 := hs.mp_val hb em1
  have e2 := es1.v_eq
  have hlen : ents.length = L.length := by
    have := congrArg List.length (em_keys hK hr.1); simpa using this
  have hjl : j < ents.length := by rw [hlen]; exact (List.getElem?_eq_some_iff.1 hj).1
  have hej : ents[j]? = some ents[j] := List.getElem?_eq_getElem hjl
  obtain ⟨hs1, he⟩ := hs.putMap hH hb hw (rep_set hr hj hej ex1)
  have hborn : ents[j].born = s := by
    have := hs'
    rw [← hr.2.2.1, List.getElem?_map, hej] at this
    simpa using this
  have hfind : Array.findIdx? (fun e : MapEntry => (e.born : Int) == (s : Int)) ⟨ents⟩ = some j := by
    rw [Array.findIdx?_eq_some_iff_getElem]
    refine ⟨hjl, by simp [hborn], fun i hi => ?_⟩
    have hil : i < ents.length := by omega
    intro hc
    have h1 : ents[i].born = s := by
      have := eq_of_beq hc
      exact_mod_cast this
    have hn := hr.2.2.2.1
    rw [← hr.2.2.1] at hn
    have := nodup_at hn (i := i) (j := j) (x := s) (by rw [List.getElem?_map, List.getElem?_eq_getElem hil]; simp [h1]) (by rw [List.getElem?_map, hej]; simp [hborn])
    omega
  refine wp_unit_of (s := Instr.entryStore t (a'.eval mo) (a'.eval so) (a'.eval xo)) k hs1 he ?_ rfl
  rw [e1, e2]
  have hint : ∀ w', (asInt (.int .i64 (s : Int))).run P w' = .ok (s : Int) w' := fun _ => rfl
  simp only [Instr.entryStore, Sem.run_bind, MapKept.run_getObj_map hw, Result.andThen_ok, hint, hfind]
  rw [mod_toArray _ hej, MapKept.run_setObj_map _ hw]
end
end Go.Aw

/-
  Aw, part 23: a range over a map; delete, clear.
-/
set_option linter.unusedSimpArgs false
set_option linter.unusedVariables false
namespace Go.Aw
open Go Go.Maps

section
variable {P : Program} {T : Nat → TI} {C : Ctx} {m : Mu} {I : Nat → Prop} {H : List ABlk} {w : World}
variable {kt et t : Nat}

end
end Go.Aw

/-
  Aw, part 24: worlds that grow; the library's sort by its contract.
-/
set_option linter.unusedSimpArgs false
set_option linter.unusedVariables false
namespace Go.Aw
open Go

section
variable {P : Program} {T : Nat → TI} {C : Ctx} {m : Mu} {I : Nat → Prop} {H : List ABlk} {w : World}

theorem St.grown (h : St C m I H w) {w' : World} (hg : Grown w w') (ho : w'.os = w.os ∧ w'.output = w.output) : St C m I H w' ∧ Ext w m I w' m I := by
  have he : Ext w m I w' m I := ⟨Nat.le_refl _, fun _ _ => rfl, fun _ _ => rfl, fun _ h => h, fun b hb => hg.2 b (h.immlt b hb)⟩
  refine ⟨⟨h.n, fun l b hb => (h.blks l b hb).ext he (by rw [h.n]; exact (List.getElem?_eq_some_iff.1 hb).1) (fun x hx hv => ⟨hg.2 x ((h.blks l b hb).lt hv hx).1, ((h.blks l b hb).lt hv hx).2⟩), h.dist, ?_, Nat.le_trans h.size hg.1, h.own, h.imm0, h.imm, ?_, h.m0n, h.m0b, h.m0s, ho.1.trans h.side.1, ho.2.trans h.side.2⟩, he⟩
  · intro b h1 h2
    rw [hg.2 b (Nat.lt_of_lt_of_le h1 h.size)]; exact h.old b h1 h2
  · intro b hb; exact Nat.lt_of_lt_of_le (h.immlt b hb) hg.1

/-- A call of the library's that leaves what there was, by its contract. -/
theorem Fun.below {f : Nat} {args : List AV} {vs : List Value} {v : Value} (hv : ∀ (w : World) (m : Mu) (I : Nat → Prop) ys, RepL w m I args ys → ys = vs)
    (hc : ∀ w, Calls P f ⟨vs⟩ w fun e w' => e = .returned v ∧ Grown w w' ∧ (w'.os = w.os ∧ w'.output = w.output)) : Fun P f args (.v v) := by
  intro C m I w ys hs hr
  rw [hv w m I ys hr]
  refine (hc w).mono fun e w' ⟨he, hg, ho⟩ => ?_
  obtain ⟨hs', hx⟩ := hs.grown hg ho
  exact ⟨_, v, _, m, I, he, ⟨rfl, rfl⟩, by simp [Rep], hs', hx⟩

open Go.Proofs Go.Sort Go.Lib

end
end Go.Aw

/-
  Aw, part 25: what is handed back becomes a value: own memory is given up, frozen.
-/
set_option linter.unusedSimpArgs false
set_option linter.unusedVariables false
namespace Go.Aw
open Go

variable {P : Program} {H : List ABlk}

def ABlk.frozen : ABlk → ABlk
  | .cells t cs => .ice t cs
  | b => b

theorem Conv.freezeAll {k : Nat} {xs : List AV} : ∀ (H0 H : List ABlk), Conv k xs (H0 ++ H) xs (H0 ++ H.map ABlk.frozen)
  | H0, [] => Conv.refl _ _ _
  | H0, b :: H => by
    have ih := Conv.freezeAll (k := k) (xs := xs) (H0 ++ [b.frozen]) H
    rw [List.append_assoc, List.append_assoc] at ih
    refine Conv.trans ?_ ih
    cases b with
    | cells t cs =>
      have h := Conv.freeze (k := k) (xs := xs) (H := H0 ++ .cells t cs :: H) H0.length (t := t) (cs := cs) (by simp)
      rw [List.set_append_right _ _ (Nat.le_refl _), Nat.sub_self] at h
      exact h
    | _ => exact Conv.refl _ _ _

theorem Lend.it {H : List ABlk} {B : List Nat} (x : AV) : Lend H B id x x := .same (ren_id x).symm
theorem Conv.out {r r' : AV} {H : List ABlk} (h : Lend (H.map ABlk.frozen) [] id r r') (hr : ∀ ρ, r'.ren ρ = r') : Conv 0 [r] H [r'] [] :=
  (Conv.freezeAll [] H).trans ((Conv.see (.cons h .nil)).trans (Conv.ren [] [r'] (by simp) List.nodup_nil (by simp only [renL]; rw [hr]; exact Fit.refl _) .nil))

theorem Lend.sm {H : List ABlk} {sz l n t : Nat} {cs : List AV} (hl : H[l]? = some (.ice t cs)) (hn : n * sz = cs.length) : Lend H [] id (.ms sz l 0 n) (.vs sz n cs) :=
  .ms (t := t) (.inr hl) (by omega) (by rw [renL_id, List.drop_zero, hn, List.take_length])

/-- a call of a function that hands values back -/
theorem ACall.out {f : Nat} {args : List AV} {K : AV → List ABlk → Prop} {K0 : AV → Prop} (hc : callOk P f = true) (h : Spec P f args [] fun r H => K0 r ∧ H = []) (ha : renL (nm [] H.length) args = args)
    (k : ∀ r, K0 r → K (r.ren (nm [] H.length)) H) : ACall P f args H K :=
  ACall.spec hc h ha (fun r H' h' => by rw [h'.2]; simpa using k r h'.1)
end Go.Aw

