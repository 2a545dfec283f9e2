/-
  Part of a general proof tool: equality of structs, maps, the sort of the library, no condition.
-/
import Derived.Test.YtgpnhbekepoebaaGreatAwD
import Derived.Laws.StructEq
import Derived.ChangeKeysEq
import Derived.Maps.Keyed
import Derived.DeepKeys4
import Derived.Laws.IdiomRangeMap
import Derived.Shelf.GgSortFunc.InsertionK
import Derived.Sort.Statements
set_option linter.unusedSimpArgs false
set_option linter.unusedVariables false
/-
  Aw, part 21: equality of structs; maps.
-/
set_option linter.unusedSimpArgs false
set_option linter.unusedVariables false
namespace Go.Aw
open Go Go.Maps

section
variable {P : Program} {T : Nat → TI} {C : Ctx} {m : Mu} {I : Nat → Prop} {H : List ABlk} {w : World}

/-! ### equality of structs whose fields are numbers, bools, texts -/
inductive EK where
  | int (k : IntKind)
  | bool
  | str

def ekOf (P : Program) (t : Nat) : Option EK :=
  match P.underlying t with
  | some (.int k) => some (.int k)
  | some .bool => some .bool
  | some .string => some .str
  | _ => none

def EK.fits : EK → Value → Bool
  | .int k, .int k' _ => k == k'
  | .bool, .bool _ => true
  | .str, .string _ => true
  | _, _ => false

def fitsL : List EK → List Value → Bool
  | [], [] => true
  | k :: ks, v :: vs => k.fits v && fitsL ks vs
  | _, _ => false

/-- two cells are the same -/
def eqv : Value → Value → Bool
  | .int _ a, .int _ b => decide (a = b)
  | .bool a, .bool b => a == b
  | .string a, .string b => a.toList == b.toList
  | _, _ => false

def eqL : List Value → List Value → Bool
  | [], [] => true
  | x :: xs, y :: ys => eqv x y && eqL xs ys
  | _, _ => false

theorem run_equal_cell {d : Nat} {t : Nat} {k : EK} {a b : Value} (h : ekOf P t = some k) (ha : k.fits a = true) (hb : k.fits b = true) : (Op.equalIn (d + 1) t a b).run P w = .ok (eqv a b) w := by
  unfold ekOf at h
  split at h <;> try (cases h; done)
  all_goals (cases h; rename_i hu)
  · cases a <;> simp only [EK.fits] at ha <;> try (cases ha; done)
    cases b <;> simp only [EK.fits] at hb <;> try (cases hb; done)
    rename_i k1 n1 k2 n2
    have e1 := eq_of_beq ha
    have e2 := eq_of_beq hb
    subst e1; subst e2
    rw [run_equalIn_int w d t _ _ n1 n2 hu]
    rfl
  · cases a <;> simp only [EK.fits] at ha <;> try (cases ha; done)
    cases b <;> simp only [EK.fits] at hb <;> try (cases hb; done)
    rw [run_equalIn_bool' w d t _ _ hu]
    rfl
  · cases a <;> simp only [EK.fits] at ha <;> try (cases ha; done)
    cases b <;> simp only [EK.fits] at hb <;> try (cases hb; done)
    rw [run_equalIn_string w d t _ _ hu]
    rfl

theorem run_part_cell {t : Nat} {k : EK} {xs : List Value} {o : Nat} {v : Value} (h : ekOf P t = some k) (hv : xs[o]? = some v) : (part t ⟨xs⟩ o).run P w = .ok v w := by
  have : (isAgg t).run P w = .ok false w := by
    unfold ekOf at h
    split at h <;> try (cases h; done)
    all_goals (rename_i hu; simp [isAgg, run_underlying hu])
  simp [part, this, hv]

def fieldsFlat (P : Program) : Nat → List Field → Option (List EK)
  | _, [] => some []
  | o, f :: fs => if (f.offset == o && f.name != "_") = true then (match ekOf P f.type with
      | some k => (match fieldsFlat P (o + 1) fs with | some ks => some (k :: ks) | none => none)
      | none => none) else none

theorem run_eqFields {d : Nat} : ∀ {fs : List Field} {ks : List EK} {o : Nat} {xs ys : List Value}, fieldsFlat P o fs = some ks → fitsL ks (xs.drop o) = true → fitsL ks (ys.drop o) = true →
    (Op.eqFields (d + 1) ⟨xs⟩ ⟨ys⟩ fs).run P w = .ok (eqL (xs.drop o) (ys.drop o)) w
  | [], ks, o, xs, ys, h, hx, hy => by
    simp only [fieldsFlat, Option.some.injEq] at h
    subst h
    cases hdx : xs.drop o with
    | cons x r => rw [hdx] at hx; simp [fitsL] at hx
    | nil =>
      cases hdy : ys.drop o with
      | cons y r => rw [hdy] at hy; simp [fitsL] at hy
      | nil => simp [Op.eqFields, eqL]
  | f :: fs, ks, o, xs, ys, h, hx, hy => by
    unfold fieldsFlat at h
    split at h
    · rename_i hc
      simp only [Bool.and_eq_true, beq_iff_eq, bne_iff_ne] at hc
      split at h
      · rename_i k hk
        split at h
        · rename_i ks' hks
          cases h
          cases hdx : xs.drop o with
          | nil => rw [hdx] at hx; simp [fitsL] at hx
          | cons x rx =>
            cases hdy : ys.drop o with
            | nil => rw [hdy] at hy; simp [fitsL] at hy
            | cons y ry =>
              rw [hdx] at hx; rw [hdy] at hy
              simp only [fitsL, Bool.and_eq_true] at hx hy
              have gx : xs[o]? = some x := by
                have : (xs.drop o)[0]? = some x := by rw [hdx]; rfl
                simpa using this
              have gy : ys[o]? = some y := by
                have : (ys.drop o)[0]? = some y := by rw [hdy]; rfl
                simpa using this
              have hrx : xs.drop (o + 1) = rx := by rw [← List.drop_drop, hdx]; rfl
              have hry : ys.drop (o + 1) = ry := by rw [← List.drop_drop, hdy]; rfl
              have ih := run_eqFields (d := d) (xs := xs) (ys := ys) hks (by rw [hrx]; exact hx.2) (by rw [hry]; exact hy.2)
              rw [hrx, hry] at ih
              have e1 : (part f.type ⟨xs⟩ f.offset).run P w = .ok x w := by rw [hc.1]; exact run_part_cell hk gx
              have e2 : (part f.type ⟨ys⟩ f.offset).run P w = .ok y w := by rw [hc.1]; exact run_part_cell hk gy
              simp only [Op.eqFields, hc.2, ne_eq, not_false_eq_true, if_true, Sem.run_bind, e1, e2, Result.andThen_ok, run_equal_cell (d := d) (w := w) hk hx.1 hy.1, eqL]
              cases eqv x y with
              | false => simp
              | true => simpa using ih
        · cases h
      · cases h
    · cases h

/-- the kinds of a struct's or an array's cells, one a field -/
def flatOf (P : Program) (t : Nat) : Option (List EK) :=
  match P.underlying t with
  | some (.struct fs) => if P.stoodInHeld t = true then none else fieldsFlat P 0 fs.toList
  | _ => none

theorem run_equal_flat {d : Nat} {t : Nat} {ks : List EK} {xs ys : List Value} (h : flatOf P t = some ks) (hx : fitsL ks xs = true) (hy : fitsL ks ys = true) :
    (Op.equalIn (d + 2) t (.agg ⟨xs⟩) (.agg ⟨ys⟩)).run P w = .ok (eqL xs ys) w := by
  unfold flatOf at h
  split at h
  · rename_i fs hu
    split at h
    · cases h
    · rename_i hs
      have hf : P.fieldsOf t = fs := by simp [Program.fieldsOf, hu]
      rw [run_equalIn_struct w (d + 1) t ⟨xs⟩ ⟨ys⟩ (by rw [hf]; exact hu) (by simpa using hs), hf]
      have := run_eqFields (w := w) (d := d) (xs := xs) (ys := ys) h (by simpa using hx) (by simpa using hy)
      simpa using this
  · cases h

theorem fieldsFlat_guard {d : Nat} : ∀ {fs : List Field} {ks : List EK} {o : Nat}, fieldsFlat P o fs = some ks → (fs.any fun f => f.name != "_" && P.eqGuardType (d + 1) f.type) = false
  | [], _, _, _ => rfl
  | f :: fs, ks, o, h => by
    unfold fieldsFlat at h
    split at h
    · split at h
      · rename_i k hk
        split at h
        · rename_i ks' hks
          simp only [List.any_cons, fieldsFlat_guard (d := d) hks, Bool.or_false]
          have : P.eqGuardType (d + 1) f.type = false := by
            unfold ekOf at hk
            unfold Program.eqGuardType
            split at hk <;> rename_i hu <;> first
              | (cases hk; done)
              | simp only [hu]
          rw [this, Bool.and_false]
        · cases h
      · cases h
    · cases h

theorem guard_flat {op : BinOp} {t : Nat} {ks : List EK} {x y : Operand} {X Y : Array Value} (h : flatOf P t = some ks) (hd : (Nat.ble 2 P.depth) = true) : (eqGuard op t x y (.agg X) (.agg Y)).run P w = .ok () w := by
  have hd := Nat.le_of_ble_eq_true hd
  have hg : P.eqGuardType P.depth t = false := by
    obtain ⟨d, hd⟩ : ∃ d, P.depth = d + 2 := ⟨P.depth - 2, by omega⟩
    rw [hd]
    unfold flatOf at h
    unfold Program.eqGuardType
    split at h
    · rename_i fs hu
      split at h
      · cases h
      · simp only [hu]
        have := fieldsFlat_guard (d := d) h
        rw [← Array.any_toList]
        exact this
    · cases h
  unfold eqGuard
  cases op <;> simp [hg]

def valsOf : List AV → Option (List Value)
  | [] => some []
  | .v x :: xs => match valsOf xs with | some r => some (x :: r) | none => none
  | _ :: _ => none

theorem vals_rep : ∀ {xs : List AV} {vs ys : List Value}, valsOf xs = some vs → RepL w m I xs ys → ys = vs
  | [], vs, ys, h, hr => by simp only [valsOf, Option.some.injEq] at h; subst h; simpa only [RepL] using hr
  | x :: xs, vs, ys, h, hr => by
    cases x <;> simp only [valsOf] at h <;> try (cases h; done)
    split at h
    · rename_i r hr'
      cases h
      simp only [RepL, Rep] at hr
      obtain ⟨y, zs, rfl, rfl, h2⟩ := hr
      rw [vals_rep hr' h2]
    · cases h

theorem AEqs.eql {t : Nat} {ks : List EK} {xs ys : List AV} {vx vy : List Value} {K : AV → Prop} (h : flatOf P t = some ks) (hd : (Nat.ble 2 P.depth) = true) (ex : valsOf xs = some vx) (ey : valsOf ys = some vy) (hx : fitsL ks vx = true) (hy : fitsL ks vy = true)
    (k : K (.v (.bool (eqL vx vy)))) : AEqs P .eql t (.agg xs) (.agg ys) K := by
  rw [AEqs.iff]
  intro w m I X Y ox oy h1 h2
  simp only [Rep] at h1 h2
  obtain ⟨X, rfl, h1, _⟩ := h1
  obtain ⟨Y, rfl, h2, _⟩ := h2
  rw [vals_rep ex h1, vals_rep ey h2]
  refine .ofv k (fun w' => ?_)
  rw [Sem.run_bind, guard_flat h hd]
  show (binOp .eql t (.agg ⟨vx⟩) (.agg ⟨vy⟩)).run P w' = _
  simp only [binOp, Op.equal, Sem.run_bind]
  have := run_equal_flat (w := w') (d := 9998) h hx hy
  rw [show (9998 + 2) = Op.maxDepth from rfl] at this
  rw [this]
  rfl

theorem AEqs.neq {t : Nat} {ks : List EK} {xs ys : List AV} {vx vy : List Value} {K : AV → Prop} (h : flatOf P t = some ks) (hd : (Nat.ble 2 P.depth) = true) (ex : valsOf xs = some vx) (ey : valsOf ys = some vy) (hx : fitsL ks vx = true) (hy : fitsL ks vy = true)
    (k : K (.v (.bool (!eqL vx vy)))) : AEqs P .neq t (.agg xs) (.agg ys) K := by
  rw [AEqs.iff]
  intro w m I X Y ox oy h1 h2
  simp only [Rep] at h1 h2
  obtain ⟨X, rfl, h1, _⟩ := h1
  obtain ⟨Y, rfl, h2, _⟩ := h2
  rw [vals_rep ex h1, vals_rep ey h2]
  refine .ofv k (fun w' => ?_)
  rw [Sem.run_bind, guard_flat h hd]
  show (binOp .neq t (.agg ⟨vx⟩) (.agg ⟨vy⟩)).run P w' = _
  simp only [binOp, Op.equal, Sem.run_bind]
  have := run_equal_flat (w := w') (d := 9998) h hx hy
  rw [show (9998 + 2) = Op.maxDepth from rfl] at this
  rw [this]
  rfl
end
end Go.Aw

/-
  Aw, part 22: maps.
-/
set_option linter.unusedSimpArgs false
set_option linter.unusedVariables false
namespace Go.Aw
open Go Go.Maps

section
variable {P : Program} {T : Nat → TI} {C : Ctx} {m : Mu} {I : Nat → Prop} {H : List ABlk} {w : World}

/-- what an operand stands for -/
def ev (E : List AV) : Operand → AV
  | .tmp t => lk E t
  | .const v => .v v
  | .func f => .fn f [] []
  | .global _ => .any

theorem ev_rep {E : List AV} {a : Act} {o : Operand} (hE : RepL w m I E a.tmps.toList) : Rep w m I (ev E o) (a.eval o) := by
  cases o with
  | global g => simp only [ev, Rep]
  | tmp t =>
    obtain ⟨x, rfl, h⟩ := evK_sound (o := .tmp t) (K := fun x => x = ev E (.tmp t)) hE (by simp only [evK, fv_eq, ev])
    exact h
  | const v =>
    obtain ⟨x, rfl, h⟩ := evK_sound (o := .const v) (K := fun x => x = ev E (.const v)) hE (by simp only [evK, ev])
    exact h
  | func f =>
    obtain ⟨x, rfl, h⟩ := evK_sound (o := .func f) (K := fun x => x = ev E (.func f)) hE (by simp only [evK, ev])
    exact h

/-- A kind of keys, told by data. -/
structure KEnc {α : Type} (P : Program) (kt : Nat) (kv : α → Value) (ek : α → AV) (ok : α → Prop) : Prop where
  keyed : Keyed P kt
  lit : ∀ a, ok a → ∃ l, keyOf P kt (kv a) = some l
  inj : ∀ a b, kv a = kv b → a = b
  rep : ∀ (w : World) (m : Mu) (I : Nat → Prop) a y, Rep w m I (ek a) y → y = kv a

/-- a map's entries, told by data -/
def em {α β : Type} (ek : α → AV) (ev : β → AV) (l : List (α × β)) : List (AV × AV) := l.map fun p => (ek p.1, ev p.2)

variable {α β : Type} {kv : α → Value} {ek : α → AV} {ok : α → Prop} {eb : β → AV} {L : List (α × β)} {kt et t : Nat}

theorem em_keys (hK : KEnc P kt kv ek ok) : ∀ {L : List (α × β)} {ys : List Value}, RepL w m I ((em ek eb L).map (·.1)) ys → ys = L.map fun p => kv p.1
  | [], ys, h => by simpa [em, RepL] using h
  | p :: L, ys, h => by
    simp only [em, List.map_cons, RepL] at h
    obtain ⟨y, zs, rfl, h1, h2⟩ := h
    have e1 := hK.rep _ _ _ _ _ h1
    have e2 := em_keys hK (L := L) (ys := zs) (by simpa [em] using h2)
    rw [e1, e2, List.map_cons]

/-- Where a key is found. -/
theorem find_em (hK : KEnc P kt kv ek ok) {bs : List Nat} {clk : Nat} {ents : List MapEntry} (hr : MapRep w m I (em ek eb L) bs clk ents) (hL : ∀ p ∈ L, ok p.1) {a : α} (ha : ok a) (w' : World) :
    ((Instr.findKey kt (kv a) ents).run P w' = .ok none w' ∧ ∀ p ∈ L, p.1 ≠ a) ∨ ∃ (j : Nat) (b : β) (e : MapEntry), (Instr.findKey kt (kv a) ents).run P w' = .ok (some (j, e.val)) w' ∧ L[j]? = some (a, b) ∧ ents[j]? = some e ∧ e.key = kv a ∧ Rep w m I (eb b) e.val := by
  have hkeys := em_keys hK hr.1
  have hlen : ents.length = L.length := by have := congrArg List.length hkeys; simpa using this
  have hget : ∀ (j : Nat) (e : MapEntry), ents[j]? = some e → ∃ p, L[j]? = some p ∧ e.key = kv p.1 := by
    intro j e he
    have h1 : (ents.map (·.key))[j]? = some e.key := by rw [List.getElem?_map, he]; rfl
    rw [hkeys, List.getElem?_map] at h1
    cases hp : L[j]? with
    | none => rw [hp] at h1; cases h1
    | some p => rw [hp] at h1; exact ⟨p, rfl, by simpa using h1.symm⟩
  obtain ⟨lx, hlx⟩ := hK.lit a ha
  rcases hK.keyed.find w' hlx ents (fun e he => by
    obtain ⟨j, hj⟩ := List.getElem?_of_mem he
    obtain ⟨p, hp, hk⟩ := hget j e hj
    rw [hk]; exact hK.lit _ (hL p (List.mem_of_getElem? hp))) with ⟨h1, h2⟩ | ⟨j, e, h1, h2, h3⟩
  · refine .inl ⟨h1, fun p hp hpa => ?_⟩
    obtain ⟨j, hj⟩ := List.getElem?_of_mem hp
    have hjl : j < ents.length := by rw [hlen]; exact (List.getElem?_eq_some_iff.1 hj).1
    obtain ⟨p', hp', hk⟩ := hget j ents[j] (List.getElem?_eq_getElem hjl)
    rw [hj] at hp'; cases hp'
    exact h2 _ (List.getElem_mem hjl) (by rw [hk, hpa])
  · obtain ⟨p, hp, hk⟩ := hget j e h2
    have hpa : p.1 = a := hK.inj _ _ (hk.symm.trans h3)
    obtain ⟨p1, p2⟩ := p
    simp only at hpa
    subst hpa
    refine .inr ⟨j, p2, e, h1, hp, h2, h3, ?_⟩
    have hval : ((em ek eb L).map (·.2))[j]? = some (eb p2) := by simp [em, hp]
    obtain ⟨y, hy, hrep⟩ := hr.2.1.get hval
    rw [List.getElem?_map, h2] at hy
    cases hy
    exact hrep

/-- a map that is there -/
theorem St.map_at (h : St C m I H w) {l : Nat} {es : List (AV × AV)} {bs : List Nat} {clk : Nat} (hl : H[l]? = some (.map es bs clk)) :
    ∃ b ents, m.blk l = some b ∧ ¬ I b ∧ w.heap[b]? = some (.map ⟨ents⟩ clk) ∧ MapRep w m I es bs clk ents := by
  have := h.blks l _ hl
  simpa only [BlkRep] using this

theorem St.mp_val (h : St C m I H w) {l b : Nat} {y : Value} (hb : m.blk l = some b) (hr : Rep w m I (.mp l) y) : y = .map (some b) := by
  simp only [Rep] at hr
  obtain ⟨_, b', h1, h2⟩ := hr
  rw [hb] at h1; cases h1
  exact h2

/-- a map's block gets other entries -/
theorem St.putMap (h : St C m I H w) {l b : Nat} {es es' : List (AV × AV)} {bs bs' : List Nat} {clk clk' : Nat} {o : Array MapEntry} {ents' : List MapEntry} (hl : H[l]? = some (.map es bs clk)) (hb : m.blk l = some b) (hw : w.heap[b]? = some (.map o clk))
    (hr : MapRep w m I es' bs' clk' ents') :
    St C m I (H.set l (.map es' bs' clk')) { w with heap := w.heap.setIfInBounds b (.map ⟨ents'⟩ clk') } ∧ Ext w m I { w with heap := w.heap.setIfInBounds b (.map ⟨ents'⟩ clk') } m I := by
  have hlt : b < w.heap.size := (Array.getElem?_eq_some_iff.1 hw).1
  have hB := h.blks l _ hl
  have hnI := (hB.lt trivial hb).2
  refine h.put hl trivial (by simp) ⟨rfl, rfl⟩ (fun b' hb' => by
    show (w.heap.setIfInBounds b _)[b']? = _
    rw [Array.getElem?_setIfInBounds_ne (fun e => hb' (by rw [← e]; exact hb))]) (fun he => ?_)
  simp only [BlkRep]
  exact ⟨b, ents', hb, hnI, by simp [hlt], hr.ext he⟩

theorem wp_val_of {op : Op} {dst : Option Tmp} {type : TypeId} {pos : String} {after : Array Edge} {guard : Option (Nat × Bool)} {a : Act} {K : AV → List ABlk → Prop} {Q : Exit → Act → World → Prop} {s : Sem Value} {x : AV} {v : Value} {H' : List ABlk} {m' : Mu} {I' : Nat → Prop} {w' : World}
    (hk : K x H') (hr : Rep w' m' I' x v) (hs : St C m' I' H' w') (he : Ext w m I w' m' I') (hrun : s.run P w = .ok v w') (hop : execOp a.eval ⟨dst, op, type, pos, after, guard⟩ = do let v ← s; pure (.value v)) :
    (⟨dst, op, type, pos, after, guard⟩ : Oper).wp P a w (After C w m I a dst K) Q :=
  wp_mem (o := ⟨dst, op, type, pos, after, guard⟩) ⟨x, v, H', m', I', w', hk, hr, hs, he, hrun⟩ hop

theorem wp_unit_of {op : Op} {dst : Option Tmp} {type : TypeId} {pos : String} {after : Array Edge} {guard : Option (Nat × Bool)} {a : Act} {K : AV → List ABlk → Prop} {Q : Exit → Act → World → Prop} {s : Sem Unit} {H' : List ABlk} {m' : Mu} {I' : Nat → Prop} {w' : World}
    (hk : K .any H') (hs : St C m' I' H' w') (he : Ext w m I w' m' I') (hrun : s.run P w = .ok () w') (hop : execOp a.eval ⟨dst, op, type, pos, after, guard⟩ = do s; pure .skip) :
    (⟨dst, op, type, pos, after, guard⟩ : Oper).wp P a w (After C w m I a dst K) Q := by
  unfold Oper.wp
  rw [hop, Sem.run_bind, hrun]
  exact ⟨.any, undef, H', m', I', hk, rfl, by simp [Rep], hs, he⟩

/-- what is known of a map's stamps -/
theorem AW.mapLen {k : Nat} {c : Code} {Q : Exit → List AV → List ABlk → Prop} {E : List AV} {l : Nat} {es : List (AV × AV)} {bs : List Nat} {clk : Nat} (hH : H[l]? = some (.map es bs clk)) (h : bs.length = es.length → bs.Nodup → AW P T k c Q E H) : AW P T k c Q E H :=
  ⟨fun C a w hC hr => by
    obtain ⟨m, I, hs, hE, hd⟩ := hr
    obtain ⟨b, ents, hb, hnI, hw, r1, r2, r3, r4, r5⟩ := hs.map_at hH
    have h1 := r1.length
    have h2 := congrArg List.length r3
    simp at h1 h2
    exact (h (by omega) r4).run C a w hC ⟨m, I, hs, hE, hd⟩⟩

theorem ALoop.mapLen {k : Nat} {c : Code} {Q : Exit → List AV → List ABlk → Prop} {E : List AV} {l : Nat} {es : List (AV × AV)} {bs : List Nat} {clk : Nat} (hH : H[l]? = some (.map es bs clk)) (h : bs.length = es.length → bs.Nodup → ALoop P T k E H c Q) : ALoop P T k E H c Q := by
  unfold ALoop at *
  intro C a w hC hr
  obtain ⟨m, I, hs, hE, hd⟩ := hr
  obtain ⟨b, ents, hb, hnI, hw, r1, r2, r3, r4, r5⟩ := hs.map_at hH
  have h1 := r1.length
  have h2 := congrArg List.length r3
  simp at h1 h2
  exact h (by omega) r4 C a w hC ⟨m, I, hs, hE, hd⟩

/-! ### the operations -/
theorem AOp.makeMap {E : List AV} {K : AV → List ABlk → Prop} (k : K (.mp H.length) (H ++ [.map [] [] 0])) : AOp P (.makeMap t none) E H K := by
  rw [AOp.iff]
  intro C m I w a dst type pos after guard Q hs hE
  obtain ⟨hs', he⟩ := hs.push (w' := w.alloc (.map #[] 0)) (bo := some w.heap.size) (s := 0) (B := .map [] [] 0) (by simp) ⟨rfl, rfl⟩ (fun b hb => by show (w.heap.push _)[b]? = _; rw [Array.getElem?_push, if_neg (Nat.ne_of_lt hb)]) (fun b hb => by cases hb; exact Nat.le_refl _) (fun he => by
    simp only [BlkRep, Mu.push_new.1]
    refine ⟨w.heap.size, [], rfl, fun hi => by have := hs.immlt _ hi; omega, (by show (w.heap.push _)[w.heap.size]? = _; rw [Array.getElem?_push, if_pos rfl]), ?_⟩
    simp [MapRep, RepL])
  refine wp_val_of (s := Instr.makeMap t none) (v := .map (some w.heap.size)) (w' := w.alloc (.map #[] 0)) k ?_ hs' he rfl rfl
  simp only [Rep]
  rw [← hs.n, Mu.push_new.1]
  exact ⟨by simp [Mu.push], _, rfl, rfl⟩

def lookRes (c : Bool) (x : AV) (b : Bool) : AV :=
  match c with
  | true => .tup [x, .v (.bool b)]
  | false => x

theorem AOp.lookup {E : List AV} {K : AV → List ABlk → Prop} {mo ko : Operand} {c : Bool} {l : Nat} {bs : List Nat} {clk : Nat} {a : α}
    (hT : TOk P T) (hK : KEnc P kt kv ek ok) (ht : P.underlying t = some (.map kt et)) (hne : (T et).u ≠ .other) (hm : ev E mo = .mp l) (hk : ev E ko = ek a) (hH : H[l]? = some (.map (em ek eb L) bs clk)) (hL : ∀ p ∈ L, ok p.1) (ha : ok a)
    (h0 : (∀ p ∈ L, p.1 ≠ a) → K (lookRes c (T et).zero false) H) (h1 : ∀ (j : Nat) b, L[j]? = some (a, b) → K (lookRes c (eb b) true) H) : AOp P (.lookup t mo ko c) E H K := by
  rw [AOp.iff]
  intro C m I w a' dst type pos after guard Q hs hE
  obtain ⟨b, ents, hb, hnI, hw, hr⟩ := hs.map_at hH
  have em1 := ev_rep (o := mo) hE
  have ek1 := ev_rep (o := ko) hE
  rw [hm] at em1; rw [hk] at ek1
  have e1 := hs.mp_val hb em1
  have e2 := hK.rep _ _ _ _ _ ek1
  obtain ⟨lx, hlx⟩ := hK.lit a ha
  have hchk := fun em => hK.keyed.check w em hlx
  have hgo : ∀ (x : AV) (v : Value) (bo : Bool), K (lookRes c x bo) H → Rep w m I x v → (Instr.lookup t (.map (some b)) (kv a) c).run P w = .ok (if c then .tuple #[v, .bool bo] else v) w →
      (⟨dst, .lookup t mo ko c, type, pos, after, guard⟩ : Oper).wp P a' w (After C w m I a' dst K) Q := by
    intro x v bo hk hx hrun
    rw [← e1, ← e2] at hrun
    refine wp_val_of hk ?_ hs (.refl _ _ _) hrun rfl
    cases c with
    | false => exact hx
    | true => simp only [lookRes, Rep, RepL]; exact ⟨_, rfl, v, _, rfl, hx, .bool bo, [], rfl, rfl, rfl⟩
  rcases find_em hK hr hL ha w with ⟨f1, f2⟩ | ⟨j, bv, e, f1, f2, f3, f4, f5⟩
  · obtain ⟨d, i, z, g1, g2, g3, g4, g5, g6, g7, g8⟩ := hT.info (t := et) rfl hne
    refine hgo _ z false (h0 f2) (zok_rep w m I _ _ g7) ?_
    simp [Instr.lookup, run_underlying ht, MapKept.run_getObj_map hw, hchk, f1, zeroValue, run_typeInfo_of g2, g6]
  · refine hgo _ e.val true (h1 j bv f2) f5 ?_
    simp [Instr.lookup, run_underlying ht, MapKept.run_getObj_map hw, hchk, f1]

theorem AOp.lookupV {E : List AV} {K : AV → List ABlk → Prop} {mo ko : Operand} {l : Nat} {bs : List Nat} {clk : Nat} {a : α} {z : β} (v : β)
    (hT : TOk P T) (hK : KEnc P kt kv ek ok) (ht : P.underlying t = some (.map kt et)) (hne : (T et).u ≠ .other) (hz : (T et).zero = eb z) (hm : ev E mo = .mp l) (hk : ev E ko = ek a) (hH : H[l]? = some (.map (em ek eb L) bs clk)) (hL : ∀ p ∈ L, ok p.1) (ha : ok a)
    (h0 : (∀ p ∈ L, p.1 ≠ a) → v = z) (h1 : ∀ (j : Nat) b, L[j]? = some (a, b) → v = b) (k : K (eb v) H) : AOp P (.lookup t mo ko false) E H K :=
  AOp.lookup hT hK ht hne hm hk hH hL ha (fun h => by show K (T et).zero H; rw [hz, ← h0 h]; exact k) (fun j b hj => by show K (eb b) H; rw [← h1 j b hj]; exact k)

theorem AOp.lookupNil {E : List AV} {K : AV → List ABlk → Prop} {mo ko : Operand} {c : Bool} {a : α}
    (hT : TOk P T) (hK : KEnc P kt kv ek ok) (ht : P.underlying t = some (.map kt et)) (hne : (T et).u ≠ .other) (hm : ev E mo = .v (.map none)) (hk : ev E ko = ek a) (ha : ok a)
    (h0 : K (lookRes c (T et).zero false) H) : AOp P (.lookup t mo ko c) E H K := by
  rw [AOp.iff]
  intro C m I w a' dst type pos after guard Q hs hE
  have em1 := ev_rep (o := mo) hE
  have ek1 := ev_rep (o := ko) hE
  rw [hm] at em1; rw [hk] at ek1
  have e1 := em1.v_eq
  have e2 := hK.rep _ _ _ _ _ ek1
  obtain ⟨lx, hlx⟩ := hK.lit a ha
  have hchk := fun em => hK.keyed.check w em hlx
  have hfind : (Instr.findKey kt (kv a) []).run P w = .ok none w := by
    rcases hK.keyed.find w hlx [] (by simp) with ⟨h1, _⟩ | ⟨j, e, _, h2, _⟩
    · exact h1
    · simp at h2
  obtain ⟨d, i, z, g1, g2, g3, g4, g5, g6, g7, g8⟩ := hT.info (t := et) rfl hne
  refine wp_val_of (s := Instr.lookup t (a'.eval mo) (a'.eval ko) c) (v := if c then .tuple #[z, .bool false] else z) h0 ?_ hs (.refl _ _ _) ?_ rfl
  · cases c with
    | false => exact zok_rep w m I _ _ g7
    | true => simp only [lookRes, Rep, RepL]; exact ⟨_, rfl, z, _, rfl, zok_rep w m I _ _ g7, .bool false, [], rfl, rfl, rfl⟩
  · rw [e1, e2]
    simp [Instr.lookup, run_underlying ht, hchk, hfind, zeroValue, run_typeInfo_of g2, g6]

theorem set_same {γ : Type} {l : List γ} {i : Nat} {x : γ} (h : l[i]? = some x) : l.set i x = l := by
  apply List.ext_getElem?
  intro k
  rw [List.getElem?_set]
  by_cases hk : i = k
  · subst hk
    obtain ⟨h1, h2⟩ := List.getElem?_eq_some_iff.1 h
    simp [h1, h2]
  · simp [hk]

theorem nodup_at {γ : Type} : ∀ {l : List γ} {i j : Nat} {x : γ}, l.Nodup → l[i]? = some x → l[j]? = some x → i = j
  | [], _, _, _, _, h, _ => by simp at h
  | y :: l, 0, 0, _, _, _, _ => rfl
  | y :: l, 0, j + 1, x, hn, h1, h2 => by
    simp at h1 h2
    subst h1
    exact absurd (List.mem_of_getElem? h2) (List.nodup_cons.1 hn).1
  | y :: l, i + 1, 0, x, hn, h1, h2 => by
    simp at h1 h2
    subst h2
    exact absurd (List.mem_of_getElem? h1) (List.nodup_cons.1 hn).1
  | y :: l, i + 1, j + 1, x, hn, h1, h2 => by
    simp at h1 h2
    rw [nodup_at (List.nodup_cons.1 hn).2 h1 h2]

/-- the entry's element is another one -/
theorem rep_set {L : List (α × β)} {bs : List Nat} {clk : Nat} {ents : List MapEntry} (hr : MapRep w m I (em ek eb L) bs clk ents) {j : Nat} {a : α} {b b' : β} {e : MapEntry} {v : Value} (hj : L[j]? = some (a, b)) (he : ents[j]? = some e) (hv : Rep w m I (eb b') v) :
    MapRep w m I (em ek eb (L.set j (a, b'))) bs clk (ents.set j { e with val := v }) := by
  obtain ⟨r1, r2, r3, r4, r5⟩ := hr
  have k1 : (em ek eb (L.set j (a, b'))).map (·.1) = (em ek eb L).map (·.1) := by
    apply List.ext_getElem?
    intro i
    simp only [em, List.getElem?_map, List.getElem?_set]
    by_cases h : j = i
    · subst h
      obtain ⟨h1, h2⟩ := List.getElem?_eq_some_iff.1 hj
      simp [h1, h2]
    · simp [h]
  have k2 : (em ek eb (L.set j (a, b'))).map (·.2) = ((em ek eb L).map (·.2)).set j (eb b') := by
    simp only [em, List.map_set]
  have k3 : (ents.set j { e with val := v }).map (·.key) = ents.map (·.key) := by
    rw [List.map_set]
    apply set_same
    rw [List.getElem?_map, he]; rfl
  have k4 : (ents.set j { e with val := v }).map (·.val) = (ents.map (·.val)).set j v := List.map_set
  have k5 : (ents.set j { e with val := v }).map (·.born) = bs := by
    rw [List.map_set, r3]
    apply set_same
    rw [← r3, List.getElem?_map, he]; rfl
  refine ⟨by rw [k1, k3]; exact r1, by rw [k2, k4]; exact r2.set j hv, k5, r4, r5⟩

/-- one entry more -/
theorem rep_push {L : List (α × β)} {bs : List Nat} {clk : Nat} {ents : List MapEntry} (hr : MapRep w m I (em ek eb L) bs clk ents) {a : α} {b : β} {k v : Value} (hk : Rep w m I (ek a) k) (hv : Rep w m I (eb b) v) :
    MapRep w m I (em ek eb (L ++ [(a, b)])) (bs ++ [clk]) (clk + 1) (ents ++ [{ key := k, val := v, born := clk }]) := by
  obtain ⟨r1, r2, r3, r4, r5⟩ := hr
  refine ⟨?_, ?_, by simp [r3], ?_, ?_⟩
  · simp only [em, List.map_append, List.map_cons, List.map_nil] at r1 ⊢
    exact RepL.append r1 (by simp only [RepL]; exact ⟨_, _, rfl, hk, rfl⟩)
  · simp only [em, List.map_append, List.map_cons, List.map_nil] at r2 ⊢
    exact RepL.append r2 (by simp only [RepL]; exact ⟨_, _, rfl, hv, rfl⟩)
  · rw [List.nodup_append]
    refine ⟨r4, by simp, fun x hx y hy => ?_⟩
    simp at hy
    have := r5 x hx
    omega
  · intro s hs
    rcases List.mem_append.1 hs with h | h
    · have := r5 s h; omega
    · simp at h; omega

theorem mod_list {ents : List MapEntry} {j : Nat} {e : MapEntry} (f : MapEntry → MapEntry) (he : ents[j]? = some e) : ents.modify j f = ents.set j (f e) := by
  apply List.ext_getElem?
  intro i
  simp only [List.getElem?_modify, List.getElem?_set]
  by_cases h : j = i
  · subst h
    obtain ⟨h1, h2⟩ := List.getElem?_eq_some_iff.1 he
    simp [h1, h2]
  · simp [h]

theorem mod_toArray {ents : List MapEntry} {j : Nat} {e : MapEntry} (f : MapEntry → MapEntry) (he : ents[j]? = some e) : (Array.modify ⟨ents⟩ j f) = ⟨ents.set j (f e)⟩ := by
  apply Array.ext'
  simp only [Array.toList_modify]
  exact mod_list f he

theorem AOp.mapUpdate {E : List AV} {K : AV → List ABlk → Prop} {mo ko xo : Operand} {l : Nat} {bs : List Nat} {clk : Nat} {a : α} {b' : β}
    (hK : KEnc P kt kv ek ok) (ht : P.underlying t = some (.map kt et)) (hm : ev E mo = .mp l) (hk : ev E ko = ek a) (hx : ev E xo = eb b') (hH : H[l]? = some (.map (em ek eb L) bs clk)) (hL : ∀ p ∈ L, ok p.1) (ha : ok a)
    (h0 : (∀ p ∈ L, p.1 ≠ a) → K .any (H.set l (.map (em ek eb (L ++ [(a, b')])) (bs ++ [clk]) (clk + 1)))) (h1 : ∀ (j : Nat) b, L[j]? = some (a, b) → K .any (H.set l (.map (em ek eb (L.set j (a, b'))) bs clk))) : AOp P (.mapUpdate t mo ko xo) E H K := by
  rw [AOp.iff]
  intro C m I w a' dst type pos after guard Q hs hE
  obtain ⟨b, ents, hb, hnI, hw, hr⟩ := hs.map_at hH
  have em1 := ev_rep (o := mo) hE
  have ek1 := ev_rep (o := ko) hE
  have ex1 := ev_rep (o := xo) hE
  rw [hm] at em1; rw [hk] at ek1; rw [hx] at ex1
  have e1 := hs.mp_val hb em1
  have e2 := hK.rep _ _ _ _ _ ek1
  obtain ⟨lx, hlx⟩ := hK.lit a ha
  have hchk := fun em => hK.keyed.check w em hlx
  rcases find_em hK hr hL ha w with ⟨f1, f2⟩ | ⟨j, bv, e, f1, f2, f3, f4, f5⟩
  · obtain ⟨hs', he⟩ := hs.putMap hH hb hw (rep_push hr ek1 ex1)
    refine wp_unit_of (s := Instr.mapUpdate t (a'.eval mo) (a'.eval ko) (a'.eval xo)) (h0 f2) hs' he ?_ rfl
    rw [e1, e2]
    simp [Instr.mapUpdate, run_underlying ht, MapKept.run_getObj_map hw, hchk, f1, MapKept.run_setObj_map _ hw]
  · obtain ⟨hs', he⟩ := hs.putMap hH hb hw (rep_set hr f2 f3 ex1)
    refine wp_unit_of (s := Instr.mapUpdate t (a'.eval mo) (a'.eval ko) (a'.eval xo)) (h1 j bv f2) hs' he ?_ rfl
    have hst := hK.keyed.stays w hlx
    rw [e1, e2]
    simp [Instr.mapUpdate, run_underlying ht, MapKept.run_getObj_map hw, hchk, f1, f3, f4, hst, MapKept.run_setObj_map _ hw]
    rw [mod_list _ f3]

theorem AOp.mapEntry {E : List AV} {K : AV → List ABlk → Prop} {mo ko : Operand} {l : Nat} {bs : List Nat} {clk : Nat} {a : α} {z : β}
    (hT : TOk P T) (hK : KEnc P kt kv ek ok) (ht : P.underlying t = some (.map kt et)) (hne : (T et).u ≠ .other) (hz : (T et).zero = eb z) (hm : ev E mo = .mp l) (hk : ev E ko = ek a) (hH : H[l]? = some (.map (em ek eb L) bs clk)) (hL : ∀ p ∈ L, ok p.1) (ha : ok a)
    (h0 : (∀ p ∈ L, p.1 ≠ a) → bs.length = L.length → K (.tup [eb z, .v (.int .i64 clk)]) (H.set l (.map (em ek eb (L ++ [(a, z)])) (bs ++ [clk]) (clk + 1))))
    (h1 : ∀ (j : Nat) b s, L[j]? = some (a, b) → bs[j]? = some s → K (.tup [eb b, .v (.int .i64 s)]) H) : AOp P (.mapEntry t mo ko) E H K := by
  rw [AOp.iff]
  intro C m I w a' dst type pos after guard Q hs hE
  obtain ⟨b, ents, hb, hnI, hw, hr⟩ := hs.map_at hH
  have em1 := ev_rep (o := mo) hE
  have ek1 := ev_rep (o := ko) hE
  rw [hm] at em1; rw [hk] at ek1
  have e1 := hs.mp_val hb em1
  have e2 := hK.rep _ _ _ _ _ ek1
  obtain ⟨lx, hlx⟩ := hK.lit a ha
  have hchk := fun em => hK.keyed.check w em hlx
  rcases find_em hK hr hL ha w with ⟨f1, f2⟩ | ⟨j, bv, e, f1, f2, f3, f4, f5⟩
  · obtain ⟨d, i, zv, g1, g2, g3, g4, g5, g6, g7, g8⟩ := hT.info (t := et) rfl hne
    have hzr : Rep w m I (eb z) zv := by rw [← hz]; exact zok_rep w m I _ _ g7
    obtain ⟨hs', he⟩ := hs.putMap hH hb hw (rep_push hr ek1 hzr)
    refine wp_val_of (s := Instr.mapEntry t (a'.eval mo) (a'.eval ko)) (v := .tuple #[zv, .int .i64 clk]) (h0 f2 (by have h1 := congrArg List.length (em_keys hK hr.1); have h2 := congrArg List.length hr.2.2.1; simp at h1 h2; omega)) ?_ hs' he ?_ rfl
    · simp only [Rep, RepL]; exact ⟨_, rfl, _, _, rfl, hzr.ext he, _, _, rfl, rfl, rfl⟩
    rw [e1, e2]
    simp [Instr.mapEntry, run_underlying ht, MapKept.run_getObj_map hw, hchk, f1, MapKept.run_setObj_map _ hw, zeroValue, run_typeInfo_of g2, g6, goInt]
  · have hst := hK.keyed.stays w hlx
    have hsame : ents.set j { e with key := kv a } = ents := by
      apply set_same
      rw [f3, ← f4]
    have hid : ({ w with heap := w.heap.setIfInBounds b (.map ⟨ents⟩ clk) } : World) = w := by
      have : w.heap.setIfInBounds b (.map ⟨ents⟩ clk) = w.heap := by
        apply Array.ext_getElem?
        intro i
        rw [Array.getElem?_setIfInBounds]
        split
        · rename_i hi; subst hi; split
          · exact hw.symm
          · rename_i hlt; rw [Array.getElem?_eq_none (by omega)]
        · rfl
      rw [this]
    have hbj : bs[j]? = some e.born := by rw [← hr.2.2.1, List.getElem?_map, f3]; rfl
    refine wp_val_of (s := Instr.mapEntry t (a'.eval mo) (a'.eval ko)) (v := .tuple #[e.val, .int .i64 e.born]) (h1 j bv e.born f2 hbj) ?_ hs (.refl _ _ _) ?_ rfl
    · simp only [Rep, RepL]; exact ⟨_, rfl, _, _, rfl, f5, _, _, rfl, rfl, rfl⟩
    rw [e1, e2]
    simp only [Instr.mapEntry, Sem.run_bind, run_underlying ht, MapKept.run_getObj_map hw, hchk, f1, Result.andThen_ok]
    simp [f3, f4, hst, MapKept.run_setObj_map _ hw, goInt]
    rw [mod_list _ f3, hsame, hid]

theorem AOp.entryStore {E : List AV} {K : AV → List ABlk → Prop} {mo so xo : Operand} {l : Nat} {bs : List Nat} {clk : Nat} {a : α} {b b' : β} {j s : Nat}
    (hK : KEnc P kt kv ek ok) (hm : ev E mo = .mp l) (hso : ev E so = .v (.int .i64 s)) (hx : ev E xo = eb b') (hH : H[l]? = some (.map (em ek eb L) bs clk)) (hj : L[j]? = some (a, b)) (hs' : bs[j]? = some s)
    (k : K .any (H.set l (.map (em ek eb (L.set j (a, b'))) bs clk))) : AOp P (.entryStore t mo so xo) E H K := by
  rw [AOp.iff]
  intro C m I w a' dst type pos after guard Q hs hE
  obtain ⟨bl, ents, hb, hnI, hw, hr⟩ := hs.map_at hH
  have em1 := ev_rep (o := mo) hE
  have es1 := ev_rep (o := so) hE
  have ex1 := ev_rep (o := xo) hE
  rw [hm] at em1; rw [hso] at es1; rw [hx] at ex1
  have e1 := hs.mp_val hb em1
  have e2 := es1.v_eq
  have hlen : ents.length = L.length := by
    have := congrArg List.length (em_keys hK hr.1); simpa using this
  have hjl : j < ents.length := by rw [hlen]; exact (List.getElem?_eq_some_iff.1 hj).1
  have hej : ents[j]? = some ents[j] := List.getElem?_eq_getElem hjl
  obtain ⟨hs1, he⟩ := hs.putMap hH hb hw (rep_set hr hj hej ex1)
  have hborn : ents[j].born = s := by
    have := hs'
    rw [← hr.2.2.1, List.getElem?_map, hej] at this
    simpa using this
  have hfind : Array.findIdx? (fun e : MapEntry => (e.born : Int) == (s : Int)) ⟨ents⟩ = some j := by
    rw [Array.findIdx?_eq_some_iff_getElem]
    refine ⟨hjl, by simp [hborn], fun i hi => ?_⟩
    have hil : i < ents.length := by omega
    intro hc
    have h1 : ents[i].born = s := by
      have := eq_of_beq hc
      exact_mod_cast this
    have hn := hr.2.2.2.1
    rw [← hr.2.2.1] at hn
    have := nodup_at hn (i := i) (j := j) (x := s) (by rw [List.getElem?_map, List.getElem?_eq_getElem hil]; simp [h1]) (by rw [List.getElem?_map, hej]; simp [hborn])
    omega
  refine wp_unit_of (s := Instr.entryStore t (a'.eval mo) (a'.eval so) (a'.eval xo)) k hs1 he ?_ rfl
  rw [e1, e2]
  have hint : ∀ w', (asInt (.int .i64 (s : Int))).run P w' = .ok (s : Int) w' := fun _ => rfl
  simp only [Instr.entryStore, Sem.run_bind, MapKept.run_getObj_map hw, Result.andThen_ok, hint, hfind]
  rw [mod_toArray _ hej, MapKept.run_setObj_map _ hw]
end
end Go.Aw

/-
  Aw, part 23: a range over a map; delete, clear.
-/
set_option linter.unusedSimpArgs false
set_option linter.unusedVariables false
namespace Go.Aw
open Go Go.Maps

section
variable {P : Program} {T : Nat → TI} {C : Ctx} {m : Mu} {I : Nat → Prop} {H : List ABlk} {w : World}
variable {kt et t : Nat}

theorem AOp.range {E : List AV} {K : AV → List ABlk → Prop} {mo : Operand} {l : Nat} {es : List (AV × AV)} {bs : List Nat} {clk : Nat}
    (ht : P.underlying t = some (.map kt et)) (hm : ev E mo = .mp l) (hH : H[l]? = some (.map es bs clk)) (k : K (.ptr H.length 0) (H ++ [.iter l clk []])) : AOp P (.range t mo) E H K := by
  rw [AOp.iff]
  intro C m I w a dst type pos after guard Q hs hE
  obtain ⟨b, ents, hb, hnI, hw, hr⟩ := hs.map_at hH
  have em1 := ev_rep (o := mo) hE
  rw [hm] at em1
  have e1 := hs.mp_val hb em1
  have hl : l < m.n := by rw [hs.n]; exact (List.getElem?_eq_some_iff.1 hH).1
  obtain ⟨hs', he⟩ := hs.push (w' := w.alloc (.mapIter (some b) clk #[] clk)) (bo := some w.heap.size) (s := 0) (B := .iter l clk []) (by simp) ⟨rfl, rfl⟩ (fun b hb => by show (w.heap.push _)[b]? = _; rw [Array.getElem?_push, if_neg (Nat.ne_of_lt hb)]) (fun b hb => by cases hb; exact Nat.le_refl _) (fun he => by
    simp only [BlkRep, Mu.push_new.1]
    rw [(Mu.push_old hl).1, hb]
    exact ⟨by simp [Mu.push]; omega, w.heap.size, rfl, fun hi => by have := hs.immlt _ hi; omega, (by show (w.heap.push _)[w.heap.size]? = _; rw [Array.getElem?_push, if_pos rfl])⟩)
  refine wp_val_of (s := Instr.range t (a.eval mo)) (v := .pointer (some ⟨w.heap.size, 0, none⟩)) k ?_ hs' he ?_ rfl
  · simp only [Rep]
    rw [← hs.n, Mu.push_new.1]
    exact ⟨by simp [Mu.push], _, rfl, rfl⟩
  rw [e1, Go.run_range_map w t kt et b ⟨ents⟩ clk ht hw]

theorem AOp.next {E : List AV} {K : AV → List ABlk → Prop} {io : Operand} {l li : Nat} {es : List (AV × AV)} {bs seen : List Nat} {clk : Nat}
    (hi : ev E io = .ptr li 0) (hI : H[li]? = some (.iter l clk seen)) (hH : H[l]? = some (.map es bs clk))
    (h0 : (∀ s ∈ bs, s ∈ seen) → K (.tup [.v (.bool false)]) H)
    (h1 : ∀ (i s : Nat) (k v : AV), es[i]? = some (k, v) → bs[i]? = some s → s ∉ seen → K (.tup [.v (.bool true), k, v]) (H.set li (.iter l clk (seen ++ [s])))) : AOp P (.next io false) E H K := by
  rw [AOp.iff]
  intro C m I w a dst type pos after guard Q hs hE
  obtain ⟨b, ents, hb, hnI, hw, hr⟩ := hs.map_at hH
  have ei1 := ev_rep (o := io) hE
  rw [hi] at ei1
  simp only [Rep] at ei1
  obtain ⟨_, bi, hbi, e1⟩ := ei1
  have hBi := hs.blks li _ hI
  simp only [BlkRep] at hBi
  obtain ⟨hl, bi', hbi', hnI', hwi⟩ := hBi
  rw [hbi] at hbi'; cases hbi'
  rw [hb] at hwi
  obtain ⟨r1, r2, r3, r4, r5⟩ := hr
  have hold : ∀ x ∈ (⟨ents⟩ : Array MapEntry).toList, x.born < clk := fun x hx => r5 _ (by rw [← r3]; exact List.mem_map.2 ⟨x, hx, rfl⟩)
  have hget : (getObj bi).run P w = .ok (.mapIter (some b) clk ⟨seen⟩ clk) w := by simp [getObj, Sem.run, hwi]
  have hset : ∀ (w1 : World) o, w1.heap = w.heap → (setObj bi o).run P w1 = .ok () { w1 with heap := w1.heap.setIfInBounds bi o } := by
    intro w1 o h1
    simp [setObj, Sem.run, h1, hwi]
  have hmem : ∀ x ∈ (leftOf ⟨ents⟩ ⟨seen⟩).toList, x ∈ ents ∧ x.born ∉ seen := fun x hx => by
    simp [leftOf] at hx
    exact hx
  have hlt : ∀ x ∈ (leftOf ⟨ents⟩ ⟨seen⟩), x.born < clk := fun x hx => hold x (hmem x (by simpa using hx)).1
  have hleft : ∀ x ∈ ents, x.born ∉ seen → x ∈ leftOf ⟨ents⟩ ⟨seen⟩ := fun x hx h => by simp [leftOf]; exact ⟨hx, h⟩
  generalize hLd : leftOf ⟨ents⟩ ⟨seen⟩ = L at hmem hlt hleft
  have e2 : L.filter (fun x => decide (x.born < clk)) = L := Array.filter_eq_self.2 (fun x hx => by simpa using hlt x hx)
  have e3 : L.filter (fun x => decide (x.born ≥ clk)) = #[] := by
    rw [Array.filter_eq_empty_iff]
    intro x hx
    have := hlt x hx
    simp; omega
  have hrun : (Instr.next (a.eval io) false type).run P w = ((choose (.mapNext ((if L.isEmpty then #[none] else #[]) ++ L.map some).size) : Sem Nat) >>= fun j => (match ((if L.isEmpty then #[none] else #[]) ++ L.map some)[j]? with
      | some (some e) => do setObj bi (.mapIter (some b) clk ((⟨seen⟩ : Array Nat).push e.born) clk); pure (.tuple #[.bool true, e.key, e.val])
      | some none => pure (.tuple #[.bool false])
      | none => stuck "Next: no such candidate" : Sem Value)).run P w := by
    rw [e1]
    simp only [Instr.next, Sem.run_bind, hget, MapKept.run_getObj_map hw, Result.andThen_ok, next_test_false ⟨seen⟩ ⟨ents⟩ clk clk hold (Nat.le_refl _), Bool.false_eq_true, if_false]
    have hLd' : Array.filter (fun e => !Array.contains (⟨seen⟩ : Array Nat) e.born) ⟨ents⟩ = L := hLd
    rw [hLd', e2, e3, Array.append_empty]
    rfl
  by_cases hz : L.size = 0
  · have hLe : L = #[] := Array.eq_empty_of_size_eq_zero hz
    subst hLe
    refine wp_val_of (s := Instr.next (a.eval io) false type) (v := .tuple #[.bool false]) (h0 fun s hsb => ?_) ?_ hs (.refl _ _ _) ?_ rfl
    · rw [← r3] at hsb
      obtain ⟨x, hx, rfl⟩ := List.mem_map.1 hsb
      by_cases hc : x.born ∈ seen
      · exact hc
      · exact absurd (hleft x hx hc) (by simp)
    · simp only [Rep, RepL]; exact ⟨_, rfl, _, _, rfl, rfl, rfl⟩
    · rw [hrun]
      simp [choose, Sem.run, Question.forced]
  · have hne : L.isEmpty = false := by simp [Array.isEmpty, hz]
    have hch : ∃ (j : Nat) (w1 : World), j < L.size ∧ w1.heap = w.heap ∧ (w1.os = w.os ∧ w1.output = w.output) ∧ (choose (Question.mapNext L.size)).run P w = .ok j w1 := by
      by_cases hf : L.size ≤ 1
      · exact ⟨0, w, by omega, rfl, ⟨rfl, rfl⟩, by simp [choose, Sem.run, Question.forced, hf]⟩
      · exact ⟨w.tape w.drawn (Question.mapNext L.size) % L.size, { w with drawn := w.drawn + 1 }, Nat.mod_lt _ (by omega), rfl, ⟨rfl, rfl⟩, by
          simp only [choose, Sem.run, Question.forced, decide_eq_true_eq, hf, if_false, Question.cut]⟩
    obtain ⟨j, w1, hj, hw1, ho1, hch⟩ := hch
    obtain ⟨hxm, hxs⟩ := hmem L[j] (by simp)
    obtain ⟨i, hi'⟩ := List.getElem?_of_mem hxm
    have hbs : bs[i]? = some L[j].born := by rw [← r3, List.getElem?_map, hi']; rfl
    obtain ⟨hs1, he1⟩ := hs.world (w' := w1) hw1 ho1
    have hBl : H[li]? = some (.iter l clk seen) := hI
    have hltb : bi < w.heap.size := (Array.getElem?_eq_some_iff.1 hwi).1
    obtain ⟨hs2, he2⟩ := hs1.put (w' := { w1 with heap := w1.heap.setIfInBounds bi (.mapIter (some b) clk ((⟨seen⟩ : Array Nat).push L[j].born) clk) }) (l := li) (B := .iter l clk seen) (B' := .iter l clk (seen ++ [L[j].born])) hI trivial (by simp) ⟨rfl, rfl⟩ (fun b' hb' => by
      show (w1.heap.setIfInBounds bi _)[b']? = _
      rw [Array.getElem?_setIfInBounds_ne (fun e => hb' (by rw [← e]; exact hbi))]) (fun he => by
      simp only [BlkRep]
      rw [hb]
      refine ⟨hl, bi, hbi, hnI', ?_⟩
      simp [hw1, hltb])
    have hlenk : ents.length = es.length := by have := r1.length; simpa using this
    have hie : i < es.length := by rw [← hlenk]; exact (List.getElem?_eq_some_iff.1 hi').1
    have hei : es[i]? = some (es[i].1, es[i].2) := List.getElem?_eq_getElem hie
    obtain ⟨y1, hy1, hk1⟩ := r1.get (i := i) (x := es[i].1) (by rw [List.getElem?_map, hei]; rfl)
    obtain ⟨y2, hy2, hk2⟩ := r2.get (i := i) (x := es[i].2) (by rw [List.getElem?_map, hei]; rfl)
    rw [List.getElem?_map, hi'] at hy1 hy2
    cases hy1; cases hy2
    refine wp_val_of (s := Instr.next (a.eval io) false type) (v := .tuple #[.bool true, L[j].key, L[j].val]) (h1 i L[j].born _ _ hei hbs hxs) ?_ hs2 (he1.trans he2) ?_ rfl
    · simp only [Rep, RepL]; exact ⟨_, rfl, _, _, rfl, rfl, _, _, rfl, (hk1.ext he1).ext he2, _, _, rfl, (hk2.ext he1).ext he2, rfl⟩
    · rw [hrun]
      simp only [hne, Bool.false_eq_true, if_false, Array.empty_append, Array.size_map, Sem.run_bind, hch, Result.andThen_ok, Array.getElem?_map, Array.getElem?_eq_getElem hj, Option.map_some, hset w1 _ hw1]
      rfl

theorem AOp.entry {E : List AV} {K : AV → List ABlk → Prop} {io : Operand} {l li i s : Nat} {es : List (AV × AV)} {bs seen : List Nat} {clk : Nat} {k v : AV}
    (hi : ev E io = .ptr li 0) (hI : H[li]? = some (.iter l clk (seen ++ [s]))) (hH : H[l]? = some (.map es bs clk)) (he : es[i]? = some (k, v)) (hb : bs[i]? = some s) (hk : K (.tup [k, v]) H) : AOp P (.entry io) E H K := by
  rw [AOp.iff]
  intro C m I w a dst type pos after guard Q hs hE
  obtain ⟨b, ents, hbl, hnI, hw, hr⟩ := hs.map_at hH
  have ei1 := ev_rep (o := io) hE
  rw [hi] at ei1
  simp only [Rep] at ei1
  obtain ⟨_, bi, hbi, e1⟩ := ei1
  have hBi := hs.blks li _ hI
  simp only [BlkRep] at hBi
  obtain ⟨hl, bi', hbi', hnI', hwi⟩ := hBi
  rw [hbi] at hbi'; cases hbi'
  rw [hbl] at hwi
  obtain ⟨r1, r2, r3, r4, r5⟩ := hr
  have hlenk : ents.length = es.length := by have := r1.length; simpa using this
  have hie : i < ents.length := by rw [hlenk]; exact (List.getElem?_eq_some_iff.1 he).1
  have hei : ents[i]? = some ents[i] := List.getElem?_eq_getElem hie
  obtain ⟨y1, hy1, hk1⟩ := r1.get (i := i) (x := k) (by rw [List.getElem?_map, he]; rfl)
  obtain ⟨y2, hy2, hk2⟩ := r2.get (i := i) (x := v) (by rw [List.getElem?_map, he]; rfl)
  rw [List.getElem?_map, hei] at hy1 hy2
  cases hy1; cases hy2
  have hborn : ents[i].born = s := by
    have := hb
    rw [← r3, List.getElem?_map, hei] at this
    simpa using this
  have hfind : Array.find? (fun e : MapEntry => e.born == s) ⟨ents⟩ = some ents[i] := by
    rw [← Array.find?_toList, ← hborn]
    exact find_born _ _ (by rw [r3]; exact r4) (List.getElem_mem hie)
  have hget : (getObj bi).run P w = .ok (.mapIter (some b) clk ⟨seen ++ [s]⟩ clk) w := by simp [getObj, Sem.run, hwi]
  refine wp_val_of (s := Instr.entry (a.eval io)) (v := .tuple #[ents[i].key, ents[i].val]) hk ?_ hs (.refl _ _ _) ?_ rfl
  · simp only [Rep, RepL]; exact ⟨_, rfl, _, _, rfl, hk1, _, _, rfl, hk2, rfl⟩
  · rw [e1]
    have hback : (⟨seen ++ [s]⟩ : Array Nat).back? = some s := by simp [Array.back?]
    simp only [Instr.entry, Sem.run_bind, hget, MapKept.run_getObj_map hw, Result.andThen_ok, hback, bne_self_eq_false, Bool.false_eq_true, if_false, hfind]
    rfl
end
end Go.Aw

/-
  Aw, part 24: worlds that grow; the library's sort by its contract.
-/
set_option linter.unusedSimpArgs false
set_option linter.unusedVariables false
namespace Go.Aw
open Go

section
variable {P : Program} {T : Nat → TI} {C : Ctx} {m : Mu} {I : Nat → Prop} {H : List ABlk} {w : World}

theorem St.grown (h : St C m I H w) {w' : World} (hg : Grown w w') (ho : w'.os = w.os ∧ w'.output = w.output) : St C m I H w' ∧ Ext w m I w' m I := by
  have he : Ext w m I w' m I := ⟨Nat.le_refl _, fun _ _ => rfl, fun _ _ => rfl, fun _ h => h, fun b hb => hg.2 b (h.immlt b hb)⟩
  refine ⟨⟨h.n, fun l b hb => (h.blks l b hb).ext he (by rw [h.n]; exact (List.getElem?_eq_some_iff.1 hb).1) (fun x hx hv => ⟨hg.2 x ((h.blks l b hb).lt hv hx).1, ((h.blks l b hb).lt hv hx).2⟩), h.dist, ?_, Nat.le_trans h.size hg.1, h.own, h.imm0, h.imm, ?_, h.m0n, h.m0b, h.m0s, ho.1.trans h.side.1, ho.2.trans h.side.2⟩, he⟩
  · intro b h1 h2
    rw [hg.2 b (Nat.lt_of_lt_of_le h1 h.size)]; exact h.old b h1 h2
  · intro b hb; exact Nat.lt_of_lt_of_le (h.immlt b hb) hg.1

/-- The same of a function without an answer. -/
theorem Fun.tupBelow {f : Nat} {args : List AV} {vs : List Value} (hv : ∀ (w : World) (m : Mu) (I : Nat → Prop) ys, RepL w m I args ys → ys = vs)
    (hc : ∀ w, Calls P f ⟨vs⟩ w fun e w' => e = .returned (.tuple #[]) ∧ Grown w w' ∧ (w'.os = w.os ∧ w'.output = w.output)) : Fun P f args (.tup []) := by
  intro C m I w ys hs hr
  rw [hv w m I ys hr]
  refine (hc w).mono fun e w' ⟨he, hg, ho⟩ => ?_
  obtain ⟨hs', hx⟩ := hs.grown hg ho
  exact ⟨_, .tuple #[], _, m, I, he, ⟨rfl, rfl⟩, by simp only [Rep, RepL]; exact ⟨[], rfl, rfl⟩, hs', hx⟩

open Go.Proofs Go.Sort Go.Lib

theorem flatK_list {α : Type} [Inhabited α] (enc : α → List Value) (k : Nat) (hk : ∀ x, (enc x).length = k) : ∀ (l : List α), (flatK enc k l.toArray).toList = l.flatMap enc := by
  intro l
  apply List.ext_getElem?
  intro t
  have hlen : (l.flatMap enc).length = l.length * k := by
    induction l with
    | nil => simp
    | cons x l ih => rw [List.flatMap_cons, List.length_append, hk, ih, List.length_cons, Nat.add_mul, Nat.one_mul, Nat.add_comm]
  by_cases ht : t < l.length * k
  · have hk0 : 0 < k := by
      rcases Nat.eq_zero_or_pos k with h | h
      · subst h; simp at ht
      · exact h
    have hd : t / k < l.length := Nat.div_lt_of_lt_mul (by rw [Nat.mul_comm]; exact ht)
    have h1 : (flatK enc k l.toArray).toList[t]? = some ((enc l[t / k])[t % k]'(by rw [hk]; exact Nat.mod_lt _ hk0)) := by
      have := get_flatK enc k l.toArray t (by simpa using ht)
      have hsz : t < (flatK enc k l.toArray).size := by rw [size_flatK]; simpa using ht
      rw [getElem!_pos _ t hsz] at this
      rw [Array.getElem?_toList, Array.getElem?_eq_getElem hsz, this]
      congr 1
      have e1 : (l.toArray)[t / k]! = l[t / k] := by rw [getElem!_pos _ _ (by simpa using hd)]; simp
      rw [e1, getElem!_pos _ _ (by rw [hk]; exact Nat.mod_lt _ hk0)]
    rw [h1]
    clear h1
    have key : ∀ (l : List α) (q r : Nat) (hq : q < l.length) (hr : r < k), (l.flatMap enc)[q * k + r]? = some ((enc l[q])[r]'(by rw [hk]; exact hr)) := by
      intro l
      induction l with
      | nil => intro q r hq; simp at hq
      | cons x l ih =>
        intro q r hq hr
        rw [List.flatMap_cons]
        cases q with
        | zero => rw [Nat.zero_mul, Nat.zero_add, List.getElem?_append_left (by rw [hk]; exact hr), List.getElem?_eq_getElem (by rw [hk]; exact hr)]; rfl
        | succ q =>
          rw [List.getElem?_append_right (by rw [hk, Nat.add_mul]; omega), hk, show (q + 1) * k + r - k = q * k + r by rw [Nat.add_mul]; omega, ih q r (by simpa using hq) hr]
          rfl
    have := key l (t / k) (t % k) hd (Nat.mod_lt _ hk0)
    rw [Nat.div_add_mod'] at this
    exact this.symm
  · rw [List.getElem?_eq_none (by simp; omega), List.getElem?_eq_none (by omega)]

/-- The library's sort of an own row. -/
theorem Spec.sort {α : Type} [Inhabited α] {f g e k : Nat} {encV : α → List Value} {encA : α → List AV} (hk : ∀ x, (encV x).length = k) (hpos : 0 < k) (h1 : ∀ x, ∀ v ∈ encV x, v.oneCell' = true)
    (hrep : ∀ (w : World) (m : Mu) (I : Nat → Prop) x, RepL w m I (encA x) (encV x)) (hinv : ∀ (w : World) (m : Mu) (I : Nat → Prop) x ys, RepL w m I (encA x) ys → ys = encV x) (lt : α → α → Bool)
    (hc : ∀ (blk cap : Nat) (d : Array α) (w : World), HoldsK encV k w blk 0 d → blk < w.heap.size → d.size < 4611686018427387904 → Calls P f #[.slice (some ⟨blk, 0, none⟩) d.size cap, .func (.func g) #[] #[]] w fun e w' => e = .returned (.tuple #[]) ∧ ∃ d' n os, PermIn 0 d.size d d' ∧ SortedIn lt 0 d.size d' ∧ w' = sortWorldK encV k w blk 0 n d' os)
    (l : List α) (hl : l ≠ []) (hsz : l.length < 4611686018427387904) : Spec P f [.ms k 0 0 l.length, .fn g [] []] [.cells e (l.flatMap encA)] (fun r H => r = .tup [] ∧ ∃ l' : List α, l'.Perm l ∧ l'.Pairwise (fun x y => lt y x = false) ∧ H = [.cells e (l'.flatMap encA)]) := by
  intro C m I w vs hs hr
  have hlpos : 0 < l.length := List.length_pos_iff.2 hl
  simp only [RepL, Rep] at hr
  obtain ⟨y, zs, rfl, ⟨hlt, hy⟩, y2, z2, rfl, ⟨us, ys2, rfl, rfl, rfl⟩, rfl⟩ := hr
  rcases hy with ⟨_, h0, _⟩ | ⟨b, cap, o, hb, rfl, hcap, hfit, ho⟩
  · omega
  obtain rfl : o = 0 := ho (by omega)
  have hB := hs.blks 0 _ rfl
  simp only [BlkRep] at hB
  rcases hB with ⟨h2, _⟩ | ⟨b', ys, fr, h2, h3, h4, h5, h6, h7, yy1, yy2, rfl, h8⟩
  · rw [h2] at hb; cases hb
  rw [hb] at h2; cases h2
  have hflat : ∀ {w : World} {m : Mu} {I : Nat → Prop} (l : List α) (ys : List Value), RepL w m I (l.flatMap encA) ys → ys = l.flatMap encV := by
    intro w m I l
    induction l with
    | nil => intro ys h; simpa [RepL] using h
    | cons x l ih =>
      intro ys h
      rw [List.flatMap_cons] at h
      obtain ⟨a, c, rfl, ha, hcc⟩ := h.split
      rw [hinv _ _ _ _ _ ha, ih _ hcc, List.flatMap_cons]
  have hflat' : ∀ {w : World} {m : Mu} {I : Nat → Prop} (l : List α), RepL w m I (l.flatMap encA) (l.flatMap encV) := by
    intro w m I l
    induction l with
    | nil => simp [RepL]
    | cons x l ih => rw [List.flatMap_cons, List.flatMap_cons]; exact RepL.append (hrep _ _ _ x) ih
  have hy1 := hflat l yy1 h8
  subst hy1
  have hlen : ∀ l : List α, (l.flatMap encV).length = l.length * k := by
    intro l
    induction l with
    | nil => simp
    | cons x l ih => rw [List.flatMap_cons, List.length_append, hk, ih, List.length_cons, Nat.add_mul, Nat.one_mul, Nat.add_comm]
  have hblk : b < w.heap.size := (Array.getElem?_eq_some_iff.1 h4).1
  have hH : HoldsK encV k w b 0 l.toArray := by
    intro j hj
    have hj' : j < (l.flatMap encV).length := by rw [hlen]; simpa using hj
    have hget : (flatK encV k l.toArray)[j]! = (l.flatMap encV)[j] := by
      rw [getElem!_pos _ j hj]
      have h9 := flatK_list encV k hk l
      have h10 : (flatK encV k l.toArray).toList[j]? = (l.flatMap encV)[j]? := by rw [h9]
      rw [Array.getElem?_toList, Array.getElem?_eq_getElem hj, List.getElem?_eq_getElem hj'] at h10
      exact Option.some.inj h10
    refine ⟨?_, ?_⟩
    · rw [hget]
      unfold World.cell?
      simp only [h4, Nat.zero_add]
      simp [List.getElem?_append_left hj', List.getElem?_eq_getElem hj']
    · unfold World.frozen?
      simp only [h4, Nat.zero_add]
      exact h5 j (by rw [List.length_append]; omega)
  have hcall := hc b cap l.toArray w hH hblk (by simpa using hsz)
  simp only [List.size_toArray] at hcall
  refine hcall.mono fun e' w' ⟨he, d', n, os, hp, hsrt, hw'⟩ => ?_
  have hdsz : d'.size = l.length := by have := hp.1; simpa using this
  have hperm : d'.toList.Perm l := by
    have := hp.2.2
    rw [← hdsz] at this
    have h9 : (List.take l.length d'.toList).Perm l := by simpa [hdsz] using this
    rwa [List.take_of_length_le (by simp [hdsz])] at h9
  have hput : (putRowK encV k (Sort.ahead w n) b 0 d').heap[b]? = some (.cells ⟨d'.toList.flatMap encV ++ yy2⟩ e fr) := by
    have e1 : (flatK encV k d').toList = d'.toList.flatMap encV := by
      have := flatK_list encV k hk d'.toList
      simpa using this
    show (w.heap.modify b _)[b]? = _
    rw [Array.getElem?_modify, if_pos rfl, h4]
    show some (Obj.cells _ e fr) = _
    congr 2
    apply Array.ext'
    unfold putCells
    apply List.ext_getElem?
    intro t
    have hsz2 : (flatK encV k d').size = (l.flatMap encV).length := by rw [size_flatK, hdsz, hlen]
    rw [Array.getElem?_toList, Array.getElem?_mapIdx]
    simp only [Nat.zero_le, true_and, Nat.zero_add, Nat.sub_zero, id]
    by_cases ht : t < (l.flatMap encV).length
    · have h11 : t < (flatK encV k d').size := by omega
      rw [List.getElem?_append_left (by rw [← e1]; simpa using h11), ← e1, Array.getElem?_toList, Array.getElem?_eq_getElem h11]
      rw [Array.getElem?_eq_getElem (by show t < (l.flatMap encV ++ yy2).length; rw [List.length_append]; omega)]
      simp only [Option.map_some, h11, if_true]
      rw [getElem!_pos _ t h11]
    · have h11 : ¬ t < (flatK encV k d').size := by omega
      have h12 : (d'.toList.flatMap encV).length = (l.flatMap encV).length := by rw [← e1]; simpa using hsz2
      rw [List.getElem?_append_right (by omega), h12]
      simp only [h11, if_false]
      rw [List.getElem?_toArray, List.getElem?_append_right (by omega)]
      cases yy2[t - (l.flatMap encV).length]? <;> rfl
  have hsize1 : (putRowK encV k (Sort.ahead w n) b 0 d').heap.size = w.heap.size := by
    show (w.heap.modify b _).size = _
    simp
  obtain ⟨hs1, he1⟩ := hs.put (w' := putRowK encV k (Sort.ahead w n) b 0 d') (l := 0) (B' := .cells e (d'.toList.flatMap encA)) rfl trivial hsize1 ⟨rfl, rfl⟩ (fun b' hb' => by
    show (w.heap.modify b _)[b']? = _
    rw [Array.getElem?_modify, if_neg (fun e => hb' (by rw [← e]; exact hb))]) (fun hx => by
    simp only [BlkRep]
    have h12 : (d'.toList.flatMap encV).length = (l.flatMap encV).length := by rw [hlen, hlen]; simp [hdsz]
    refine .inr ⟨b, _, fr, hb, h3, hput, ?_, ?_, ?_, _, yy2, rfl, hflat' _⟩
    · rw [List.length_append, h12, ← List.length_append]; exact h5
    · rw [List.length_append, h12, ← List.length_append]; exact h6
    · intro u hu
      rcases List.mem_append.1 hu with hu | hu
      · obtain ⟨x, _, hx2⟩ := List.mem_flatMap.1 hu
        exact h1 x u hx2
      · exact h7 u (by simp [hu]))
  have hgrow : Grown (putRowK encV k (Sort.ahead w n) b 0 d') w' := by
    rw [hw']
    unfold sortWorldK grow
    refine ⟨by simp, fun b' hb' => ?_⟩
    show (_ ++ os)[b']? = _
    rw [Array.getElem?_append_left hb']
  obtain ⟨hs2, he2⟩ := hs1.grown hgrow (by rw [hw']; exact ⟨rfl, rfl⟩)
  refine ⟨.tup [], .tuple #[], _, m, I, he, ⟨rfl, d'.toList, hperm, ?_, rfl⟩, ?_, hs2, he1.trans he2⟩
  · rw [List.pairwise_iff_getElem]
    intro i j hi hj hij
    have := hsrt i j (Nat.zero_le _) hij (by simp at hj; omega)
    rw [getElem!_pos _ j (by simpa using hj), getElem!_pos _ i (by simpa using hi)] at this
    simpa using this
  · simp only [Rep, RepL]; exact ⟨[], rfl, rfl⟩
end
end Go.Aw

/-
  Aw, part 25: what is handed back becomes a value: own memory is given up, frozen.
-/
set_option linter.unusedSimpArgs false
set_option linter.unusedVariables false
namespace Go.Aw
open Go

variable {P : Program} {H : List ABlk}

def ABlk.frozen : ABlk → ABlk
  | .cells t cs => .ice t cs
  | b => b

theorem Conv.freezeAll {k : Nat} {xs : List AV} : ∀ (H0 H : List ABlk), Conv k xs (H0 ++ H) xs (H0 ++ H.map ABlk.frozen)
  | H0, [] => Conv.refl _ _ _
  | H0, b :: H => by
    have ih := Conv.freezeAll (k := k) (xs := xs) (H0 ++ [b.frozen]) H
    rw [List.append_assoc, List.append_assoc] at ih
    refine Conv.trans ?_ ih
    cases b with
    | cells t cs =>
      have h := Conv.freeze (k := k) (xs := xs) (H := H0 ++ .cells t cs :: H) H0.length (t := t) (cs := cs) (by simp)
      rw [List.set_append_right _ _ (Nat.le_refl _), Nat.sub_self] at h
      exact h
    | _ => exact Conv.refl _ _ _

theorem LendL.it {H : List ABlk} {B : List Nat} (xs : List AV) : LendL H B id xs xs := by
  have := LendL.same (H := H) (B := B) (ρ := id) xs
  rwa [renL_id] at this
theorem Lend.it {H : List ABlk} {B : List Nat} (x : AV) : Lend H B id x x := .same (ren_id x).symm
theorem Lend.sip {H : List ABlk} {l t : Nat} {cs : List AV} (hl : H[l]? = some (.ice t cs)) : Lend H [] id (.ptr l 0) (.ip cs) :=
  .ptr (t := t) (.inr hl) (by rw [renL_id, List.drop_zero])

theorem Conv.out {r r' : AV} {H : List ABlk} (h : Lend (H.map ABlk.frozen) [] id r r') (hr : ∀ ρ, r'.ren ρ = r') : Conv 0 [r] H [r'] [] :=
  (Conv.freezeAll [] H).trans ((Conv.see (.cons h .nil)).trans (Conv.ren [] [r'] (by simp) List.nodup_nil (by simp only [renL]; rw [hr]; exact Fit.refl _) .nil))

/-- the caller's own blocks ahead stay, those behind are frozen and given up -/
theorem Spec.value {f : Nat} {args : List AV} {K : AV → List ABlk → Prop} {K' : AV → Prop} (h : Spec P f args [] K) (hc : ∀ r H', K r H' → ∃ r', Lend (H'.map ABlk.frozen) [] id r r' ∧ (∀ ρ, r'.ren ρ = r') ∧ K' r') :
    Spec P f args [] fun r H => K' r ∧ H = [] :=
  h.conv fun r H' hk =>
    let ⟨r', h1, h2, h3⟩ := hc r H' hk
    ⟨r', [], Conv.out h1 h2, h3, rfl⟩

theorem Lend.sm {H : List ABlk} {sz l n t : Nat} {cs : List AV} (hl : H[l]? = some (.ice t cs)) (hn : n * sz = cs.length) : Lend H [] id (.ms sz l 0 n) (.vs sz n cs) :=
  .ms (t := t) (.inr hl) (by omega) (by rw [renL_id, List.drop_zero, hn, List.take_length])

theorem Lend.sm' {H : List ABlk} {sz l n n' t : Nat} {cs cs' : List AV} (hl : H[l]? = some (.ice t cs)) (hn : n' * sz = cs'.length) (hc : cs = cs') (hn' : n = n') : Lend H [] id (.ms sz l 0 n) (.vs sz n' cs') := by
  subst hc; subst hn'; exact .sm hl hn

/-- a call of a function that hands values back -/
theorem ACall.out {f : Nat} {args : List AV} {K : AV → List ABlk → Prop} {K0 : AV → Prop} (hc : callOk P f = true) (h : Spec P f args [] fun r H => K0 r ∧ H = []) (ha : renL (nm [] H.length) args = args)
    (k : ∀ r, K0 r → K (r.ren (nm [] H.length)) H) : ACall P f args H K :=
  ACall.spec hc h ha (fun r H' h' => by rw [h'.2]; simpa using k r h'.1)
theorem AIdx.at {α : Type} {enc : α → List AV} {sz : Nat} (hs : ∀ x, (enc x).length = sz) {xs : List α} (i : Nat) {j : Nat} {K : List AV → Prop} (hj : j = i) (h : i < xs.length) (k : K (enc xs[i])) : AIdx (xs.flatMap enc) sz j K := by
  subst hj; exact AIdx.flat hs h k

end Go.Aw

