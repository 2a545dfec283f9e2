/-
  Part of a general proof tool: equality of structs, maps, the sort of the library, no condition.
-/
import Derived.Test.YtllchkemgjmjiaaGreatDoorAwD
import Derived.Laws.StructEq
import Derived.ChangeKeysEq
import Derived.Maps.Keyed
import Derived.DeepKeys4
import Derived.Laws.IdiomRangeMap
import Derived.Shelf.GgSortFunc.InsertionK
import Derived.Sort.Statements
set_option linter.unusedSimpArgs false
set_option linter.unusedVariables false
/-
  Aw, part 21: equality of structs; maps.
-/
set_option linter.unusedSimpArgs false
set_option linter.unusedVariables false
namespace Go.Aw
open Go Go.Maps

section
variable {P : Program} {T : Nat → TI} {C : Ctx} {m : Mu} {I : Nat → Prop} {H : List ABlk} {w : World}

/-! ### equality of structs whose fields are numbers, bools, texts -/
inductive EK where
  | int (k : IntKind)
  | bool
  | str

end
end Go.Aw

/-
  Aw, part 22: maps.
-/
set_option linter.unusedSimpArgs false
set_option linter.unusedVariables false
namespace Go.Aw
open Go Go.Maps

section
variable {P : Program} {T : Nat → TI} {C : Ctx} {m : Mu} {I : Nat → Prop} {H : List ABlk} {w : World}

/-- what an operand stands for -/
def ev (E : List AV) : Operand → AV
  | .tmp t => lk E t
  | .const v => .v v
  | .func f => .fn f [] []
  | .global _ => .any

theorem ev_rep {E : List AV} {a : Act} {o : Operand} (hE : RepL w m I E a.tmps.toList) : Rep w m I (ev E o) (a.eval o) := by
  cases o with
  | global g => simp only [ev, Rep]
  | tmp t =>
    obtain ⟨x, rfl, h⟩ := evK_sound (o := .tmp t) (K := fun x => x = ev E (.tmp t)) hE (by simp only [evK, fv_eq, ev])
    exact h
  | const v =>
    obtain ⟨x, rfl, h⟩ := evK_sound (o := .const v) (K := fun x => x = ev E (.const v)) hE (by simp only [evK, ev])
    exact h
  | func f =>
    obtain ⟨x, rfl, h⟩ := evK_sound (o := .func f) (K := fun x => x = ev E (.func f)) hE (by simp only [evK, ev])
    exact h

/-- A kind of keys, told by data. -/
structure KEnc {α : Type} (P : Program) (kt : Nat) (kv : α → Value) (ek : α → AV) (ok : α → Prop) : Prop where
  keyed : Keyed P kt
  lit : ∀ a, ok a → ∃ l, keyOf P kt (kv a) = some l
  inj : ∀ a b, kv a = kv b → a = b
  rep : ∀ (w : World) (m : Mu) (I : Nat → Prop) a y, Rep w m I (ek a) y → y = kv a

/-- a map's entries, told by data -/
def em {α β : Type} (ek : α → AV) (ev : β → AV) (l : List (α × β)) : List (AV × AV) := l.map fun p => (ek p.1, ev p.2)

variable {α β : Type} {kv : α → Value} {ek : α → AV} {ok : α → Prop} {eb : β → AV} {L : List (α × β)} {kt et t : Nat}

theorem em_keys (hK : KEnc P kt kv ek ok) : ∀ {L : List (α × β)} {ys : List Value}, RepL w m I ((em ek eb L).map (·.1)) ys → ys = L.map fun p => kv p.1
  | [], ys, h => by simpa [em, RepL] using h
  | p :: L, ys, h => by
    simp only [em, List.map_cons, RepL] at h
    obtain ⟨y, zs, rfl, h1, h2⟩ := h
    have e1 := hK.rep _ _ _ _ _ h1
    have e2 := em_keys hK (L := L) (ys := zs) (by simpa [em] using h2)
    rw [e1, e2, List.map_cons]

/-- Where a key is found. -/
theorem find_em (hK : KEnc P kt kv ek ok) {bs : List Nat} {clk : Nat} {ents : List MapEntry} (hr : MapRep w m I (em ek eb L) bs clk ents) (hL : ∀ p ∈ L, ok p.1) {a : α} (ha : ok a) (w' : World) :
    ((Instr.findKey kt (kv a) ents).run P w' = .ok none w' ∧ ∀ p ∈ L, p.1 ≠ a) ∨ ∃ (j : Nat) (b : β) (e : MapEntry), (Instr.findKey kt (kv a) ents).run P w' = .ok (some (j, e.val)) w' ∧ L[j]? = some (a, b) ∧ ents[j]? = some e ∧ e.key = kv a ∧ Rep w m I (eb b) e.val := by
  have hkeys := em_keys hK hr.1
  have hlen : ents.length = L.length := by have := congrArg List.length hkeys; simpa using this
  have hget : ∀ (j : Nat) (e : MapEntry), ents[j]? = some e → ∃ p, L[j]? = some p ∧ e.key = kv p.1 := by
    intro j e he
    have h1 : (ents.map (·.key))[j]? = some e.key := by rw [List.getElem?_map, he]; rfl
    rw [hkeys, List.getElem?_map] at h1
    cases hp : L[j]? with
    | none => rw [hp] at h1; cases h1
    | some p => rw [hp] at h1; exact ⟨p, rfl, by simpa using h1.symm⟩
  obtain ⟨lx, hlx⟩ := hK.lit a ha
  rcases hK.keyed.find w' hlx ents (fun e he => by
    obtain ⟨j, hj⟩ := List.getElem?_of_mem he
    obtain ⟨p, hp, hk⟩ := hget j e hj
    rw [hk]; exact hK.lit _ (hL p (List.mem_of_getElem? hp))) with ⟨h1, h2⟩ | ⟨j, e, h1, h2, h3⟩
  · refine .inl ⟨h1, fun p hp hpa => ?_⟩
    obtain ⟨j, hj⟩ := List.getElem?_of_mem hp
    have hjl : j < ents.length := by rw [hlen]; exact (List.getElem?_eq_some_iff.1 hj).1
    obtain ⟨p', hp', hk⟩ := hget j ents[j] (List.getElem?_eq_getElem hjl)
    rw [hj] at hp'; cases hp'
    exact h2 _ (List.getElem_mem hjl) (by rw [hk, hpa])
  · obtain ⟨p, hp, hk⟩ := hget j e h2
    have hpa : p.1 = a := hK.inj _ _ (hk.symm.trans h3)
    obtain ⟨p1, p2⟩ := p
    simp only at hpa
    subst hpa
    refine .inr ⟨j, p2, e, h1, hp, h2, h3, ?_⟩
    have hval : ((em ek eb L).map (·.2))[j]? = some (eb p2) := by simp [em, hp]
    obtain ⟨y, hy, hrep⟩ := hr.2.1.get hval
    rw [List.getElem?_map, h2] at hy
    cases hy
    exact hrep

/-- a map that is there -/
theorem St.map_at (h : St C m I H w) {l : Nat} {es : List (AV × AV)} {bs : List Nat} {clk : Nat} (hl : H[l]? = some (.map es bs clk)) :
    ∃ b ents, m.blk l = some b ∧ ¬ I b ∧ w.heap[b]? = some (.map ⟨ents⟩ clk) ∧ MapRep w m I es bs clk ents := by
  have := h.blks l _ hl
  simpa only [BlkRep] using this

theorem St.mp_val (h : St C m I H w) {l b : Nat} {y : Value} (hb : m.blk l = some b) (hr : Rep w m I (.mp l) y) : y = .map (some b) := by
  simp only [Rep] at hr
  obtain ⟨_, b', h1, h2⟩ := hr
  rw [hb] at h1; cases h1
  exact h2

/-- a map's block gets other entries -/
theorem St.putMap (h : St C m I H w) {l b : Nat} {es es' : List (AV × AV)} {bs bs' : List Nat} {clk clk' : Nat} {o : Array MapEntry} {ents' : List MapEntry} (hl : H[l]? = some (.map es bs clk)) (hb : m.blk l = some b) (hw : w.heap[b]? = some (.map o clk))
    (hr : MapRep w m I es' bs' clk' ents') :
    St C m I (H.set l (.map es' bs' clk')) { w with heap := w.heap.setIfInBounds b (.map ⟨ents'⟩ clk') } ∧ Ext w m I { w with heap := w.heap.setIfInBounds b (.map ⟨ents'⟩ clk') } m I := by
  have hlt : b < w.heap.size := (Array.getElem?_eq_some_iff.1 hw).1
  have hB := h.blks l _ hl
  have hnI := (hB.lt trivial hb).2
  refine h.put hl trivial (by simp) ⟨rfl, rfl⟩ (fun b' hb' => by
    show (w.heap.setIfInBounds b _)[b']? = _
    rw [Array.getElem?_setIfInBounds_ne (fun e => hb' (by rw [← e]; exact hb))]) (fun he => ?_)
  simp only [BlkRep]
  exact ⟨b, ents', hb, hnI, by simp [hlt], hr.ext he⟩

theorem wp_val_of {op : Op} {dst : Option Tmp} {type : TypeId} {pos : String} {after : Array Edge} {guard : Option (Nat × Bool)} {a : Act} {K : AV → List ABlk → Prop} {Q : Exit → Act → World → Prop} {s : Sem Value} {x : AV} {v : Value} {H' : List ABlk} {m' : Mu} {I' : Nat → Prop} {w' : World}
    (hk : K x H') (hr : Rep w' m' I' x v) (hs : St C m' I' H' w') (he : Ext w m I w' m' I') (hrun : s.run P w = .ok v w') (hop : execOp a.eval ⟨dst, op, type, pos, after, guard⟩ = do let v ← s; pure (.value v)) :
    (⟨dst, op, type, pos, after, guard⟩ : Oper).wp P a w (After C w m I a dst K) Q :=
  wp_mem (o := ⟨dst, op, type, pos, after, guard⟩) ⟨x, v, H', m', I', w', hk, hr, hs, he, hrun⟩ hop

theorem wp_unit_of {op : Op} {dst : Option Tmp} {type : TypeId} {pos : String} {after : Array Edge} {guard : Option (Nat × Bool)} {a : Act} {K : AV → List ABlk → Prop} {Q : Exit → Act → World → Prop} {s : Sem Unit} {H' : List ABlk} {m' : Mu} {I' : Nat → Prop} {w' : World}
    (hk : K .any H') (hs : St C m' I' H' w') (he : Ext w m I w' m' I') (hrun : s.run P w = .ok () w') (hop : execOp a.eval ⟨dst, op, type, pos, after, guard⟩ = do s; pure .skip) :
    (⟨dst, op, type, pos, after, guard⟩ : Oper).wp P a w (After C w m I a dst K) Q := by
  unfold Oper.wp
  rw [hop, Sem.run_bind, hrun]
  exact ⟨.any, undef, H', m', I', hk, rfl, by simp [Rep], hs, he⟩

theorem ALoop.mapLen {k : Nat} {c : Code} {Q : Exit → List AV → List ABlk → Prop} {E : List AV} {l : Nat} {es : List (AV × AV)} {bs : List Nat} {clk : Nat} (hH : H[l]? = some (.map es bs clk)) (h : bs.length = es.length → bs.Nodup → ALoop P T k E H c Q) : ALoop P T k E H c Q := by
  unfold ALoop at *
  intro C a w hC hr
  obtain ⟨m, I, hs, hE, hd⟩ := hr
  obtain ⟨b, ents, hb, hnI, hw, r1, r2, r3, r4, r5⟩ := hs.map_at hH
  have h1 := r1.length
  have h2 := congrArg List.length r3
  simp at h1 h2
  exact h (by omega) r4 C a w hC ⟨m, I, hs, hE, hd⟩

/-! ### the operations -/
theorem AOp.makeMap {E : List AV} {K : AV → List ABlk → Prop} (k : K (.mp H.length) (H ++ [.map [] [] 0])) : AOp P (.makeMap t none) E H K := by
  rw [AOp.iff]
  intro C m I w a dst type pos after guard Q hs hE
  obtain ⟨hs', he⟩ := hs.push (w' := w.alloc (.map #[] 0)) (bo := some w.heap.size) (s := 0) (B := .map [] [] 0) (by simp) ⟨rfl, rfl⟩ (fun b hb => by show (w.heap.push _)[b]? = _; rw [Array.getElem?_push, if_neg (Nat.ne_of_lt hb)]) (fun b hb => by cases hb; exact Nat.le_refl _) (fun he => by
    simp only [BlkRep, Mu.push_new.1]
    refine ⟨w.heap.size, [], rfl, fun hi => by have := hs.immlt _ hi; omega, (by show (w.heap.push _)[w.heap.size]? = _; rw [Array.getElem?_push, if_pos rfl]), ?_⟩
    simp [MapRep, RepL])
  refine wp_val_of (s := Instr.makeMap t none) (v := .map (some w.heap.size)) (w' := w.alloc (.map #[] 0)) k ?_ hs' he rfl rfl
  simp only [Rep]
  rw [← hs.n, Mu.push_new.1]
  exact ⟨by simp [Mu.push], _, rfl, rfl⟩

def lookRes (c : Bool) (x : AV) (b : Bool) : AV :=
  match c with
  | true => .tup [x, .v (.bool b)]
  | false => x

theorem AOp.lookup {E : List AV} {K : AV → List ABlk → Prop} {mo ko : Operand} {c : Bool} {l : Nat} {bs : List Nat} {clk : Nat} {a : α}
    (hT : TOk P T) (hK : KEnc P kt kv ek ok) (ht : P.underlying t = some (.map kt et)) (hne : (T et).u ≠ .other) (hm : ev E mo = .mp l) (hk : ev E ko = ek a) (hH : H[l]? = some (.map (em ek eb L) bs clk)) (hL : ∀ p ∈ L, ok p.1) (ha : ok a)
    (h0 : (∀ p ∈ L, p.1 ≠ a) → K (lookRes c (T et).zero false) H) (h1 : ∀ (j : Nat) b, L[j]? = some (a, b) → K (lookRes c (eb b) true) H) : AOp P (.lookup t mo ko c) E H K := by
  rw [AOp.iff]
  intro C m I w a' dst type pos after guard Q hs hE
  obtain ⟨b, ents, hb, hnI, hw, hr⟩ := hs.map_at hH
  have em1 := ev_rep (o := mo) hE
  have ek1 := ev_rep (o := ko) hE
  rw [hm] at em1; rw [hk] at ek1
  have e1 := hs.mp_val hb em1
  have e2 := hK.rep _ _ _ _ _ ek1
  obtain ⟨lx, hlx⟩ := hK.lit a ha
  have hchk := fun em => hK.keyed.check w em hlx
  have hgo : ∀ (x : AV) (v : Value) (bo : Bool), K (lookRes c x bo) H → Rep w m I x v → (Instr.lookup t (.map (some b)) (kv a) c).run P w = .ok (if c then .tuple #[v, .bool bo] else v) w →
      (⟨dst, .lookup t mo ko c, type, pos, after, guard⟩ : Oper).wp P a' w (After C w m I a' dst K) Q := by
    intro x v bo hk hx hrun
    rw [← e1, ← e2] at hrun
    refine wp_val_of hk ?_ hs (.refl _ _ _) hrun rfl
    cases c with
    | false => exact hx
    | true => simp only [lookRes, Rep, RepL]; exact ⟨_, rfl, v, _, rfl, hx, .bool bo, [], rfl, rfl, rfl⟩
  rcases find_em hK hr hL ha w with ⟨f1, f2⟩ | ⟨j, bv, e, f1, f2, f3, f4, f5⟩
  · obtain ⟨d, i, z, g1, g2, g3, g4, g5, g6, g7, g8⟩ := hT.info (t := et) rfl hne
    refine hgo _ z false (h0 f2) (zok_rep w m I _ _ g7) ?_
    simp [Instr.lookup, run_underlying ht, MapKept.run_getObj_map hw, hchk, f1, zeroValue, run_typeInfo_of g2, g6]
  · refine hgo _ e.val true (h1 j bv f2) f5 ?_
    simp [Instr.lookup, run_underlying ht, MapKept.run_getObj_map hw, hchk, f1]

theorem set_same {γ : Type} {l : List γ} {i : Nat} {x : γ} (h : l[i]? = some x) : l.set i x = l := by
  apply List.ext_getElem?
  intro k
  rw [List.getElem?_set]
  by_cases hk : i = k
  · subst hk
    obtain ⟨h1, h2⟩ := List.getElem?_eq_some_iff.1 h
    simp [h1, h2]
  · simp [hk]

theorem nodup_at {γ : Type} : ∀ {l : List γ} {i j : Nat} {x : γ}, l.Nodup → l[i]? = some x → l[j]? = some x → i = j
  | [], _, _, _, _, h, _ => by simp at h
  | y :: l, 0, 0, _, _, _, _ => rfl
  | y :: l, 0, j + 1, x, hn, h1, h2 => by
    simp at h1 h2
    subst h1
    exact absurd (List.mem_of_getElem? h2) (List.nodup_cons.1 hn).1
  | y :: l, i + 1, 0, x, hn, h1, h2 => by
    simp at h1 h2
    subst h2
    exact absurd (List.mem_of_getElem? h1) (List.nodup_cons.1 hn).1
  | y :: l, i + 1, j + 1, x, hn, h1, h2 => by
    simp at h1 h2
    rw [nodup_at (List.nodup_cons.1 hn).2 h1 h2]

/-- the entry's element is another one -/
theorem rep_set {L : List (α × β)} {bs : List Nat} {clk : Nat} {ents : List MapEntry} (hr : MapRep w m I (em ek eb L) bs clk ents) {j : Nat} {a : α} {b b' : β} {e : MapEntry} {v : Value} (hj : L[j]? = some (a, b)) (he : ents[j]? = some e) (hv : Rep w m I (eb b') v) :
    MapRep w m I (em ek eb (L.set j (a, b'))) bs clk (ents.set j { e with val := v }) := by
  obtain ⟨r1, r2, r3, r4, r5⟩ := hr
  have k1 : (em ek eb (L.set j (a, b'))).map (·.1) = (em ek eb L).map (·.1) := by
    apply List.ext_getElem?
    intro i
    simp only [em, List.getElem?_map, List.getElem?_set]
    by_cases h : j = i
    · subst h
      obtain ⟨h1, h2⟩ := List.getElem?_eq_some_iff.1 hj
      simp [h1, h2]
    · simp [h]
  have k2 : (em ek eb (L.set j (a, b'))).map (·.2) = ((em ek eb L).map (·.2)).set j (eb b') := by
    simp only [em, List.map_set]
  have k3 : (ents.set j { e with val := v }).map (·.key) = ents.map (·.key) := by
    rw [List.map_set]
    apply set_same
    rw [List.getElem?_map, he]; rfl
  have k4 : (ents.set j { e with val := v }).map (·.val) = (ents.map (·.val)).set j v := List.map_set
  have k5 : (ents.set j { e with val := v }).map (·.born) = bs := by
    rw [List.map_set, r3]
    apply set_same
    rw [← r3, List.getElem?_map, he]; rfl
  refine ⟨by rw [k1, k3]; exact r1, by rw [k2, k4]; exact r2.set j hv, k5, r4, r5⟩

/-- one entry more -/
theorem rep_push {L : List (α × β)} {bs : List Nat} {clk : Nat} {ents : List MapEntry} (hr : MapRep w m I (em ek eb L) bs clk ents) {a : α} {b : β} {k v : Value} (hk : Rep w m I (ek a) k) (hv : Rep w m I (eb b) v) :
    MapRep w m I (em ek eb (L ++ [(a, b)])) (bs ++ [clk]) (clk + 1) (ents ++ [{ key := k, val := v, born := clk }]) := by
  obtain ⟨r1, r2, r3, r4, r5⟩ := hr
  refine ⟨?_, ?_, by simp [r3], ?_, ?_⟩
  · simp only [em, List.map_append, List.map_cons, List.map_nil] at r1 ⊢
    exact RepL.append r1 (by simp only [RepL]; exact ⟨_, _, rfl, hk, rfl⟩)
  · simp only [em, List.map_append, List.map_cons, List.map_nil] at r2 ⊢
    exact RepL.append r2 (by simp only [RepL]; exact ⟨_, _, rfl, hv, rfl⟩)
  · rw [List.nodup_append]
    refine ⟨r4, by simp, fun x hx y hy => ?_⟩
    simp at hy
    have := r5 x hx
    omega
  · intro s hs
    rcases List.mem_append.1 hs with h | h
    · have := r5 s h; omega
    · simp at h; omega

theorem mod_list {ents : List MapEntry} {j : Nat} {e : MapEntry} (f : MapEntry → MapEntry) (he : ents[j]? = some e) : ents.modify j f = ents.set j (f e) := by
  apply List.ext_getElem?
  intro i
  simp only [List.getElem?_modify, List.getElem?_set]
  by_cases h : j = i
  · subst h
    obtain ⟨h1, h2⟩ := List.getElem?_eq_some_iff.1 he
    simp [h1, h2]
  · simp [h]

theorem AOp.mapUpdate {E : List AV} {K : AV → List ABlk → Prop} {mo ko xo : Operand} {l : Nat} {bs : List Nat} {clk : Nat} {a : α} {b' : β}
    (hK : KEnc P kt kv ek ok) (ht : P.underlying t = some (.map kt et)) (hm : ev E mo = .mp l) (hk : ev E ko = ek a) (hx : ev E xo = eb b') (hH : H[l]? = some (.map (em ek eb L) bs clk)) (hL : ∀ p ∈ L, ok p.1) (ha : ok a)
    (h0 : (∀ p ∈ L, p.1 ≠ a) → K .any (H.set l (.map (em ek eb (L ++ [(a, b')])) (bs ++ [clk]) (clk + 1)))) (h1 : ∀ (j : Nat) b, L[j]? = some (a, b) → K .any (H.set l (.map (em ek eb (L.set j (a, b'))) bs clk))) : AOp P (.mapUpdate t mo ko xo) E H K := by
  rw [AOp.iff]
  intro C m I w a' dst type pos after guard Q hs hE
  obtain ⟨b, ents, hb, hnI, hw, hr⟩ := hs.map_at hH
  have em1 := ev_rep (o := mo) hE
  have ek1 := ev_rep (o := ko) hE
  have ex1 := ev_rep (o := xo) hE
  rw [hm] at em1; rw [hk] at ek1; rw [hx] at ex1
  have e1 := hs.mp_val hb em1
  have e2 := hK.rep _ _ _ _ _ ek1
  obtain ⟨lx, hlx⟩ := hK.lit a ha
  have hchk := fun em => hK.keyed.check w em hlx
  rcases find_em hK hr hL ha w with ⟨f1, f2⟩ | ⟨j, bv, e, f1, f2, f3, f4, f5⟩
  · obtain ⟨hs', he⟩ := hs.putMap hH hb hw (rep_push hr ek1 ex1)
    refine wp_unit_of (s := Instr.mapUpdate t (a'.eval mo) (a'.eval ko) (a'.eval xo)) (h0 f2) hs' he ?_ rfl
    rw [e1, e2]
    simp [Instr.mapUpdate, run_underlying ht, MapKept.run_getObj_map hw, hchk, f1, MapKept.run_setObj_map _ hw]
  · obtain ⟨hs', he⟩ := hs.putMap hH hb hw (rep_set hr f2 f3 ex1)
    refine wp_unit_of (s := Instr.mapUpdate t (a'.eval mo) (a'.eval ko) (a'.eval xo)) (h1 j bv f2) hs' he ?_ rfl
    have hst := hK.keyed.stays w hlx
    rw [e1, e2]
    simp [Instr.mapUpdate, run_underlying ht, MapKept.run_getObj_map hw, hchk, f1, f3, f4, hst, MapKept.run_setObj_map _ hw]
    rw [mod_list _ f3]

end
end Go.Aw

/-
  Aw, part 23: a range over a map; delete, clear.
-/
set_option linter.unusedSimpArgs false
set_option linter.unusedVariables false
namespace Go.Aw
open Go Go.Maps

section
variable {P : Program} {T : Nat → TI} {C : Ctx} {m : Mu} {I : Nat → Prop} {H : List ABlk} {w : World}
variable {kt et t : Nat}

theorem AOp.range {E : List AV} {K : AV → List ABlk → Prop} {mo : Operand} {l : Nat} {es : List (AV × AV)} {bs : List Nat} {clk : Nat}
    (ht : P.underlying t = some (.map kt et)) (hm : ev E mo = .mp l) (hH : H[l]? = some (.map es bs clk)) (k : K (.ptr H.length 0) (H ++ [.iter l clk []])) : AOp P (.range t mo) E H K := by
  rw [AOp.iff]
  intro C m I w a dst type pos after guard Q hs hE
  obtain ⟨b, ents, hb, hnI, hw, hr⟩ := hs.map_at hH
  have em1 := ev_rep (o := mo) hE
  rw [hm] at em1
  have e1 := hs.mp_val hb em1
  have hl : l < m.n := by rw [hs.n]; exact (List.getElem?_eq_some_iff.1 hH).1
  obtain ⟨hs', he⟩ := hs.push (w' := w.alloc (.mapIter (some b) clk #[] clk)) (bo := some w.heap.size) (s := 0) (B := .iter l clk []) (by simp) ⟨rfl, rfl⟩ (fun b hb => by show (w.heap.push _)[b]? = _; rw [Array.getElem?_push, if_neg (Nat.ne_of_lt hb)]) (fun b hb => by cases hb; exact Nat.le_refl _) (fun he => by
    simp only [BlkRep, Mu.push_new.1]
    rw [(Mu.push_old hl).1, hb]
    exact ⟨by simp [Mu.push]; omega, w.heap.size, rfl, fun hi => by have := hs.immlt _ hi; omega, (by show (w.heap.push _)[w.heap.size]? = _; rw [Array.getElem?_push, if_pos rfl])⟩)
  refine wp_val_of (s := Instr.range t (a.eval mo)) (v := .pointer (some ⟨w.heap.size, 0, none⟩)) k ?_ hs' he ?_ rfl
  · simp only [Rep]
    rw [← hs.n, Mu.push_new.1]
    exact ⟨by simp [Mu.push], _, rfl, rfl⟩
  rw [e1, Go.run_range_map w t kt et b ⟨ents⟩ clk ht hw]

theorem AOp.next {E : List AV} {K : AV → List ABlk → Prop} {io : Operand} {l li : Nat} {es : List (AV × AV)} {bs seen : List Nat} {clk : Nat}
    (hi : ev E io = .ptr li 0) (hI : H[li]? = some (.iter l clk seen)) (hH : H[l]? = some (.map es bs clk))
    (h0 : (∀ s ∈ bs, s ∈ seen) → K (.tup [.v (.bool false)]) H)
    (h1 : ∀ (i s : Nat) (k v : AV), es[i]? = some (k, v) → bs[i]? = some s → s ∉ seen → K (.tup [.v (.bool true), k, v]) (H.set li (.iter l clk (seen ++ [s])))) : AOp P (.next io false) E H K := by
  rw [AOp.iff]
  intro C m I w a dst type pos after guard Q hs hE
  obtain ⟨b, ents, hb, hnI, hw, hr⟩ := hs.map_at hH
  have ei1 := ev_rep (o := io) hE
  rw [hi] at ei1
  simp only [Rep] at ei1
  obtain ⟨_, bi, hbi, e1⟩ := ei1
  have hBi := hs.blks li _ hI
  simp only [BlkRep] at hBi
  obtain ⟨hl, bi', hbi', hnI', hwi⟩ := hBi
  rw [hbi] at hbi'; cases hbi'
  rw [hb] at hwi
  obtain ⟨r1, r2, r3, r4, r5⟩ := hr
  have hold : ∀ x ∈ (⟨ents⟩ : Array MapEntry).toList, x.born < clk := fun x hx => r5 _ (by rw [← r3]; exact List.mem_map.2 ⟨x, hx, rfl⟩)
  have hget : (getObj bi).run P w = .ok (.mapIter (some b) clk ⟨seen⟩ clk) w := by simp [getObj, Sem.run, hwi]
  have hset : ∀ (w1 : World) o, w1.heap = w.heap → (setObj bi o).run P w1 = .ok () { w1 with heap := w1.heap.setIfInBounds bi o } := by
    intro w1 o h1
    simp [setObj, Sem.run, h1, hwi]
  have hmem : ∀ x ∈ (leftOf ⟨ents⟩ ⟨seen⟩).toList, x ∈ ents ∧ x.born ∉ seen := fun x hx => by
    simp [leftOf] at hx
    exact hx
  have hlt : ∀ x ∈ (leftOf ⟨ents⟩ ⟨seen⟩), x.born < clk := fun x hx => hold x (hmem x (by simpa using hx)).1
  have hleft : ∀ x ∈ ents, x.born ∉ seen → x ∈ leftOf ⟨ents⟩ ⟨seen⟩ := fun x hx h => by simp [leftOf]; exact ⟨hx, h⟩
  generalize hLd : leftOf ⟨ents⟩ ⟨seen⟩ = L at hmem hlt hleft
  have e2 : L.filter (fun x => decide (x.born < clk)) = L := Array.filter_eq_self.2 (fun x hx => by simpa using hlt x hx)
  have e3 : L.filter (fun x => decide (x.born ≥ clk)) = #[] := by
    rw [Array.filter_eq_empty_iff]
    intro x hx
    have := hlt x hx
    simp; omega
  have hrun : (Instr.next (a.eval io) false type).run P w = ((choose (.mapNext ((if L.isEmpty then #[none] else #[]) ++ L.map some).size) : Sem Nat) >>= fun j => (match ((if L.isEmpty then #[none] else #[]) ++ L.map some)[j]? with
      | some (some e) => do setObj bi (.mapIter (some b) clk ((⟨seen⟩ : Array Nat).push e.born) clk); pure (.tuple #[.bool true, e.key, e.val])
      | some none => pure (.tuple #[.bool false])
      | none => stuck "Next: no such candidate" : Sem Value)).run P w := by
    rw [e1]
    simp only [Instr.next, Sem.run_bind, hget, MapKept.run_getObj_map hw, Result.andThen_ok, next_test_false ⟨seen⟩ ⟨ents⟩ clk clk hold (Nat.le_refl _), Bool.false_eq_true, if_false]
    have hLd' : Array.filter (fun e => !Array.contains (⟨seen⟩ : Array Nat) e.born) ⟨ents⟩ = L := hLd
    rw [hLd', e2, e3, Array.append_empty]
    rfl
  by_cases hz : L.size = 0
  · have hLe : L = #[] := Array.eq_empty_of_size_eq_zero hz
    subst hLe
    refine wp_val_of (s := Instr.next (a.eval io) false type) (v := .tuple #[.bool false]) (h0 fun s hsb => ?_) ?_ hs (.refl _ _ _) ?_ rfl
    · rw [← r3] at hsb
      obtain ⟨x, hx, rfl⟩ := List.mem_map.1 hsb
      by_cases hc : x.born ∈ seen
      · exact hc
      · exact absurd (hleft x hx hc) (by simp)
    · simp only [Rep, RepL]; exact ⟨_, rfl, _, _, rfl, rfl, rfl⟩
    · rw [hrun]
      simp [choose, Sem.run, Question.forced]
  · have hne : L.isEmpty = false := by simp [Array.isEmpty, hz]
    have hch : ∃ (j : Nat) (w1 : World), j < L.size ∧ w1.heap = w.heap ∧ (w1.os = w.os ∧ w1.output = w.output) ∧ (choose (Question.mapNext L.size)).run P w = .ok j w1 := by
      by_cases hf : L.size ≤ 1
      · exact ⟨0, w, by omega, rfl, ⟨rfl, rfl⟩, by simp [choose, Sem.run, Question.forced, hf]⟩
      · exact ⟨w.tape w.drawn (Question.mapNext L.size) % L.size, { w with drawn := w.drawn + 1 }, Nat.mod_lt _ (by omega), rfl, ⟨rfl, rfl⟩, by
          simp only [choose, Sem.run, Question.forced, decide_eq_true_eq, hf, if_false, Question.cut]⟩
    obtain ⟨j, w1, hj, hw1, ho1, hch⟩ := hch
    obtain ⟨hxm, hxs⟩ := hmem L[j] (by simp)
    obtain ⟨i, hi'⟩ := List.getElem?_of_mem hxm
    have hbs : bs[i]? = some L[j].born := by rw [← r3, List.getElem?_map, hi']; rfl
    obtain ⟨hs1, he1⟩ := hs.world (w' := w1) hw1 ho1
    have hBl : H[li]? = some (.iter l clk seen) := hI
    have hltb : bi < w.heap.size := (Array.getElem?_eq_some_iff.1 hwi).1
    obtain ⟨hs2, he2⟩ := hs1.put (w' := { w1 with heap := w1.heap.setIfInBounds bi (.mapIter (some b) clk ((⟨seen⟩ : Array Nat).push L[j].born) clk) }) (l := li) (B := .iter l clk seen) (B' := .iter l clk (seen ++ [L[j].born])) hI trivial (by simp) ⟨rfl, rfl⟩ (fun b' hb' => by
      show (w1.heap.setIfInBounds bi _)[b']? = _
      rw [Array.getElem?_setIfInBounds_ne (fun e => hb' (by rw [← e]; exact hbi))]) (fun he => by
      simp only [BlkRep]
      rw [hb]
      refine ⟨hl, bi, hbi, hnI', ?_⟩
      simp [hw1, hltb])
    have hlenk : ents.length = es.length := by have := r1.length; simpa using this
    have hie : i < es.length := by rw [← hlenk]; exact (List.getElem?_eq_some_iff.1 hi').1
    have hei : es[i]? = some (es[i].1, es[i].2) := List.getElem?_eq_getElem hie
    obtain ⟨y1, hy1, hk1⟩ := r1.get (i := i) (x := es[i].1) (by rw [List.getElem?_map, hei]; rfl)
    obtain ⟨y2, hy2, hk2⟩ := r2.get (i := i) (x := es[i].2) (by rw [List.getElem?_map, hei]; rfl)
    rw [List.getElem?_map, hi'] at hy1 hy2
    cases hy1; cases hy2
    refine wp_val_of (s := Instr.next (a.eval io) false type) (v := .tuple #[.bool true, L[j].key, L[j].val]) (h1 i L[j].born _ _ hei hbs hxs) ?_ hs2 (he1.trans he2) ?_ rfl
    · simp only [Rep, RepL]; exact ⟨_, rfl, _, _, rfl, rfl, _, _, rfl, (hk1.ext he1).ext he2, _, _, rfl, (hk2.ext he1).ext he2, rfl⟩
    · rw [hrun]
      simp only [hne, Bool.false_eq_true, if_false, Array.empty_append, Array.size_map, Sem.run_bind, hch, Result.andThen_ok, Array.getElem?_map, Array.getElem?_eq_getElem hj, Option.map_some, hset w1 _ hw1]
      rfl

theorem AOp.entry {E : List AV} {K : AV → List ABlk → Prop} {io : Operand} {l li i s : Nat} {es : List (AV × AV)} {bs seen : List Nat} {clk : Nat} {k v : AV}
    (hi : ev E io = .ptr li 0) (hI : H[li]? = some (.iter l clk (seen ++ [s]))) (hH : H[l]? = some (.map es bs clk)) (he : es[i]? = some (k, v)) (hb : bs[i]? = some s) (hk : K (.tup [k, v]) H) : AOp P (.entry io) E H K := by
  rw [AOp.iff]
  intro C m I w a dst type pos after guard Q hs hE
  obtain ⟨b, ents, hbl, hnI, hw, hr⟩ := hs.map_at hH
  have ei1 := ev_rep (o := io) hE
  rw [hi] at ei1
  simp only [Rep] at ei1
  obtain ⟨_, bi, hbi, e1⟩ := ei1
  have hBi := hs.blks li _ hI
  simp only [BlkRep] at hBi
  obtain ⟨hl, bi', hbi', hnI', hwi⟩ := hBi
  rw [hbi] at hbi'; cases hbi'
  rw [hbl] at hwi
  obtain ⟨r1, r2, r3, r4, r5⟩ := hr
  have hlenk : ents.length = es.length := by have := r1.length; simpa using this
  have hie : i < ents.length := by rw [hlenk]; exact (List.getElem?_eq_some_iff.1 he).1
  have hei : ents[i]? = some ents[i] := List.getElem?_eq_getElem hie
  obtain ⟨y1, hy1, hk1⟩ := r1.get (i := i) (x := k) (by rw [List.getElem?_map, he]; rfl)
  obtain ⟨y2, hy2, hk2⟩ := r2.get (i := i) (x := v) (by rw [List.getElem?_map, he]; rfl)
  rw [List.getElem?_map, hei] at hy1 hy2
  cases hy1; cases hy2
  have hborn : ents[i].born = s := by
    have := hb
    rw [← r3, List.getElem?_map, hei] at this
    simpa using this
  have hfind : Array.find? (fun e : MapEntry => e.born == s) ⟨ents⟩ = some ents[i] := by
    rw [← Array.find?_toList, ← hborn]
    exact find_born _ _ (by rw [r3]; exact r4) (List.getElem_mem hie)
  have hget : (getObj bi).run P w = .ok (.mapIter (some b) clk ⟨seen ++ [s]⟩ clk) w := by simp [getObj, Sem.run, hwi]
  refine wp_val_of (s := Instr.entry (a.eval io)) (v := .tuple #[ents[i].key, ents[i].val]) hk ?_ hs (.refl _ _ _) ?_ rfl
  · simp only [Rep, RepL]; exact ⟨_, rfl, _, _, rfl, hk1, _, _, rfl, hk2, rfl⟩
  · rw [e1]
    have hback : (⟨seen ++ [s]⟩ : Array Nat).back? = some s := by simp [Array.back?]
    simp only [Instr.entry, Sem.run_bind, hget, MapKept.run_getObj_map hw, Result.andThen_ok, hback, bne_self_eq_false, Bool.false_eq_true, if_false, hfind]
    rfl
end
end Go.Aw

/-
  Aw, part 24: worlds that grow; the library's sort by its contract.
-/
set_option linter.unusedSimpArgs false
set_option linter.unusedVariables false
namespace Go.Aw
open Go

section
variable {P : Program} {T : Nat → TI} {C : Ctx} {m : Mu} {I : Nat → Prop} {H : List ABlk} {w : World}

theorem St.grown (h : St C m I H w) {w' : World} (hg : Grown w w') (ho : w'.os = w.os ∧ w'.output = w.output) : St C m I H w' ∧ Ext w m I w' m I := by
  have he : Ext w m I w' m I := ⟨Nat.le_refl _, fun _ _ => rfl, fun _ _ => rfl, fun _ h => h, fun b hb => hg.2 b (h.immlt b hb)⟩
  refine ⟨⟨h.n, fun l b hb => (h.blks l b hb).ext he (by rw [h.n]; exact (List.getElem?_eq_some_iff.1 hb).1) (fun x hx hv => ⟨hg.2 x ((h.blks l b hb).lt hv hx).1, ((h.blks l b hb).lt hv hx).2⟩), h.dist, ?_, Nat.le_trans h.size hg.1, h.own, h.imm0, h.imm, ?_, h.m0n, h.m0b, h.m0s, ho.1.trans h.side.1, ho.2.trans h.side.2⟩, he⟩
  · intro b h1 h2
    rw [hg.2 b (Nat.lt_of_lt_of_le h1 h.size)]; exact h.old b h1 h2
  · intro b hb; exact Nat.lt_of_lt_of_le (h.immlt b hb) hg.1

/-- A call of the library's that leaves what there was, by its contract. -/
theorem Fun.below {f : Nat} {args : List AV} {vs : List Value} {v : Value} (hv : ∀ (w : World) (m : Mu) (I : Nat → Prop) ys, RepL w m I args ys → ys = vs)
    (hc : ∀ w, Calls P f ⟨vs⟩ w fun e w' => e = .returned v ∧ Grown w w' ∧ (w'.os = w.os ∧ w'.output = w.output)) : Fun P f args (.v v) := by
  intro C m I w ys hs hr
  rw [hv w m I ys hr]
  refine (hc w).mono fun e w' ⟨he, hg, ho⟩ => ?_
  obtain ⟨hs', hx⟩ := hs.grown hg ho
  exact ⟨_, v, _, m, I, he, ⟨rfl, rfl⟩, by simp [Rep], hs', hx⟩

open Go.Proofs Go.Sort Go.Lib

end
end Go.Aw

/-
  Aw, part 25: what is handed back becomes a value: own memory is given up, frozen.
-/
set_option linter.unusedSimpArgs false
set_option linter.unusedVariables false
namespace Go.Aw
open Go

variable {P : Program} {H : List ABlk}

def ABlk.frozen : ABlk → ABlk
  | .cells t cs => .ice t cs
  | b => b

theorem Conv.freezeAll {k : Nat} {xs : List AV} : ∀ (H0 H : List ABlk), Conv k xs (H0 ++ H) xs (H0 ++ H.map ABlk.frozen)
  | H0, [] => Conv.refl _ _ _
  | H0, b :: H => by
    have ih := Conv.freezeAll (k := k) (xs := xs) (H0 ++ [b.frozen]) H
    rw [List.append_assoc, List.append_assoc] at ih
    refine Conv.trans ?_ ih
    cases b with
    | cells t cs =>
      have h := Conv.freeze (k := k) (xs := xs) (H := H0 ++ .cells t cs :: H) H0.length (t := t) (cs := cs) (by simp)
      rw [List.set_append_right _ _ (Nat.le_refl _), Nat.sub_self] at h
      exact h
    | _ => exact Conv.refl _ _ _

theorem Lend.it {H : List ABlk} {B : List Nat} (x : AV) : Lend H B id x x := .same (ren_id x).symm
theorem Conv.out {r r' : AV} {H : List ABlk} (h : Lend (H.map ABlk.frozen) [] id r r') (hr : ∀ ρ, r'.ren ρ = r') : Conv 0 [r] H [r'] [] :=
  (Conv.freezeAll [] H).trans ((Conv.see (.cons h .nil)).trans (Conv.ren [] [r'] (by simp) List.nodup_nil (by simp only [renL]; rw [hr]; exact Fit.refl _) .nil))

theorem Lend.sm {H : List ABlk} {sz l n t : Nat} {cs : List AV} (hl : H[l]? = some (.ice t cs)) (hn : n * sz = cs.length) : Lend H [] id (.ms sz l 0 n) (.vs sz n cs) :=
  .ms (t := t) (.inr hl) (by omega) (by rw [renL_id, List.drop_zero, hn, List.take_length])

/-- a call of a function that hands values back -/
theorem ACall.out {f : Nat} {args : List AV} {K : AV → List ABlk → Prop} {K0 : AV → Prop} (hc : callOk P f = true) (h : Spec P f args [] fun r H => K0 r ∧ H = []) (ha : renL (nm [] H.length) args = args)
    (k : ∀ r, K0 r → K (r.ren (nm [] H.length)) H) : ACall P f args H K :=
  ACall.spec hc h ha (fun r H' h' => by rw [h'.2]; simpa using k r h'.1)
end Go.Aw

