/-
  The statement StateBounds: of a state that may be, of no line more is authorised, received or paid back than was shipped and paid, without any condition.
-/
import Derived.Test.YtnfbiphfhkfnaaaGreatAwG
import Derived.Defers
import Derived.Test.YtnfbiphfhkfnaaaGreatAwE
import Derived.Laws.RangeString
import Derived.Laws.Cover4
set_option linter.unusedSimpArgs false
set_option linter.unusedVariables false
/-
  Aw, part 50: a deferred call.
-/
set_option linter.unusedSimpArgs false
set_option linter.unusedVariables false
namespace Go.Aw
open Go

section
variable {P : Program} {T : Nat → TI} {m : Mu} {I : Nat → Prop} {H : List ABlk} {w : World}

/-- what is handed back in the end -/
def RD (C : Ctx) (K : AV → List ABlk → Prop) (e : Ending) (w' : World) : Prop := ∃ r v H' m' I', e = .returned v ∧ K r H' ∧ Rep w' m' I' r v ∧ St C m' I' H' w'

/-- code of a function that may defer a call -/
structure AWD (P : Program) (T : Nat → TI) (fn : Func) (k : Nat) (K : AV → List ABlk → Prop) (c : Code) (E : List AV) (H : List ABlk) : Prop where
  run : ∀ (C : Ctx) (a : Act) (w : World), C.m0.n ≤ k → C.dfr = [] → Rel C E H a w → c.wp P (bodyPostD P fn (RD C K)) a w

end
end Go.Aw

/-
  Aw, part 51: a block that code only reads is held still, while other blocks change.
-/
set_option linter.unusedSimpArgs false
set_option linter.unusedVariables false
namespace Go.Aw
open Go

section
variable {P : Program} {T : Nat → TI} {H : List ABlk}

end
end Go.Aw

/-
  Aw, part 52: a range over a text.
-/
set_option linter.unusedSimpArgs false
set_option linter.unusedVariables false
namespace Go.Aw
open Go

/-- an iterator over a text, at a place -/
def sIt (s : ByteArray) (pos : Nat) : ABlk := .obj (· = .stringIter s pos)

section
variable {P : Program} {T : Nat → TI} {C : Ctx} {m : Mu} {I : Nat → Prop} {H : List ABlk} {w : World} {t : Nat}

theorem AOp.rangeS {E : List AV} {K : AV → List ABlk → Prop} {so : Operand} {s : ByteArray}
    (ht : P.underlying t = some .string) (hm : ev E so = .v (.string s)) (k : K (.ptr H.length 0) (H ++ [sIt s 0])) : AOp P (.range t so) E H K := by
  rw [AOp.iff]
  intro C m I w a dst type pos after guard Q hs hE
  have em1 := ev_rep (o := so) hE
  rw [hm] at em1
  simp only [Rep] at em1
  obtain ⟨hs', he⟩ := hs.push (w' := w.alloc (.stringIter s 0)) (bo := some w.heap.size) (s := 0) (B := sIt s 0) (by simp [sIt]) ⟨rfl, rfl⟩ (fun b hb => by show (w.heap.push _)[b]? = _; rw [Array.getElem?_push, if_neg (Nat.ne_of_lt hb)]) (fun b hb => by cases hb; exact Nat.le_refl _) (fun he => by
    simp only [sIt, BlkRep, Mu.push_new.1]
    exact ⟨w.heap.size, _, rfl, fun hi => by have := hs.immlt _ hi; omega, (by show (w.heap.push _)[w.heap.size]? = _; rw [Array.getElem?_push, if_pos rfl]), rfl⟩)
  refine wp_val_of (s := Instr.range t (a.eval so)) (v := .pointer (some ⟨w.heap.size, 0, none⟩)) k ?_ hs' he ?_ rfl
  · simp only [Rep]
    rw [← hs.n, Mu.push_new.1]
    exact ⟨by simp [Mu.push], _, rfl, rfl⟩
  rw [em1]
  rw [Go.run_range_string w t s ht]
  rfl

theorem AOp.nextS {E : List AV} {K : AV → List ABlk → Prop} {io : Operand} {li pos : Nat} {s : ByteArray}
    (hi : ev E io = .ptr li 0) (hI : H[li]? = some (sIt s pos))
    (h0 : ¬ pos < s.size → K (.tup [.v (.bool false)]) H)
    (h1 : pos < s.size → K (.tup [.v (.bool true), .v (.int .i64 pos), .v (.int .i32 (Utf8.decode s pos).1)]) (H.set li (sIt s (pos + (Utf8.decode s pos).2)))) : AOp P (.next io true) E H K := by
  rw [AOp.iff]
  intro C m I w a dst type pos' after guard Q hs hE
  have ei1 := ev_rep (o := io) hE
  rw [hi] at ei1
  simp only [Rep] at ei1
  obtain ⟨_, bi, hbi, e1⟩ := ei1
  have hBi := hs.blks li _ hI
  simp only [sIt, BlkRep] at hBi
  obtain ⟨bi', o, hbi', hnI', hwi, rfl⟩ := hBi
  rw [hbi] at hbi'; cases hbi'
  have hget : (getObj bi).run P w = .ok (.stringIter s pos) w := by simp [getObj, Sem.run, hwi]
  have hltb : bi < w.heap.size := (Array.getElem?_eq_some_iff.1 hwi).1
  by_cases hp : pos < s.size
  · obtain ⟨hs2, he2⟩ := hs.put (w' := { w with heap := w.heap.setIfInBounds bi (.stringIter s (pos + (Utf8.decode s pos).2)) }) (l := li) (B := sIt s pos) (B' := sIt s (pos + (Utf8.decode s pos).2)) hI trivial (by simp [sIt]) ⟨rfl, rfl⟩ (fun b' hb' => by
      show (w.heap.setIfInBounds bi _)[b']? = _
      rw [Array.getElem?_setIfInBounds_ne (fun e => hb' (by rw [← e]; exact hbi))]) (fun he => by
      simp only [sIt, BlkRep]
      refine ⟨bi, _, hbi, hnI', ?_, rfl⟩
      simp [hltb])
    refine wp_val_of (s := Instr.next (a.eval io) true type) (v := .tuple #[.bool true, goInt pos, .int .i32 (Utf8.decode s pos).1]) (h1 hp) ?_ hs2 he2 ?_ rfl
    · simp only [Rep, RepL]; exact ⟨_, rfl, _, _, rfl, rfl, _, _, rfl, rfl, _, _, rfl, rfl, rfl⟩
    · rw [e1]
      simp only [Instr.next, Sem.run_bind, hget, Result.andThen_ok, hp, if_true]
      simp [setObj, Sem.run, hwi]
  · refine wp_val_of (s := Instr.next (a.eval io) true type) (v := .tuple #[.bool false]) (h0 hp) ?_ hs (.refl _ _ _) ?_ rfl
    · simp only [Rep, RepL]; exact ⟨_, rfl, _, _, rfl, rfl, rfl⟩
    · rw [e1]
      simp only [Instr.next, Sem.run_bind, hget, Result.andThen_ok, hp, if_false]
      simp [Sem.run]

def rI (n : Int) : AV := .v (.int .i32 n)

theorem RepL.runes : ∀ {bs : List Int} {ys : List Value}, RepL w m I (bs.map rI) ys → ys = bs.map fun b => Value.int .i32 b
  | [], ys, h => by simpa [RepL] using h
  | b :: bs, ys, h => by
    simp only [List.map_cons, RepL] at h
    obtain ⟨y, zs, rfl, h1, h2⟩ := h
    simp only [rI, Rep] at h1
    subst h1
    simp [RepL.runes h2]

/-- a slice of runes becomes a text -/
theorem AOp.runes {E : List AV} {K : AV → List ABlk → Prop} {xo : Operand} {l src dst e : Nat} {ns : List Int} {t' : Nat}
    (hS : P.underlying src = some (.slice e)) (he : P.underlying e = some (.int .i32)) (hD : P.underlying dst = some .string)
    (hx : ev E xo = .ms 1 l 0 ns.length) (hH : H[l]? = some (.cells t' (ns.map rI))) (hk : K (.v (.string (runesBytes ns))) H) : AOp P (.convert src dst xo) E H K := by
  rw [AOp.iff]
  intro C m I w a d type pos after guard Q hs hE
  have hr := ev_rep (o := xo) hE
  rw [hx] at hr
  have hck : contentK H 1 (.ms 1 l 0 ns.length) fun n cs => n = ns.length ∧ cs = ns.map rI := by
    simp only [contentK, ifK_iff, blkK_iff, seeK_iff, ACut.iff]
    exact ⟨rfl, _, hH, t', _, .inl rfl, by simp, trivial, List.take_of_length_le (by simp)⟩
  obtain ⟨z, n, c, hX⟩ := contentK_slice hck (by simp) hr
  obtain ⟨n', xs, ys, ⟨rfl, rfl⟩, h1, h2, h3, h4, h5⟩ := contentK_sound (P := P) hs hck hr
  have hys := h1.runes
  subst hys
  rw [hX] at h4 h5
  have hl : n = ns.length := by simpa [Builtin.lenOf] using h4
  subst hl
  have hc := h5 w rfl ns.length (Nat.le_refl _)
  refine wp_mem (s := convert src dst (a.eval xo)) (Mem.ofv hs hk ?_) rfl
  rw [hX]
  cases z with
  | none =>
    simp [Builtin.firstCells] at hc
    subst hc
    rw [run_convert_runes_nil w src dst e _ _ hS he hD]
    rfl
  | some A =>
    rw [run_convert_runes_string w src dst e _ _ _ hS he hD]
    simp only [Builtin.firstCells, Nat.mul_one] at hc
    refine run_runesToString w A _ c ns ?_
    rw [hc, List.take_of_length_le (by simp)]
end
end Go.Aw

/-
  Aw, part 53: own memory that a call only reads is frozen ahead of it, and lent as values.
-/
set_option linter.unusedSimpArgs false
set_option linter.unusedVariables false
namespace Go.Aw
open Go

section
variable {P : Program} {H : List ABlk}

theorem ACall.ice {f : Nat} {args : List AV} {K : AV → List ABlk → Prop} {l t : Nat} {xs : List AV} (hl : H[l]? = some (.cells t xs)) (h : ACall P f args (H.set l (.ice t xs)) K) : ACall P f args H K := by
  rw [ACall.iff] at h ⊢
  refine ⟨h.1, fun C m I w vs hs hr => ?_⟩
  obtain ⟨hs1, he1⟩ := hs.freeze hl
  exact (h.2 C m _ w vs hs1 (RepL.ext he1 _ _ hr)).mono fun e w' ⟨r, v, H', m', I', h1, h2, h3, h4, h5⟩ => ⟨r, v, H', m', I', h1, h2, h3, h4, he1.trans h5⟩

theorem ACall.see {f : Nat} {args args' : List AV} {K : AV → List ABlk → Prop} (hs : LendL H [] id args args') (h : ACall P f args' H K) : ACall P f args H K := by
  rw [ACall.iff] at h ⊢
  refine ⟨h.1, fun C m I w vs hst hr => ?_⟩
  exact h.2 C m I w vs hst (hs.rep hst (mc := m) (I' := I) ⟨fun _ _ => rfl, fun _ _ => rfl, fun _ h => h, fun _ h => h⟩ (fun b hb => hb.elim id (fun ⟨l, hl, _⟩ => by simp at hl)) hr)

/-- a closure over one own cell: the cell is frozen, and told -/
theorem ACall.clo {f g : Nat} {K : AV → List ABlk → Prop} {a : AV} {l t : Nat} {xs : List AV} (hl : H[l]? = some (.cells t xs))
    (h : ACall P f [a, .fn g [] [.ip xs]] (H.set l (.ice t xs)) K) : ACall P f [a, .fn g [] [.ptr l 0]] H K := by
  refine ACall.ice hl (ACall.see (args' := [a, .fn g [] [.ip xs]]) (.cons (.it _) (.cons (.fn .nil (.cons (Lend.sip (t := t) ?_) .nil)) .nil)) h)
  rw [List.getElem?_set_self (List.getElem?_eq_some_iff.1 hl).1]
end
end Go.Aw

/-
  Aw, part 56: the walk's plain steps as one rule: it carries a state as far as no head has to be chosen.
-/
set_option linter.unusedSimpArgs false
set_option linter.unusedVariables false
namespace Go.Aw
open Go

/-- the plain steps -/
theorem go {Q G : Prop} (h : Q) (i : Q → G := by
    intro h
    conv => whnf
    first | refine AO.cons hT ?_ | refine AO.nil ?_ | refine AW.seq ?_ | refine AW.region ?_ | refine AW.cond ?_ | refine AW.block ?_ | refine AW.loop ?_ | refine AW.skip ?_ | refine AW.exit ?_ | refine AW.ret ?_ | refine AF.one hT rfl ?_ | refine AF.nil ?_ | refine AF.imm hT rfl rfl rfl ?_ | refine AH.of hT rfl ?_
    conv => whnf
    repeat ((first | refine AO.cons hT ?_ | refine AO.nil ?_ | refine AW.seq ?_ | refine AW.region ?_ | refine AW.cond ?_ | refine AW.block ?_ | refine AW.loop ?_ | refine AW.skip ?_ | refine AW.exit ?_ | refine AW.ret ?_ | refine AF.one hT rfl ?_ | refine AF.nil ?_ | refine AF.imm hT rfl rfl rfl ?_ | refine AH.of hT rfl ?_); conv => whnf)
    exact h) : G := i h

/-- the plain steps, and the heads that are closed -/
theorem ru {Q G : Prop} (h : Q) (i : Q → G := by
    intro h
    conv => whnf
    first | refine AO.cons hT ?_ | refine AO.nil ?_ | refine AW.seq ?_ | refine AW.region ?_ | refine AW.cond ?_ | refine AW.block ?_ | refine AW.loop ?_ | refine AW.skip ?_ | refine AW.exit ?_ | refine AW.ret ?_ | refine AF.one hT rfl ?_ | refine AF.nil ?_ | refine AF.imm hT rfl rfl rfl ?_ | refine AH.of hT rfl ?_ | refine ASplit.yes rfl ?_ | refine ACond.yes rfl ?_ | refine ASplit.no rfl ?_ | refine ACond.no rfl ?_ | refine ASplit.yes (by decide) ?_ | refine ACond.yes (by decide) ?_ | refine AReq.mk (by decide) ?_ | refine AIdx.iff.2 ⟨by decide, ?_⟩
    conv => whnf
    repeat ((first | refine AO.cons hT ?_ | refine AO.nil ?_ | refine AW.seq ?_ | refine AW.region ?_ | refine AW.cond ?_ | refine AW.block ?_ | refine AW.loop ?_ | refine AW.skip ?_ | refine AW.exit ?_ | refine AW.ret ?_ | refine AF.one hT rfl ?_ | refine AF.nil ?_ | refine AF.imm hT rfl rfl rfl ?_ | refine AH.of hT rfl ?_ | refine ASplit.yes rfl ?_ | refine ACond.yes rfl ?_ | refine ASplit.no rfl ?_ | refine ACond.no rfl ?_ | refine ASplit.yes (by decide) ?_ | refine ACond.yes (by decide) ?_ | refine AReq.mk (by decide) ?_ | refine AIdx.iff.2 ⟨by decide, ?_⟩); conv => whnf)
    exact h) : G := i h

end Go.Aw

/-
  Aw, part 54: a map as a function: what is told of it, put into it, deleted.
-/
set_option linter.unusedSimpArgs false
set_option linter.unusedVariables false
set_option linter.unusedSectionVars false
namespace Go.Aw
open Go

/-- entries that stand for a function -/
structure MapIs {α β : Type} (ok : α → Prop) (L : List (α × β)) (z : β) (g : α → β) : Prop where
  ok : ∀ p ∈ L, ok p.1
  nd : (L.map (·.1)).Nodup
  no : ∀ a, (∀ p ∈ L, p.1 ≠ a) → g a = z
  yes : ∀ a b, (a, b) ∈ L → g a = b

def upd {α β : Type} [DecidableEq α] (g : α → β) (a : α) (b : β) : α → β := fun x => if x = a then b else g x

section
variable {α β : Type} [DecidableEq α] {ok : α → Prop} {L : List (α × β)} {z : β} {g : α → β}
theorem MapIs.nil : MapIs ok ([] : List (α × β)) z (fun _ => z) := ⟨fun p h => by simp at h, List.nodup_nil, fun _ _ => rfl, fun _ _ h => by simp at h⟩
theorem MapIs.push (h : MapIs ok L z g) {a : α} {b : β} (hok : ok a) (ha : ∀ p ∈ L, p.1 ≠ a) : MapIs ok (L ++ [(a, b)]) z (upd g a b) where
  ok := fun p hp => (List.mem_append.1 hp).elim (h.ok p) (fun hp => by simp only [List.mem_singleton] at hp; subst hp; exact hok)
  nd := by
    rw [List.map_append, List.nodup_append]
    refine ⟨h.nd, by simp, ?_⟩
    intro x hx y hy
    simp only [List.map_cons, List.map_nil, List.mem_singleton] at hy
    obtain ⟨p, hp, rfl⟩ := List.mem_map.1 hx
    rw [hy]; exact ha p hp
  no := fun x hx => by
    have h1 : x ≠ a := fun e => hx (a, b) (by simp) e.symm
    rw [upd, if_neg h1]
    exact h.no x fun p hp => hx p (by simp [hp])
  yes := fun x y hxy => by
    rcases List.mem_append.1 hxy with h1 | h1
    · have : x ≠ a := ha _ h1
      rw [upd, if_neg this]; exact h.yes x y h1
    · simp only [List.mem_singleton, Prod.mk.injEq] at h1
      obtain ⟨rfl, rfl⟩ := h1
      rw [upd, if_pos rfl]
theorem MapIs.set (h : MapIs ok L z g) {a : α} {b b0 : β} {j : Nat} (hj : L[j]? = some (a, b0)) : MapIs ok (L.set j (a, b)) z (upd g a b) where
  ok := fun p hp => (List.mem_or_eq_of_mem_set hp).elim (h.ok p) (fun e => by rw [e]; exact h.ok (a, b0) (List.mem_of_getElem? hj))
  nd := by
    have : (L.set j (a, b)).map (·.1) = L.map (·.1) := by
      rw [List.map_set]
      apply List.ext_getElem?
      intro i
      rw [List.getElem?_set]
      split
      · rename_i e; subst e
        split
        · rw [List.getElem?_map, hj]; rfl
        · rename_i hl; rw [List.getElem?_eq_none (by omega)]
      · rfl
    rw [this]; exact h.nd
  no := fun x hx => by
    obtain ⟨hlt, _⟩ := List.getElem?_eq_some_iff.1 hj
    have h1 : x ≠ a := fun e => hx (a, b) (List.mem_iff_getElem?.2 ⟨j, by rw [List.getElem?_set_self hlt]⟩) e.symm
    rw [upd, if_neg h1]
    refine h.no x fun p hp => ?_
    obtain ⟨i, hi⟩ := List.getElem?_of_mem hp
    by_cases e : j = i
    · subst e; rw [hj] at hi; cases hi; exact fun e => h1 e.symm
    · exact hx p (List.mem_iff_getElem?.2 ⟨i, by rw [List.getElem?_set_ne e]; exact hi⟩)
  yes := fun x y hxy => by
    obtain ⟨hlt, _⟩ := List.getElem?_eq_some_iff.1 hj
    obtain ⟨i, hi⟩ := List.getElem?_of_mem hxy
    by_cases e : j = i
    · subst e
      rw [List.getElem?_set_self hlt] at hi
      cases hi
      rw [upd, if_pos rfl]
    · rw [List.getElem?_set_ne e] at hi
      have h1 : x ≠ a := by
        rintro rfl
        have h2 : (L.map (·.1))[j]? = some x := by rw [List.getElem?_map, hj]; rfl
        have h3 : (L.map (·.1))[i]? = some x := by rw [List.getElem?_map, hi]; rfl
        exact e (nodup_at h.nd h2 h3)
      rw [upd, if_neg h1]
      exact h.yes x y (List.mem_iff_getElem?.2 ⟨i, hi⟩)
theorem MapIs.del (h : MapIs ok L z g) {a : α} {b0 : β} {j : Nat} (hj : L[j]? = some (a, b0)) : MapIs ok (L.eraseIdx j) z (upd g a z) where
  ok := fun p hp => h.ok p ((List.eraseIdx_sublist _ _).subset hp)
  nd := h.nd.sublist ((List.eraseIdx_sublist _ _).map _)
  no := fun x hx => by
    by_cases e : x = a
    · rw [upd, if_pos e]
    · rw [upd, if_neg e]
      refine h.no x fun p hp e2 => ?_
      obtain ⟨i, hi⟩ := List.getElem?_of_mem hp
      have hij : i ≠ j := by rintro rfl; rw [hj] at hi; cases hi; exact e e2.symm
      refine hx p ?_ e2
      rw [List.mem_eraseIdx_iff_getElem?]
      exact ⟨i, hij, hi⟩
  yes := fun x y hxy => by
    rw [List.mem_eraseIdx_iff_getElem?] at hxy
    obtain ⟨i, hij, hi⟩ := hxy
    have h1 : x ≠ a := by
      rintro rfl
      have h2 : (L.map (·.1))[j]? = some x := by rw [List.getElem?_map, hj]; rfl
      have h3 : (L.map (·.1))[i]? = some x := by rw [List.getElem?_map, hi]; rfl
      exact hij (nodup_at h.nd h3 h2)
    rw [upd, if_neg h1]
    exact h.yes x y (List.mem_of_getElem? hi)
theorem MapIs.gone (h : MapIs ok L z g) {a : α} (ha : ∀ p ∈ L, p.1 ≠ a) : MapIs ok L z (upd g a z) where
  ok := h.ok
  nd := h.nd
  no := fun x hx => by
    by_cases e : x = a
    · rw [upd, if_pos e]
    · rw [upd, if_neg e]; exact h.no x hx
  yes := fun x y hxy => by
    rw [upd, if_neg (ha _ hxy)]; exact h.yes x y hxy
end

section
variable {P : Program} {T : Nat → TI} {H : List ABlk} {α β : Type} [DecidableEq α] {kv : α → Value} {ek : α → AV} {ok : α → Prop} {eb : β → AV} {L : List (α × β)} {z : β} {g : α → β} {kt et t : Nat}

theorem AOp.getM {E : List AV} {K : AV → List ABlk → Prop} {mo ko : Operand} {bs : List Nat} {clk : Nat} (l : Nat) (a : α)
    (hT : TOk P T) (hK : KEnc P kt kv ek ok) (ht : P.underlying t = some (.map kt et)) (hne : (T et).u ≠ .other) (hz : (T et).zero = eb z) (hI : MapIs ok L z g) (ha : ok a)
    (hm : ev E mo = .mp l) (hk : ev E ko = ek a) (hH : H[l]? = some (.map (em ek eb L) bs clk)) (k : K (eb (g a)) H) : AOp P (.lookup t mo ko false) E H K :=
  AOp.lookupV (g a) hT hK ht hne hz hm hk hH hI.ok ha (fun h0 => hI.no a h0) (fun j b hj => hI.yes a b (List.mem_of_getElem? hj)) k

theorem AOp.putM {E : List AV} {K : AV → List ABlk → Prop} {mo ko xo : Operand} {bs : List Nat} {clk : Nat} (l : Nat) (a : α) (b' : β)
    (hK : KEnc P kt kv ek ok) (ht : P.underlying t = some (.map kt et)) (hI : MapIs ok L z g) (ha : ok a)
    (hm : ev E mo = .mp l) (hk : ev E ko = ek a) (hx : ev E xo = eb b') (hH : H[l]? = some (.map (em ek eb L) bs clk))
    (k : ∀ L' bs' clk', MapIs ok L' z (upd g a b') → K .any (H.set l (.map (em ek eb L') bs' clk'))) : AOp P (.mapUpdate t mo ko xo) E H K :=
  AOp.mapUpdate hK ht hm hk hx hH hI.ok ha (fun h0 => k _ _ _ (hI.push ha h0)) (fun j b hj => k _ _ _ (hI.set hj))

theorem AOp.delM {E : List AV} {K : AV → List ABlk → Prop} {mo ko : Operand} {bs : List Nat} {clk : Nat} {args : Array Operand} {ts : Array Nat} (l : Nat) (a : α)
    (hK : KEnc P kt kv ek ok) (ht : P.underlying t = some (.map kt et)) (hag : args = #[mo, ko]) (hts : ts = #[t, kt]) (hI : MapIs ok L z g) (ha : ok a)
    (hm : ev E mo = .mp l) (hk : ev E ko = ek a) (hH : H[l]? = some (.map (em ek eb L) bs clk))
    (k : ∀ L' bs' clk', L'.length ≤ L.length → MapIs ok L' z (upd g a z) → K .any (H.set l (.map (em ek eb L') bs' clk'))) : AOp P (.call ⟨.builtin .delete, args, ts⟩) E H K :=
  AOp.delete hK ht hag hts hm hk hH hI.ok ha (fun h0 => by have := k L bs clk (Nat.le_refl _) (hI.gone h0); rwa [set_same hH] at this) (fun j b hj => k _ _ _ (by rw [List.length_eraseIdx]; split <;> omega) (hI.del hj))


theorem AOp.lenM {E : List AV} {K : AV → List ABlk → Prop} {mo : Operand} {es : List (AV × AV)} {bs : List Nat} {clk : Nat} {args : Array Operand} {ts : Array Nat} (l : Nat)
    (ht : P.underlying t = some (.map kt et)) (hag : args = #[mo]) (hts : ts = #[t]) (hm : ev E mo = .mp l) (hH : H[l]? = some (.map es bs clk))
    (k : K (.v (.int .i64 es.length)) H) : AOp P (.call ⟨.builtin .len, args, ts⟩) E H K := by
  subst hag; subst hts
  rw [AOp.iff]
  intro C m I w a' dst type pos after guard Q hs hE
  obtain ⟨b, ents, hb, hnI, hw, hr⟩ := hs.map_at hH
  have em1 := ev_rep (o := mo) hE
  rw [hm] at em1
  have e1 := hs.mp_val hb em1
  have hlen : ents.length = es.length := by have := hr.1.length; simpa using this
  refine wp_val_of (s := Builtin.len_ #[t] type ((#[mo] : Array Operand).map a'.eval)) k (v := .int .i64 es.length) (by simp only [Rep]) hs (.refl _ _ _) ?_ rfl
  rw [show (#[mo] : Array Operand).map a'.eval = #[a'.eval mo] by simp, e1]
  simp [Builtin.len_, run_underlying ht, MapKept.run_getObj_map hw, goInt, hlen]

end
end Go.Aw

