/-
  Part of a general proof tool: abstract values and operations, no condition.
-/
import Derived.Calls
import Derived.Laws.Sem
import Derived.Laws.Cells
import Derived.Laws.World
import Derived.Laws.NewBlocks
import Derived.Laws.CopyRow
import Derived.Laws.Entries
import Derived.Laws.Bits
set_option linter.unusedSimpArgs false
set_option linter.unusedVariables false
/-
  Aw, part 1: abstract values, what they stand for in a world, and that they stay.
-/
namespace Go.Aw
open Go

inductive AV where
  | any
  | v (x : Value)
  | agg (xs : List AV)
  | tup (xs : List AV)
  | vs (sz n : Nat) (xs : List AV)
  | vx (sz n : Nat) (xs : List AV)
  | ip (xs : List AV)
  | ms (sz l off n : Nat)
  | ptr (l off : Nat)
  | pe (l b sz i j : Nat)
  | mp (l : Nat)
  | fn (f : Nat) (fs cs : List AV)

/-- Where the own blocks lie: how many there are, each one's block (none: an empty one that is nil), its cells. -/
structure Mu where
  n : Nat
  blk : Nat → Option Nat
  size : Nat → Nat

mutual
def Rep (w : World) (m : Mu) (I : Nat → Prop) : AV → Value → Prop
  | .any, _ => True
  | .v x, y => y = x
  | .agg xs, y => ∃ ys : List Value, y = .agg ⟨ys⟩ ∧ RepL w m I xs ys ∧ ∀ u ∈ ys, u.oneCell' = true
  | .tup xs, y => ∃ ys : List Value, y = .tuple ⟨ys⟩ ∧ RepL w m I xs ys
  | .vs sz n xs, y => ∃ a cap, y = .slice a n cap ∧ n ≤ cap ∧ xs.length = n * sz ∧
      ((a = none ∧ n = 0 ∧ cap = 0) ∨ ∃ A : Addr, a = some A ∧ (n = 0 ∨ (A.spot = none ∧ I A.block ∧ RepC w m I xs A.block A.off)))
  | .vx sz n xs, y => ∃ a, y = .slice a n n ∧ xs.length = n * sz ∧
      ((a = none ∧ n = 0) ∨ ∃ A : Addr, a = some A ∧ (n = 0 ∨ (A.spot = none ∧ I A.block ∧ RepC w m I xs A.block A.off)))
  | .ip xs, y => ∃ b off, y = .pointer (some ⟨b, off, none⟩) ∧ I b ∧ RepC w m I xs b off
  | .ms sz l off n, y => l < m.n ∧ ((m.blk l = none ∧ n = 0 ∧ off = 0 ∧ y = .slice none 0 0) ∨
      ∃ b cap o, m.blk l = some b ∧ y = .slice (some ⟨b, o, none⟩) n cap ∧ n ≤ cap ∧ off + cap * sz ≤ m.size l ∧ (cap ≠ 0 → o = off))
  | .ptr l off, y => l < m.n ∧ ∃ b, m.blk l = some b ∧ y = .pointer (some ⟨b, off, none⟩)
  | .pe l b0 sz i j, y => l < m.n ∧ ∃ b, m.blk l = some b ∧ y = .pointer (some ⟨b, b0 + i * sz + j, none⟩)
  | .mp l, y => l < m.n ∧ ∃ b, m.blk l = some b ∧ y = .map (some b)
  | .fn f fs cs, y => ∃ us ys : List Value, y = .func (.func f) ⟨us⟩ ⟨ys⟩ ∧ RepL w m I fs us ∧ RepL w m I cs ys
def RepL (w : World) (m : Mu) (I : Nat → Prop) : List AV → List Value → Prop
  | [], ys => ys = []
  | x :: xs, ys => ∃ y zs, ys = y :: zs ∧ Rep w m I x y ∧ RepL w m I xs zs
def RepC (w : World) (m : Mu) (I : Nat → Prop) : List AV → Nat → Nat → Prop
  | [], _, _ => True
  | x :: xs, b, off => (∃ y, w.cell? ⟨b, off, none⟩ = some y ∧ y.oneCell' = true ∧ Rep w m I x y) ∧ RepC w m I xs b (off + 1)
end

/-- What was known stays known. -/
structure Ext (w : World) (m : Mu) (I : Nat → Prop) (w' : World) (m' : Mu) (I' : Nat → Prop) : Prop where
  n : m.n ≤ m'.n
  blk : ∀ l, l < m.n → m'.blk l = m.blk l
  size : ∀ l, l < m.n → m'.size l = m.size l
  imm : ∀ b, I b → I' b
  same : ∀ b, I b → w'.heap[b]? = w.heap[b]?

theorem Ext.refl (w : World) (m : Mu) (I : Nat → Prop) : Ext w m I w m I := ⟨Nat.le_refl _, fun _ _ => rfl, fun _ _ => rfl, fun _ h => h, fun _ _ => rfl⟩

theorem Ext.trans {w m I w' m' I' w'' m'' I''} (h : Ext w m I w' m' I') (h' : Ext w' m' I' w'' m'' I'') : Ext w m I w'' m'' I'' :=
  ⟨Nat.le_trans h.n h'.n, fun l hl => (h'.blk l (Nat.lt_of_lt_of_le hl h.n)).trans (h.blk l hl), fun l hl => (h'.size l (Nat.lt_of_lt_of_le hl h.n)).trans (h.size l hl),
    fun b hb => h'.imm b (h.imm b hb), fun b hb => (h'.same b (h.imm b hb)).trans (h.same b hb)⟩

theorem Ext.cell {w m I w' m' I'} (h : Ext w m I w' m' I') {b off : Nat} (hb : I b) : w'.cell? ⟨b, off, none⟩ = w.cell? ⟨b, off, none⟩ := by
  unfold World.cell?; simp only [h.same b hb]

mutual
theorem Rep.ext {w m I w' m' I'} (h : Ext w m I w' m' I') : ∀ (x : AV) (y : Value), Rep w m I x y → Rep w' m' I' x y
  | .any, _, _ => by simp only [Rep]
  | .v _, _, hr => by simp only [Rep] at hr ⊢; exact hr
  | .agg xs, y, hr => by
    simp only [Rep] at hr ⊢
    obtain ⟨ys, e, hl, h1⟩ := hr
    exact ⟨ys, e, RepL.ext h xs ys hl, h1⟩
  | .tup xs, y, hr => by
    simp only [Rep] at hr ⊢
    obtain ⟨ys, e, hl⟩ := hr
    exact ⟨ys, e, RepL.ext h xs ys hl⟩
  | .vs sz n xs, y, hr => by
    simp only [Rep] at hr ⊢
    obtain ⟨a, cap, e, h1, h2, h3⟩ := hr
    refine ⟨a, cap, e, h1, h2, ?_⟩
    rcases h3 with h3 | ⟨A, ea, h3 | ⟨hs, hi, hc⟩⟩
    · exact .inl h3
    · exact .inr ⟨A, ea, .inl h3⟩
    · exact .inr ⟨A, ea, .inr ⟨hs, h.imm _ hi, RepC.ext h xs _ _ hi hc⟩⟩
  | .vx sz n xs, y, hr => by
    simp only [Rep] at hr ⊢
    obtain ⟨a, e, h2, h3⟩ := hr
    refine ⟨a, e, h2, ?_⟩
    rcases h3 with h3 | ⟨A, ea, h3 | ⟨hs, hi, hc⟩⟩
    · exact .inl h3
    · exact .inr ⟨A, ea, .inl h3⟩
    · exact .inr ⟨A, ea, .inr ⟨hs, h.imm _ hi, RepC.ext h xs _ _ hi hc⟩⟩
  | .ip xs, y, hr => by
    simp only [Rep] at hr ⊢
    obtain ⟨b, off, e, hi, hc⟩ := hr
    exact ⟨b, off, e, h.imm _ hi, RepC.ext h xs _ _ hi hc⟩
  | .ms sz l off n, y, hr => by
    simp only [Rep] at hr ⊢
    obtain ⟨hl, h1⟩ := hr
    rw [h.blk l hl, h.size l hl]
    exact ⟨Nat.lt_of_lt_of_le hl h.n, h1⟩
  | .ptr l off, y, hr => by
    simp only [Rep] at hr ⊢
    obtain ⟨hl, h1⟩ := hr
    rw [h.blk l hl]
    exact ⟨Nat.lt_of_lt_of_le hl h.n, h1⟩
  | .pe l b0 sz i j, y, hr => by
    simp only [Rep] at hr ⊢
    obtain ⟨hl, h1⟩ := hr
    rw [h.blk l hl]
    exact ⟨Nat.lt_of_lt_of_le hl h.n, h1⟩
  | .mp l, y, hr => by
    simp only [Rep] at hr ⊢
    obtain ⟨hl, h1⟩ := hr
    rw [h.blk l hl]
    exact ⟨Nat.lt_of_lt_of_le hl h.n, h1⟩
  | .fn f fs cs, y, hr => by
    simp only [Rep] at hr ⊢
    obtain ⟨us, ys, e, hl0, hl⟩ := hr
    exact ⟨us, ys, e, RepL.ext h fs us hl0, RepL.ext h cs ys hl⟩
theorem RepL.ext {w m I w' m' I'} (h : Ext w m I w' m' I') : ∀ (xs : List AV) (ys : List Value), RepL w m I xs ys → RepL w' m' I' xs ys
  | [], ys, hr => by simp only [RepL] at hr ⊢; exact hr
  | x :: xs, ys, hr => by
    simp only [RepL] at hr ⊢
    obtain ⟨y, zs, e, h1, h2⟩ := hr
    exact ⟨y, zs, e, Rep.ext h x y h1, RepL.ext h xs zs h2⟩
theorem RepC.ext {w m I w' m' I'} (h : Ext w m I w' m' I') : ∀ (xs : List AV) (b off : Nat), I b → RepC w m I xs b off → RepC w' m' I' xs b off
  | [], b, off, _, _ => by simp only [RepC]
  | x :: xs, b, off, hb, hr => by
    simp only [RepC] at hr ⊢
    obtain ⟨⟨y, h1, h2, h3⟩, h4⟩ := hr
    exact ⟨⟨y, (h.cell hb).trans h1, h2, Rep.ext h x y h3⟩, RepC.ext h xs b (off + 1) hb h4⟩
end

section lists
variable {w : World} {m : Mu} {I : Nat → Prop}

theorem RepL.length : ∀ {xs : List AV} {ys : List Value}, RepL w m I xs ys → ys.length = xs.length
  | [], ys, h => by simp only [RepL] at h; subst h; rfl
  | x :: xs, ys, h => by
    simp only [RepL] at h
    obtain ⟨y, zs, rfl, _, h2⟩ := h
    simp [RepL.length h2]

theorem RepL.append : ∀ {xs xs' : List AV} {ys ys' : List Value}, RepL w m I xs ys → RepL w m I xs' ys' → RepL w m I (xs ++ xs') (ys ++ ys')
  | [], xs', ys, ys', h, h' => by simp only [RepL] at h; subst h; exact h'
  | x :: xs, xs', ys, ys', h, h' => by
    simp only [RepL] at h
    obtain ⟨y, zs, rfl, h1, h2⟩ := h
    simp only [List.cons_append, RepL]
    exact ⟨y, zs ++ ys', rfl, h1, RepL.append h2 h'⟩

theorem RepL.split : ∀ {xs xs' : List AV} {ys : List Value}, RepL w m I (xs ++ xs') ys → ∃ y1 y2, ys = y1 ++ y2 ∧ RepL w m I xs y1 ∧ RepL w m I xs' y2
  | [], xs', ys, h => ⟨[], ys, rfl, by simp only [RepL], h⟩
  | x :: xs, xs', ys, h => by
    simp only [List.cons_append, RepL] at h
    obtain ⟨y, zs, rfl, h1, h2⟩ := h
    obtain ⟨y1, y2, rfl, h3, h4⟩ := RepL.split h2
    exact ⟨y :: y1, y2, rfl, by simp only [RepL]; exact ⟨y, y1, rfl, h1, h3⟩, h4⟩

theorem RepL.get : ∀ {xs : List AV} {ys : List Value} {i : Nat} {x : AV}, RepL w m I xs ys → xs[i]? = some x → ∃ y, ys[i]? = some y ∧ Rep w m I x y
  | [], ys, i, x, _, hi => by simp at hi
  | x0 :: xs, ys, i, x, h, hi => by
    simp only [RepL] at h
    obtain ⟨y, zs, rfl, h1, h2⟩ := h
    cases i with
    | zero => simp at hi; subst hi; exact ⟨y, rfl, h1⟩
    | succ i => simp at hi; simpa using RepL.get h2 hi

theorem RepL.set : ∀ {xs : List AV} {ys : List Value} (i : Nat) {x : AV} {y : Value}, RepL w m I xs ys → Rep w m I x y → RepL w m I (xs.set i x) (ys.set i y)
  | [], ys, i, x, y, h, _ => by simp only [RepL] at h; subst h; simp [RepL]
  | x0 :: xs, ys, i, x, y, h, hx => by
    simp only [RepL] at h
    obtain ⟨y0, zs, rfl, h1, h2⟩ := h
    cases i with
    | zero => simp only [List.set_cons_zero, RepL]; exact ⟨y, zs, rfl, hx, h2⟩
    | succ i => simp only [List.set_cons_succ, RepL]; exact ⟨y0, zs.set i y, rfl, h1, RepL.set i h2 hx⟩

theorem RepL.drop : ∀ {xs : List AV} {ys : List Value} (i : Nat), RepL w m I xs ys → RepL w m I (xs.drop i) (ys.drop i)
  | xs, ys, 0, h => by simpa using h
  | [], ys, i + 1, h => by simp only [RepL] at h; subst h; simp [RepL]
  | x0 :: xs, ys, i + 1, h => by
    simp only [RepL] at h
    obtain ⟨y0, zs, rfl, h1, h2⟩ := h
    simpa using RepL.drop i h2

theorem RepL.take : ∀ {xs : List AV} {ys : List Value} (i : Nat), RepL w m I xs ys → RepL w m I (xs.take i) (ys.take i)
  | xs, ys, 0, h => by simp [RepL]
  | [], ys, i + 1, h => by simp only [RepL] at h; subst h; simp [RepL]
  | x0 :: xs, ys, i + 1, h => by
    simp only [RepL] at h
    obtain ⟨y0, zs, rfl, h1, h2⟩ := h
    simp only [List.take_succ_cons, RepL]
    exact ⟨y0, zs.take i, rfl, h1, RepL.take i h2⟩

theorem RepL.any (ys : List Value) : RepL w m I (List.replicate ys.length .any) ys := by
  induction ys with
  | nil => simp [RepL]
  | cons y ys ih => simp only [List.length_cons, List.replicate_succ, RepL]; exact ⟨y, ys, rfl, by simp [Rep], ih⟩

theorem RepC.drop : ∀ {xs : List AV} {b off : Nat} (i : Nat), RepC w m I xs b off → RepC w m I (xs.drop i) b (off + i)
  | xs, b, off, 0, h => by simpa using h
  | [], b, off, i + 1, h => by simp [RepC]
  | x :: xs, b, off, i + 1, h => by
    simp only [RepC] at h
    have := RepC.drop i h.2
    simpa [Nat.add_assoc, Nat.add_comm 1 i] using this

theorem RepC.take : ∀ {xs : List AV} {b off : Nat} (i : Nat), RepC w m I xs b off → RepC w m I (xs.take i) b off
  | xs, b, off, 0, h => by simp [RepC]
  | [], b, off, i + 1, h => by simp [RepC]
  | x :: xs, b, off, i + 1, h => by
    simp only [List.take_succ_cons, RepC] at h ⊢
    exact ⟨h.1, RepC.take i h.2⟩

/-- The cells that lie there. -/
theorem RepC.cells : ∀ {xs : List AV} {b off : Nat}, RepC w m I xs b off → ∃ ys : List Value, RepL w m I xs ys ∧ (∀ u ∈ ys, u.oneCell' = true) ∧ ∀ j u, ys[j]? = some u → w.cell? ⟨b, off + j, none⟩ = some u
  | [], b, off, _ => ⟨[], by simp [RepL], by simp, by simp⟩
  | x :: xs, b, off, h => by
    simp only [RepC] at h
    obtain ⟨⟨y, h1, h2, h3⟩, h4⟩ := h
    obtain ⟨ys, h5, h6, h7⟩ := RepC.cells h4
    refine ⟨y :: ys, by simp only [RepL]; exact ⟨y, ys, rfl, h3, h5⟩, by simp; exact ⟨h2, h6⟩, ?_⟩
    intro j u hj
    cases j with
    | zero => simp at hj; subst hj; simpa using h1
    | succ j =>
      simp at hj
      have := h7 j u hj
      rw [show off + (j + 1) = off + 1 + j by omega]; exact this

theorem RepC.of_cells : ∀ {xs : List AV} {ys : List Value} {b off : Nat}, RepL w m I xs ys → (∀ u ∈ ys, u.oneCell' = true) → (∀ j u, ys[j]? = some u → w.cell? ⟨b, off + j, none⟩ = some u) → RepC w m I xs b off
  | [], ys, b, off, _, _, _ => by simp [RepC]
  | x :: xs, ys, b, off, h, h1, h2 => by
    simp only [RepL] at h
    obtain ⟨y, zs, rfl, h3, h4⟩ := h
    simp only [RepC]
    refine ⟨⟨y, by simpa using h2 0 y rfl, h1 y (by simp), h3⟩, RepC.of_cells h4 (fun u hu => h1 u (by simp [hu])) ?_⟩
    intro j u hj
    have := h2 (j + 1) u (by simpa using hj)
    rw [show off + 1 + j = off + (j + 1) by omega]; exact this
end lists

end Go.Aw

/-
  Aw, part 2: own memory, the world's part of the relation, the table of types.
-/
namespace Go.Aw
open Go

inductive ABlk where
  | dead
  | cells (t : Nat) (xs : List AV)
  | ice (t : Nat) (xs : List AV)
  | map (es : List (AV × AV)) (bs : List Nat) (clock : Nat)
  | iter (lm since : Nat) (seen : List Nat)
  | head (t : Nat) (xs : List AV)
  | obj (R : Obj → Prop)
  | loop (b : Nat) (R : Loop → Prop) (xs : List AV)

def RepP (w : World) (m : Mu) (I : Nat → Prop) (xs : List AV) (ys : List Value) : Prop := ∃ y1 y2, ys = y1 ++ y2 ∧ RepL w m I xs y1

/-- A map's entries, the stamps they bear, its clock. -/
def MapRep (w : World) (m : Mu) (I : Nat → Prop) (es : List (AV × AV)) (bs : List Nat) (clock : Nat) (ents : List MapEntry) : Prop :=
  RepL w m I (es.map (·.1)) (ents.map (·.key)) ∧ RepL w m I (es.map (·.2)) (ents.map (·.val)) ∧ ents.map (·.born) = bs ∧ bs.Nodup ∧ ∀ s ∈ bs, s < clock

/-- No cell of the row is frozen. -/
def Thawed (fr : Nat × Nat) (n : Nat) : Prop := ∀ i, i < n → (decide (fr.1 ≤ i) && decide (i < fr.2)) = false

theorem Thawed.none (n : Nat) : Thawed (0, 0) n := fun i _ => by simp

def BlkRep (w : World) (m : Mu) (I : Nat → Prop) (l : Nat) : ABlk → Prop
  | .dead => True
  | .cells t xs => (m.blk l = none ∧ xs = [] ∧ m.size l = 0) ∨
      ∃ b ys fr, m.blk l = some b ∧ ¬ I b ∧ w.heap[b]? = some (.cells ⟨ys⟩ t fr) ∧ Thawed fr ys.length ∧ ys.length = m.size l ∧ (∀ u ∈ ys, u.oneCell' = true) ∧ RepP w m I xs ys
  | .ice _ xs => (m.blk l = none ∧ xs = []) ∨ ∃ b, m.blk l = some b ∧ I b ∧ RepC w m I xs b 0
  | .map es bs clock => ∃ b ents, m.blk l = some b ∧ ¬ I b ∧ w.heap[b]? = some (.map ⟨ents⟩ clock) ∧ MapRep w m I es bs clock ents
  | .iter lm since seen => lm < m.n ∧ ∃ b, m.blk l = some b ∧ ¬ I b ∧ w.heap[b]? = some (.mapIter (m.blk lm) since ⟨seen⟩ since)
  | .head t xs => ∃ b ys fr, m.blk l = some b ∧ ¬ I b ∧ w.heap[b]? = some (.cells ⟨ys⟩ t fr) ∧ fr.2 ≤ xs.length ∧ ys.length = m.size l ∧ (∀ u ∈ ys, u.oneCell' = true) ∧ RepP w m I xs ys
  | .obj R => ∃ b o, m.blk l = some b ∧ ¬ I b ∧ w.heap[b]? = some o ∧ R o
  | .loop b R xs => m.blk l = some b ∧ ¬ I b ∧ ∃ r, w.heap[b]? = some (.loop r) ∧ R r ∧ RepL w m I xs r.tmps.toList

def ABlk.live : ABlk → Prop
  | .dead => False
  | .ice _ _ => False
  | _ => True

def Live (H : List ABlk) (l : Nat) : Prop := ∃ b, H[l]? = some b ∧ b.live

/-- The call's surroundings: the world as it began, the blocks that were handed in, what may not change, where the locs lay. -/
structure Ctx where
  w0 : World
  O : Nat → Prop
  I0 : Nat → Prop
  m0 : Mu
  o_lt : ∀ b, O b → b < w0.heap.size
  i_lt : ∀ b, I0 b → b < w0.heap.size
  disj : ∀ b, I0 b → ¬ O b
  dfr : List Deferred

structure St (C : Ctx) (m : Mu) (I : Nat → Prop) (H : List ABlk) (w : World) : Prop where
  n : m.n = H.length
  blks : ∀ l b, H[l]? = some b → BlkRep w m I l b
  dist : ∀ l l' x, Live H l → Live H l' → m.blk l = some x → m.blk l' = some x → l = l'
  old : ∀ b, b < C.w0.heap.size → ¬ C.O b → w.heap[b]? = C.w0.heap[b]?
  size : C.w0.heap.size ≤ w.heap.size
  own : ∀ l b, Live H l → m.blk l = some b → C.O b ∨ C.w0.heap.size ≤ b
  imm0 : ∀ b, C.I0 b → I b
  imm : ∀ b, I b → C.I0 b ∨ C.O b ∨ C.w0.heap.size ≤ b
  immlt : ∀ b, I b → b < w.heap.size
  m0n : C.m0.n ≤ m.n
  m0b : ∀ l, l < C.m0.n → m.blk l = C.m0.blk l
  m0s : ∀ l, l < C.m0.n → m.size l = C.m0.size l
  side : w.os = C.w0.os ∧ w.output = C.w0.output

theorem RepP.ext {w m I w' m' I'} (h : Ext w m I w' m' I') {xs : List AV} {ys : List Value} (hr : RepP w m I xs ys) : RepP w' m' I' xs ys :=
  let ⟨y1, y2, e, h1⟩ := hr; ⟨y1, y2, e, RepL.ext h _ _ h1⟩

theorem MapRep.ext {w m I w' m' I'} (h : Ext w m I w' m' I') {es bs clock ents} (hr : MapRep w m I es bs clock ents) : MapRep w' m' I' es bs clock ents :=
  ⟨RepL.ext h _ _ hr.1, RepL.ext h _ _ hr.2.1, hr.2.2⟩

/-- A block that is not written stays what it stands for. -/
theorem BlkRep.ext {w m I w' m' I'} (h : Ext w m I w' m' I') {l : Nat} (hl : l < m.n) {b : ABlk} (hb : ∀ x, m.blk l = some x → b.live → w'.heap[x]? = w.heap[x]? ∧ ¬ I' x) (hr : BlkRep w m I l b) : BlkRep w' m' I' l b := by
  cases b with
  | dead => trivial
  | ice t xs =>
    simp only [BlkRep] at hr ⊢
    rw [h.blk l hl]
    rcases hr with hr | ⟨x, h1, h2, h3⟩
    · exact .inl hr
    · exact .inr ⟨x, h1, h.imm _ h2, RepC.ext h _ _ _ h2 h3⟩
  | cells t xs =>
    simp only [BlkRep] at hr ⊢
    rw [h.blk l hl, h.size l hl]
    rcases hr with hr | ⟨x, ys, fr, h1, h2, h3, h7, h4, h5, h6⟩
    · exact .inl hr
    · obtain ⟨g1, g2⟩ := hb x h1 trivial
      exact .inr ⟨x, ys, fr, h1, g2, g1.trans h3, h7, h4, h5, h6.ext h⟩
  | map es bs clock =>
    simp only [BlkRep] at hr ⊢
    rw [h.blk l hl]
    obtain ⟨x, ents, h1, h2, h3, h4⟩ := hr
    obtain ⟨g1, g2⟩ := hb x h1 trivial
    exact ⟨x, ents, h1, g2, g1.trans h3, h4.ext h⟩
  | iter lm since seen =>
    simp only [BlkRep] at hr ⊢
    obtain ⟨h0, x, h1, h2, h3⟩ := hr
    rw [h.blk l hl, h.blk lm h0]
    obtain ⟨g1, g2⟩ := hb x h1 trivial
    exact ⟨Nat.lt_of_lt_of_le h0 h.n, x, h1, g2, g1.trans h3⟩
  | head t xs =>
    simp only [BlkRep] at hr ⊢
    rw [h.blk l hl, h.size l hl]
    obtain ⟨x, ys, fr, h1, h2, h3, h7, h4, h5, h6⟩ := hr
    obtain ⟨g1, g2⟩ := hb x h1 trivial
    exact ⟨x, ys, fr, h1, g2, g1.trans h3, h7, h4, h5, h6.ext h⟩
  | obj R =>
    simp only [BlkRep] at hr ⊢
    rw [h.blk l hl]
    obtain ⟨x, o, h1, h2, h3, h4⟩ := hr
    obtain ⟨g1, g2⟩ := hb x h1 trivial
    exact ⟨x, o, h1, g2, g1.trans h3, h4⟩
  | loop x R xs =>
    simp only [BlkRep] at hr ⊢
    rw [h.blk l hl]
    obtain ⟨h1, h2, r, h3, h4, h5⟩ := hr
    obtain ⟨g1, g2⟩ := hb x h1 trivial
    exact ⟨h1, g2, r, g1.trans h3, h4, RepL.ext h _ _ h5⟩

theorem BlkRep.lt {w m I l b x} (hr : BlkRep w m I l b) (hl : b.live) (hx : m.blk l = some x) : x < w.heap.size ∧ ¬ I x := by
  cases b with
  | dead => exact hl.elim
  | ice t xs => exact hl.elim
  | cells t xs =>
    simp only [BlkRep] at hr
    rcases hr with ⟨h1, _⟩ | ⟨y, ys, fr, h1, h2, h3, _⟩
    · rw [h1] at hx; cases hx
    · rw [h1] at hx; cases hx
      exact ⟨(Array.getElem?_eq_some_iff.1 h3).1, h2⟩
  | map es bs clock =>
    simp only [BlkRep] at hr
    obtain ⟨y, ents, h1, h2, h3, _⟩ := hr
    rw [h1] at hx; cases hx
    exact ⟨(Array.getElem?_eq_some_iff.1 h3).1, h2⟩
  | iter lm since seen =>
    simp only [BlkRep] at hr
    obtain ⟨_, y, h1, h2, h3⟩ := hr
    rw [h1] at hx; cases hx
    exact ⟨(Array.getElem?_eq_some_iff.1 h3).1, h2⟩
  | head t xs =>
    simp only [BlkRep] at hr
    obtain ⟨y, ys, fr, h1, h2, h3, _⟩ := hr
    rw [h1] at hx; cases hx
    exact ⟨(Array.getElem?_eq_some_iff.1 h3).1, h2⟩
  | obj R =>
    simp only [BlkRep] at hr
    obtain ⟨y, o, h1, h2, h3, _⟩ := hr
    rw [h1] at hx; cases hx
    exact ⟨(Array.getElem?_eq_some_iff.1 h3).1, h2⟩
  | loop y R xs =>
    simp only [BlkRep] at hr
    obtain ⟨h1, h2, r, h3, _⟩ := hr
    rw [h1] at hx; cases hx
    exact ⟨(Array.getElem?_eq_some_iff.1 h3).1, h2⟩

namespace St
variable {C : Ctx} {m : Mu} {I : Nat → Prop} {H : List ABlk} {w : World}

theorem live_lt (h : St C m I H w) {l x : Nat} (hl : Live H l) (hx : m.blk l = some x) : x < w.heap.size ∧ ¬ I x :=
  let ⟨_, hb, hv⟩ := hl; (h.blks l _ hb).lt hv hx

/-- From the call's begin until now. -/
theorem since (h : St C m I H w) : Ext C.w0 C.m0 C.I0 w m I :=
  ⟨h.m0n, h.m0b, h.m0s, h.imm0, fun b hb => h.old b (C.i_lt b hb) (C.disj b hb)⟩

/-- Another world that has the same memory. -/
theorem world (h : St C m I H w) {w' : World} (hw : w'.heap = w.heap) (ho : w'.os = w.os ∧ w'.output = w.output) : St C m I H w' ∧ Ext w m I w' m I := by
  have he : Ext w m I w' m I := ⟨Nat.le_refl _, fun _ _ => rfl, fun _ _ => rfl, fun _ h => h, fun _ _ => by rw [hw]⟩
  refine ⟨⟨h.n, fun l b hb => (h.blks l b hb).ext he (by rw [h.n]; exact (List.getElem?_eq_some_iff.1 hb).1) (fun x hx hv => ⟨by rw [hw], ((h.blks l b hb).lt hv hx).2⟩), h.dist, ?_, ?_, h.own, h.imm0, h.imm, ?_, h.m0n, h.m0b, h.m0s, ho.1.trans h.side.1, ho.2.trans h.side.2⟩, he⟩
  · intro b h1 h2; rw [hw]; exact h.old b h1 h2
  · rw [hw]; exact h.size
  · intro b hb; rw [hw]; exact h.immlt b hb
end St

/-- One loc more. -/
def Mu.push (m : Mu) (b : Option Nat) (s : Nat) : Mu :=
  { n := m.n + 1, blk := fun l => if l = m.n then b else m.blk l, size := fun l => if l = m.n then s else m.size l }

theorem Mu.push_old {m : Mu} {b : Option Nat} {s l : Nat} (h : l < m.n) : (m.push b s).blk l = m.blk l ∧ (m.push b s).size l = m.size l := by
  have : l ≠ m.n := by omega
  simp [Mu.push, this]

theorem Mu.push_new {m : Mu} {b : Option Nat} {s : Nat} : (m.push b s).blk m.n = b ∧ (m.push b s).size m.n = s := by simp [Mu.push]

theorem getElem?_push_lt {H : List ABlk} {B b : ABlk} {l : Nat} (h : (H ++ [B])[l]? = some b) : (l < H.length ∧ H[l]? = some b) ∨ (l = H.length ∧ b = B) := by
  rw [List.getElem?_append] at h
  split at h
  · exact .inl ⟨by assumption, h⟩
  · rename_i hl
    right
    by_cases hz : l - H.length = 0
    · simp [hz] at h; exact ⟨by omega, h.symm⟩
    · rw [List.getElem?_eq_none (by simp; omega)] at h; cases h

/-- A new loc, whose block is a new one or none; the world has perhaps grown by that block. -/
theorem St.push {C m I H w} (h : St C m I H w) {w' : World} {bo : Option Nat} {s : Nat} {B : ABlk}
    (hsz : w.heap.size ≤ w'.heap.size) (ho : w'.os = w.os ∧ w'.output = w.output) (hold : ∀ b, b < w.heap.size → w'.heap[b]? = w.heap[b]?) (hb : ∀ b, bo = some b → w.heap.size ≤ b)
    (hB : Ext w m I w' (m.push bo s) I → BlkRep w' (m.push bo s) I m.n B) : St C (m.push bo s) I (H ++ [B]) w' ∧ Ext w m I w' (m.push bo s) I := by
  have he : Ext w m I w' (m.push bo s) I := ⟨by simp [Mu.push], fun l hl => (Mu.push_old hl).1, fun l hl => (Mu.push_old hl).2, fun _ h => h, fun b hb => hold b (h.immlt b hb)⟩
  have hlive : ∀ l, Live (H ++ [B]) l → (l < m.n ∧ Live H l) ∨ l = m.n := by
    intro l hl
    obtain ⟨b, h1, h2⟩ := hl
    rcases getElem?_push_lt h1 with ⟨h3, h4⟩ | ⟨h3, _⟩
    · exact .inl ⟨by rw [h.n]; exact h3, b, h4, h2⟩
    · exact .inr (by rw [h.n]; exact h3)
  refine ⟨⟨by simp [Mu.push, h.n], ?_, ?_, ?_, Nat.le_trans h.size hsz, ?_, h.imm0, h.imm, fun b hb => Nat.lt_of_lt_of_le (h.immlt b hb) hsz, Nat.le_trans h.m0n (by simp [Mu.push]), ?_, ?_, ho.1.trans h.side.1, ho.2.trans h.side.2⟩, he⟩
  · intro l b hlb
    rcases getElem?_push_lt hlb with ⟨h3, h4⟩ | ⟨h3, rfl⟩
    · have h3' : l < m.n := by rw [h.n]; exact h3
      refine (h.blks l b h4).ext he h3' (fun x hx hv => ?_)
      have := (h.blks l b h4).lt hv hx
      exact ⟨hold x this.1, this.2⟩
    · rw [h3, ← h.n]; exact hB he
  · intro l l' x hl hl' hx hx'
    rcases hlive l hl with ⟨h1, h2⟩ | h1 <;> rcases hlive l' hl' with ⟨h3, h4⟩ | h3
    · rw [(Mu.push_old h1).1] at hx; rw [(Mu.push_old h3).1] at hx'; exact h.dist l l' x h2 h4 hx hx'
    · rw [(Mu.push_old h1).1] at hx; rw [h3, Mu.push_new.1] at hx'
      have := (h.live_lt h2 hx).1; have := hb x hx'; omega
    · rw [(Mu.push_old h3).1] at hx'; rw [h1, Mu.push_new.1] at hx
      have := (h.live_lt h4 hx').1; have := hb x hx; omega
    · omega
  · intro b h1 h2; rw [hold b (Nat.lt_of_lt_of_le h1 h.size)]; exact h.old b h1 h2
  · intro l b hl hlb
    rcases hlive l hl with ⟨h1, h2⟩ | h1
    · rw [(Mu.push_old h1).1] at hlb; exact h.own l b h2 hlb
    · rw [h1, Mu.push_new.1] at hlb; exact .inr (Nat.le_trans h.size (hb b hlb))
  · intro l hl; have := h.m0n; rw [(Mu.push_old (by omega)).1]; exact h.m0b l hl
  · intro l hl; have := h.m0n; rw [(Mu.push_old (by omega)).2]; exact h.m0s l hl

/-- A new block of cells. -/
theorem St.alloc {C m I H w} (h : St C m I H w) {t : Nat} {xs : List AV} {ys : List Value} (hr : RepP w m I xs ys) (h1 : ∀ u ∈ ys, u.oneCell' = true) :
    St C (m.push (some w.heap.size) ys.length) I (H ++ [.cells t xs]) (w.alloc (.cells ⟨ys⟩ t)) ∧ Ext w m I (w.alloc (.cells ⟨ys⟩ t)) (m.push (some w.heap.size) ys.length) I := by
  refine h.push (by simp) ⟨rfl, rfl⟩ (fun b hb => by show (w.heap.push _)[b]? = _; rw [Array.getElem?_push, if_neg (Nat.ne_of_lt hb)]) (fun b hb => by cases hb; exact Nat.le_refl _) (fun he => ?_)
  simp only [BlkRep, Mu.push_new.1, Mu.push_new.2]
  refine .inr ⟨w.heap.size, ys, (0, 0), rfl, fun hi => ?_, (by show (w.heap.push _)[w.heap.size]? = _; rw [Array.getElem?_push, if_pos rfl]), .none _, rfl, h1, hr.ext he⟩
  have := h.immlt _ hi; omega

/-- One loc's contents are others, in its block. -/
theorem St.put {C m I H w} (h : St C m I H w) {w' : World} {l : Nat} {B B' : ABlk} (hl : H[l]? = some B) (hv : B.live)
    (hsz : w'.heap.size = w.heap.size) (ho : w'.os = w.os ∧ w'.output = w.output) (hoth : ∀ b, m.blk l ≠ some b → w'.heap[b]? = w.heap[b]?)
    (hB : Ext w m I w' m I → BlkRep w' m I l B') : St C m I (H.set l B') w' ∧ Ext w m I w' m I := by
  have hlt : l < H.length := (List.getElem?_eq_some_iff.1 hl).1
  have he : Ext w m I w' m I := ⟨Nat.le_refl _, fun _ _ => rfl, fun _ _ => rfl, fun _ h => h, fun b hb => hoth b (fun hx => ((h.blks l B hl).lt hv hx).2 hb)⟩
  have hlive : ∀ k, Live (H.set l B') k → Live H k := by
    intro k hk
    obtain ⟨b, h1, h2⟩ := hk
    by_cases e : l = k
    · subst e; exact ⟨B, hl, hv⟩
    · rw [List.getElem?_set_ne e] at h1; exact ⟨b, h1, h2⟩
  refine ⟨⟨by simp [h.n], ?_, fun a b x h1 h2 => h.dist a b x (hlive a h1) (hlive b h2), ?_, by rw [hsz]; exact h.size, fun a b h1 => h.own a b (hlive a h1), h.imm0, h.imm, fun b hb => by rw [hsz]; exact h.immlt b hb, h.m0n, h.m0b, h.m0s, ho.1.trans h.side.1, ho.2.trans h.side.2⟩, he⟩
  · intro k b hk
    by_cases e : l = k
    · subst e
      rw [List.getElem?_set_self hlt] at hk
      cases hk; exact hB he
    · rw [List.getElem?_set_ne e] at hk
      have hkm : k < m.n := by rw [h.n]; exact (List.getElem?_eq_some_iff.1 hk).1
      refine (h.blks k b hk).ext he hkm (fun x hx hvk => ⟨hoth x (fun hlx => ?_), ((h.blks k b hk).lt hvk hx).2⟩)
      exact e (h.dist l k x ⟨B, hl, hv⟩ ⟨b, hk, hvk⟩ hlx hx)
  · intro b h1 h2
    by_cases e : m.blk l = some b
    · rcases h.own l b ⟨B, hl, hv⟩ e with h3 | h3
      · exact absurd h3 h2
      · omega
    · rw [hoth b e]; exact h.old b h1 h2

/-- A loc is given up. -/
theorem St.kill {C m I H w} (h : St C m I H w) (l : Nat) : St C m I (H.set l .dead) w := by
  have hlive : ∀ k, Live (H.set l .dead) k → Live H k := by
    intro k hk
    obtain ⟨b, h1, h2⟩ := hk
    by_cases e : l = k
    · subst e
      by_cases hlt : l < H.length
      · rw [List.getElem?_set_self hlt] at h1; cases h1; exact h2.elim
      · rw [List.getElem?_eq_none (by simp; omega)] at h1; cases h1
    · rw [List.getElem?_set_ne e] at h1; exact ⟨b, h1, h2⟩
  refine ⟨by simp [h.n], ?_, fun a b x h1 h2 => h.dist a b x (hlive a h1) (hlive b h2), h.old, h.size, fun a b h1 => h.own a b (hlive a h1), h.imm0, h.imm, h.immlt, h.m0n, h.m0b, h.m0s, h.side⟩
  intro k b hk
  by_cases e : l = k
  · subst e
    by_cases hlt : l < H.length
    · rw [List.getElem?_set_self hlt] at hk; cases hk; trivial
    · rw [List.getElem?_eq_none (by simp; omega)] at hk; cases hk
  · rw [List.getElem?_set_ne e] at hk; exact h.blks k b hk

/-- overwrites cells from a place on -/
def spl (xs : List AV) (o : Nat) (ys : List AV) : List AV := xs.take o ++ ys ++ xs.drop (o + ys.length)

theorem splice_rep {w m I} {xs vs : List AV} {ys us : List Value} {o : Nat} (h : RepP w m I xs ys) (h' : RepL w m I vs us) (hl : o + vs.length ≤ xs.length) :
    RepP w m I (spl xs o vs) (ys.take o ++ us ++ ys.drop (o + us.length)) := by
  obtain ⟨y1, y2, rfl, h1⟩ := h
  have e1 := h1.length
  have e2 := h'.length
  refine ⟨y1.take o ++ us ++ y1.drop (o + us.length), y2, ?_, ?_⟩
  · rw [List.take_append_of_le_length (by omega), List.drop_append_of_le_length (by omega)]
    simp [List.append_assoc]
  · unfold spl
    have := RepL.append (RepL.append (h1.take o) h') (h1.drop (o + us.length))
    rw [e2] at this ⊢
    exact this

theorem run_storeThawed (P : Program) (g o : Nat) (t : TypeId) (fr : Nat × Nat) : ∀ (vs : List Value) (i : Nat) (cur : Array Value) (w : World), w.heap[g]? = some (.cells cur t fr) → Thawed fr cur.size → o + i + vs.length ≤ cur.size → (∀ v ∈ vs, v.oneCell' = true) →
    (storeCells ⟨g, o, none⟩ vs i).run P w = .ok () (w.setRow g (cur.toList.take (o + i) ++ vs ++ cur.toList.drop (o + i + vs.length)).toArray)
  | [], i, cur, w, hg, _, _, _ => by
    simp only [storeCells, List.append_nil, List.length_nil, Nat.add_zero, List.take_append_drop, Array.toArray_toList]
    rw [setRow_self w g cur t fr hg]
    rfl
  | v :: rest, i, cur, w, hg, hth, hl, h1 => by
    have hi : o + i < cur.size := by simp at hl; omega
    have hadd : (⟨g, o, none⟩ : Addr).add i = ⟨g, o + i, none⟩ := by unfold Addr.add; split <;> simp_all
    have hcell : w.cell? ⟨g, o + i, none⟩ = some cur[o + i] := by simp [World.cell?, hg, hi]
    have hfro : w.frozen? ⟨g, o + i, none⟩ = false := by simp only [World.frozen?, hg]; exact hth (o + i) hi
    have hst : (store ((⟨g, o, none⟩ : Addr).add i) v).run P w = .ok () (w.setRow g (cur.setIfInBounds (o + i) v)) := by
      rw [hadd, run_store P w _ v _ (h1 v (by simp)), hcell]
      simp [hfro, setCell_eq_setRow w g (o + i) cur t fr v hg]
    have ih := run_storeThawed P g o t fr rest (i + 1) (cur.setIfInBounds (o + i) v) (w.setRow g (cur.setIfInBounds (o + i) v)) (setRow_heap w g cur _ t _ hg) (by simpa using hth) (by simp at hl ⊢; omega) (fun x hx => h1 x (by simp [hx]))
    simp only [storeCells, Sem.run_bind, hst, Result.andThen_ok, ih, setRow_setRow]
    congr 3
    have e := list_seg_step cur.toList (o + i) v rest (by simp at hl ⊢; omega)
    simpa [Array.toList_setIfInBounds, Nat.add_assoc] using e

/-- Cells are written in a loc's block (within the block, perhaps behind what is told of it). -/
theorem St.store {C m I H w} (P : Program) (h : St C m I H w) {l o : Nat} {t : Nat} {xs xs' : List AV} {us : List Value} {b : Nat} (hl : H[l]? = some (.cells t xs)) (hb : m.blk l = some b)
    (h1 : ∀ u ∈ us, u.oneCell' = true) (hfit : o + us.length ≤ m.size l)
    (hr : ∀ (w' : World) ys, Ext w m I w' m I → RepP w' m I xs ys → RepP w' m I xs' (ys.take o ++ us ++ ys.drop (o + us.length))) :
    ∃ w', (storeCells ⟨b, o, none⟩ us 0).run P w = .ok () w' ∧ St C m I (H.set l (.cells t xs')) w' ∧ Ext w m I w' m I := by
  have hB := h.blks l _ hl
  simp only [BlkRep] at hB
  rcases hB with ⟨h2, _⟩ | ⟨b', ys, fr, h2, h3, h4, h8, h5, h6, h7⟩
  · rw [h2] at hb; cases hb
  · rw [hb] at h2; cases h2
    have hst := run_storeThawed P b o t fr us 0 ⟨ys⟩ w h4 (by simpa using h8) (by simp; omega) h1
    simp only [Nat.add_zero] at hst
    refine ⟨_, hst, ?_⟩
    refine h.put hl trivial (by simp) ⟨rfl, rfl⟩ (fun b' hb' => setRow_other w b b' _ (fun e => hb' (by rw [e]; exact hb))) (fun he => ?_)
    simp only [BlkRep]
    have hlen : (ys.take o ++ us ++ ys.drop (o + us.length)).length = ys.length := by simp; omega
    refine .inr ⟨b, ys.take o ++ us ++ ys.drop (o + us.length), fr, hb, h3, ?_, by rw [hlen]; exact h8, by rw [hlen]; exact h5, ?_, hr _ ys he (h7.ext he)⟩
    · rw [setRow_heap w b _ _ t _ h4]
    · intro u hu
      simp only [List.mem_append] at hu
      rcases hu with (hu | hu) | hu
      · exact h6 u (List.mem_of_mem_take hu)
      · exact h1 u hu
      · exact h6 u (List.mem_of_mem_drop hu)

theorem St.splice {C m I H w} (P : Program) (h : St C m I H w) {l o : Nat} {t : Nat} {xs vs : List AV} {us : List Value} {b : Nat} (hl : H[l]? = some (.cells t xs)) (hb : m.blk l = some b)
    (hr : RepL w m I vs us) (h1 : ∀ u ∈ us, u.oneCell' = true) (hfit : o + vs.length ≤ xs.length) :
    ∃ w', (storeCells ⟨b, o, none⟩ us 0).run P w = .ok () w' ∧ St C m I (H.set l (.cells t (spl xs o vs))) w' ∧ Ext w m I w' m I := by
  have hB := h.blks l _ hl
  simp only [BlkRep] at hB
  rcases hB with ⟨h2, _⟩ | ⟨b', ys, fr, h2, h3, h4, h8, h5, h6, y1, y2, e, h7⟩
  · rw [h2] at hb; cases hb
  · have e1 := h7.length
    have e2 := hr.length
    refine h.store P hl hb h1 (by rw [← h5, e]; simp; omega) (fun w' ys he h9 => splice_rep h9 (RepL.ext he _ _ hr) hfit)

/-! ### the table of types -/
inductive UD where
  | int (k : IntKind)
  | bool
  | str
  | slice (e : Nat)
  | arr (n e : Nat)
  | struct (fs : List (Nat × Bool × Nat))
  | map (k e : Nat)
  | ptr (e : Nat)
  | fn
  | other

structure TI where
  u : UD
  size : Nat
  bytes : Nat
  zero : AV

mutual
def zok : AV → Value → Bool
  | .v (.int k n), .int k' n' => k == k' && n == n'
  | .v (.bool b), .bool b' => b == b'
  | .v (.string s), .string s' => s.data.toList == s'.data.toList
  | .v (.slice none 0 0), .slice none 0 0 => true
  | .v (.pointer none), .pointer none => true
  | .v (.map none), .map none => true
  | .v .nilFunc, .nilFunc => true
  | .v .nilIface, .nilIface => true
  | .agg xs, .agg ys => zokL xs ys.toList && ys.toList.all Value.oneCell'
  | _, _ => false
def zokL : List AV → List Value → Bool
  | [], [] => true
  | x :: xs, y :: ys => zok x y && zokL xs ys
  | _, _ => false
end

mutual
theorem zok_rep (w : World) (m : Mu) (I : Nat → Prop) : ∀ (x : AV) (y : Value), zok x y = true → Rep w m I x y
  | .v (.int k n), .int k' n', h => by
    simp only [zok, Bool.and_eq_true, beq_iff_eq] at h
    simp only [Rep]; rw [h.1, h.2]
  | .v (.bool b), .bool b', h => by
    simp only [zok, beq_iff_eq] at h
    simp only [Rep]; rw [h]
  | .v (.string s), .string s', h => by
    simp only [zok, beq_iff_eq] at h
    simp only [Rep]
    congr 1
    cases s; cases s'; simp at h ⊢
    exact h.symm
  | .v (.slice none 0 0), .slice none 0 0, _ => by simp only [Rep]
  | .v (.pointer none), .pointer none, _ => by simp only [Rep]
  | .v (.map none), .map none, _ => by simp only [Rep]
  | .v .nilFunc, .nilFunc, _ => by simp only [Rep]
  | .v .nilIface, .nilIface, _ => by simp only [Rep]
  | .agg xs, .agg ys, h => by
    simp only [zok, Bool.and_eq_true] at h
    simp only [Rep]
    exact ⟨ys.toList, rfl, zokL_rep w m I xs ys.toList h.1, fun u hu => List.all_eq_true.1 h.2 u hu⟩
theorem zokL_rep (w : World) (m : Mu) (I : Nat → Prop) : ∀ (xs : List AV) (ys : List Value), zokL xs ys = true → RepL w m I xs ys
  | [], [], _ => by simp only [RepL]
  | x :: xs, y :: ys, h => by
    simp only [zokL, Bool.and_eq_true] at h
    simp only [RepL]
    exact ⟨y, ys, rfl, zok_rep w m I x y h.1, zokL_rep w m I xs ys h.2⟩
end

def udOk (P : Program) : UD → TypeDesc → Bool
  | .int k, .int k' => k == k'
  | .bool, .bool => true
  | .str, .string => true
  | .slice e, .slice e' => e == e'
  | .arr n e, .array n' e' => n == n' && e == e'
  | .struct fs, .struct gs => fs.length == gs.size && (fs.zip gs.toList).all fun (f, g) => f.1 == g.offset && f.2.2 == P.cellsOf g.type && f.2.2 != 0 && (P.info? g.type).isSome && (match P.underlying g.type with | some (.struct _) => f.2.1 == true | some (.array _ _) => f.2.1 == true | some _ => f.2.1 == false && f.2.2 == 1 | none => false)
  | .map k e, .map k' e' => k == k' && e == e'
  | .ptr e, .pointer e' => e == e'
  | .fn, .func _ _ _ => true
  | _, _ => false

def tiOk (P : Program) (t : Nat) (ti : TI) : Bool :=
  match ti.u with
  | .other => true
  | u => match P.underlying t, P.info? t with
    | some d, some i => udOk P u d && i.size == ti.size && i.bytes == ti.bytes && (match i.zero with | some z => zok ti.zero z && z.cells.size == ti.size | none => false)
    | _, _ => false

def tyNone : TI := ⟨.other, 0, 0, .any⟩
def tab : List (Nat × TI) → Nat → TI
  | [], _ => tyNone
  | (k, ti) :: r, t => match Nat.beq k t with
    | true => ti
    | false => tab r t
def tabOk (P : Program) (l : List (Nat × TI)) : Bool := l.all fun (t, ti) => tiOk P t ti

def TOk (P : Program) (T : Nat → TI) : Prop := ∀ t, tiOk P t (T t) = true

theorem tok_of (P : Program) (l : List (Nat × TI)) (h : tabOk P l = true) : TOk P (tab l) := by
  intro t
  induction l with
  | nil => rfl
  | cons x l ih =>
    obtain ⟨k, ti⟩ := x
    simp only [tabOk, List.all_cons, Bool.and_eq_true] at h
    unfold tab
    cases e : Nat.beq k t with
    | true => rw [← Nat.eq_of_beq_eq_true e]; exact h.1
    | false => exact ih h.2

theorem TOk.info {P T} (h : TOk P T) {t : Nat} {u : UD} (hu : (T t).u = u) (hne : u ≠ .other) :
    ∃ d i z, P.underlying t = some d ∧ P.info? t = some i ∧ udOk P u d = true ∧ i.size = (T t).size ∧ i.bytes = (T t).bytes ∧ i.zero = some z ∧ zok (T t).zero z = true ∧ z.cells.size = (T t).size := by
  have h1 := h t
  unfold tiOk at h1
  rw [hu] at h1
  cases u with
  | other => exact absurd rfl hne
  | _ =>
    simp only at h1
    split at h1
    · rename_i d i hd hi
      simp only [Bool.and_eq_true, beq_iff_eq] at h1
      obtain ⟨⟨⟨h2, h3⟩, h4⟩, h5⟩ := h1
      cases hz : i.zero with
      | none => rw [hz] at h5; cases h5
      | some z =>
        rw [hz] at h5
        simp only [Bool.and_eq_true, beq_iff_eq] at h5
        exact ⟨d, i, z, hd, hi, h2, h3, h4, hz, h5.1, h5.2⟩
    · cases h1

end Go.Aw

/-
  Aw, part 3: operations on abstract values, and that the model's do as they say.
-/
namespace Go.Aw
open Go

/-! ### small functions, each handing on what it made -/
def lk : List AV → Nat → AV
  | [], _ => .any
  | x :: _, 0 => x
  | _ :: xs, n + 1 => lk xs n

def ifK (b : Bool) (K : Prop) : Prop :=
  match b with
  | true => K
  | false => False

theorem ifK_iff {b : Bool} {K : Prop} : ifK b K ↔ b = true ∧ K := by cases b <;> simp [ifK]

def fv (x : AV) (K : AV → Prop) : Prop :=
  match x with
  | .any => K .any
  | .v x => K (.v x)
  | .agg xs => K (.agg xs)
  | .tup xs => K (.tup xs)
  | .vs a b c => K (.vs a b c)
  | .vx a b c => K (.vx a b c)
  | .ip a => K (.ip a)
  | .ms a b c d => K (.ms a b c d)
  | .ptr a b => K (.ptr a b)
  | .pe a b c d e => K (.pe a b c d e)
  | .mp a => K (.mp a)
  | .fn a b c => K (.fn a b c)

theorem fv_eq (x : AV) (K : AV → Prop) : fv x K = K x := by cases x <;> rfl

def evK (env : List AV) (o : Operand) (K : AV → Prop) : Prop :=
  match o with
  | .tmp t => fv (lk env t) K
  | .const v => K (.v v)
  | .global _ => False
  | .func f => K (.fn f [] [])

def evsK (env : List AV) : List Operand → (List AV → Prop) → Prop
  | [], K => K []
  | o :: os, K => evK env o fun x => evsK env os fun xs => K (x :: xs)

def evoK (env : List AV) : Option Operand → (Option AV → Prop) → Prop
  | none, K => K none
  | some o, K => evK env o fun x => K (some x)

def setK : List AV → Nat → AV → (List AV → Prop) → Prop
  | [], _, _, K => K []
  | _ :: xs, 0, v, K => K (v :: xs)
  | x :: xs, n + 1, v, K => setK xs n v fun xs' => K (x :: xs')

def putK (env : List AV) (d : Option Nat) (v : AV) (K : List AV → Prop) : Prop :=
  match d with
  | none => K env
  | some d => setK env d v K

def cutK : List AV → Nat → (List AV → Prop) → Prop
  | _, 0, K => K []
  | [], _ + 1, _ => False
  | x :: xs, n + 1, K => fv x fun x => cutK xs n fun r => K (x :: r)

def drp (xs : List AV) (n : Nat) : List AV :=
  match n with
  | 0 => xs
  | n + 1 => match xs with
    | [] => []
    | _ :: xs => drp xs n
termination_by structural n

/-- is it just that long? -/
def lenK : List AV → Nat → Prop → Prop
  | [], 0, K => K
  | _ :: xs, n + 1, K => lenK xs n K
  | _, _, _ => False

/-- overwrites what is there, from place o on, with its spine built -/
def splK : List AV → Nat → List AV → (List AV → Prop) → Prop
  | xs, 0, [], K => K xs
  | [], 0, _ :: _, _ => False
  | _ :: xs, 0, y :: ys, K => splK xs 0 ys fun r => K (y :: r)
  | [], _ + 1, _, _ => False
  | x :: xs, o + 1, ys, K => splK xs o ys fun r => K (x :: r)

def blkK (H : List ABlk) (l : Nat) (K : ABlk → Prop) : Prop :=
  match H with
  | [] => False
  | b :: H => match l with
    | 0 => K b
    | n + 1 => blkK H n K

def setH (H : List ABlk) (l : Nat) (b : ABlk) (K : List ABlk → Prop) : Prop :=
  match H with
  | [] => False
  | c :: H => match l with
    | 0 => K (b :: H)
    | n + 1 => setH H n b fun H => K (c :: H)

def appK (H : List ABlk) (b : ABlk) (n : Nat) (K : Nat → List ABlk → Prop) : Prop :=
  match H with
  | [] => K n [b]
  | c :: H => appK H b (n + 1) fun l H => K l (c :: H)

def addK (a b : Nat) (K : Nat → Prop) : Prop :=
  match b with
  | 0 => K a
  | b + 1 => match a with
    | 0 => K (b + 1)
    | a + 1 => K (a + 1 + (b + 1))

def cellsK (a : AV) (K : List AV → Prop) : Prop :=
  match a with
  | .any => False
  | .tup _ => False
  | .agg xs => K xs
  | .v y => match y with
    | .agg _ => False
    | .tuple _ => False
    | y => K [.v y]
  | x => K [x]

def isAggU : UD → Bool
  | .struct _ => true
  | .arr _ _ => true
  | _ => false

/-! ### what stays to be shown by hand -/
@[irreducible] def ACond (t : Bool) (X Y : Prop) : Prop := if t then X else Y
theorem ACond.iff {t : Bool} {X Y : Prop} : ACond t X Y ↔ if t then X else Y := by unfold ACond; exact Iff.rfl
theorem ACond.mk {t : Bool} {X Y : Prop} (h1 : t = true → X) (h0 : t = false → Y) : ACond t X Y := by
  unfold ACond; cases t with
  | true => exact h1 rfl
  | false => exact h0 rfl
theorem ACond.yes {t : Bool} {X Y : Prop} (h : t = true) (k : X) : ACond t X Y := by unfold ACond; rw [h]; exact k
theorem ACond.no {t : Bool} {X Y : Prop} (h : t = false) (k : Y) : ACond t X Y := by unfold ACond; rw [h]; exact k
theorem ACond.dec {p : Prop} [Decidable p] {X Y : Prop} (h1 : p → X) (h0 : ¬ p → Y) : ACond (decide p) X Y := ACond.mk (fun h => h1 (of_decide_eq_true h)) (fun h => h0 (of_decide_eq_false h))
theorem ACond.ndec {p : Prop} [Decidable p] {X Y : Prop} (h1 : ¬ p → X) (h0 : p → Y) : ACond (!decide p) X Y :=
  ACond.mk (fun h => h1 (by simpa using h)) (fun h => h0 (by simpa using h))

@[irreducible] def ASplit (t : Bool) (K : Bool → Prop) : Prop := K t
theorem ASplit.iff {t : Bool} {K : Bool → Prop} : ASplit t K ↔ K t := by unfold ASplit; exact Iff.rfl
theorem ASplit.mk {t : Bool} {K : Bool → Prop} (h1 : t = true → K true) (h0 : t = false → K false) : ASplit t K := by
  unfold ASplit; cases t with
  | true => exact h1 rfl
  | false => exact h0 rfl
theorem ASplit.yes {t : Bool} {K : Bool → Prop} (h : t = true) (k : K true) : ASplit t K := by unfold ASplit; rw [h]; exact k
theorem ASplit.no {t : Bool} {K : Bool → Prop} (h : t = false) (k : K false) : ASplit t K := by unfold ASplit; rw [h]; exact k
theorem ASplit.dec {p : Prop} [Decidable p] {K : Bool → Prop} (h1 : p → K true) (h0 : ¬ p → K false) : ASplit (decide p) K := ASplit.mk (fun h => h1 (of_decide_eq_true h)) (fun h => h0 (of_decide_eq_false h))
theorem ASplit.ndec {p : Prop} [Decidable p] {K : Bool → Prop} (h1 : ¬ p → K true) (h0 : p → K false) : ASplit (!decide p) K :=
  ASplit.mk (fun h => h1 (by simpa using h)) (fun h => h0 (by simpa using h))

@[irreducible] def AReq (p K : Prop) : Prop := p ∧ K
theorem AReq.iff {p K : Prop} : AReq p K ↔ p ∧ K := by unfold AReq; exact Iff.rfl
theorem AReq.mk {p K : Prop} (h : p) (k : K) : AReq p K := by unfold AReq; exact ⟨h, k⟩

/-- the cells of element i -/
@[irreducible] def AIdx (xs : List AV) (sz i : Nat) (K : List AV → Prop) : Prop := i * sz + sz ≤ xs.length ∧ K ((xs.drop (i * sz)).take sz)
theorem AIdx.iff {xs : List AV} {sz i : Nat} {K : List AV → Prop} : AIdx xs sz i K ↔ i * sz + sz ≤ xs.length ∧ K ((xs.drop (i * sz)).take sz) := by unfold AIdx; exact Iff.rfl

/-- a part of the cells -/
@[irreducible] def ACut (xs : List AV) (o n : Nat) (K : List AV → Prop) : Prop := o + n ≤ xs.length ∧ K ((xs.drop o).take n)
theorem ACut.iff {xs : List AV} {o n : Nat} {K : List AV → Prop} : ACut xs o n K ↔ o + n ≤ xs.length ∧ K ((xs.drop o).take n) := by unfold ACut; exact Iff.rfl
theorem ACut.all {xs : List AV} {n : Nat} {K : List AV → Prop} (h : xs.length = n) (k : K xs) : ACut xs 0 n K := by
  rw [ACut.iff]; subst h; simpa using k

/-- cells are overwritten -/
@[irreducible] def AUpd (xs : List AV) (o : Nat) (cs : List AV) (K : List AV → Prop) : Prop := o + cs.length ≤ xs.length ∧ K (spl xs o cs)
theorem AUpd.iff {xs : List AV} {o : Nat} {cs : List AV} {K : List AV → Prop} : AUpd xs o cs K ↔ o + cs.length ≤ xs.length ∧ K (spl xs o cs) := by unfold AUpd; exact Iff.rfl

/-- a bool of which only this is known -/
@[irreducible] def AAny (p : Bool → Prop) (K : Bool → Prop) : Prop := ∀ b, p b → K b
theorem AAny.iff {p K : Bool → Prop} : AAny p K ↔ ∀ b, p b → K b := by unfold AAny; exact Iff.rfl

def headK (cs : List AV) (K : AV → Prop) : Prop :=
  match cs with
  | x :: _ => fv x K
  | [] => False

def loadK (T : Nat → TI) (t : Nat) (cs : List AV) (K : AV → Prop) : Prop :=
  match (T t).u with
  | .other => False
  | .struct _ => cutK cs (T t).size fun xs => K (.agg xs)
  | .arr _ _ => ACut cs 0 (T t).size fun r => K (.agg r)
  | _ => headK cs K

def byteC (b : UInt8) : AV := .v (.int .u8 b.toNat)

/-- the string of bytes -/
@[irreducible] def AStr (xs : List AV) (K : ByteArray → Prop) : Prop := ∃ bs : List UInt8, xs = bs.map byteC ∧ K ⟨bs.toArray⟩
theorem AStr.iff {xs : List AV} {K : ByteArray → Prop} : AStr xs K ↔ ∃ bs : List UInt8, xs = bs.map byteC ∧ K ⟨bs.toArray⟩ := by unfold AStr; exact Iff.rfl
theorem AStr.mk {bs : List UInt8} {K : ByteArray → Prop} (k : K ⟨bs.toArray⟩) : AStr (bs.map byteC) K := by rw [AStr.iff]; exact ⟨bs, rfl, k⟩

/-- what the numbers' operations make -/
def bitop (op : BinOp) (k : IntKind) (a b : Int) : Int :=
  let x := BitVec.ofInt k.bits a
  let y := BitVec.ofInt k.bits b
  match op with
  | .and => k.wrap (x &&& y).toNat
  | .or => k.wrap (x ||| y).toNat
  | .xor => k.wrap (x ^^^ y).toNat
  | _ => k.wrap (x &&& ~~~y).toNat

/-- byte i of a string -/
def bt (s : ByteArray) (i : Int) : Int := ((s.data.toList[i.toNat]?.getD 0).toNat : Int)

def binK (op : BinOp) (x y : AV) (K : AV → Prop) : Prop :=
  match x with
  | .v x => match y with
    | .v y => match x with
      | .int k a => match y with
        | .int k' b => match op with
          | .shl => AReq (0 ≤ b) (K (.v (.int k (k.wrap (a * 2 ^ min b.toNat k.bits)))))
          | .shr => AReq (0 ≤ b) (K (.v (.int k (a.fdiv (2 ^ min b.toNat k.bits)))))
          | op => match decide (k = k') with
            | false => False
            | true => match op with
              | .add => K (.v (.int k (k.wrap (a + b))))
              | .sub => K (.v (.int k (k.wrap (a - b))))
              | .mul => K (.v (.int k (k.wrap (a * b))))
              | .quo => AReq (b ≠ 0) (K (.v (.int k (k.wrap (a.tdiv b)))))
              | .rem => AReq (b ≠ 0) (K (.v (.int k (a.tmod b))))
              | .and => K (.v (.int k (bitop .and k a b)))
              | .or => K (.v (.int k (bitop .or k a b)))
              | .xor => K (.v (.int k (bitop .xor k a b)))
              | .andNot => K (.v (.int k (bitop .andNot k a b)))
              | .lss => K (.v (.bool (decide (a < b))))
              | .leq => K (.v (.bool (decide (a ≤ b))))
              | .gtr => K (.v (.bool (decide (b < a))))
              | .geq => K (.v (.bool (decide (b ≤ a))))
              | .eql => K (.v (.bool (decide (a = b))))
              | .neq => K (.v (.bool (!decide (a = b))))
              | _ => False
        | _ => False
      | .string s => match y with
        | .string t => match op with
          | .add => AReq (s.size + t.size ≤ 9223372036854775807) (K (.v (.string (s ++ t))))
          | .eql => K (.v (.bool (s.toList == t.toList)))
          | .neq => K (.v (.bool (!(s.toList == t.toList))))
          | .lss => K (.v (.bool (Op.bytesLess s.toList t.toList)))
          | .leq => K (.v (.bool (Op.bytesLess s.toList t.toList || s.toList == t.toList)))
          | .gtr => K (.v (.bool (!(Op.bytesLess s.toList t.toList || s.toList == t.toList))))
          | .geq => K (.v (.bool (!(Op.bytesLess s.toList t.toList))))
          | _ => False
        | _ => False
      | _ => False
    | _ => False
  | _ => False

/-- equality of what is neither a number nor a text -/
def eqK (T : Nat → TI) (t : Nat) (neg : Bool) (x y : AV) (K : AV → Prop) : Prop :=
  match (T t).u with
  | .bool => match x with
    | .v x => match y with
      | .v y => match x with
        | .bool a => match y with
          | .bool b => match neg with
            | false => K (.v (.bool (a == b)))
            | true => K (.v (.bool (!(a == b))))
          | _ => False
        | _ => False
      | _ => False
    | _ => False
  | .slice _ => match y with
    | .v y => match y with
      | .slice none _ _ => match x with
        | .v x => match x with
          | .slice none _ _ => K (.v (.bool (!neg)))
          | _ => False
        | .vs _ n _ => AAny (fun b => n ≠ 0 → b = neg) fun b => K (.v (.bool b))
        | .vx _ n _ => AAny (fun b => n ≠ 0 → b = neg) fun b => K (.v (.bool b))
        | .ms _ _ _ n => AAny (fun b => n ≠ 0 → b = neg) fun b => K (.v (.bool b))
        | _ => False
      | _ => False
    | _ => False
  | .ptr _ => match y with
    | .v y => match y with
      | .pointer none => match x with
        | .v x => match x with
          | .pointer none => K (.v (.bool (!neg)))
          | _ => False
        | .ptr _ _ => K (.v (.bool neg))
        | .pe _ _ _ _ _ => K (.v (.bool neg))
        | .ip _ => K (.v (.bool neg))
        | _ => False
      | _ => False
    | _ => False
  | .map _ _ => match y with
    | .v y => match y with
      | .map none => match x with
        | .v x => match x with
          | .map none => K (.v (.bool (!neg)))
          | _ => False
        | .mp _ => K (.v (.bool neg))
        | _ => False
      | _ => False
    | _ => False
  | .fn => match y with
    | .v y => match y with
      | .nilFunc => match x with
        | .v x => match x with
          | .nilFunc => K (.v (.bool (!neg)))
          | _ => False
        | .fn _ _ _ => K (.v (.bool neg))
        | _ => False
      | _ => False
    | _ => False
  | _ => False

def binopK (T : Nat → TI) (op : BinOp) (t : Nat) (x y : AV) (K : AV → Prop) : Prop :=
  match op with
  | .eql => match (T t).u with
    | .int _ => binK op x y K
    | .str => binK op x y K
    | _ => eqK T t false x y K
  | .neq => match (T t).u with
    | .int _ => binK op x y K
    | .str => binK op x y K
    | _ => eqK T t true x y K
  | op => binK op x y K

def unK (op : UnOp) (x : AV) (K : AV → Prop) : Prop :=
  match x with
  | .v x => match op with
    | .neg => match x with
      | .int k n => K (.v (.int k (k.wrap (0 - n))))
      | _ => False
    | .xor => match x with
      | .int k n => K (.v (.int k (bitop .xor k (if k.signed then -1 else k.max) n)))
      | _ => False
    | .not => match x with
      | .bool b => K (.v (.bool (!b)))
      | _ => False
    | _ => False
  | _ => False

/-- a number's bound, with what must be shown of it -/
def intK (x : AV) (K : Int → Prop) : Prop :=
  match x with
  | .v x => match x with
    | .int _ n => K n
    | _ => False
  | _ => False

/-- the parts of a slice or a text: from lo to hi -/
def boundsK (lo hi : Option AV) (n : Nat) (K : Nat → Nat → Prop) : Prop :=
  match lo with
  | none => match hi with
    | none => K 0 n
    | some h => intK h fun h => AReq (0 ≤ h ∧ h ≤ n) (K 0 h.toNat)
  | some l => match hi with
    | none => intK l fun l => AReq (0 ≤ l ∧ l ≤ n) (K l.toNat n)
    | some h => intK l fun l => intK h fun h => AReq (0 ≤ l ∧ l ≤ h ∧ h ≤ n) (K l.toNat h.toNat)

def sliceK (T : Nat → TI) (t : Nat) (x : AV) (lo hi mx : Option AV) (K : AV → Prop) : Prop :=
  match (T t).u with
  | .str => match mx with
    | none => match x with
      | .v x => match x with
        | .string s => boundsK lo hi s.size fun a b => K (.v (.string (s.extract a b)))
        | _ => False
      | _ => False
    | some _ => False
  | .slice e => match mx with
    | none => match x with
      | .vs sz n xs => ifK (Nat.beq sz (T e).size) (boundsK lo hi n fun a b => ACut xs (a * sz) ((b - a) * sz) fun r => K (.vs sz (b - a) r))
      | .vx sz n xs => ifK (Nat.beq sz (T e).size) (boundsK lo hi n fun a b => ACut xs (a * sz) ((b - a) * sz) fun r => K (.vs sz (b - a) r))
      | .ms sz l o n => ifK (Nat.beq sz (T e).size) (boundsK lo hi n fun a b => K (.ms sz l (o + a * sz) (b - a)))
      | _ => False
    | some m => match hi with
      | none => False
      | some h => match x with
        | .vs sz n xs => ifK (Nat.beq sz (T e).size) (boundsK lo (some h) n fun a b => intK m fun m => AReq (m = b) (ACut xs (a * sz) ((b - a) * sz) fun r => K (.vx sz (b - a) r)))
        | .vx sz n xs => ifK (Nat.beq sz (T e).size) (boundsK lo (some h) n fun a b => intK m fun m => AReq (m = b) (ACut xs (a * sz) ((b - a) * sz) fun r => K (.vx sz (b - a) r)))
        | _ => False
  | _ => False

def sliceArrK (T : Nat → TI) (n e : Nat) (H : List ABlk) (x : AV) (lo hi mx : Option AV) (K : AV → Prop) : Prop :=
  match mx with
  | none => match x with
    | .ptr l o => blkK H l fun b => match b with
      | .cells _ xs => AReq (o + n * (T e).size ≤ xs.length) (boundsK lo hi n fun a b => K (.ms (T e).size l (o + a * (T e).size) (b - a)))
      | _ => False
    | .pe l b0 sz i j => blkK H l fun b => match b with
      | .cells _ xs => AReq (b0 + i * sz + j + n * (T e).size ≤ xs.length) (boundsK lo hi n fun a b => K (.ms (T e).size l (b0 + i * sz + j + a * (T e).size) (b - a)))
      | _ => False
    | _ => False
  | some _ => False

def seeK (b : ABlk) (K : List AV → Prop) : Prop :=
  match b with
  | .cells _ xs => K xs
  | .ice _ xs => K xs
  | _ => False

theorem seeK_iff {b : ABlk} {K : List AV → Prop} : seeK b K ↔ ∃ t xs, (b = .cells t xs ∨ b = .ice t xs) ∧ K xs := by
  cases b <;> simp [seeK] <;> exact ⟨fun h => ⟨_, _, ⟨rfl, rfl⟩, h⟩, fun ⟨_, _, ⟨e1, e2⟩, h⟩ => e2 ▸ h⟩

/-- what a slice holds, or a text's bytes: how many, and the cells -/
def contentK (H : List ABlk) (sz0 : Nat) (x : AV) (K : Nat → List AV → Prop) : Prop :=
  match x with
  | .v x => match x with
    | .slice none n _ => ifK (Nat.beq n 0) (K 0 [])
    | .string s => ifK (Nat.beq sz0 1) (K s.size (s.data.toList.map byteC))
    | _ => False
  | .vs sz n xs => ifK (Nat.beq sz sz0) (K n xs)
  | .vx sz n xs => ifK (Nat.beq sz sz0) (K n xs)
  | .ms sz l o n => ifK (Nat.beq sz sz0) (blkK H l fun b => seeK b fun xs => ACut xs o (n * sz) fun r => K n r)
  | _ => False

/-- append: to nothing, to what has no spare place, to an own slice -/
def appendK (T : Nat → TI) (t : Nat) (H : List ABlk) (x : AV) (n : Nat) (ys : List AV) (K : AV → List ABlk → Prop) : Prop :=
  match (T t).u with
  | .slice e => ifK (Nat.ble 1 (T e).bytes) <| match x with
    | .v x => match x with
      | .slice none m c => ifK (Nat.beq m 0) <| ifK (Nat.beq c 0) <| AReq (n * (T e).bytes ≤ 140737488355328) (ASplit (decide (n = 0)) fun z => match z with
        | true => K (.v (.slice none 0 0)) H
        | false => appK H (.cells e ys) 0 fun l H => K (.ms (T e).size l 0 n) H)
      | _ => False
    | .vx sz m xs => ifK (Nat.beq sz (T e).size) <| AReq ((m + n) * (T e).bytes ≤ 140737488355328) (ASplit (decide (n = 0)) fun z => match z with
      | true => K (.vx sz m xs) H
      | false => appK H (.cells e (xs ++ ys)) 0 fun l H => K (.ms (T e).size l 0 (m + n)) H)
    | .ms sz l o m => match o with
      | 0 => ifK (Nat.beq sz (T e).size) <| blkK H l fun b => match b with
        | .cells t' xs => ifK (Nat.beq t' e) <| AReq (xs.length = m * sz ∧ (m + n) * (T e).bytes ≤ 140737488355328) (setH H l .dead fun H => appK H (.cells e (xs ++ ys)) 0 fun l H => K (.ms sz l 0 (m + n)) H)
        | _ => False
      | _ + 1 => False
    | _ => False
  | _ => False

def lenStrK (x : AV) (K : AV → Prop) : Prop :=
  match x with
  | .v x => match x with
    | .string s => K (.v (.int .i64 s.size))
    | _ => False
  | _ => False

def lenOfK (x : AV) (K : AV → Prop) : Prop :=
  match x with
  | .v x => match x with
    | .slice none n _ => ifK (Nat.beq n 0) (K (.v (.int .i64 0)))
    | _ => False
  | .vs _ n _ => K (.v (.int .i64 n))
  | .vx _ n _ => K (.v (.int .i64 n))
  | .ms _ _ _ n => K (.v (.int .i64 n))
  | _ => False

/-- the parts of a struct, an array, a slice: placed one behind the other -/
def fillK (place : Nat → Option (Nat × Nat)) (E : List AV) : List (Nat × Operand) → List AV → (List AV → Prop) → Prop
  | [], cs, K => K cs
  | p :: ps, cs, K => match place p.1 with
    | none => False
    | some q => evK E p.2 fun x => cellsK x fun ys => lenK ys q.2 (splK cs q.1 ys fun cs => fillK place E ps cs K)

def storeK (T : Nat → TI) (H : List ABlk) (t : Nat) (p : AV) (v : AV) (K : List ABlk → Prop) : Prop :=
  cellsK v fun cs =>
  match p with
  | .ptr l o => blkK H l fun b => match b with
    | .cells t' xs => match (T t).u with
      | .other => False
      | .arr _ _ => AReq (cs.length = (T t).size) (AUpd xs o cs fun xs => setH H l (.cells t' xs) K)
      | _ => lenK cs (T t).size (splK xs o cs fun xs => setH H l (.cells t' xs) K)
    | _ => False
  | .pe l b0 sz i j => blkK H l fun b => match b with
    | .cells t' xs => match (T t).u with
      | .other => False
      | _ => AReq (cs.length = (T t).size) (AUpd xs (b0 + i * sz + j) cs fun xs => setH H l (.cells t' xs) K)
    | _ => False
  | _ => False

def loadAtK (T : Nat → TI) (H : List ABlk) (t : Nat) (p : AV) (K : AV → Prop) : Prop :=
  match p with
  | .ptr l o => blkK H l fun b => seeK b fun xs => loadK T t (drp xs o) K
  | .pe l b0 sz i j => blkK H l fun b => seeK b fun xs => AIdx (drp xs b0) sz i fun el => loadK T t (drp el j) K
  | .ip cs => loadK T t cs K
  | _ => False

def fieldAddrK (T : Nat → TI) (s : Nat) (x : AV) (f : Nat) (K : AV → Prop) : Prop :=
  match (T s).u with
  | .struct fs => match fs[f]? with
    | some fo => match x with
      | .ptr l o => addK o fo.1 fun o => K (.ptr l o)
      | .pe l b sz i j => addK j fo.1 fun j => K (.pe l b sz i j)
      | .ip cs => K (.ip (drp cs fo.1))
      | _ => False
    | none => False
  | _ => False

def indexAddrK (T : Nat → TI) (t : Nat) (x ix : AV) (K : AV → Prop) : Prop :=
  intK ix fun i =>
  match (T t).u with
  | .arr n e => match x with
    | .ptr l o => AReq (0 ≤ i ∧ i < n) (K (.pe l o (T e).size i.toNat 0))
    | .ip cs => AReq (0 ≤ i ∧ i < n) (AIdx cs (T e).size i.toNat fun el => K (.ip el))
    | _ => False
  | .slice e => match x with
    | .ms sz l o n => match Nat.beq sz (T e).size with
      | true => AReq (0 ≤ i ∧ i < n) (K (.pe l o sz i.toNat 0))
      | false => False
    | .vs sz n cs => match Nat.beq sz (T e).size with
      | true => AReq (0 ≤ i ∧ i < n) (AIdx cs sz i.toNat fun el => K (.ip el))
      | false => False
    | .vx sz n cs => match Nat.beq sz (T e).size with
      | true => AReq (0 ≤ i ∧ i < n) (AIdx cs sz i.toNat fun el => K (.ip el))
      | false => False
    | _ => False
  | _ => False

def indexK (T : Nat → TI) (t : Nat) (x ix : AV) (K : AV → Prop) : Prop :=
  intK ix fun i =>
  match (T t).u with
  | .str => match x with
    | .v x => match x with
      | .string s => AReq (0 ≤ i ∧ i < s.size) (K (.v (.int .u8 (bt s i))))
      | _ => False
    | _ => False
  | .arr n e => match x with
    | .agg cs => AReq (0 ≤ i ∧ i < n) (AIdx cs (T e).size i.toNat fun el => loadK T e el K)
    | _ => False
  | _ => False

def fieldK (T : Nat → TI) (s : Nat) (x : AV) (f : Nat) (K : AV → Prop) : Prop :=
  match (T s).u with
  | .struct fs => match fs[f]? with
    | some fo => match x with
      | .agg cs => match fo.2.1 with
        | true => cutK (drp cs fo.1) fo.2.2 fun r => K (.agg r)
        | false => headK (drp cs fo.1) K
      | _ => False
    | none => False
  | _ => False

def convK (T : Nat → TI) (src dst : Nat) (H : List ABlk) (x : AV) (K : AV → List ABlk → Prop) : Prop :=
  match (T dst).u with
  | .int k => match (T src).u with
    | .int _ => intK x fun n => K (.v (.int k (k.wrap n))) H
    | _ => False
  | .str => match (T src).u with
    | .str => match x with
      | .v x => match x with
        | .string s => K (.v (.string s)) H
        | _ => False
      | _ => False
    | .slice e => match (T e).u with
      | .int .u8 => match x with
        | .v _ => False
        | x => contentK H 1 x fun _ cs => AStr cs fun s => K (.v (.string s)) H
      | _ => False
    | _ => False
  | .slice e => match (T src).u with
    | .str => match (T e).u with
      | .int .u8 => match x with
        | .v x => match x with
          | .string s => appK H (.cells e (s.data.toList.map byteC)) 0 fun l H => K (.ms 1 l 0 s.size) H
          | _ => False
        | _ => False
      | _ => False
    | _ => False
  | _ => False

def makeSliceK (T : Nat → TI) (t : Nat) (H : List ABlk) (len cap : AV) (K : AV → List ABlk → Prop) : Prop :=
  match (T t).u with
  | .slice e => intK len fun n => intK cap fun c => AReq (0 ≤ n ∧ n ≤ c ∧ c * (T e).bytes ≤ 281474976710656 ∧ c ≤ 9223372036854775807)
      (fv (T e).zero fun z => cellsK z fun cs => lenK cs (T e).size (appK H (.cells e (List.replicate n.toNat cs).flatten) 0 fun l H => K (.ms (T e).size l 0 n.toNat) H))
  | _ => False

def copyK (T : Nat → TI) (t : Nat) (H : List ABlk) (dst : AV) (src : AV) (K : AV → List ABlk → Prop) : Prop :=
  match (T t).u with
  | .slice e => match dst with
    | .ms sz l o n => match Nat.beq sz (T e).size with
      | true => contentK H sz src fun k cs => blkK H l fun b => match b with
        | .cells t' xs => ACut cs 0 (min k n * sz) fun r => AUpd xs o r fun xs => setH H l (.cells t' xs) fun H => K (.v (.int .i64 (min k n : Nat))) H
        | _ => False
      | false => False
    | _ => False
  | _ => False

def minmaxK (mx : Bool) : List AV → Int → IntKind → (AV → Prop) → Prop
  | [], n, k, K => K (.v (.int k n))
  | x :: xs, n, k, K => intK x fun y => match mx with
    | true => minmaxK mx xs (if y > n then y else n) k K
    | false => minmaxK mx xs (if y < n then y else n) k K

def minmax0K (mx : Bool) (xs : List AV) (K : AV → Prop) : Prop :=
  match xs with
  | [] => False
  | x :: xs => match x with
    | .v x => match x with
      | .int k n => minmaxK mx xs n k K
      | _ => False
    | _ => False

def builtinK (T : Nat → TI) (b : Builtin) (ts : List Nat) (H : List ABlk) (xs : List AV) (K : AV → List ABlk → Prop) : Prop :=
  match b with
  | .len => match ts with
    | t :: _ => match xs with
      | x :: _ => match (T t).u with
        | .str => lenStrK x fun v => K v H
        | .slice _ => lenOfK x fun v => K v H
        | .arr n _ => K (.v (.int .i64 n)) H
        | _ => False
      | _ => False
    | _ => False
  | .append => match ts with
    | t :: t2 :: _ => match xs with
      | x :: y :: _ => match (T t2).u with
        | .int _ => False
        | .other => False
        | _ => match (T t).u with
          | .slice e => contentK H (T e).size y fun n ys => appendK T t H x n ys K
          | _ => False
      | _ => False
    | _ => False
  | .copy => match ts with
    | t :: _ => match xs with
      | x :: y :: _ => copyK T t H x y K
      | _ => False
    | _ => False
  | .min => minmax0K false xs fun v => K v H
  | .max => minmax0K true xs fun v => K v H
  | _ => False

end Go.Aw

/-
  Aw, part 4: what the small functions hand on; reading, writing.
-/
namespace Go.Aw
open Go

theorem setK_eq : ∀ (l : List AV) (n : Nat) (v : AV) (K : List AV → Prop), setK l n v K = K (l.set n v)
  | [], _, _, _ => rfl
  | _ :: _, 0, _, _ => rfl
  | _ :: xs, n + 1, v, K => by simp only [setK, setK_eq xs n v, List.set_cons_succ]

theorem cutK_iff : ∀ (xs : List AV) (n : Nat) (K : List AV → Prop), cutK xs n K ↔ n ≤ xs.length ∧ K (xs.take n)
  | xs, 0, K => by cases xs <;> simp [cutK]
  | [], n + 1, K => by simp [cutK]
  | x :: xs, n + 1, K => by simp only [cutK, fv_eq, cutK_iff xs n]; simp

theorem drp_eq : ∀ (xs : List AV) (n : Nat), drp xs n = xs.drop n
  | xs, 0 => by cases xs <;> rfl
  | [], n + 1 => rfl
  | _ :: xs, n + 1 => by simp only [drp, drp_eq xs n, List.drop_succ_cons]

theorem lenK_iff : ∀ (xs : List AV) (n : Nat) (K : Prop), lenK xs n K ↔ xs.length = n ∧ K
  | [], 0, K => by simp [lenK]
  | [], n + 1, K => by simp [lenK]
  | x :: xs, 0, K => by simp [lenK]
  | x :: xs, n + 1, K => by simp only [lenK, lenK_iff xs n, List.length_cons]; simp

theorem splK_spec : ∀ (xs : List AV) (o : Nat) (ys : List AV) (K : List AV → Prop), splK xs o ys K → o + ys.length ≤ xs.length ∧ K (spl xs o ys)
  | xs, 0, [], K, h => by simp only [splK] at h; simp [spl]; exact h
  | [], 0, y :: ys, K, h => by simp [splK] at h
  | x :: xs, 0, y :: ys, K, h => by
    simp only [splK] at h
    have := splK_spec xs 0 ys _ h
    simp only [spl] at this ⊢
    refine ⟨by simp at this ⊢; omega, ?_⟩
    simpa using this.2
  | [], o + 1, ys, K, h => by cases ys <;> simp [splK] at h
  | x :: xs, o + 1, ys, K, h => by
    simp only [splK] at h
    have := splK_spec xs o ys _ h
    refine ⟨by simp at this ⊢; omega, ?_⟩
    have h2 := this.2
    simp only [spl] at h2 ⊢
    rw [show o + 1 + ys.length = o + ys.length + 1 by omega]
    simpa using h2

theorem blkK_iff : ∀ (H : List ABlk) (l : Nat) (K : ABlk → Prop), blkK H l K ↔ ∃ b, H[l]? = some b ∧ K b
  | [], l, K => by simp [blkK]
  | b :: H, 0, K => by simp [blkK]
  | b :: H, l + 1, K => by simp only [blkK, blkK_iff H l]; simp

theorem setH_iff : ∀ (H : List ABlk) (l : Nat) (b : ABlk) (K : List ABlk → Prop), setH H l b K ↔ l < H.length ∧ K (H.set l b)
  | [], l, b, K => by simp [setH]
  | c :: H, 0, b, K => by simp [setH]
  | c :: H, l + 1, b, K => by simp only [setH, setH_iff H l]; simp

theorem appK_eq : ∀ (H : List ABlk) (b : ABlk) (n : Nat) (K : Nat → List ABlk → Prop), appK H b n K = K (n + H.length) (H ++ [b])
  | [], b, n, K => rfl
  | c :: H, b, n, K => by simp only [appK, appK_eq H b, List.length_cons, List.cons_append]; rw [show n + 1 + H.length = n + (H.length + 1) by omega]

theorem addK_eq (a b : Nat) (K : Nat → Prop) : addK a b K = K (a + b) := by
  cases b with
  | zero => rfl
  | succ b => cases a with
    | zero => simp [addK]
    | succ a => rfl

section
variable {P : Program} {T : Nat → TI} {C : Ctx} {m : Mu} {I : Nat → Prop} {H : List ABlk} {w : World}

theorem lk_rep : ∀ {E : List AV} {ys : List Value} (t : Nat), RepL w m I E ys → Rep w m I (lk E t) (ys.getD t undef)
  | [], ys, t, _ => by cases t <;> simp [lk, Rep]
  | x :: xs, ys, 0, h => by
    simp only [RepL] at h
    obtain ⟨y, zs, rfl, h1, h2⟩ := h
    simpa [lk] using h1
  | x :: xs, ys, t + 1, h => by
    simp only [RepL] at h
    obtain ⟨y, zs, rfl, h1, h2⟩ := h
    simpa [lk] using lk_rep t h2

theorem evK_sound {E : List AV} {a : Act} {o : Operand} {K : AV → Prop} (hE : RepL w m I E a.tmps.toList) (h : evK E o K) : ∃ x, K x ∧ Rep w m I x (a.eval o) := by
  cases o with
  | tmp t =>
    simp only [evK, fv_eq] at h
    refine ⟨_, h, ?_⟩
    have := lk_rep t hE
    simpa [Act.eval, Array.getD_eq_getD_getElem?] using this
  | const v => exact ⟨_, h, by simp [Rep, Act.eval]⟩
  | global g => exact h.elim
  | func f => exact ⟨_, h, by simp only [Rep, Act.eval]; exact ⟨[], [], rfl, by simp [RepL], by simp [RepL]⟩⟩

theorem evsK_sound {E : List AV} {a : Act} (hE : RepL w m I E a.tmps.toList) : ∀ {os : List Operand} {K : List AV → Prop}, evsK E os K → ∃ xs, K xs ∧ RepL w m I xs (os.map a.eval)
  | [], K, h => ⟨[], h, by simp [RepL]⟩
  | o :: os, K, h => by
    simp only [evsK] at h
    obtain ⟨x, h1, h2⟩ := evK_sound hE h
    obtain ⟨xs, h3, h4⟩ := evsK_sound hE h1
    exact ⟨x :: xs, h3, by simp only [List.map_cons, RepL]; exact ⟨_, _, rfl, h2, h4⟩⟩

theorem evoK_sound {E : List AV} {a : Act} (hE : RepL w m I E a.tmps.toList) {o : Option Operand} {K : Option AV → Prop} (h : evoK E o K) :
    ∃ x, K x ∧ (match x with | none => o.map a.eval = none | some x => ∃ y, o.map a.eval = some y ∧ Rep w m I x y) := by
  cases o with
  | none => exact ⟨none, h, rfl⟩
  | some o =>
    obtain ⟨x, h1, h2⟩ := evK_sound hE h
    exact ⟨some x, h1, _, rfl, h2⟩

theorem Rep.one {x : AV} {y : Value} (hx : ∀ z, x ≠ .v z) (h1 : x ≠ .any) (h2 : ∀ xs, x ≠ .agg xs) (h3 : ∀ xs, x ≠ .tup xs) (h : Rep w m I x y) : y.oneCell' = true := by
  cases x with
  | any => exact absurd rfl h1
  | v z => exact absurd rfl (hx z)
  | agg xs => exact absurd rfl (h2 xs)
  | tup xs => exact absurd rfl (h3 xs)
  | vs sz n xs => simp only [Rep] at h; obtain ⟨a, cap, rfl, _⟩ := h; rfl
  | vx sz n xs => simp only [Rep] at h; obtain ⟨a, rfl, _⟩ := h; rfl
  | ip xs => simp only [Rep] at h; obtain ⟨b, off, rfl, _⟩ := h; rfl
  | ms sz l off n => simp only [Rep] at h; rcases h with ⟨_, ⟨_, _, _, rfl⟩ | ⟨b, cap, o, _, rfl, _⟩⟩ <;> rfl
  | ptr l off => simp only [Rep] at h; obtain ⟨_, b, _, rfl⟩ := h; rfl
  | pe l b sz i j => simp only [Rep] at h; obtain ⟨_, b, _, rfl⟩ := h; rfl
  | mp l => simp only [Rep] at h; obtain ⟨_, b, _, rfl⟩ := h; rfl
  | fn f fs cs => simp only [Rep] at h; obtain ⟨us, ys, rfl, _⟩ := h; rfl

theorem cellsK_sound {x : AV} {y : Value} {K : List AV → Prop} (h : cellsK x K) (hr : Rep w m I x y) :
    ∃ xs ys, K xs ∧ RepL w m I xs ys ∧ (∀ u ∈ ys, u.oneCell' = true) ∧ y.cells.toList = ys := by
  have hone : ∀ x : AV, K [x] → Rep w m I x y → y.oneCell' = true → ∃ xs ys, K xs ∧ RepL w m I xs ys ∧ (∀ u ∈ ys, u.oneCell' = true) ∧ y.cells.toList = ys := by
    intro x hk hr h1
    refine ⟨[x], [y], hk, by simp only [RepL]; exact ⟨y, [], rfl, hr, rfl⟩, by simpa using h1, ?_⟩
    cases y <;> first | rfl | (simp [Value.oneCell'] at h1)
  cases x with
  | any => exact h.elim
  | tup xs => exact h.elim
  | agg xs =>
    simp only [Rep] at hr
    obtain ⟨ys, rfl, h1, h2⟩ := hr
    exact ⟨xs, ys, h, h1, h2, rfl⟩
  | v z =>
    have hz := hr
    simp only [Rep] at hz
    subst hz
    have : y.oneCell' = true ∧ K [.v y] := by cases y <;> first | exact h.elim | exact ⟨rfl, h⟩
    exact hone _ this.2 hr this.1
  | vs sz n xs => exact hone _ h hr (Rep.one (by simp) (by simp) (by simp) (by simp) hr)
  | vx sz n xs => exact hone _ h hr (Rep.one (by simp) (by simp) (by simp) (by simp) hr)
  | ip xs => exact hone _ h hr (Rep.one (by simp) (by simp) (by simp) (by simp) hr)
  | ms sz l off n => exact hone _ h hr (Rep.one (by simp) (by simp) (by simp) (by simp) hr)
  | ptr l off => exact hone _ h hr (Rep.one (by simp) (by simp) (by simp) (by simp) hr)
  | pe l b sz i j => exact hone _ h hr (Rep.one (by simp) (by simp) (by simp) (by simp) hr)
  | mp l => exact hone _ h hr (Rep.one (by simp) (by simp) (by simp) (by simp) hr)
  | fn f fs cs => exact hone _ h hr (Rep.one (by simp) (by simp) (by simp) (by simp) hr)

/-! the model's own functions over the table -/
theorem run_und (hT : TOk P T) {t : Nat} {u : UD} (hu : (T t).u = u) (hne : u ≠ .other) : ∃ d, (∀ w, (underlying t).run P w = .ok d w) ∧ udOk P u d = true ∧ P.underlying t = some d := by
  obtain ⟨d, i, z, h1, _, h3, _⟩ := hT.info hu hne
  exact ⟨d, fun w => run_underlying h1 w, h3, h1⟩

theorem run_typeInfo_of {t : Nat} {i : TypeInfo} (h : P.info? t = some i) (w : World) : (typeInfo t).run P w = .ok i w := by
  simp [typeInfo, h]

theorem run_sizeOf_tab (hT : TOk P T) {t : Nat} (hne : (T t).u ≠ .other) (w : World) : (sizeOf t).run P w = .ok (T t).size w := by
  obtain ⟨d, i, z, h1, h2, h3, h4, _⟩ := hT.info rfl hne
  simp [sizeOf, run_typeInfo_of h2, h4]

theorem run_isAgg_tab (hT : TOk P T) {t : Nat} (hne : (T t).u ≠ .other) (w : World) : (isAgg t).run P w = .ok (isAggU (T t).u) w := by
  obtain ⟨d, hd, hu, _⟩ := run_und hT rfl hne
  simp only [isAgg, Sem.run_bind, hd, Result.andThen_ok]
  cases hU : (T t).u <;> rw [hU] at hu <;> cases d <;> first | rfl | (simp [udOk] at hu; done) | exact absurd hU hne

/-- What was there is there as it was; more may be. -/
def Grown (w w' : World) : Prop := w.heap.size ≤ w'.heap.size ∧ ∀ b, b < w.heap.size → w'.heap[b]? = w.heap[b]?

theorem Grown.refl (w : World) : Grown w w := ⟨Nat.le_refl _, fun _ _ => rfl⟩
theorem Grown.trans {a b c : World} (h : Grown a b) (h' : Grown b c) : Grown a c := ⟨Nat.le_trans h.1 h'.1, fun k hk => (h'.2 k (Nat.lt_of_lt_of_le hk h.1)).trans (h.2 k hk)⟩
theorem Grown.cell {w w' : World} (h : Grown w w') {a : Addr} {u : Value} (hu : w.cell? a = some u) : w'.cell? a = some u := by
  unfold World.cell? at hu ⊢
  rcases Nat.lt_or_ge a.block w.heap.size with hb | hb
  · rw [h.2 _ hb]; exact hu
  · rw [Array.getElem?_eq_none hb] at hu; cases hu

/-- a block's cells are as they were -/
def Kept (b : Nat) (w w' : World) : Prop := ∀ off u, w.cell? ⟨b, off, none⟩ = some u → w'.cell? ⟨b, off, none⟩ = some u

theorem Grown.kept {w w' : World} (h : Grown w w') (b : Nat) : Kept b w w' := fun _ _ hu => h.cell hu
theorem Kept.of_heap {b : Nat} {w w' : World} (h : w'.heap[b]? = w.heap[b]?) : Kept b w w' := fun off u hu => by
  unfold World.cell? at hu ⊢
  simp only [h]; exact hu

theorem RepC.list {xs : List AV} {b o : Nat} (h : RepC w m I xs b o) (n : Nat) (hn : n ≤ xs.length) :
    ∃ ys, RepL w m I (xs.take n) ys ∧ (∀ u ∈ ys, u.oneCell' = true) ∧ ∀ w', Kept b w w' → (loadCells ⟨b, o, none⟩ n).run P w' = .ok ⟨ys⟩ w' := by
  obtain ⟨ys, h1, h2, h3⟩ := RepC.cells (h.take n)
  refine ⟨ys, h1, h2, fun w' hg => ?_⟩
  have hl : ys.length = n := by rw [h1.length]; simp; omega
  have := run_loadCells_list (P := P) w' ⟨b, o, none⟩ ys (fun j v hj => by
    have h4 := hg _ _ (h3 j v hj)
    rw [show (⟨b, o, none⟩ : Addr).add j = ⟨b, o + j, none⟩ by unfold Addr.add; split <;> simp_all]
    exact h4)
  rw [hl] at this
  exact this

theorem loadK_sound (hT : TOk P T) {t : Nat} {cs : List AV} {b o : Nat} {K : AV → Prop} (h : loadK T t cs K) (hc : RepC w m I cs b o) :
    ∃ x y, K x ∧ Rep w m I x y ∧ ∀ w', Kept b w w' → (loadVar t ⟨b, o, none⟩).run P w' = .ok y w' := by
  have hone : (T t).u ≠ .other → isAggU (T t).u = false → (∃ x r, cs = x :: r ∧ K x) → ∃ x y, K x ∧ Rep w m I x y ∧ ∀ w', Kept b w w' → (loadVar t ⟨b, o, none⟩).run P w' = .ok y w' := by
    rintro hne ha ⟨x, r, rfl, hk⟩
    simp only [RepC] at hc
    obtain ⟨⟨y, h1, _, h3⟩, _⟩ := hc
    refine ⟨x, y, hk, h3, fun w' hg => ?_⟩
    simp [loadVar, run_isAgg_tab hT hne, ha, hg _ _ h1]
  have hagg : (T t).u ≠ .other → isAggU (T t).u = true → (T t).size ≤ cs.length ∧ K (.agg (cs.take (T t).size)) → ∃ x y, K x ∧ Rep w m I x y ∧ ∀ w', Kept b w w' → (loadVar t ⟨b, o, none⟩).run P w' = .ok y w' := by
    rintro hne ha ⟨hl, hk⟩
    obtain ⟨ys, h1, h2, h3⟩ := RepC.list (P := P) hc (T t).size hl
    refine ⟨_, .agg ⟨ys⟩, hk, by simp only [Rep]; exact ⟨ys, rfl, h1, h2⟩, fun w' hg => ?_⟩
    simp [loadVar, run_isAgg_tab hT hne, ha, run_sizeOf_tab hT hne, h3 w' hg]
  have hcase : headK cs K → ∃ x r, cs = x :: r ∧ K x := by
    cases cs with
    | nil => exact fun h => h.elim
    | cons x r => simp only [headK, fv_eq]; exact fun h => ⟨x, r, rfl, h⟩
  unfold loadK at h
  cases hU : (T t).u with
  | other => rw [hU] at h; exact h.elim
  | struct fs => rw [hU] at h; exact hagg (by simp [hU]) (by simp [hU, isAggU]) ((cutK_iff _ _ _).1 h)
  | arr n e => rw [hU] at h; simp only [ACut.iff, List.drop_zero, Nat.zero_add] at h; exact hagg (by simp [hU]) (by simp [hU, isAggU]) h
  | int k => rw [hU] at h; exact hone (by simp [hU]) (by simp [hU, isAggU]) (hcase h)
  | bool => rw [hU] at h; exact hone (by simp [hU]) (by simp [hU, isAggU]) (hcase h)
  | str => rw [hU] at h; exact hone (by simp [hU]) (by simp [hU, isAggU]) (hcase h)
  | slice e => rw [hU] at h; exact hone (by simp [hU]) (by simp [hU, isAggU]) (hcase h)
  | map k e => rw [hU] at h; exact hone (by simp [hU]) (by simp [hU, isAggU]) (hcase h)
  | ptr e => rw [hU] at h; exact hone (by simp [hU]) (by simp [hU, isAggU]) (hcase h)
  | fn => rw [hU] at h; exact hone (by simp [hU]) (by simp [hU, isAggU]) (hcase h)

/-- A loc's cells lie in its block. -/
theorem St.repC (h : St C m I H w) {l t : Nat} {xs : List AV} {b : Nat} (hl : H[l]? = some (.cells t xs)) (hb : m.blk l = some b) : RepC w m I xs b 0 := by
  have hB := h.blks l _ hl
  simp only [BlkRep] at hB
  rcases hB with ⟨h2, _⟩ | ⟨b', ys, fr, h2, h3, h4, h8, h5, h6, y1, y2, e, h7⟩
  · rw [h2] at hb; cases hb
  · rw [hb] at h2; cases h2
    refine RepC.of_cells h7 (fun u hu => h6 u (by rw [e]; simp [hu])) (fun j u hj => ?_)
    unfold World.cell?
    simp only [h4]
    rw [e]
    have : j < y1.length := (List.getElem?_eq_some_iff.1 hj).1
    simp [List.getElem?_append_left this, hj]

theorem St.repV (h : St C m I H w) {l t : Nat} {xs : List AV} {b : Nat} {B : ABlk} (hl : H[l]? = some B) (hB : B = .cells t xs ∨ B = .ice t xs) (hb : m.blk l = some b) : RepC w m I xs b 0 := by
  rcases hB with rfl | rfl
  · exact h.repC hl hb
  · have hB := h.blks l _ hl
    simp only [BlkRep] at hB
    rcases hB with ⟨h2, _⟩ | ⟨b', h2, h3, h4⟩
    · rw [h2] at hb; cases hb
    · rw [hb] at h2; cases h2; exact h4

theorem loadAtK_sound (hT : TOk P T) (h : St C m I H w) {t : Nat} {p : AV} {y : Value} {K : AV → Prop} (hk : loadAtK T H t p K) (hp : Rep w m I p y) :
    ∃ x v, K x ∧ Rep w m I x v ∧ ∀ w', Grown w w' → (Instr.loadAt t y).run P w' = .ok v w' := by
  cases p with
  | ptr l o =>
    simp only [loadAtK, blkK_iff] at hk
    simp only [Rep] at hp
    obtain ⟨hl, b, hb, rfl⟩ := hp
    obtain ⟨B, hB, hk⟩ := hk
    obtain ⟨t', xs, hV, hk⟩ := seeK_iff.1 hk
    simp only [drp_eq] at hk
    have hc := RepC.drop o (h.repV hB hV hb)
    rw [Nat.zero_add] at hc
    obtain ⟨x, v, h1, h2, h3⟩ := loadK_sound (P := P) hT hk hc
    exact ⟨x, v, h1, h2, fun w' hg => by simp [Instr.loadAt, Instr.sureAddr, h3 w' (hg.kept _)]⟩
  | pe l b0 sz i j =>
    simp only [loadAtK, blkK_iff] at hk
    simp only [Rep] at hp
    obtain ⟨hl, b, hb, rfl⟩ := hp
    obtain ⟨B, hB, hk⟩ := hk
    obtain ⟨t', xs, hV, hk⟩ := seeK_iff.1 hk
    simp only [drp_eq, AIdx.iff] at hk
    obtain ⟨_, hk⟩ := hk
    have hc := (RepC.drop j (RepC.take sz (RepC.drop (i * sz) (RepC.drop b0 (h.repV hB hV hb)))))
    rw [Nat.zero_add] at hc
    obtain ⟨x, v, h1, h2, h3⟩ := loadK_sound (P := P) hT hk hc
    exact ⟨x, v, h1, h2, fun w' hg => by simp [Instr.loadAt, Instr.sureAddr, h3 w' (hg.kept _)]⟩
  | ip cs =>
    simp only [loadAtK] at hk
    simp only [Rep] at hp
    obtain ⟨b, o, rfl, hi, hc⟩ := hp
    obtain ⟨x, v, h1, h2, h3⟩ := loadK_sound (P := P) hT hk hc
    exact ⟨x, v, h1, h2, fun w' hg => by simp [Instr.loadAt, Instr.sureAddr, h3 w' (hg.kept _)]⟩
  | _ => exact hk.elim

/-- it points into what stays -/
def immB (x : AV) (H : List ABlk) : Bool :=
  match x with
  | .ip _ => true
  | .ptr l _ => match H[l]? with | some (.ice _ _) => true | _ => false
  | .pe l _ _ _ _ => match H[l]? with | some (.ice _ _) => true | _ => false
  | _ => false

theorem loadAtK_imm (hT : TOk P T) (h : St C m I H w) {t : Nat} {p : AV} {y : Value} {K : AV → Prop} (hi : immB p H = true) (hk : loadAtK T H t p K) (hp : Rep w m I p y) :
    ∃ x v, K x ∧ Rep w m I x v ∧ ∀ w', (∀ b, I b → w'.heap[b]? = w.heap[b]?) → (Instr.loadAt t y).run P w' = .ok v w' := by
  have hice : ∀ {l b : Nat} {B : ABlk}, H[l]? = some B → m.blk l = some b → (match H[l]? with | some (.ice _ _) => true | _ => false) = true → I b := by
    intro l b B hB hb hi
    rw [hB] at hi
    cases B <;> try (cases hi; done)
    have := h.blks l _ hB
    simp only [BlkRep] at this
    rcases this with ⟨h2, _⟩ | ⟨b', h2, h3, _⟩
    · rw [h2] at hb; cases hb
    · rw [hb] at h2; cases h2; exact h3
  cases p with
  | ptr l o =>
    simp only [loadAtK, blkK_iff] at hk
    simp only [Rep] at hp
    obtain ⟨hl, b, hb, rfl⟩ := hp
    obtain ⟨B, hB, hk⟩ := hk
    have hI := hice hB hb hi
    obtain ⟨t', xs, hV, hk⟩ := seeK_iff.1 hk
    simp only [drp_eq] at hk
    have hc := RepC.drop o (h.repV hB hV hb)
    rw [Nat.zero_add] at hc
    obtain ⟨x, v, h1, h2, h3⟩ := loadK_sound (P := P) hT hk hc
    exact ⟨x, v, h1, h2, fun w' hg => by simp [Instr.loadAt, Instr.sureAddr, h3 w' (.of_heap (hg b hI))]⟩
  | pe l b0 sz i j =>
    simp only [loadAtK, blkK_iff] at hk
    simp only [Rep] at hp
    obtain ⟨hl, b, hb, rfl⟩ := hp
    obtain ⟨B, hB, hk⟩ := hk
    have hI := hice hB hb hi
    obtain ⟨t', xs, hV, hk⟩ := seeK_iff.1 hk
    simp only [drp_eq, AIdx.iff] at hk
    obtain ⟨_, hk⟩ := hk
    have hc := (RepC.drop j (RepC.take sz (RepC.drop (i * sz) (RepC.drop b0 (h.repV hB hV hb)))))
    rw [Nat.zero_add] at hc
    obtain ⟨x, v, h1, h2, h3⟩ := loadK_sound (P := P) hT hk hc
    exact ⟨x, v, h1, h2, fun w' hg => by simp [Instr.loadAt, Instr.sureAddr, h3 w' (.of_heap (hg b hI))]⟩
  | ip cs =>
    simp only [loadAtK] at hk
    simp only [Rep] at hp
    obtain ⟨b, o, rfl, hI, hc⟩ := hp
    obtain ⟨x, v, h1, h2, h3⟩ := loadK_sound (P := P) hT hk hc
    exact ⟨x, v, h1, h2, fun w' hg => by simp [Instr.loadAt, Instr.sureAddr, h3 w' (.of_heap (hg b hI))]⟩
  | _ => exact hk.elim

end
end Go.Aw

/-
  Aw, part 5: that the model's operations do as the small functions say.
-/
namespace Go.Aw
open Go

section
variable {P : Program} {T : Nat → TI} {C : Ctx} {m : Mu} {I : Nat → Prop} {H : List ABlk} {w : World}

/-- the run hands back a value, in whatever world -/
def Val (P : Program) (w : World) (m : Mu) (I : Nat → Prop) (K : AV → Prop) (s : Sem Value) : Prop :=
  ∃ x v, K x ∧ Rep w m I x v ∧ ∀ w', s.run P w' = .ok v w'

/-- the run hands back a value, and memory that is told -/
def Mem (P : Program) (C : Ctx) (w : World) (m : Mu) (I : Nat → Prop) (K : AV → List ABlk → Prop) (s : Sem Value) : Prop :=
  ∃ x v H' m' I' w', K x H' ∧ Rep w' m' I' x v ∧ St C m' I' H' w' ∧ Ext w m I w' m' I' ∧ s.run P w = .ok v w'

theorem Val.mem (h : St C m I H w) {K : AV → List ABlk → Prop} {s : Sem Value} (hv : Val P w m I (fun x => K x H) s) : Mem P C w m I K s :=
  let ⟨x, v, h1, h2, h3⟩ := hv; ⟨x, v, H, m, I, w, h1, h2, h, .refl _ _ _, h3 w⟩

theorem Addr.add_at (b o n : Nat) : (⟨b, o, none⟩ : Addr).add n = ⟨b, o + n, none⟩ := by unfold Addr.add; split <;> simp_all

theorem storeK_sound (hT : TOk P T) (h : St C m I H w) {t : Nat} {p v : AV} {y u : Value} {K : List ABlk → Prop} (hk : storeK T H t p v K) (hp : Rep w m I p y) (hv : Rep w m I v u) :
    ∃ H' w', K H' ∧ St C m I H' w' ∧ Ext w m I w' m I ∧ (Instr.storeAt t y u).run P w = .ok () w' := by
  unfold storeK at hk
  obtain ⟨cs, us, hk, hr, h1, hu⟩ := cellsK_sound hk hv
  have hlen := hr.length
  have hin : ∀ {l o t' b : Nat} {xs : List AV}, (T t).u ≠ .other → cs.length = (T t).size → H[l]? = some (.cells t' xs) → m.blk l = some b → o + cs.length ≤ xs.length →
      l < H.length ∧ K (H.set l (.cells t' (spl xs o cs))) → y = .pointer (some ⟨b, o, none⟩) →
      ∃ H' w', K H' ∧ St C m I H' w' ∧ Ext w m I w' m I ∧ (Instr.storeAt t y u).run P w = .ok () w' := by
    intro l o t' b xs hne hsz hl hb hfit hkk hy
    obtain ⟨w', hst, h2, h3⟩ := h.splice P hl hb hr h1 hfit
    refine ⟨_, w', hkk.2, h2, h3, ?_⟩
    have hs : u.cells.size = (T t).size := by rw [← Array.length_toList, hu, hlen, hsz]
    subst hy
    simp only [Instr.storeAt, Instr.sureAddr, Sem.run_bind, Sem.run_pure, Result.andThen_ok, storeVar, run_sizeOf_tab hT hne, hs, ne_eq, not_true, if_false, hu, hst]
  cases p with
  | ptr l o =>
    simp only [blkK_iff] at hk
    simp only [Rep] at hp
    obtain ⟨hlt, b, hb, hy⟩ := hp
    obtain ⟨B, hB, hk⟩ := hk
    cases B with
    | dead => exact hk.elim
    | map _ _ _ => exact hk.elim
    | iter _ _ _ => exact hk.elim
    | head _ _ => exact hk.elim
    | obj _ => exact hk.elim
    | loop _ _ _ => exact hk.elim
    | ice t xs => exact hk.elim
    | cells t' xs =>
      have hoth : (T t).u ≠ .other → lenK cs (T t).size (splK xs o cs fun xs => setH H l (.cells t' xs) K) → ∃ H' w', K H' ∧ St C m I H' w' ∧ Ext w m I w' m I ∧ (Instr.storeAt t y u).run P w = .ok () w' := by
        intro hne hk
        rw [lenK_iff] at hk
        have := splK_spec _ _ _ _ hk.2
        exact hin hne hk.1 hB hb this.1 ((setH_iff _ _ _ _).1 this.2) hy
      simp only at hk
      cases hU : (T t).u with
      | other => rw [hU] at hk; exact hk.elim
      | arr n e =>
        rw [hU] at hk
        simp only [AReq.iff, AUpd.iff, setH_iff] at hk
        exact hin (by simp [hU]) hk.1 hB hb hk.2.1 hk.2.2 hy
      | int k => rw [hU] at hk; exact hoth (by simp [hU]) hk
      | bool => rw [hU] at hk; exact hoth (by simp [hU]) hk
      | str => rw [hU] at hk; exact hoth (by simp [hU]) hk
      | slice e => rw [hU] at hk; exact hoth (by simp [hU]) hk
      | struct e => rw [hU] at hk; exact hoth (by simp [hU]) hk
      | map k e => rw [hU] at hk; exact hoth (by simp [hU]) hk
      | ptr e => rw [hU] at hk; exact hoth (by simp [hU]) hk
      | fn => rw [hU] at hk; exact hoth (by simp [hU]) hk
  | pe l b0 sz i j =>
    simp only [blkK_iff] at hk
    simp only [Rep] at hp
    obtain ⟨hlt, b, hb, hy⟩ := hp
    obtain ⟨B, hB, hk⟩ := hk
    cases B with
    | dead => exact hk.elim
    | map _ _ _ => exact hk.elim
    | iter _ _ _ => exact hk.elim
    | head _ _ => exact hk.elim
    | obj _ => exact hk.elim
    | loop _ _ _ => exact hk.elim
    | ice t xs => exact hk.elim
    | cells t' xs =>
      have hoth : (T t).u ≠ .other → AReq (cs.length = (T t).size) (AUpd xs (b0 + i * sz + j) cs fun xs => setH H l (.cells t' xs) K) → ∃ H' w', K H' ∧ St C m I H' w' ∧ Ext w m I w' m I ∧ (Instr.storeAt t y u).run P w = .ok () w' := by
        intro hne hk
        simp only [AReq.iff, AUpd.iff, setH_iff] at hk
        exact hin hne hk.1 hB hb hk.2.1 hk.2.2 hy
      simp only at hk
      cases hU : (T t).u with
      | other => rw [hU] at hk; exact hk.elim
      | arr n e => rw [hU] at hk; exact hoth (by simp [hU]) hk
      | int k => rw [hU] at hk; exact hoth (by simp [hU]) hk
      | bool => rw [hU] at hk; exact hoth (by simp [hU]) hk
      | str => rw [hU] at hk; exact hoth (by simp [hU]) hk
      | slice e => rw [hU] at hk; exact hoth (by simp [hU]) hk
      | struct e => rw [hU] at hk; exact hoth (by simp [hU]) hk
      | map k e => rw [hU] at hk; exact hoth (by simp [hU]) hk
      | ptr e => rw [hU] at hk; exact hoth (by simp [hU]) hk
      | fn => rw [hU] at hk; exact hoth (by simp [hU]) hk
  | _ => exact hk.elim

/-- A field of the table is the model's. -/
theorem field_tab (hT : TOk P T) {s f : Nat} {fs : List (Nat × Bool × Nat)} {fo : Nat × Bool × Nat} (hu : (T s).u = .struct fs) (hf : fs[f]? = some fo) :
    ∃ gs : Array Field, ∃ g, (∀ w, (underlying s).run P w = .ok (.struct gs) w) ∧ gs[f]? = some g ∧ g.offset = fo.1 ∧ fo.2.2 ≠ 0 ∧ (∀ w, (sizeOf g.type).run P w = .ok fo.2.2 w) ∧ (∀ w, (isAgg g.type).run P w = .ok fo.2.1 w) := by
  obtain ⟨d, hd, hok, hpu⟩ := run_und hT hu (by simp)
  cases d <;> simp only [udOk] at hok <;> try (cases hok; done)
  rename_i gs
  simp only [Bool.and_eq_true, beq_iff_eq, List.all_eq_true] at hok
  obtain ⟨hl, hall⟩ := hok
  have hlt : f < fs.length := (List.getElem?_eq_some_iff.1 hf).1
  have hg : gs.toList[f]? = some (gs.toList[f]'(by simp; omega)) := List.getElem?_eq_getElem _
  have hmem : (fo, gs.toList[f]'(by simp; omega)) ∈ fs.zip gs.toList := by
    refine List.mem_iff_getElem?.2 ⟨f, ?_⟩
    rw [List.getElem?_zip_eq_some]
    exact ⟨hf, hg⟩
  have h1 := hall _ hmem
  generalize gs.toList[f]'(by simp; omega) = g at *
  simp only [Bool.and_eq_true, beq_iff_eq, bne_iff_ne] at h1
  obtain ⟨⟨⟨⟨h2, h3⟩, h4⟩, h5⟩, h6⟩ := h1
  cases hi : P.info? g.type with
  | none => simp [hi] at h5
  | some i =>
    refine ⟨gs, g, hd, by simpa using hg, h2.symm, h4, fun w => ?_, fun w => ?_⟩
    · rw [h3]; simp [sizeOf, run_typeInfo_of hi, Program.cellsOf, hi]
    · cases hdu : P.underlying g.type with
      | none => rw [hdu] at h6; cases h6
      | some d =>
        rw [hdu] at h6
        simp only [isAgg, Sem.run_bind, run_underlying hdu, Result.andThen_ok]
        cases d <;> simp at h6 <;> first | (rw [h6]; rfl) | (rw [h6.1]; rfl)

theorem fieldAddrK_sound (hT : TOk P T) {s f : Nat} {x : AV} {y : Value} {K : AV → Prop} (hk : fieldAddrK T s x f K) (hr : Rep w m I x y) : Val P w m I K (Instr.fieldAt s y f) := by
  unfold fieldAddrK at hk
  cases hU : (T s).u with
  | struct fs =>
    rw [hU] at hk
    cases hf : fs[f]? with
    | none => simp [hf] at hk
    | some fo =>
      simp only [hf] at hk
      obtain ⟨gs, g, h1, h2, h3, h4, h5, _⟩ := field_tab hT hU hf
      have hrun : ∀ b o w', (Instr.fieldAt s (.pointer (some ⟨b, o, none⟩)) f).run P w' = .ok (.pointer (some ⟨b, o + fo.1, none⟩)) w' := by
        intro b o w'
        simp [Instr.fieldAt, h1, h2, Instr.sureAddr, fieldPlace, h5, h4, h3, Addr.add_at]
      cases x with
      | ptr l o =>
        simp only [addK_eq] at hk
        simp only [Rep] at hr
        obtain ⟨hl, b, hb, rfl⟩ := hr
        exact ⟨_, _, hk, by simp only [Rep]; exact ⟨hl, b, hb, rfl⟩, hrun b o⟩
      | pe l b0 sz i j =>
        simp only [addK_eq] at hk
        simp only [Rep] at hr
        obtain ⟨hl, b, hb, rfl⟩ := hr
        exact ⟨_, _, hk, by simp only [Rep]; exact ⟨hl, b, hb, rfl⟩, fun w' => by rw [hrun b]; simp only [Nat.add_assoc]⟩
      | ip cs =>
        simp only [drp_eq] at hk
        simp only [Rep] at hr
        obtain ⟨b, o, rfl, hi, hc⟩ := hr
        exact ⟨_, _, hk, by simp only [Rep]; exact ⟨b, _, rfl, hi, RepC.drop _ hc⟩, hrun b o⟩
      | _ => exact hk.elim
  | _ => rw [hU] at hk; exact hk.elim

theorem intK_spec {x : AV} {y : Value} {K : Int → Prop} (h : intK x K) (hr : Rep w m I x y) : ∃ k n, x = .v (.int k n) ∧ y = .int k n ∧ K n := by
  cases x with
  | v z =>
    cases z with
    | int k n => simp only [Rep] at hr; exact ⟨k, n, rfl, hr, h⟩
    | _ => exact h.elim
  | _ => exact h.elim

theorem und_slice (hT : TOk P T) {t e : Nat} (hu : (T t).u = .slice e) (w : World) : (underlying t).run P w = .ok (.slice e) w := by
  obtain ⟨d, hd, hok, _⟩ := run_und hT hu (by simp)
  cases d <;> simp [udOk] at hok
  subst hok; exact hd w
theorem und_arr (hT : TOk P T) {t n e : Nat} (hu : (T t).u = .arr n e) (w : World) : (underlying t).run P w = .ok (.array n e) w := by
  obtain ⟨d, hd, hok, _⟩ := run_und hT hu (by simp)
  cases d <;> simp [udOk] at hok
  obtain ⟨rfl, rfl⟩ := hok; exact hd w
theorem und_str (hT : TOk P T) {t : Nat} (hu : (T t).u = .str) (w : World) : (underlying t).run P w = .ok .string w := by
  obtain ⟨d, hd, hok, _⟩ := run_und hT hu (by simp)
  cases d <;> simp [udOk] at hok
  exact hd w
theorem und_int (hT : TOk P T) {t : Nat} {k : IntKind} (hu : (T t).u = .int k) (w : World) : (underlying t).run P w = .ok (.int k) w := by
  obtain ⟨d, hd, hok, _⟩ := run_und hT hu (by simp)
  cases d <;> simp [udOk] at hok
  subst hok; exact hd w
theorem und_bool (hT : TOk P T) {t : Nat} (hu : (T t).u = .bool) (w : World) : (underlying t).run P w = .ok .bool w := by
  obtain ⟨d, hd, hok, _⟩ := run_und hT hu (by simp)
  cases d <;> simp [udOk] at hok
  exact hd w

/-- An element's cells. -/
theorem elem_cells {xs : List AV} {b o sz i : Nat} (h : RepC w m I xs b o) : RepC w m I ((xs.drop (i * sz)).take sz) b (o + i * sz) := RepC.take sz (RepC.drop (i * sz) h)

theorem indexAddrK_sound (hT : TOk P T) {t : Nat} {x ix : AV} {y iy : Value} {K : AV → Prop} (hk : indexAddrK T t x ix K) (hr : Rep w m I x y) (hi : Rep w m I ix iy) (hsz : ∀ n e, (T t).u = .arr n e → (T e).u ≠ .other) (hsz2 : ∀ e, (T t).u = .slice e → (T e).u ≠ .other) :
    Val P w m I K (Instr.indexAt t y iy) := by
  unfold indexAddrK at hk
  obtain ⟨k, i, rfl, rfl, hk⟩ := intK_spec hk hi
  cases hU : (T t).u with
  | arr n e =>
    rw [hU] at hk
    have hsize := fun w => run_sizeOf_tab (P := P) hT (hsz n e hU) w
    cases x with
    | ptr l o =>
      simp only [AReq.iff] at hk
      obtain ⟨⟨h1, h2⟩, hk⟩ := hk
      simp only [Rep] at hr
      obtain ⟨hl, b, hb, rfl⟩ := hr
      refine ⟨_, _, hk, by simp only [Rep]; exact ⟨hl, b, hb, rfl⟩, ?_⟩
      intro w'
      simp [Instr.indexAt, asIntOf, und_arr hT hU, Instr.sureAddr, h1, h2, hsize, Addr.add_at]
    | ip cs =>
      simp only [AReq.iff, AIdx.iff] at hk
      obtain ⟨⟨h1, h2⟩, h3, hk⟩ := hk
      simp only [Rep] at hr
      obtain ⟨b, o, rfl, hI, hc⟩ := hr
      refine ⟨_, _, hk, by simp only [Rep]; exact ⟨b, _, rfl, hI, elem_cells hc⟩, ?_⟩
      intro w'
      simp [Instr.indexAt, asIntOf, und_arr hT hU, Instr.sureAddr, h1, h2, hsize, Addr.add_at]
    | _ => exact hk.elim
  | slice e =>
    rw [hU] at hk
    have hsize := fun w => run_sizeOf_tab (P := P) hT (hsz2 e hU) w
    have himm : ∀ {sz n : Nat} {cs : List AV} {a : Option Addr} {cap : Nat}, sz = (T e).size → 0 ≤ i → i < n → K (.ip ((cs.drop (i.toNat * sz)).take sz)) →
        ((a = none ∧ n = 0) ∨ ∃ A : Addr, a = some A ∧ (n = 0 ∨ (A.spot = none ∧ I A.block ∧ RepC w m I cs A.block A.off))) →
        Val P w m I K (Instr.indexAt t (.slice a n cap) (.int k i)) := by
      intro sz n cs a cap hs h1 h2 hk ha
      rcases ha with ⟨_, h3⟩ | ⟨A, rfl, h3 | ⟨h3, h4, h5⟩⟩
      · omega
      · omega
      · obtain ⟨b, o, s⟩ := A
        simp only at h3 h4 h5
        subst h3
        refine ⟨_, _, hk, by simp only [Rep]; exact ⟨b, _, rfl, h4, elem_cells h5⟩, ?_⟩
        intro w'
        simp [Instr.indexAt, asIntOf, und_slice hT hU, h1, h2, hsize, Addr.add_at, hs]
    cases x with
    | ms sz l o n =>
      cases hs : Nat.beq sz (T e).size with
      | false => simp only [hs] at hk
      | true =>
        simp only [hs, AReq.iff] at hk
        obtain ⟨⟨h1, h2⟩, hk⟩ := hk
        have hs' := Nat.eq_of_beq_eq_true hs
        simp only [Rep] at hr
        obtain ⟨hl, ⟨_, h3, _⟩ | ⟨b, cap, o', hb, rfl, h3, h4, h5⟩⟩ := hr
        · omega
        · have : o' = o := h5 (by omega)
          subst this
          refine ⟨_, _, hk, by simp only [Rep]; exact ⟨hl, b, hb, rfl⟩, ?_⟩
          intro w'
          simp [Instr.indexAt, asIntOf, und_slice hT hU, h1, h2, hsize, Addr.add_at, hs']
    | vs sz n cs =>
      cases hs : Nat.beq sz (T e).size with
      | false => simp only [hs] at hk
      | true =>
        simp only [hs, AReq.iff, AIdx.iff] at hk
        obtain ⟨⟨h1, h2⟩, _, hk⟩ := hk
        simp only [Rep] at hr
        obtain ⟨a, cap, rfl, _, _, h3⟩ := hr
        exact himm (Nat.eq_of_beq_eq_true hs) h1 h2 hk (by rcases h3 with ⟨h3, h4, _⟩ | h3; exact .inl ⟨h3, h4⟩; exact .inr h3)
    | vx sz n cs =>
      cases hs : Nat.beq sz (T e).size with
      | false => simp only [hs] at hk
      | true =>
        simp only [hs, AReq.iff, AIdx.iff] at hk
        obtain ⟨⟨h1, h2⟩, _, hk⟩ := hk
        simp only [Rep] at hr
        obtain ⟨a, rfl, _, h3⟩ := hr
        exact himm (Nat.eq_of_beq_eq_true hs) h1 h2 hk h3
    | _ => exact hk.elim
  | _ => rw [hU] at hk; exact hk.elim

end
end Go.Aw

/-
  Aw, part 6: numbers, texts, equality; elements, parts, lengths.
-/
set_option linter.unusedSimpArgs false
set_option linter.unusedVariables false
namespace Go.Aw
open Go

section
variable {P : Program} {T : Nat → TI} {C : Ctx} {m : Mu} {I : Nat → Prop} {H : List ABlk} {w : World}

theorem Val.of {K : AV → Prop} {s : Sem Value} {x : AV} {v : Value} (hk : K x) (hr : Rep w m I x v) (hs : ∀ w', s.run P w' = .ok v w') : Val P w m I K s := ⟨x, v, hk, hr, hs⟩

theorem Val.ofv {K : AV → Prop} {s : Sem Value} {v : Value} (hk : K (.v v)) (hs : ∀ w', s.run P w' = .ok v w') : Val P w m I K s := ⟨.v v, v, hk, by simp only [Rep], hs⟩

theorem Rep.v_eq {z y : Value} (h : Rep w m I (.v z) y) : y = z := by simpa only [Rep] using h

theorem guard_scalar {w : World} {op : BinOp} {t : Nat} {x y : Operand} {a b : Value} (h1 : a ≠ .nilIface ∨ b ≠ .nilIface) (h2 : ∀ c, a ≠ .agg c) : (eqGuard op t x y a b).run P w = .ok () w := by
  cases op <;> first
    | rfl
    | (cases a <;> first
        | exact absurd rfl (h2 _)
        | rfl
        | (cases b <;> first
            | rfl
            | (rcases h1 with h1 | h1 <;> exact absurd rfl h1)))

theorem binK_sound {op : BinOp} {t : Nat} {ox oy : Operand} {x y : AV} {X Y : Value} {K : AV → Prop} (hk : binK op x y K) (hx : Rep w m I x X) (hy : Rep w m I y Y) :
    Val P w m I K (do eqGuard op t ox oy X Y; binOp op t X Y) := by
  unfold binK at hk
  cases x with
  | v zx => cases y with
    | v zy =>
      obtain rfl := hx.v_eq
      obtain rfl := hy.v_eq
      cases X with
      | int k a => cases Y with
        | int k' b =>
          have hg : ∀ w', (eqGuard op t ox oy (.int k a) (.int k' b)).run P w' = .ok () w' := fun w' => guard_scalar (.inl (by simp)) (by simp)
          have hsame : k = k' → ∀ {r : Value}, K (.v r) → (∀ w', (binOp op t (.int k a) (.int k b)).run P w' = .ok r w') → Val P w m I K (do eqGuard op t ox oy (.int k a) (.int k' b); binOp op t (.int k a) (.int k' b)) := by
            rintro rfl r hk hr
            exact .ofv hk (fun w' => by simp [hg, hr])
          cases op
          case shl =>
            simp only [AReq.iff] at hk
            exact .ofv hk.2 (fun w' => by simp [hg, binOp, Op.shift, Int.not_lt.2 hk.1])
          case shr =>
            simp only [AReq.iff] at hk
            exact .ofv hk.2 (fun w' => by simp [hg, binOp, Op.shift, Int.not_lt.2 hk.1])
          all_goals
            cases hd : decide (k = k') with
            | false => simp only [hd] at hk
            | true =>
              simp only [hd] at hk
              have hkk := of_decide_eq_true hd
              first
              | exact hk.elim
              | (refine hsame hkk hk (fun w' => ?_); simp [binOp, Op.intArith, Op.intBits, Op.intCmp, bitop]; done)
              | (refine hsame hkk hk (fun w' => ?_); simp [binOp, Op.intArith, Op.intBits, Op.intCmp, bitop]; rfl)
              | (simp only [AReq.iff] at hk; refine hsame hkk hk.2 (fun w' => ?_); simp [binOp, Op.intDiv, hk.1])
        | _ => exact hk.elim
      | string s => cases Y with
        | string u =>
          have hg : ∀ w', (eqGuard op t ox oy (.string s) (.string u)).run P w' = .ok () w' := fun w' => guard_scalar (.inl (by simp)) (by simp)
          cases op <;> first
            | exact hk.elim
            | (refine .ofv hk (fun w' => ?_); simp [hg, binOp, Op.stringOp]; done)
            | (simp only [AReq.iff] at hk
               refine .ofv hk.2 (fun w' => ?_)
               have h1 : ¬ ((s.size + u.size : Nat) : Int) > IntKind.i64.max := by
                 have : IntKind.i64.max = 9223372036854775807 := by decide
                 rw [this]; have := hk.1; omega
               simp only [Sem.run_bind, hg, Result.andThen_ok, binOp, Op.stringOp]
               rw [if_neg h1]; rfl)
        | _ => exact hk.elim
      | _ => exact hk.elim
    | _ => exact hk.elim
  | _ => exact hk.elim

theorem AAny.spec {p K : Bool → Prop} (h : AAny p K) : ∀ b, p b → K b := AAny.iff.1 h

set_option maxHeartbeats 1000000 in
theorem eqK_sound (hT : TOk P T) {op : BinOp} {neg : Bool} (hop : op = if neg then .neq else .eql) {t : Nat} {ox oy : Operand} {x y : AV} {X Y : Value} {K : AV → Prop} (hk : eqK T t neg x y K) (hx : Rep w m I x X) (hy : Rep w m I y Y) :
    Val P w m I K (do eqGuard op t ox oy X Y; binOp op t X Y) := by
  have hfin : ∀ {e : Bool}, (∀ w, (eqGuard op t ox oy X Y).run P w = .ok () w) → (∀ k a, X ≠ .int k a) → (∀ s, X ≠ .string s) → (∀ k a, X ≠ .float k a) → (∀ k a b, X ≠ .complex k a b) → (∀ d w, (Op.equalIn (d + 1) t X Y).run P w = .ok e w) → K (.v (.bool (if neg then !e else e))) →
      Val P w m I K (do eqGuard op t ox oy X Y; binOp op t X Y) := by
    intro e hg h1 h2 h3 h4 he0 hk
    have he : ∀ w, (Op.equal t X Y).run P w = .ok e w := he0 9999
    clear he0
    refine .ofv hk (fun w' => ?_)
    simp only [Sem.run_bind, hg, Result.andThen_ok]
    subst hop
    cases neg <;> cases X <;> first
      | exact absurd rfl (h1 _ _)
      | exact absurd rfl (h2 _)
      | exact absurd rfl (h3 _ _)
      | exact absurd rfl (h4 _ _ _)
      | simp [binOp, he]
  unfold eqK at hk
  cases hU : (T t).u with
  | bool =>
    rw [hU] at hk
    cases x with
    | v zx => cases y with
      | v zy =>
        obtain rfl := hx.v_eq
        obtain rfl := hy.v_eq
        cases X with
        | bool a => cases Y with
          | bool b =>
            refine hfin (e := a == b) (fun _ => guard_scalar (.inl (by simp)) (by simp)) (by simp) (by simp) (by simp) (by simp) ?_ ?_
            · intro d w'; simp [Op.equalIn, und_bool hT hU]
            · cases neg <;> simpa using hk
          | _ => exact hk.elim
        | _ => exact hk.elim
      | _ => exact hk.elim
    | _ => exact hk.elim
  | slice e =>
    rw [hU] at hk
    have hu := fun w => und_slice (P := P) hT hU w
    cases y with
    | v zy =>
      obtain rfl := hy.v_eq
      cases Y with
      | slice b bn bc =>
        cases b with
        | some b => exact hk.elim
        | none =>
          have hsl : ∀ {a : Option Addr} {n cap : Nat}, X = .slice a n cap → (n ≠ 0 → a ≠ none) → AAny (fun b => n ≠ 0 → b = neg) (fun b => K (.v (.bool b))) → Val P w m I K (do eqGuard op t ox oy X (.slice none bn bc); binOp op t X (.slice none bn bc)) := by
            rintro a n cap rfl h1 hk
            refine hfin (e := a.isNone) (fun _ => guard_scalar (.inl (by simp)) (by simp)) (by simp) (by simp) (by simp) (by simp) ?_ ?_
            · intro d w'; cases a <;> simp [Op.equalIn, hu]
            · refine hk.spec _ (fun hn => ?_)
              cases a with
              | none => exact absurd rfl (h1 hn)
              | some a => cases neg <;> rfl
          cases x with
          | v zx =>
            obtain rfl := hx.v_eq
            cases X with
            | slice a n cap =>
              cases a with
              | some a => exact hk.elim
              | none =>
                refine hfin (e := true) (fun _ => guard_scalar (.inl (by simp)) (by simp)) (by simp) (by simp) (by simp) (by simp) ?_ ?_
                · intro d w'; simp [Op.equalIn, hu]
                · cases neg <;> simpa using hk
            | _ => exact hk.elim
          | vs sz n xs =>
            simp only [Rep] at hx
            obtain ⟨a, cap, e, h1, _, h2⟩ := hx
            refine hsl e (fun hn ha => ?_) hk
            rcases h2 with ⟨_, h2, _⟩ | ⟨A, h2, _⟩
            · exact hn h2
            · rw [ha] at h2; cases h2
          | vx sz n xs =>
            simp only [Rep] at hx
            obtain ⟨a, e, _, h2⟩ := hx
            refine hsl e (fun hn ha => ?_) hk
            rcases h2 with ⟨_, h2⟩ | ⟨A, h2, _⟩
            · exact hn h2
            · rw [ha] at h2; cases h2
          | ms sz l o n =>
            simp only [Rep] at hx
            obtain ⟨_, ⟨_, h2, _, e⟩ | ⟨b, cap, o', _, e, _⟩⟩ := hx
            · exact hsl (n := n) (by rw [e, h2]) (fun hn => absurd h2 hn) hk
            · exact hsl e (fun _ => by simp) hk
          | _ => exact hk.elim
      | _ => exact hk.elim
    | _ => exact hk.elim
  | ptr e =>
    rw [hU] at hk
    have hu : ∃ e', ∀ w, (underlying t).run P w = .ok (.pointer e') w := by
      obtain ⟨d, hd, hok, _⟩ := run_und hT hU (by simp)
      cases d <;> simp [udOk] at hok
      exact ⟨_, hd⟩
    obtain ⟨e', hu⟩ := hu
    cases y with
    | v zy =>
      obtain rfl := hy.v_eq
      cases Y with
      | pointer b => cases b with
        | some b => exact hk.elim
        | none =>
          have hp : ∀ {A : Addr}, X = .pointer (some A) → K (.v (.bool neg)) → Val P w m I K (do eqGuard op t ox oy X (.pointer none); binOp op t X (.pointer none)) := by
            rintro A rfl hk
            refine hfin (e := false) (fun _ => guard_scalar (.inl (by simp)) (by simp)) (by simp) (by simp) (by simp) (by simp) ?_ ?_
            · intro d w'; simp [Op.equalIn, hu]
            · cases neg <;> simpa using hk
          cases x with
          | v zx =>
            obtain rfl := hx.v_eq
            cases X with
            | pointer a => cases a with
              | some a => exact hk.elim
              | none =>
                refine hfin (e := true) (fun _ => guard_scalar (.inl (by simp)) (by simp)) (by simp) (by simp) (by simp) (by simp) ?_ ?_
                · intro d w'; simp [Op.equalIn, hu]
                · cases neg <;> simpa using hk
            | _ => exact hk.elim
          | ptr l o => simp only [Rep] at hx; obtain ⟨_, b, _, e⟩ := hx; exact hp e hk
          | pe l b sz i j => simp only [Rep] at hx; obtain ⟨_, b, _, e⟩ := hx; exact hp e hk
          | ip xs => simp only [Rep] at hx; obtain ⟨b, o, e, _⟩ := hx; exact hp e hk
          | _ => exact hk.elim
      | _ => exact hk.elim
    | _ => exact hk.elim
  | map k e =>
    rw [hU] at hk
    have hu : ∃ k' e', ∀ w, (underlying t).run P w = .ok (.map k' e') w := by
      obtain ⟨d, hd, hok, _⟩ := run_und hT hU (by simp)
      cases d <;> simp [udOk] at hok
      exact ⟨_, _, hd⟩
    obtain ⟨k', e', hu⟩ := hu
    cases y with
    | v zy =>
      obtain rfl := hy.v_eq
      cases Y with
      | map b => cases b with
        | some b => exact hk.elim
        | none =>
          cases x with
          | v zx =>
            obtain rfl := hx.v_eq
            cases X with
            | map a => cases a with
              | some a => exact hk.elim
              | none =>
                refine hfin (e := true) (fun _ => guard_scalar (.inl (by simp)) (by simp)) (by simp) (by simp) (by simp) (by simp) ?_ ?_
                · intro d w'; simp [Op.equalIn, hu]
                · cases neg <;> simpa using hk
            | _ => exact hk.elim
          | mp l =>
            simp only [Rep] at hx
            obtain ⟨_, b, _, rfl⟩ := hx
            refine hfin (e := false) (fun _ => guard_scalar (.inl (by simp)) (by simp)) (by simp) (by simp) (by simp) (by simp) ?_ ?_
            · intro d w'; simp [Op.equalIn, hu]
            · cases neg <;> simpa using hk
          | _ => exact hk.elim
      | _ => exact hk.elim
    | _ => exact hk.elim
  | fn =>
    rw [hU] at hk
    have hu : ∃ a b c, ∀ w, (underlying t).run P w = .ok (.func a b c) w := by
      obtain ⟨d, hd, hok, _⟩ := run_und hT hU (by simp)
      cases d <;> simp [udOk] at hok
      exact ⟨_, _, _, hd⟩
    obtain ⟨a', b', c', hu⟩ := hu
    cases y with
    | v zy =>
      obtain rfl := hy.v_eq
      cases Y with
      | nilFunc =>
        cases x with
        | v zx =>
          obtain rfl := hx.v_eq
          cases X with
          | nilFunc =>
            refine hfin (e := true) (fun _ => guard_scalar (.inl (by simp)) (by simp)) (by simp) (by simp) (by simp) (by simp) ?_ ?_
            · intro d w'; simp [Op.equalIn, hu]
            · cases neg <;> simpa using hk
          | _ => exact hk.elim
        | fn f fs cs =>
          simp only [Rep] at hx
          obtain ⟨us, ys, rfl, _⟩ := hx
          refine hfin (e := false) (fun _ => guard_scalar (.inl (by simp)) (by simp)) (by simp) (by simp) (by simp) (by simp) ?_ ?_
          · intro d w'; simp [Op.equalIn, hu]
          · cases neg <;> simpa using hk
        | _ => exact hk.elim
      | _ => exact hk.elim
    | _ => exact hk.elim
  | _ => rw [hU] at hk; exact hk.elim

theorem binopK_sound (hT : TOk P T) {op : BinOp} {t : Nat} {ox oy : Operand} {x y : AV} {X Y : Value} {K : AV → Prop} (hk : binopK T op t x y K) (hx : Rep w m I x X) (hy : Rep w m I y Y) :
    Val P w m I K (do eqGuard op t ox oy X Y; binOp op t X Y) := by
  unfold binopK at hk
  cases op
  case eql =>
    simp only at hk
    cases hU : (T t).u <;> rw [hU] at hk <;> first
      | exact binK_sound hk hx hy
      | exact eqK_sound hT (neg := false) rfl hk hx hy
  case neq =>
    simp only at hk
    cases hU : (T t).u <;> rw [hU] at hk <;> first
      | exact binK_sound hk hx hy
      | exact eqK_sound hT (neg := true) rfl hk hx hy
  all_goals exact binK_sound hk hx hy

theorem unK_sound {op : UnOp} {x : AV} {X : Value} {K : AV → Prop} (hk : unK op x K) (hx : Rep w m I x X) : Val P w m I K (Op.unary op X) := by
  unfold unK at hk
  cases x with
  | v z =>
    obtain rfl := hx.v_eq
    cases op <;> cases X <;> first
      | exact hk.elim
      | (refine .ofv hk (fun w' => ?_); simp [Op.unary, Op.intArith, Op.intBits, bitop]; done)
      | (refine .ofv hk (fun w' => ?_); simp [Op.unary, Op.intArith, Op.intBits, bitop]; rfl)
  | _ => exact hk.elim

theorem indexK_sound (hT : TOk P T) {t : Nat} {x ix : AV} {y iy : Value} {K : AV → Prop} (hk : indexK T t x ix K) (hr : Rep w m I x y) (hi : Rep w m I ix iy) (hne : ∀ n e, (T t).u = .arr n e → (T e).u ≠ .other) :
    Val P w m I K (Instr.index t y iy) := by
  unfold indexK at hk
  obtain ⟨k, i, rfl, rfl, hk⟩ := intK_spec hk hi
  cases hU : (T t).u with
  | str =>
    rw [hU] at hk
    cases x with
    | v z =>
      obtain rfl := hr.v_eq
      cases y with
      | string s =>
        simp only [AReq.iff] at hk
        obtain ⟨⟨h1, h2⟩, hk⟩ := hk
        have hlt : i.toNat < s.size := by omega
        refine .ofv hk (fun w' => ?_)
        have hb : s[i.toNat]? = some (s[i.toNat]'hlt) := by simp [getElem?_pos, hlt]
        simp only [Instr.index, asIntOf, Sem.run_bind, Sem.run_pure, Result.andThen_ok, und_str hT hU, if_pos h1, hb]
        congr 2
        unfold bt
        have : s.data.toList[i.toNat]? = some (s[i.toNat]'hlt) := by
          rw [Array.getElem?_toList]
          have hlt' : i.toNat < s.data.size := hlt
          rw [Array.getElem?_eq_getElem hlt']; rfl
        rw [this]; rfl
      | _ => exact hk.elim
    | _ => exact hk.elim
  | arr n e =>
    rw [hU] at hk
    cases x with
    | agg cs =>
      simp only [AReq.iff, AIdx.iff] at hk
      obtain ⟨⟨h1, h2⟩, h3, hk⟩ := hk
      simp only [Rep] at hr
      obtain ⟨ys, rfl, hl, h1c⟩ := hr
      have hsize := fun w => run_sizeOf_tab (P := P) hT (hne n e hU) w
      have hagg := fun w => run_isAgg_tab (P := P) hT (hne n e hU) w
      have hel := RepL.take (T e).size (RepL.drop (i.toNat * (T e).size) hl)
      have hrun : ∀ w, (Instr.index t (.agg ⟨ys⟩) (.int k i)).run P w = (part e ⟨ys⟩ (i.toNat * (T e).size)).run P w := by
        intro w; simp [Instr.index, asIntOf, und_arr hT hU, h1, h2, hsize]
      have hlen := hl.length
      unfold loadK at hk
      have hcells : isAggU (T e).u = false → headK ((cs.drop (i.toNat * (T e).size)).take (T e).size) K → Val P w m I K (Instr.index t (.agg ⟨ys⟩) (.int k i)) := by
        intro ha hk
        cases hd : (cs.drop (i.toNat * (T e).size)).take (T e).size with
        | nil => rw [hd] at hk; exact hk.elim
        | cons x r =>
          rw [hd] at hk
          simp only [headK, fv_eq] at hk
          rw [hd] at hel
          simp only [RepL] at hel
          obtain ⟨y, zs, he, h4, _⟩ := hel
          refine .of hk h4 (fun w' => ?_)
          rw [hrun]
          have h5 : ys[i.toNat * (T e).size]? = some y := by
            have h6 : ((ys.drop (i.toNat * (T e).size)).take (T e).size)[0]? = some y := by rw [he]; rfl
            rw [List.getElem?_take] at h6
            split at h6
            · simpa using h6
            · cases h6
          simp [part, hagg, ha, h5]
      have haggc : isAggU (T e).u = true → K (.agg (((cs.drop (i.toNat * (T e).size)).take (T e).size).take (T e).size)) → Val P w m I K (Instr.index t (.agg ⟨ys⟩) (.int k i)) := by
        intro ha hk
        rw [List.take_take, Nat.min_self] at hk
        refine .of hk (v := .agg ⟨(ys.drop (i.toNat * (T e).size)).take (T e).size⟩) (by simp only [Rep]; exact ⟨_, rfl, hel, fun u hu => h1c u (List.mem_of_mem_drop (List.mem_of_mem_take hu))⟩) (fun w' => ?_)
        rw [hrun]
        simp [part, hagg, ha, hsize, List.extract_eq_take_drop]
      cases hE : (T e).u with
      | other => exact absurd hE (hne n e hU)
      | struct fs => rw [hE] at hk; exact haggc (by simp [hE, isAggU]) ((cutK_iff _ _ _).1 hk).2
      | arr n' e' => rw [hE] at hk; simp only [ACut.iff, List.drop_zero] at hk; exact haggc (by simp [hE, isAggU]) hk.2
      | int k => rw [hE] at hk; exact hcells (by simp [hE, isAggU]) hk
      | bool => rw [hE] at hk; exact hcells (by simp [hE, isAggU]) hk
      | str => rw [hE] at hk; exact hcells (by simp [hE, isAggU]) hk
      | slice e => rw [hE] at hk; exact hcells (by simp [hE, isAggU]) hk
      | map k e => rw [hE] at hk; exact hcells (by simp [hE, isAggU]) hk
      | ptr e => rw [hE] at hk; exact hcells (by simp [hE, isAggU]) hk
      | fn => rw [hE] at hk; exact hcells (by simp [hE, isAggU]) hk
    | _ => exact hk.elim
  | _ => rw [hU] at hk; exact hk.elim

theorem fieldK_sound (hT : TOk P T) {s f : Nat} {x : AV} {y : Value} {K : AV → Prop} (hk : fieldK T s x f K) (hr : Rep w m I x y) : Val P w m I K (Instr.field s y f) := by
  unfold fieldK at hk
  cases hU : (T s).u with
  | struct fs =>
    rw [hU] at hk
    cases hf : fs[f]? with
    | none => simp [hf] at hk
    | some fo =>
      simp only [hf] at hk
      obtain ⟨gs, g, h1, h2, h3, h4, h5, h6⟩ := field_tab (P := P) hT hU hf
      cases x with
      | agg cs =>
        simp only [Rep] at hr
        obtain ⟨ys, rfl, hl, h1c⟩ := hr
        have hrun : ∀ w, (Instr.field s (.agg ⟨ys⟩) f).run P w = (part g.type ⟨ys⟩ fo.1).run P w := by
          intro w; simp [Instr.field, h1, h2, asAgg, h3]
        cases hb : fo.2.1 with
        | true =>
          simp only [hb, cutK_iff, drp_eq] at hk
          refine .of hk.2 (v := .agg ⟨(ys.drop fo.1).take fo.2.2⟩) (by simp only [Rep]; exact ⟨_, rfl, RepL.take _ (RepL.drop _ hl), fun u hu => h1c u (List.mem_of_mem_drop (List.mem_of_mem_take hu))⟩) (fun w' => ?_)
          rw [hrun]
          simp [part, h6, hb, h5, List.extract_eq_take_drop]
        | false =>
          simp only [hb, drp_eq] at hk
          cases hd : cs.drop fo.1 with
          | nil => rw [hd] at hk; exact hk.elim
          | cons x r =>
            rw [hd] at hk
            simp only [headK, fv_eq] at hk
            have hel := RepL.drop fo.1 hl
            rw [hd] at hel
            simp only [RepL] at hel
            obtain ⟨y, zs, he, h7, _⟩ := hel
            refine .of hk h7 (fun w' => ?_)
            rw [hrun]
            have h8 : ys[fo.1]? = some y := by
              have h9 : (ys.drop fo.1)[0]? = some y := by rw [he]; rfl
              simpa using h9
            simp [part, h6, hb, h8]
      | _ => exact hk.elim
  | _ => rw [hU] at hk; exact hk.elim

end
end Go.Aw

