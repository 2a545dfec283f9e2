/-
  Part of a general proof tool: calls and regions, no condition.
-/
import Derived.Test.YtgpnhbekepoebaaGreatAwB
import Derived.OrdersHeld
set_option linter.unusedSimpArgs false
set_option linter.unusedVariables false
/-
  Aw, part 12: conversions; one operation.
-/
set_option linter.unusedSimpArgs false
set_option linter.unusedVariables false
namespace Go.Aw
open Go

section
variable {P : Program} {T : Nat → TI} {C : Ctx} {m : Mu} {I : Nat → Prop} {H : List ABlk} {w : World}

theorem foldl_push : ∀ (bs : List UInt8) (s : ByteArray), (bs.map fun b => ((b.toNat : Nat) : Int)).foldl (fun r n => r.push (UInt8.ofNat n.toNat)) s = ⟨s.data ++ bs.toArray⟩
  | [], s => by cases s; simp
  | b :: bs, s => by
    simp only [List.map_cons, List.foldl_cons, foldl_push bs]
    cases s
    simp [ByteArray.push]

theorem RepL.bytes : ∀ {bs : List UInt8} {ys : List Value}, RepL w m I (bs.map byteC) ys → ys = bs.map fun b => Value.int .u8 b.toNat
  | [], ys, h => by simpa [RepL] using h
  | b :: bs, ys, h => by
    simp only [List.map_cons, RepL] at h
    obtain ⟨y, zs, rfl, h1, h2⟩ := h
    simp only [byteC, Rep] at h1
    subst h1
    simp [RepL.bytes h2]

theorem contentK_slice {sz0 : Nat} {x : AV} {y : Value} {K : Nat → List AV → Prop} (hk : contentK H sz0 x K) (hx : ∀ z, x ≠ .v z) (hr : Rep w m I x y) : ∃ a n c, y = .slice a n c := by
  cases x with
  | v z => exact absurd rfl (hx z)
  | vs sz n xs => simp only [Rep] at hr; obtain ⟨a, c, e, _⟩ := hr; exact ⟨_, _, _, e⟩
  | vx sz n xs => simp only [Rep] at hr; obtain ⟨a, e, _⟩ := hr; exact ⟨_, _, _, e⟩
  | ms sz l o n =>
    simp only [Rep] at hr
    obtain ⟨_, ⟨_, _, _, e⟩ | ⟨b, c, o', _, e, _⟩⟩ := hr
    · exact ⟨_, _, _, e⟩
    · exact ⟨_, _, _, e⟩
  | _ => exact hk.elim

theorem push_modify (h : Array Obj) (o : Obj) (f : Obj → Obj) : (h.push o).modify h.size f = h.push (f o) := by
  apply Array.ext
  · simp
  · intro k h1 h2
    simp only [Array.getElem_modify, Array.getElem_push]
    by_cases hk : k < h.size
    · have : ¬ h.size = k := by omega
      simp [hk, this]
    · have : h.size = k := by simp at h2; omega
      simp [this]

/-- a text as bytes of its own -/
theorem run_string_bytes (hT : TOk P T) {e : Nat} (s : ByteArray) : ∃ (w' : World) (cap : Nat) (rest : List Value) (fr : Nat × Nat), (∀ u ∈ rest, u.oneCell' = true) ∧ s.size + rest.length = cap ∧ Thawed fr cap ∧
    w'.heap = w.heap.push (.cells ⟨(s.data.toList.map fun b => Value.int .u8 b.toNat) ++ rest⟩ e fr) ∧ (w'.os = w.os ∧ w'.output = w.output) ∧ (Conv.stringToBytes e s).run P w = .ok (.slice (some ⟨w.heap.size, 0, none⟩) s.size cap) w' := by
  let cap := Question.cut (.appendCap s.size 0 e) (w.tape w.drawn (.appendCap s.size 0 e))
  have hcap : s.size ≤ cap := by simp only [cap, Question.cut]; omega
  let rest : List Value := List.replicate (cap - s.size) (.int .u8 0)
  have hlen : ((s.data.toList.map fun b => Value.int .u8 ((b.toNat : Nat) : Int)) ++ rest).length = cap := by
    have : s.data.toList.length = s.size := by rw [Array.length_toList]; rfl
    simp only [List.length_append, List.length_map, this, rest, List.length_replicate]; omega
  let B : Array Value := ⟨(s.data.toList.map fun b => Value.int .u8 ((b.toNat : Nat) : Int)) ++ rest⟩
  let w1 : World := { w with drawn := w.drawn + 1 }
  refine ⟨(w1.alloc (.cells B e)).freeze ⟨w.heap.size, cap, none⟩ 1, cap, rest, (cap, cap + 1), ?_, ?_, ?_, ?_, ⟨rfl, rfl⟩, ?_⟩
  · intro u hu; simp only [rest, List.mem_replicate] at hu; rw [hu.2]; rfl
  · simp only [rest, List.length_replicate]; omega
  · intro i hi; simp; omega
  · simp only [World.freeze]
    have : (w1.alloc (.cells B e)).heap = w.heap.push (.cells B e) := rfl
    simp only [this, push_modify]
    simp [B]
  · have hq : (Question.appendCap s.size 0 e).forced = false := rfl
    have harr : ((s.data.map fun b => Value.int .u8 ((b.toNat : Nat) : Int)) ++ Array.replicate (cap - s.size) (Value.int .u8 0)) = B := by
      apply Array.ext'; simp [B, rest]
    have hsh : (w1.alloc (.cells B e)).shape? w.heap.size = some (e, cap) := by
      unfold World.shape?
      have : (w1.alloc (.cells B e)).heap[w.heap.size]? = some (.cells B e) := by show (w.heap.push _)[w.heap.size]? = _; rw [Array.getElem?_push, if_pos rfl]
      rw [this]
      simp only [B, List.size_toArray, hlen]
    simp only [Conv.stringToBytes, Sem.run_bind, run_choose, hq, Bool.false_eq_true, if_false, Result.andThen_ok]
    rw [harr]
    simp only [newRow, Sem.run_bind, run_newObj, Result.andThen_ok, Sem.run_pure, markStringish, run_shape]
    have hsh' : ({ heap := w1.heap.push (.cells B e), tape := w1.tape, drawn := w1.drawn, os := w1.os, output := w1.output } : World).shape? w1.heap.size = some (e, cap) := hsh
    rw [hsh']
    simp only [run_freeze, Result.andThen_ok]
    rfl

theorem Mem.ofv (h : St C m I H w) {K : AV → List ABlk → Prop} {s : Sem Value} {v : Value} (hk : K (.v v) H) (hs : s.run P w = .ok v w) : Mem P C w m I K s :=
  ⟨.v v, v, H, m, I, w, hk, by simp only [Rep], h, .refl _ _ _, hs⟩

theorem convK_sound (hT : TOk P T) (h : St C m I H w) {src dst : Nat} {x : AV} {X : Value} {K : AV → List ABlk → Prop} (hk : convK T src dst H x K) (hx : Rep w m I x X) : Mem P C w m I K (convert src dst X) := by
  unfold convK at hk
  cases hD : (T dst).u with
  | int k =>
    rw [hD] at hk
    cases hS : (T src).u with
    | int k' =>
      simp only [hS] at hk
      obtain ⟨k'', n, rfl, rfl, hk⟩ := intK_spec hk hx
      refine Mem.ofv h hk ?_
      simp [convert, und_int hT hD, und_int hT hS, Conv.intToInt]
    | _ => simp only [hS] at hk
  | str =>
    rw [hD] at hk
    cases hS : (T src).u with
    | str =>
      simp only [hS] at hk
      cases x with
      | v z =>
        obtain rfl := hx.v_eq
        cases X with
        | string s =>
          refine Mem.ofv h hk ?_
          simp [convert, und_str hT hD, und_str hT hS]
        | _ => exact hk.elim
      | _ => exact hk.elim
    | slice e =>
      simp only [hS] at hk
      cases hE : (T e).u with
      | int ke =>
        simp only [hE] at hk
        cases ke with
        | u8 =>
          have hxv : (∀ z, x ≠ .v z) ∧ contentK H 1 x fun _ cs => AStr cs fun s => K (.v (.string s)) H := by
            cases x <;> first | exact hk.elim | exact ⟨by simp, hk⟩
          obtain ⟨hxv, hk⟩ := hxv
          obtain ⟨a, l, c, rfl⟩ := contentK_slice hk hxv hx
          obtain ⟨n, xs, ys, hk, h1, h2, h3, h4, h5⟩ := contentK_sound (P := P) h hk hx
          simp only [AStr.iff] at hk
          obtain ⟨bs, rfl, hk⟩ := hk
          have hys := h1.bytes
          subst hys
          refine Mem.ofv h hk ?_
          have hbl : bs.length = n := by simpa using h3
          have hc := h5 w rfl n (Nat.le_refl _)
          have htk : (bs.map fun b => Value.int .u8 ((b.toNat : Nat) : Int)).take (n * 1) = bs.map fun b => Value.int .u8 ((b.toNat : Nat) : Int) := List.take_of_length_le (by simp [hbl])
          rw [htk] at hc
          have hu : (underlying e).run P w = .ok (.int .u8) w := und_int hT hE w
          have hconv : (convert src dst (.slice a l c)).run P w = (Conv.bytesToString (.slice a l c)).run P w := by
            simp [convert, und_slice hT hS, und_str hT hD, hu]
          rw [hconv]
          have hl : l = n := by simpa [Builtin.lenOf] using h4
          subst hl
          cases a with
          | none =>
            simp [Builtin.firstCells] at hc
            subst hc
            rfl
          | some a =>
            simp only [Builtin.firstCells, Nat.mul_one] at hc
            have hmm : (bs.map fun b => Value.int .u8 ((b.toNat : Nat) : Int)) = (bs.map fun b => ((b.toNat : Nat) : Int)).map (Value.int .u8) := by simp
            rw [run_bytesToString w a l c (bs.map fun b => ((b.toNat : Nat) : Int)) (by rw [hc, hmm]), foldl_push]
            simp [ByteArray.empty, ByteArray.emptyWithCapacity]
            rfl
        | _ => exact hk.elim
      | _ => simp only [hE] at hk
    | _ => simp only [hS] at hk
  | slice e =>
    rw [hD] at hk
    cases hS : (T src).u with
    | str =>
      simp only [hS] at hk
      cases hE : (T e).u with
      | int ke =>
        simp only [hE] at hk
        cases ke with
        | u8 =>
          cases x with
          | v z =>
            obtain rfl := hx.v_eq
            cases X with
            | string s =>
              simp only [appK_eq, Nat.zero_add] at hk
              obtain ⟨w', cap, rest, fr, h1, h2, h3, h4, hoo, h5⟩ := run_string_bytes (P := P) (w := w) (e := e) hT s
              have hlen : s.data.toList.length = s.size := by rw [Array.length_toList]; rfl
              have hbr : ∀ (w : World) (m : Mu), RepL w m I (s.data.toList.map byteC) (s.data.toList.map fun b => Value.int .u8 ((b.toNat : Nat) : Int)) := by
                intro w m
                generalize s.data.toList = l
                induction l with
                | nil => simp [RepL]
                | cons b l ih => simp only [List.map_cons, RepL]; exact ⟨_, _, rfl, by simp [byteC, Rep], ih⟩
              obtain ⟨hs, he⟩ := h.push (w' := w') (bo := some w.heap.size) (s := cap) (B := .cells e (s.data.toList.map byteC)) (by rw [h4]; simp) hoo (fun b hb => by rw [h4, Array.getElem?_push, if_neg (Nat.ne_of_lt hb)]) (fun b hb => by cases hb; exact Nat.le_refl _) (fun he => by
                simp only [BlkRep, Mu.push_new.1, Mu.push_new.2]
                refine .inr ⟨w.heap.size, _, fr, rfl, fun hi => ?_, by rw [h4, Array.getElem?_push, if_pos rfl], ?_, ?_, ?_, ⟨_, rest, rfl, hbr _ _⟩⟩
                · have := h.immlt _ hi; omega
                · rw [List.length_append, List.length_map, hlen, h2]; exact h3
                · rw [List.length_append, List.length_map, hlen, h2]
                · intro u hu
                  simp only [List.mem_append, List.mem_map] at hu
                  rcases hu with ⟨b, _, rfl⟩ | hu
                  · rfl
                  · exact h1 u hu)
              refine ⟨_, .slice (some ⟨w.heap.size, 0, none⟩) s.size cap, _, _, I, w', hk, ?_, hs, he, ?_⟩
              · simp only [Rep]
                rw [← h.n, Mu.push_new.1, Mu.push_new.2]
                exact ⟨by simp [Mu.push], .inr ⟨_, cap, 0, rfl, rfl, by omega, by omega, fun _ => rfl⟩⟩
              · simp [convert, und_str hT hS, und_slice hT hD, und_int hT hE, h5]
            | _ => exact hk.elim
          | _ => exact hk.elim
        | _ => exact hk.elim
      | _ => simp only [hE] at hk
    | _ => simp only [hS] at hk
  | _ => rw [hD] at hk; exact hk.elim

/-! ### calls -/
def callOk (P : Program) (f : Nat) : Bool :=
  match P.funcs[f]? with
  | some fn => fn.body.isSome && !(fn.name == "runtime.NumGoroutine")
  | none => false

/-- A call, whatever the memory that it may not touch: it returns, and hands back what K says. -/
def Spec (P : Program) (f : Nat) (args : List AV) (H : List ABlk) (K : AV → List ABlk → Prop) : Prop :=
  ∀ (C : Ctx) (m : Mu) (I : Nat → Prop) (w : World) (vs : List Value), St C m I H w → RepL w m I args vs →
    Calls P f ⟨vs⟩ w fun e w' => ∃ r v H' m' I', e = .returned v ∧ K r H' ∧ Rep w' m' I' r v ∧ St C m' I' H' w' ∧ Ext w m I w' m' I'

theorem Spec.mono {f : Nat} {args : List AV} {H : List ABlk} {K K' : AV → List ABlk → Prop} (h : Spec P f args H K) (hk : ∀ r H, K r H → K' r H) : Spec P f args H K' :=
  fun C m I w vs hs hr => (h C m I w vs hs hr).mono fun _ _ ⟨r, v, H', m', I', e, k, rest⟩ => ⟨r, v, H', m', I', e, hk _ _ k, rest⟩

@[irreducible] def ACall (P : Program) (f : Nat) (args : List AV) (H : List ABlk) (K : AV → List ABlk → Prop) : Prop := callOk P f = true ∧ Spec P f args H K
theorem ACall.iff {f : Nat} {args : List AV} {H : List ABlk} {K : AV → List ABlk → Prop} : ACall P f args H K ↔ callOk P f = true ∧ Spec P f args H K := by unfold ACall; exact Iff.rfl

def nthK (xs : List AV) (i : Nat) (K : AV → Prop) : Prop :=
  match xs with
  | [] => False
  | x :: xs => match i with
    | 0 => fv x K
    | i + 1 => nthK xs i K

theorem nthK_iff : ∀ (xs : List AV) (i : Nat) (K : AV → Prop), nthK xs i K ↔ ∃ x, xs[i]? = some x ∧ K x
  | [], i, K => by simp [nthK]
  | x :: xs, 0, K => by simp [nthK, fv_eq]
  | x :: xs, i + 1, K => by simp only [nthK, nthK_iff xs i]; simp

def pickK (c a b : AV) (K : AV → Prop) : Prop :=
  match c with
  | .v c => match c with
    | .bool t => match t with
      | true => K a
      | false => K b
    | _ => False
  | _ => False

def nilCheckK (x : AV) (K : AV → Prop) : Prop :=
  match x with
  | .ptr l o => K (.ptr l o)
  | .pe l b sz i j => K (.pe l b sz i j)
  | .ip xs => K (.ip xs)
  | .fn f fs cs => K (.fn f fs cs)
  | .mp l => K (.mp l)
  | _ => False

/-- What an operation leaves. -/
def After (C : Ctx) (w : World) (m : Mu) (I : Nat → Prop) (a : Act) (d : Option Tmp) (K : AV → List ABlk → Prop) (a' : Act) (w' : World) : Prop :=
  ∃ x y H' m' I', K x H' ∧ a' = a.put d y ∧ Rep w' m' I' x y ∧ St C m' I' H' w' ∧ Ext w m I w' m' I'

/-- an operation told by what it does -/
@[irreducible] def AOp (P : Program) (op : Op) (E : List AV) (H : List ABlk) (K : AV → List ABlk → Prop) : Prop :=
  ∀ (C : Ctx) (m : Mu) (I : Nat → Prop) (w : World) (a : Act) (dst : Option Tmp) (type : TypeId) (pos : String) (after : Array Edge) (guard : Option (Nat × Bool)) (Q : Exit → Act → World → Prop),
    St C m I H w → RepL w m I E a.tmps.toList → (⟨dst, op, type, pos, after, guard⟩ : Oper).wp P a w (After C w m I a dst K) Q
theorem AOp.iff {op : Op} {E : List AV} {H : List ABlk} {K : AV → List ABlk → Prop} : AOp P op E H K ↔ ∀ (C : Ctx) (m : Mu) (I : Nat → Prop) (w : World) (a : Act) (dst : Option Tmp) (type : TypeId) (pos : String) (after : Array Edge) (guard : Option (Nat × Bool)) (Q : Exit → Act → World → Prop),
    St C m I H w → RepL w m I E a.tmps.toList → (⟨dst, op, type, pos, after, guard⟩ : Oper).wp P a w (After C w m I a dst K) Q := by unfold AOp; exact Iff.rfl

/-- equality of structs and arrays -/
@[irreducible] def AEqs (P : Program) (op : BinOp) (t : Nat) (x y : AV) (K : AV → Prop) : Prop :=
  ∀ (w : World) (m : Mu) (I : Nat → Prop) (X Y : Value) (ox oy : Operand), Rep w m I x X → Rep w m I y Y → Val P w m I K (do eqGuard op t ox oy X Y; binOp op t X Y)
theorem AEqs.iff {op : BinOp} {t : Nat} {x y : AV} {K : AV → Prop} : AEqs P op t x y K ↔ ∀ (w : World) (m : Mu) (I : Nat → Prop) (X Y : Value) (ox oy : Operand), Rep w m I x X → Rep w m I y Y → Val P w m I K (do eqGuard op t ox oy X Y; binOp op t X Y) := by unfold AEqs; exact Iff.rfl

def bopK (P : Program) (T : Nat → TI) (op : BinOp) (t : Nat) (x y : AV) (K : AV → Prop) : Prop :=
  match (T t).u with
  | .struct _ => AEqs P op t x y K
  | .arr _ _ => AEqs P op t x y K
  | _ => binopK T op t x y K

theorem bopK_sound (hT : TOk P T) {op : BinOp} {t : Nat} {ox oy : Operand} {x y : AV} {X Y : Value} {K : AV → Prop} (hk : bopK P T op t x y K) (hx : Rep w m I x X) (hy : Rep w m I y Y) :
    Val P w m I K (do eqGuard op t ox oy X Y; binOp op t X Y) := by
  unfold bopK at hk
  cases hU : (T t).u <;> simp only [hU] at hk <;> first
    | exact AEqs.iff.1 hk w m I X Y ox oy hx hy
    | exact binopK_sound hT hk hx hy

/-- One operation. -/
def aop (P : Program) (T : Nat → TI) (op : Op) (E : List AV) (H : List ABlk) (K : AV → List ABlk → Prop) : Prop :=
  match op with
  | .move x => evK E x fun v => K v H
  | .assign x => evK E x fun v => K v H
  | .pick c a b => evK E c fun c => evK E a fun a => evK E b fun b => pickK c a b fun v => K v H
  | .alloc t => okT T t <| cellsK (T t).zero fun cs => appK H (.cells t cs) 0 fun l H => K (.ptr l 0) H
  | .box t x => evK E x fun v => cellsK v fun cs => appK H (.cells t cs) 0 fun l H => K (.ptr l 0) H
  | .build t ps => buildK T t E ps.toList fun v => K v H
  | .buildSlice t n ps => buildSliceK T t n E ps.toList fun v => K v H
  | .load t x => evK E x fun p => loadAtK T H t p fun v => K v H
  | .store t x v => evK E x fun p => evK E v fun v => storeK T H t p v fun H => K .any H
  | .nilCheck x => evK E x fun x => nilCheckK x fun v => K v H
  | .binOp op t x y _ => evK E x fun x => evK E y fun y => bopK P T op t x y fun v => K v H
  | .unOp op _ x => evK E x fun x => unK op x fun v => K v H
  | .convert s d x => evK E x fun x => convK T s d H x K
  | .makeFunc fn fs cs => match fn with
    | .func f => evsK E fs.toList fun fs => evsK E cs.toList fun cs => K (.fn f fs cs) H
    | _ => False
  | .makeSlice t l c => match (T t).u with
    | .slice e => okT T e <| evK E l fun l => evK E c fun c => makeSliceK T t H l c K
    | _ => False
  | .slice t x lo hi mx => evK E x fun x => evoK E lo fun lo => evoK E hi fun hi => evoK E mx fun mx => match (T t).u with
    | .arr n e => okT T e <| sliceArrK T n e H x lo hi mx fun v => K v H
    | .slice e => okT T e <| sliceK T t x lo hi mx fun v => K v H
    | .str => sliceK T t x lo hi mx fun v => K v H
    | _ => False
  | .fieldAddr s x f => evK E x fun x => fieldAddrK T s x f fun v => K v H
  | .field s x f => evK E x fun x => fieldK T s x f fun v => K v H
  | .indexAddr t x i => evK E x fun x => evK E i fun i => match (T t).u with
    | .arr _ e => okT T e <| indexAddrK T t x i fun v => K v H
    | .slice e => okT T e <| indexAddrK T t x i fun v => K v H
    | _ => False
  | .index t x i => evK E x fun x => evK E i fun i => match (T t).u with
    | .arr _ e => okT T e <| indexK T t x i fun v => K v H
    | .str => indexK T t x i fun v => K v H
    | _ => False
  | .extract x i => evK E x fun x => match x with
    | .tup xs => nthK xs i fun v => K v H
    | _ => False
  | .call c => match c.callee with
    | .value f => evK E f fun f => evsK E c.args.toList fun xs => match f with
      | .fn g fs cs => ACall P g (fs ++ xs ++ cs) H K
      | _ => False
    | .builtin b => evsK E c.args.toList fun xs => match c.argTypes.toList with
      | [] => builtinK T b [] H xs K
      | t :: ts => match (T t).u with
        | .slice e => okT T e <| builtinK T b (t :: ts) H xs K
        | .map _ _ => match b with
          | .delete => AOp P (.call c) E H K
          | .clear => AOp P (.call c) E H K
          | _ => False
        | _ => builtinK T b (t :: ts) H xs K
    | .invoke _ _ => False
  | op => AOp P op E H K

theorem wp_mem {o : Oper} {a : Act} {K : AV → List ABlk → Prop} {Q : Exit → Act → World → Prop} {s : Sem Value} (hm : Mem P C w m I K s) (he : execOp a.eval o = do let v ← s; pure (.value v)) :
    o.wp P a w (After C w m I a o.dst K) Q := by
  obtain ⟨x, v, H', m', I', w', h1, h2, h3, h4, h5⟩ := hm
  unfold Oper.wp
  rw [he, Sem.run_bind, h5]
  exact ⟨x, v, H', m', I', h1, rfl, h2, h3, h4⟩

theorem wp_val (h : St C m I H w) {o : Oper} {a : Act} {K : AV → List ABlk → Prop} {Q : Exit → Act → World → Prop} {s : Sem Value} (hm : Val P w m I (fun x => K x H) s) (he : execOp a.eval o = do let v ← s; pure (.value v)) :
    o.wp P a w (After C w m I a o.dst K) Q := wp_mem (Val.mem h hm) he

theorem notInt_run (hT : TOk P T) {t : Nat} (h1 : ∀ k, (T t).u ≠ .int k) (h2 : (T t).u ≠ .other) : ∃ d, (∀ w, (underlying t).run P w = .ok d w) ∧ (∀ k, d ≠ .int k) := by
  obtain ⟨d, hd, hok, _⟩ := run_und hT rfl h2
  refine ⟨d, hd, fun k e => ?_⟩
  subst e
  cases hU : (T t).u <;> rw [hU] at hok <;> first
    | exact h1 _ hU
    | (simp [udOk] at hok; done)
    | exact h2 hU

theorem len_sound (hT : TOk P T) {t e ty : Nat} {ts : List Nat} {x : AV} {y : Value} {ys : List Value} {K : AV → Prop} (ht : (T t).u = .slice e) (hk : lenOfK x K) (hr : Rep w m I x y) :
    Val P w m I K (Builtin.len_ ⟨t :: ts⟩ ty ⟨y :: ys⟩) := by
  obtain ⟨n, a, c, hk, rfl⟩ := lenOfK_run hk hr
  exact .ofv hk (fun w' => by simp [Builtin.len_, und_slice hT ht]; rfl)

theorem lenStr_sound (hT : TOk P T) {t ty : Nat} {ts : List Nat} {x : AV} {y : Value} {ys : List Value} {K : AV → Prop} (ht : (T t).u = .str) (hk : lenStrK x K) (hr : Rep w m I x y) :
    Val P w m I K (Builtin.len_ ⟨t :: ts⟩ ty ⟨y :: ys⟩) := by
  cases x with
  | v z =>
    obtain rfl := hr.v_eq
    cases y with
    | string s => exact .ofv hk (fun w' => by simp [Builtin.len_, und_str hT ht]; rfl)
    | _ => exact hk.elim
  | _ => exact hk.elim

theorem RepL.cons_inv {x : AV} {xs : List AV} {ys : List Value} (h : RepL w m I (x :: xs) ys) : ∃ y zs, ys = y :: zs ∧ Rep w m I x y ∧ RepL w m I xs zs := by
  simpa only [RepL] using h

def builtinSem (b : Builtin) (ts : Array Nat) (ty : Nat) (ys : Array Value) : Sem Value :=
  match b with
  | .len => Builtin.len_ ts ty ys
  | .append => Builtin.append_ ts ty ys
  | .copy => Builtin.copy_ ts ty ys
  | .min => Builtin.min_ ts ty ys
  | .max => Builtin.max_ ts ty ys
  | _ => stuck ""

theorem builtin_sound (hT : TOk P T) (h : St C m I H w) {b : Builtin} {ts : List Nat} {ty : Nat} {xs : List AV} {ys : List Value} {K : AV → List ABlk → Prop} (hk : builtinK T b ts H xs K) (hr : RepL w m I xs ys)
    (hne : ∀ t ts', ts = t :: ts' → ∀ e, (T t).u = .slice e → (T e).u ≠ .other) :
    Mem P C w m I K (builtinSem b ⟨ts⟩ ty ⟨ys⟩) := by
  cases b <;> simp only [builtinK] at hk <;> try (exact hk.elim)
  case len =>
    cases ts with
    | nil => exact hk.elim
    | cons t ts =>
      cases xs with
      | nil => exact hk.elim
      | cons x xs =>
        obtain ⟨y, zs, rfl, h1, _⟩ := hr.cons_inv
        cases hU : (T t).u with
        | str => simp only [hU] at hk; exact Val.mem h (lenStr_sound (ty := ty) hT hU hk h1)
        | slice e => simp only [hU] at hk; exact Val.mem h (len_sound (ty := ty) hT hU hk h1)
        | arr n e =>
          simp only [hU] at hk
          refine Val.mem h (.ofv hk (fun w' => ?_))
          simp [builtinSem, Builtin.len_, und_arr hT hU]
          rfl
        | _ => simp only [hU] at hk
  case append =>
    cases ts with
    | nil => exact hk.elim
    | cons t ts =>
      cases ts with
      | nil => exact hk.elim
      | cons t2 ts =>
        cases xs with
        | nil => exact hk.elim
        | cons x xs =>
          cases xs with
          | nil => exact hk.elim
          | cons x2 xs =>
            obtain ⟨y, zs, rfl, h1, h2⟩ := hr.cons_inv
            obtain ⟨y2, zs, rfl, h3, h4⟩ := h2.cons_inv
            have hgo : (T t2).u ≠ .other → (∀ k, (T t2).u ≠ .int k) → (match (T t).u with | .slice e => contentK H (T e).size x2 fun n ys => appendK T t H x n ys K | _ => False) → Mem P C w m I K (builtinSem .append ⟨t :: t2 :: ts⟩ ty ⟨y :: y2 :: zs⟩) := by
              intro g1 g2 hk
              cases hU : (T t).u with
              | slice e =>
                simp only [hU] at hk
                have hne' := hne t _ rfl e hU
                obtain ⟨n, xs', us, hk, k1, k2, k3, k4, k5⟩ := contentK_sound (P := P) h hk h3
                have hul : us.take (n * (T e).size) = us := List.take_of_length_le (by rw [k1.length, k3]; exact Nat.le_refl _)
                have := appendK_sound (P := P) (ty := ty) (y := y2) hT h hU hne' (notInt_run hT g2 g1) hk h1 k1 k2 k3 k4 (fun w' hw' => by rw [k5 w' hw' n (Nat.le_refl _), hul])
                obtain ⟨r, v, H', m', I', w', a1, a2, a3, a4, a5⟩ := this
                refine ⟨r, v, H', m', I', w', a1, a2, a3, a4, ?_⟩
                rw [← a5]
                rfl
              | _ => simp only [hU] at hk
            cases hU2 : (T t2).u with
            | int k => simp only [hU2] at hk
            | other => simp only [hU2] at hk
            | _ => simp only [hU2] at hk; exact hgo (by simp [hU2]) (by simp [hU2]) hk
  case copy =>
    cases ts with
    | nil => exact hk.elim
    | cons t ts =>
      cases xs with
      | nil => exact hk.elim
      | cons x xs =>
        cases xs with
        | nil => exact hk.elim
        | cons x2 xs =>
          obtain ⟨y, zs, rfl, h1, h2⟩ := hr.cons_inv
          obtain ⟨y2, zs, rfl, h3, h4⟩ := h2.cons_inv
          obtain ⟨r, v, H', m', I', w', a1, a2, a3, a4, a5⟩ := copyK_sound (P := P) (t2 := 0) (ty := ty) hT h hk h1 h3 (fun e he => hne t _ rfl e he)
          refine ⟨r, v, H', m', I', w', a1, a2, a3, a4, ?_⟩
          rw [← a5]
          rfl
  case min => exact Val.mem h (minmax0K_sound (mx := false) (ts := ⟨ts⟩) (ty := ty) hk hr)
  case max => exact Val.mem h (minmax0K_sound (mx := true) (ts := ⟨ts⟩) (ty := ty) hk hr)

set_option maxHeartbeats 4000000 in
theorem aop_sound (hT : TOk P T) (h : St C m I H w) {o : Oper} {a : Act} {E : List AV} (hE : RepL w m I E a.tmps.toList) {K : AV → List ABlk → Prop} {Q : Exit → Act → World → Prop} (hk : aop P T o.op E H K) :
    o.wp P a w (After C w m I a o.dst K) Q := by
  obtain ⟨dst, op, type, pos, after, guard⟩ := o
  cases op <;> simp only [aop] at hk <;> try (exact AOp.iff.1 hk C m I w a dst type pos after guard Q h hE)
  case move x =>
    obtain ⟨v, hk, hr⟩ := evK_sound hE hk
    exact wp_val h (s := pure (a.eval x)) ⟨v, _, hk, hr, fun _ => rfl⟩ rfl
  case assign x =>
    obtain ⟨v, hk, hr⟩ := evK_sound hE hk
    exact wp_val h (s := pure (a.eval x)) ⟨v, _, hk, hr, fun _ => rfl⟩ rfl
  case pick c x y =>
    obtain ⟨vc, hk, hc⟩ := evK_sound hE hk
    obtain ⟨vx, hk, hx⟩ := evK_sound hE hk
    obtain ⟨vy, hk, hy⟩ := evK_sound hE hk
    unfold pickK at hk
    cases vc with
    | v z =>
      have hz := hc.v_eq
      cases z with
      | bool t =>
        refine wp_val h (s := do if ← asBool (a.eval c) then pure (a.eval x) else pure (a.eval y)) ?_ ?_
        · cases t with
          | true => exact ⟨vx, _, hk, hx, fun _ => by rw [hz]; rfl⟩
          | false => exact ⟨vy, _, hk, hy, fun _ => by rw [hz]; rfl⟩
        · simp only [execOp, hz, asBool]; cases t <;> rfl
      | _ => exact hk.elim
    | _ => exact hk.elim
  case alloc t =>
    rw [okT_iff] at hk
    obtain ⟨hne, hk⟩ := hk
    obtain ⟨xs, zs, z, hk, g1, g2, g3, g4, g5⟩ := zero_cells (w := w) (m := m) (I := I) hT hne hk
    rw [appK_eq, Nat.zero_add] at hk
    obtain ⟨hs, he⟩ := h.alloc (t := t) (xs := xs) (ys := zs) ⟨zs, [], by simp, g1⟩ g2
    refine wp_mem (s := Instr.alloc t true (.tuple #[])) ⟨_, .pointer (some ⟨w.heap.size, 0, none⟩), _, _, I, _, hk, ?_, hs, he, ?_⟩ rfl
    · simp only [Rep]
      rw [← h.n, Mu.push_new.1]
      exact ⟨by simp [Mu.push], _, rfl, rfl⟩
    · simp only [Instr.alloc, Sem.run_bind, g5, Result.andThen_ok, newVar, newRow, g3, run_newObj, Sem.run_pure]
      rfl
  case box t x =>
    obtain ⟨v, hk, hr⟩ := evK_sound hE hk
    obtain ⟨xs, zs, hk, g1, g2, g3⟩ := cellsK_sound hk hr
    rw [appK_eq, Nat.zero_add] at hk
    obtain ⟨hs, he⟩ := h.alloc (t := t) (xs := xs) (ys := zs) ⟨zs, [], by simp, g1⟩ g2
    refine wp_mem (s := Instr.box t (a.eval x)) ⟨_, .pointer (some ⟨w.heap.size, 0, none⟩), _, _, I, _, hk, ?_, hs, he, ?_⟩ rfl
    · simp only [Rep]
      rw [← h.n, Mu.push_new.1]
      exact ⟨by simp [Mu.push], _, rfl, rfl⟩
    · have : (a.eval x).cells = ⟨zs⟩ := by apply Array.ext'; simpa using g3
      simp only [Instr.box, Sem.run_bind, Result.andThen_ok, newVar, newRow, this, run_newObj, Sem.run_pure]
      rfl
  case build t ps => exact wp_val h (s := Instr.build t (ps.map fun (i, x) => (i, a.eval x))) (buildK_sound hT hE hk) rfl
  case buildSlice t n ps => exact wp_mem (s := Instr.buildSlice t n (ps.map fun (i, x) => (i, a.eval x))) (buildSliceK_sound hT h hE hk) rfl
  case load t x =>
    obtain ⟨p, hk, hr⟩ := evK_sound hE hk
    obtain ⟨v, y, g1, g2, g3⟩ := loadAtK_sound (P := P) hT h hk hr
    exact wp_mem (s := Instr.loadAt t (a.eval x)) ⟨v, y, H, m, I, w, g1, g2, h, .refl _ _ _, g3 w (.refl w)⟩ rfl
  case store t x v =>
    obtain ⟨p, hk, hr⟩ := evK_sound hE hk
    obtain ⟨u, hk, hu⟩ := evK_sound hE hk
    obtain ⟨H', w', g1, g2, g3, g4⟩ := storeK_sound (P := P) hT h hk hr hu
    unfold Oper.wp
    have he : execOp a.eval ⟨dst, .store t x v, type, pos, after, guard⟩ = (do Instr.storeAt t (a.eval x) (a.eval v); pure .skip) := rfl
    rw [he, Sem.run_bind, g4]
    exact ⟨.any, undef, H', m, I, g1, rfl, by simp [Rep], g2, g3⟩
  case nilCheck x =>
    obtain ⟨p, hk, hr⟩ := evK_sound hE hk
    have hgo : K p H → (execOp a.eval ⟨dst, .nilCheck x, type, pos, after, guard⟩).run P w = .ok (.value (a.eval x)) w → Oper.wp P ⟨dst, .nilCheck x, type, pos, after, guard⟩ a w (After C w m I a dst K) Q := by
      intro hk he
      unfold Oper.wp
      rw [he]
      exact ⟨p, _, H, m, I, hk, rfl, hr, h, .refl _ _ _⟩
    have hr' := hr
    cases p <;> first | exact hk.elim | skip
    case ptr l o => simp only [Rep] at hr; obtain ⟨_, b, _, e⟩ := hr; exact hgo hk (by simp only [execOp, e]; rfl)
    case pe l b sz i j => simp only [Rep] at hr; obtain ⟨_, b, _, e⟩ := hr; exact hgo hk (by simp only [execOp, e]; rfl)
    case ip xs => simp only [Rep] at hr; obtain ⟨b, o, e, _⟩ := hr; exact hgo hk (by simp only [execOp, e]; rfl)
    case mp l => simp only [Rep] at hr; obtain ⟨_, b, _, e⟩ := hr; exact hgo hk (by simp only [execOp, e]; rfl)
    case fn f fs cs => simp only [Rep] at hr; obtain ⟨us, ys, e, _⟩ := hr; exact hgo hk (by simp only [execOp, e]; rfl)
  case binOp op t x y t2 =>
    obtain ⟨vx, hk, hx⟩ := evK_sound hE hk
    obtain ⟨vy, hk, hy⟩ := evK_sound hE hk
    exact wp_val h (s := do eqGuard op t x y (a.eval x) (a.eval y); binOp op t (a.eval x) (a.eval y)) (bopK_sound hT hk hx hy) rfl
  case unOp op t x =>
    obtain ⟨vx, hk, hx⟩ := evK_sound hE hk
    exact wp_val h (s := Op.unary op (a.eval x)) (unK_sound hk hx) rfl
  case convert s d x =>
    obtain ⟨vx, hk, hx⟩ := evK_sound hE hk
    exact wp_mem (s := convert s d (a.eval x)) (convK_sound hT h hk hx) rfl
  case makeFunc fn fs cs =>
    cases fn with
    | func f =>
      obtain ⟨us, hk, hu⟩ := evsK_sound hE hk
      obtain ⟨vs, hk, hv⟩ := evsK_sound hE hk
      refine wp_val h (s := Instr.makeFunc (.func f) (fs.map a.eval) (cs.map a.eval)) ⟨_, .func (.func f) (fs.map a.eval) (cs.map a.eval), hk, ?_, fun _ => rfl⟩ rfl
      simp only [Rep]
      refine ⟨fs.toList.map a.eval, cs.toList.map a.eval, ?_, hu, hv⟩
      congr 1 <;> (apply Array.ext'; simp)
    | _ => exact hk.elim
  case makeSlice t l c =>
    cases hU : (T t).u with
    | slice e =>
      simp only [hU, okT_iff] at hk
      obtain ⟨hne, hk⟩ := hk
      obtain ⟨vl, hk, hl⟩ := evK_sound hE hk
      obtain ⟨vc, hk, hc⟩ := evK_sound hE hk
      exact wp_mem (s := Instr.makeSlice t (a.eval l) (a.eval c)) (makeSliceK_sound hT h hk hl hc (fun e' he => by rw [hU] at he; cases he; exact hne)) rfl
    | _ => simp only [hU] at hk
  case slice t x lo hi mx =>
    obtain ⟨vx, hk, hx⟩ := evK_sound hE hk
    obtain ⟨vlo, hk, hlo⟩ := evoK_sound hE hk
    obtain ⟨vhi, hk, hhi⟩ := evoK_sound hE hk
    obtain ⟨vmx, hk, hmx⟩ := evoK_sound hE hk
    have elo : OptRep w m I vlo (lo.map a.eval) := by cases vlo <;> exact hlo
    have ehi : OptRep w m I vhi (hi.map a.eval) := by cases vhi <;> exact hhi
    have emx : OptRep w m I vmx (mx.map a.eval) := by cases vmx <;> exact hmx
    cases hU : (T t).u with
    | arr n e =>
      simp only [hU, okT_iff] at hk
      exact wp_val h (s := Instr.sliceAt t (a.eval x) (lo.map a.eval) (hi.map a.eval) (mx.map a.eval)) (sliceArrK_sound hT h hU hk.1 hk.2 hx elo ehi emx) rfl
    | slice e =>
      simp only [hU, okT_iff] at hk
      exact wp_val h (s := Instr.sliceAt t (a.eval x) (lo.map a.eval) (hi.map a.eval) (mx.map a.eval)) (sliceK_sound hT hk.2 hx elo ehi emx (fun e' he => by rw [hU] at he; cases he; exact hk.1) (fun n e' he => by rw [hU] at he; cases he) (fun n e' he => by rw [hU] at he; cases he)) rfl
    | str =>
      simp only [hU] at hk
      exact wp_val h (s := Instr.sliceAt t (a.eval x) (lo.map a.eval) (hi.map a.eval) (mx.map a.eval)) (sliceK_sound hT hk hx elo ehi emx (fun e' he => by rw [hU] at he; cases he) (fun n e' he => by rw [hU] at he; cases he) (fun n e' he => by rw [hU] at he; cases he)) rfl
    | _ => simp only [hU] at hk
  case fieldAddr s x f =>
    obtain ⟨vx, hk, hx⟩ := evK_sound hE hk
    exact wp_val h (s := Instr.fieldAt s (a.eval x) f) (fieldAddrK_sound hT hk hx) rfl
  case field s x f =>
    obtain ⟨vx, hk, hx⟩ := evK_sound hE hk
    exact wp_val h (s := Instr.field s (a.eval x) f) (fieldK_sound hT hk hx) rfl
  case indexAddr t x i =>
    obtain ⟨vx, hk, hx⟩ := evK_sound hE hk
    obtain ⟨vi, hk, hi⟩ := evK_sound hE hk
    cases hU : (T t).u with
    | arr n e =>
      simp only [hU, okT_iff] at hk
      exact wp_val h (s := Instr.indexAt t (a.eval x) (a.eval i)) (indexAddrK_sound hT hk.2 hx hi (fun n' e' he => by rw [hU] at he; cases he; exact hk.1) (fun e' he => by rw [hU] at he; cases he)) rfl
    | slice e =>
      simp only [hU, okT_iff] at hk
      exact wp_val h (s := Instr.indexAt t (a.eval x) (a.eval i)) (indexAddrK_sound hT hk.2 hx hi (fun n' e' he => by rw [hU] at he; cases he) (fun e' he => by rw [hU] at he; cases he; exact hk.1)) rfl
    | _ => simp only [hU] at hk
  case index t x i =>
    obtain ⟨vx, hk, hx⟩ := evK_sound hE hk
    obtain ⟨vi, hk, hi⟩ := evK_sound hE hk
    cases hU : (T t).u with
    | arr n e =>
      simp only [hU, okT_iff] at hk
      exact wp_val h (s := Instr.index t (a.eval x) (a.eval i)) (indexK_sound hT hk.2 hx hi (fun n' e' he => by rw [hU] at he; cases he; exact hk.1)) rfl
    | str =>
      simp only [hU] at hk
      exact wp_val h (s := Instr.index t (a.eval x) (a.eval i)) (indexK_sound hT hk hx hi (fun n' e' he => by rw [hU] at he; cases he)) rfl
    | _ => simp only [hU] at hk
  case extract x i =>
    obtain ⟨vx, hk, hx⟩ := evK_sound hE hk
    cases vx with
    | tup xs =>
      simp only [nthK_iff] at hk
      obtain ⟨z, hz, hk⟩ := hk
      simp only [Rep] at hx
      obtain ⟨ys, e, hl⟩ := hx
      obtain ⟨y, hy, hr⟩ := hl.get hz
      refine wp_val h (s := Instr.extract (a.eval x) i) ⟨z, y, hk, hr, fun w' => ?_⟩ rfl
      rw [e]
      simp [Instr.extract, hy]
    | _ => exact hk.elim
  case call c =>
    obtain ⟨callee, args, argTypes⟩ := c
    cases callee with
    | invoke r n => exact hk.elim
    | value f =>
      simp only at hk
      obtain ⟨vf, hk, hf⟩ := evK_sound hE hk
      obtain ⟨xs, hk, hx⟩ := evsK_sound hE hk
      cases vf with
      | fn g fs cs =>
        simp only [ACall.iff] at hk
        obtain ⟨hok, hk⟩ := hk
        simp only [Rep] at hf
        obtain ⟨us, ys, e, hu, hy⟩ := hf
        have hcall := hk C m I w (us ++ args.toList.map a.eval ++ ys) h (RepL.append (RepL.append hu hx) hy)
        have hrun : (execOp a.eval ⟨dst, .call ⟨.value f, args, argTypes⟩, type, pos, after, guard⟩).run P w = .ok (.enter g ⟨us ++ args.toList.map a.eval ++ ys⟩) w := by
          unfold callOk at hok
          cases hfn : P.funcs[g]? with
          | none => rw [hfn] at hok; cases hok
          | some fn =>
            rw [hfn] at hok
            simp only [Bool.and_eq_true, Bool.not_eq_true'] at hok
            have hb : fn.body.isNone = false := by cases hfb : fn.body <;> simp [hfb] at hok ⊢
            have harr : (({ toList := us } : Array Value) ++ args.map a.eval ++ ({ toList := ys } : Array Value)) = ⟨us ++ args.toList.map a.eval ++ ys⟩ := by
              apply Array.ext'; simp
            simp only [execOp, resolve, e, Deferred.ofValue, Sem.run_bind, Sem.run_pure, Result.andThen_ok, invoke, callFunc, run_program, hfn, Sem.run_ite, hok.2, Bool.false_eq_true, if_false, hb]
            rw [harr]
        unfold Oper.wp
        rw [hrun]
        simp only [Oper.upon]
        refine hcall.mono fun e' w' ⟨r, v, H', m', I', he, k1, k2, k3, k4⟩ => ?_
        subst he
        exact ⟨r, v, H', m', I', k1, rfl, k2, k3, k4⟩
      | _ => exact hk.elim
    | builtin b =>
      simp only at hk
      by_cases hop : AOp P (.call ⟨.builtin b, args, argTypes⟩) E H K
      · exact AOp.iff.1 hop C m I w a dst type pos after guard Q h hE
      obtain ⟨xs, hk, hx⟩ := evsK_sound hE hk
      have hbk : builtinK T b argTypes.toList H xs K ∧ ∀ t ts', argTypes.toList = t :: ts' → ∀ e, (T t).u = .slice e → (T e).u ≠ .other := by
        cases ht : argTypes.toList with
        | nil => rw [ht] at hk; exact ⟨hk, fun _ _ e => by cases e⟩
        | cons t ts =>
          rw [ht] at hk
          simp only at hk
          cases hU : (T t).u with
          | slice e =>
            simp only [hU, okT_iff] at hk
            exact ⟨hk.2, fun t' ts' e' e'' he => by cases e'; rw [hU] at he; cases he; exact hk.1⟩
          | map kt et =>
            simp only [hU] at hk
            cases b <;> first
              | exact absurd hk hop
              | exact hk.elim
          | _ =>
            simp only [hU] at hk
            exact ⟨hk, fun t' ts' e' e'' he => by cases e'; rw [hU] at he; cases he⟩
      have hm := builtin_sound (P := P) (ty := type) hT h hbk.1 hx hbk.2
      refine wp_mem hm ?_
      have e1 : (⟨argTypes.toList⟩ : Array Nat) = argTypes := by simp
      have e2 : (⟨args.toList.map a.eval⟩ : Array Value) = args.map a.eval := by apply Array.ext'; simp
      rw [e1, e2]
      cases b <;> first
        | rfl
        | exact hbk.1.elim

end
end Go.Aw

/-
  Aw, part 13: regions, in the order of the text and in whatever order.
-/
set_option linter.unusedSimpArgs false
set_option linter.unusedVariables false
namespace Go.Aw
open Go

section
variable {P : Program} {T : Nat → TI} {C : Ctx} {m : Mu} {I : Nat → Prop} {H : List ABlk} {w : World}

/-- an operation whose value hangs on its operands alone -/
def isPure : Op → Bool
  | .move _ | .assign _ | .pick _ _ _ | .build _ _ | .binOp _ _ _ _ _ | .unOp _ _ _ | .makeFunc _ _ _ | .slice _ _ _ _ _ | .fieldAddr _ _ _ | .field _ _ _ | .indexAddr _ _ _ | .index _ _ _ | .extract _ _ | .nilCheck _ => true
  | .call c => match c.callee with
    | .builtin .len => true
    | .builtin .min => true
    | .builtin .max => true
    | _ => false
  | _ => false

/-- an operation that leaves the world as it is -/
def isQuiet : Op → Bool
  | .load _ _ => true
  | op => isPure op

theorem val_yield {o : Oper} {a : Act} {K : AV → Prop} {s : Sem Value} (hm : Val P w m I K s) (he : execOp a.eval o = do let v ← s; pure (.value v)) :
    ∃ x v, K x ∧ Rep w m I x v ∧ ∀ w', (execOp a.eval o).run P w' = .ok (.value v) w' := by
  obtain ⟨x, v, h1, h2, h3⟩ := hm
  exact ⟨x, v, h1, h2, fun w' => by rw [he, Sem.run_bind, h3 w']; rfl⟩

set_option maxHeartbeats 4000000 in
theorem aop_pure (hT : TOk P T) (h : St C m I H w) {o : Oper} {a : Act} {E : List AV} (hE : RepL w m I E a.tmps.toList) {K : AV → List ABlk → Prop} (hp : isPure o.op = true) (hk : aop P T o.op E H K) :
    ∃ x v, K x H ∧ Rep w m I x v ∧ ∀ w', (execOp a.eval o).run P w' = .ok (.value v) w' := by
  obtain ⟨dst, op, type, pos, after, guard⟩ := o
  cases op <;> simp only [aop] at hk <;> simp only [isPure] at hp <;> try (cases hp; done)
  case move x =>
    obtain ⟨v, hk, hr⟩ := evK_sound hE hk
    exact val_yield (K := fun x => K x H) (s := pure (a.eval x)) ⟨v, _, hk, hr, fun _ => rfl⟩ rfl
  case assign x =>
    obtain ⟨v, hk, hr⟩ := evK_sound hE hk
    exact val_yield (K := fun x => K x H) (s := pure (a.eval x)) ⟨v, _, hk, hr, fun _ => rfl⟩ rfl
  case pick c x y =>
    obtain ⟨vc, hk, hc⟩ := evK_sound hE hk
    obtain ⟨vx, hk, hx⟩ := evK_sound hE hk
    obtain ⟨vy, hk, hy⟩ := evK_sound hE hk
    unfold pickK at hk
    cases vc with
    | v z =>
      have hz := hc.v_eq
      cases z with
      | bool t =>
        refine val_yield (K := fun x => K x H) (s := do if ← asBool (a.eval c) then pure (a.eval x) else pure (a.eval y)) ?_ ?_
        · cases t with
          | true => exact ⟨vx, _, hk, hx, fun _ => by rw [hz]; rfl⟩
          | false => exact ⟨vy, _, hk, hy, fun _ => by rw [hz]; rfl⟩
        · simp only [execOp, hz, asBool]; cases t <;> rfl
      | _ => exact hk.elim
    | _ => exact hk.elim
  case build t ps => exact val_yield (K := fun x => K x H) (s := Instr.build t (ps.map fun (i, x) => (i, a.eval x))) (buildK_sound hT hE hk) rfl
  case binOp op t x y t2 =>
    obtain ⟨vx, hk, hx⟩ := evK_sound hE hk
    obtain ⟨vy, hk, hy⟩ := evK_sound hE hk
    exact val_yield (K := fun x => K x H) (s := do eqGuard op t x y (a.eval x) (a.eval y); binOp op t (a.eval x) (a.eval y)) (bopK_sound hT hk hx hy) rfl
  case unOp op t x =>
    obtain ⟨vx, hk, hx⟩ := evK_sound hE hk
    exact val_yield (K := fun x => K x H) (s := Op.unary op (a.eval x)) (unK_sound hk hx) rfl
  case makeFunc fn fs cs =>
    cases fn with
    | func f =>
      obtain ⟨us, hk, hu⟩ := evsK_sound hE hk
      obtain ⟨vs, hk, hv⟩ := evsK_sound hE hk
      refine val_yield (K := fun x => K x H) (s := Instr.makeFunc (.func f) (fs.map a.eval) (cs.map a.eval)) ⟨_, .func (.func f) (fs.map a.eval) (cs.map a.eval), hk, ?_, fun _ => rfl⟩ rfl
      simp only [Rep]
      refine ⟨fs.toList.map a.eval, cs.toList.map a.eval, ?_, hu, hv⟩
      congr 1 <;> (apply Array.ext'; simp)
    | _ => exact hk.elim
  case slice t x lo hi mx =>
    obtain ⟨vx, hk, hx⟩ := evK_sound hE hk
    obtain ⟨vlo, hk, hlo⟩ := evoK_sound hE hk
    obtain ⟨vhi, hk, hhi⟩ := evoK_sound hE hk
    obtain ⟨vmx, hk, hmx⟩ := evoK_sound hE hk
    have elo : OptRep w m I vlo (lo.map a.eval) := by cases vlo <;> exact hlo
    have ehi : OptRep w m I vhi (hi.map a.eval) := by cases vhi <;> exact hhi
    have emx : OptRep w m I vmx (mx.map a.eval) := by cases vmx <;> exact hmx
    cases hU : (T t).u with
    | arr n e =>
      simp only [hU, okT_iff] at hk
      exact val_yield (K := fun x => K x H) (s := Instr.sliceAt t (a.eval x) (lo.map a.eval) (hi.map a.eval) (mx.map a.eval)) (sliceArrK_sound hT h hU hk.1 hk.2 hx elo ehi emx) rfl
    | slice e =>
      simp only [hU, okT_iff] at hk
      exact val_yield (K := fun x => K x H) (s := Instr.sliceAt t (a.eval x) (lo.map a.eval) (hi.map a.eval) (mx.map a.eval)) (sliceK_sound hT hk.2 hx elo ehi emx (fun e' he => by rw [hU] at he; cases he; exact hk.1) (fun n e' he => by rw [hU] at he; cases he) (fun n e' he => by rw [hU] at he; cases he)) rfl
    | str =>
      simp only [hU] at hk
      exact val_yield (K := fun x => K x H) (s := Instr.sliceAt t (a.eval x) (lo.map a.eval) (hi.map a.eval) (mx.map a.eval)) (sliceK_sound hT hk hx elo ehi emx (fun e' he => by rw [hU] at he; cases he) (fun n e' he => by rw [hU] at he; cases he) (fun n e' he => by rw [hU] at he; cases he)) rfl
    | _ => simp only [hU] at hk
  case nilCheck x =>
    obtain ⟨p, hk, hr⟩ := evK_sound hE hk
    have hgo : K p H → (∀ w', (execOp a.eval ⟨dst, .nilCheck x, type, pos, after, guard⟩).run P w' = .ok (.value (a.eval x)) w') → ∃ x_1 v, K x_1 H ∧ Rep w m I x_1 v ∧ ∀ w', (execOp a.eval ⟨dst, .nilCheck x, type, pos, after, guard⟩).run P w' = .ok (.value v) w' :=
      fun hk he => ⟨p, _, hk, hr, he⟩
    have hr' := hr
    cases p <;> first | exact hk.elim | skip
    case ptr l o => simp only [Rep] at hr; obtain ⟨_, b, _, e⟩ := hr; exact hgo hk (fun w' => by simp only [execOp, e]; rfl)
    case pe l b sz i j => simp only [Rep] at hr; obtain ⟨_, b, _, e⟩ := hr; exact hgo hk (fun w' => by simp only [execOp, e]; rfl)
    case ip xs => simp only [Rep] at hr; obtain ⟨b, o, e, _⟩ := hr; exact hgo hk (fun w' => by simp only [execOp, e]; rfl)
    case mp l => simp only [Rep] at hr; obtain ⟨_, b, _, e⟩ := hr; exact hgo hk (fun w' => by simp only [execOp, e]; rfl)
    case fn f fs cs => simp only [Rep] at hr; obtain ⟨us, ys, e, _⟩ := hr; exact hgo hk (fun w' => by simp only [execOp, e]; rfl)
  case fieldAddr s x f =>
    obtain ⟨vx, hk, hx⟩ := evK_sound hE hk
    exact val_yield (K := fun x => K x H) (s := Instr.fieldAt s (a.eval x) f) (fieldAddrK_sound hT hk hx) rfl
  case field s x f =>
    obtain ⟨vx, hk, hx⟩ := evK_sound hE hk
    exact val_yield (K := fun x => K x H) (s := Instr.field s (a.eval x) f) (fieldK_sound hT hk hx) rfl
  case indexAddr t x i =>
    obtain ⟨vx, hk, hx⟩ := evK_sound hE hk
    obtain ⟨vi, hk, hi⟩ := evK_sound hE hk
    cases hU : (T t).u with
    | arr n e =>
      simp only [hU, okT_iff] at hk
      exact val_yield (K := fun x => K x H) (s := Instr.indexAt t (a.eval x) (a.eval i)) (indexAddrK_sound hT hk.2 hx hi (fun n' e' he => by rw [hU] at he; cases he; exact hk.1) (fun e' he => by rw [hU] at he; cases he)) rfl
    | slice e =>
      simp only [hU, okT_iff] at hk
      exact val_yield (K := fun x => K x H) (s := Instr.indexAt t (a.eval x) (a.eval i)) (indexAddrK_sound hT hk.2 hx hi (fun n' e' he => by rw [hU] at he; cases he) (fun e' he => by rw [hU] at he; cases he; exact hk.1)) rfl
    | _ => simp only [hU] at hk
  case index t x i =>
    obtain ⟨vx, hk, hx⟩ := evK_sound hE hk
    obtain ⟨vi, hk, hi⟩ := evK_sound hE hk
    cases hU : (T t).u with
    | arr n e =>
      simp only [hU, okT_iff] at hk
      exact val_yield (K := fun x => K x H) (s := Instr.index t (a.eval x) (a.eval i)) (indexK_sound hT hk.2 hx hi (fun n' e' he => by rw [hU] at he; cases he; exact hk.1)) rfl
    | str =>
      simp only [hU] at hk
      exact val_yield (K := fun x => K x H) (s := Instr.index t (a.eval x) (a.eval i)) (indexK_sound hT hk hx hi (fun n' e' he => by rw [hU] at he; cases he)) rfl
    | _ => simp only [hU] at hk
  case extract x i =>
    obtain ⟨vx, hk, hx⟩ := evK_sound hE hk
    cases vx with
    | tup xs =>
      simp only [nthK_iff] at hk
      obtain ⟨z, hz, hk⟩ := hk
      simp only [Rep] at hx
      obtain ⟨ys, e, hl⟩ := hx
      obtain ⟨y, hy, hr⟩ := hl.get hz
      refine val_yield (K := fun x => K x H) (s := Instr.extract (a.eval x) i) ⟨z, y, hk, hr, fun w' => ?_⟩ rfl
      rw [e]
      simp [Instr.extract, hy]
    | _ => exact hk.elim
  case call c =>
    obtain ⟨callee, args, argTypes⟩ := c
    cases callee with
    | invoke r n => cases hp
    | value f => cases hp
    | builtin b =>
      simp only at hk hp
      obtain ⟨xs, hk, hx⟩ := evsK_sound hE hk
      have hbk : builtinK T b argTypes.toList H xs K ∧ ∀ t ts', argTypes.toList = t :: ts' → ∀ e, (T t).u = .slice e → (T e).u ≠ .other := by
        cases ht : argTypes.toList with
        | nil => rw [ht] at hk; exact ⟨hk, fun _ _ e => by cases e⟩
        | cons t ts =>
          rw [ht] at hk
          simp only at hk
          cases hU : (T t).u with
          | slice e =>
            simp only [hU, okT_iff] at hk
            exact ⟨hk.2, fun t' ts' e' e'' he => by cases e'; rw [hU] at he; cases he; exact hk.1⟩
          | map kt et =>
            simp only [hU] at hk
            cases b <;> first
              | exact hk.elim
              | (cases hp; done)
          | _ =>
            simp only [hU] at hk
            exact ⟨hk, fun t' ts' e' e'' he => by cases e'; rw [hU] at he; cases he⟩
      have e1 : (⟨argTypes.toList⟩ : Array Nat) = argTypes := by simp
      have e2 : (⟨args.toList.map a.eval⟩ : Array Value) = args.map a.eval := by apply Array.ext'; simp
      obtain ⟨hbk, _⟩ := hbk
      have hval : Val P w m I (fun x => K x H) (builtinSem b argTypes type (args.map a.eval)) := by
        rw [← e1, ← e2]
        generalize args.toList.map a.eval = ys at *
        generalize argTypes.toList = ts at *
        cases b <;> simp only [builtinK] at hbk <;> try (first | exact hbk.elim | (cases hp; done))
        case len =>
          cases ts with
          | nil => exact hbk.elim
          | cons t ts =>
            cases xs with
            | nil => exact hbk.elim
            | cons x xs =>
              obtain ⟨y, zs, rfl, h1, _⟩ := hx.cons_inv
              cases hU : (T t).u with
              | str => simp only [hU] at hbk; exact lenStr_sound (ty := type) hT hU hbk h1
              | slice e => simp only [hU] at hbk; exact len_sound (ty := type) hT hU hbk h1
              | arr n e =>
                simp only [hU] at hbk
                refine .ofv hbk (fun w' => ?_)
                simp [builtinSem, Builtin.len_, und_arr hT hU]
                rfl
              | _ => simp only [hU] at hbk
        case min => exact minmax0K_sound (mx := false) (ts := ⟨ts⟩) (ty := type) hbk hx
        case max => exact minmax0K_sound (mx := true) (ts := ⟨ts⟩) (ty := type) hbk hx
      refine val_yield hval ?_
      cases b <;> first
        | rfl
        | exact hbk.elim

/-! ### guards -/
def dstOf (ops : Array Oper) (j : Nat) : Option Nat := match ops[j]? with | some o => o.dst | none => none

def kno : List (Nat × Bool) → Nat → Option Bool
  | [], _ => none
  | (k, b) :: r, j => match Nat.beq k j with
    | true => some b
    | false => kno r j

def eqB (a b : Bool) : Bool :=
  match a with
  | true => b
  | false => match b with
    | true => false
    | false => true

theorem eqB_iff {a b : Bool} : eqB a b = (a == b) := by cases a <;> cases b <;> rfl

/-- what is known, but of those whose slot is written -/
def knDel (ops : Array Oper) (d : Nat) : List (Nat × Bool) → (List (Nat × Bool) → Prop) → Prop
  | [], K => K []
  | x :: r, K => match dstOf ops x.1 with
    | none => knDel ops d r K
    | some d' => match Nat.beq d' d with
      | true => knDel ops d r K
      | false => knDel ops d r fun r => K (x :: r)

def knPut (ops : Array Oper) (d : Option Nat) (kn : List (Nat × Bool)) (K : List (Nat × Bool) → Prop) : Prop :=
  match d with
  | none => K kn
  | some d => knDel ops d kn K

/-- one operation, and how it goes on -/
def opK (P : Program) (T : Nat → TI) (ops : Array Oper) (o : Oper) (kn : List (Nat × Bool)) (E : List AV) (H : List ABlk) (K : List (Nat × Bool) → List AV → List ABlk → Prop) : Prop :=
  match o.guard with
  | none => aop P T o.op E H fun v H => putK E o.dst v fun E => knPut ops o.dst kn fun kn => K kn E H
  | some g => match dstOf ops g.1 with
    | none => False
    | some d => match kno kn g.1 with
      | some b => match eqB b g.2 with
        | true => aop P T o.op E H fun v H => putK E o.dst v fun E => knPut ops o.dst kn fun kn => K kn E H
        | false => putK E o.dst (.v (.tuple #[])) fun E => knPut ops o.dst kn fun kn => K kn E H
      | none => fv (lk E d) fun x => match x with
        | .v x => match x with
          | .bool t => ASplit t fun b => setK E d (.v (.bool b)) fun E => match eqB b g.2 with
            | true => aop P T o.op E H fun v H => putK E o.dst v fun E => knPut ops o.dst ((g.1, b) :: kn) fun kn => K kn E H
            | false => putK E o.dst (.v (.tuple #[])) fun E => knPut ops o.dst ((g.1, b) :: kn) fun kn => K kn E H
          | .tuple _ => putK E o.dst (.v (.tuple #[])) fun E => knPut ops o.dst kn fun kn => K kn E H
          | _ => False
        | _ => False

theorem range_ops (ops : Array Oper) : (List.range ops.size).map (fun i => ops[i]?) = ops.toList.map some := by
  apply List.ext_getElem?
  intro i
  simp only [List.getElem?_map]
  by_cases h : i < ops.size
  · rw [List.getElem?_range h]
    simp [h]
  · rw [List.getElem?_eq_none (by simpa using h), List.getElem?_eq_none (by simpa using h)]; rfl

end
end Go.Aw

/-
  Aw, part 14 (second): an operation that reads may be taken first where all that could come ahead of it read alone.
-/
set_option linter.unusedSimpArgs false
set_option linter.unusedVariables false
namespace Go.Aw
open Go

/-- It leaves the world as it is. -/
def Still {α : Type} (s : Sem α) : Prop := ∀ (P : Program) (w : World) (v : α) (w' : World), s.run P w = .ok v w' → w' = w

/-- It leaves what there is. -/
def Grows {α : Type} (s : Sem α) : Prop := ∀ (P : Program) (w : World) (v : α) (w' : World), s.run P w = .ok v w' → Grown w w'

theorem Still.grows {α : Type} {s : Sem α} (h : Still s) : Grows s := fun P w v w' hr => by rw [h P w v w' hr]; exact .refl _
theorem Grows.bind {α β : Type} {s : Sem α} {f : α → Sem β} (h : Grows s) (h' : ∀ a, Grows (f a)) : Grows (s >>= f) := by
  intro P w v w' hr
  rw [Sem.run_bind] at hr
  cases hs : s.run P w with
  | ok a w1 =>
    rw [hs] at hr
    exact (h P w a w1 hs).trans (h' a P w1 v w' hr)
  | halt x w1 => rw [hs] at hr; cases hr
theorem Grows.newObj (o : Obj) : Grows (newObj o) := by
  intro P w v w' h
  have : (Go.newObj o).run P w = .ok w.heap.size { w with heap := w.heap.push o } := rfl
  rw [this] at h
  cases h
  exact ⟨by simp, fun b hb => by rw [Array.getElem?_push, if_neg (Nat.ne_of_lt hb)]⟩

theorem Still.pure {α : Type} (x : α) : Still (Pure.pure x : Sem α) := by
  intro P w v w' h; rw [Sem.run_pure] at h; cases h; rfl
theorem Still.bind {α β : Type} {s : Sem α} {f : α → Sem β} (h : Still s) (h' : ∀ a, Still (f a)) : Still (s >>= f) := by
  intro P w v w' hr
  rw [Sem.run_bind] at hr
  cases hs : s.run P w with
  | ok a w1 =>
    rw [hs] at hr
    have := h P w a w1 hs
    subst this
    exact h' a P _ v w' hr
  | halt x w1 => rw [hs] at hr; cases hr
theorem Still.stuck {α : Type} (x : String) : Still (stuck x : Sem α) := by
  intro P w v w' h; cases h
theorem Still.program : Still program := by
  intro P w v w' h; cases h; rfl
theorem Still.load (a : Addr) : Still (load a) := by
  intro P w v w' h
  unfold Go.load at h
  simp only [Sem.run] at h
  split at h
  · cases h; rfl
  · split at h
    · cases h; rfl
    · cases h
theorem Still.underlying (t : TypeId) : Still (underlying t) := by
  unfold Go.underlying
  refine Still.bind Still.program (fun p => ?_)
  split
  · exact Still.pure _
  · exact Still.stuck _
theorem Still.typeInfo (t : TypeId) : Still (typeInfo t) := by
  unfold Go.typeInfo
  refine Still.bind Still.program (fun p => ?_)
  split
  · exact Still.pure _
  · exact Still.stuck _
theorem still_sizeOf (t : TypeId) : Still (sizeOf t) := by
  unfold Go.sizeOf
  exact Still.bind (Still.typeInfo t) (fun _ => Still.pure _)
theorem still_isAgg (t : TypeId) : Still (isAgg t) := by
  unfold Go.isAgg
  refine Still.bind (Still.underlying t) (fun d => ?_)
  split <;> exact Still.pure _
theorem still_loadCellsFrom (a : Addr) : ∀ (n i : Nat) (acc : Array Value), Still (loadCellsFrom a i n acc)
  | 0, i, acc => by unfold Go.loadCellsFrom; exact Still.pure _
  | n + 1, i, acc => by unfold Go.loadCellsFrom; exact Still.bind (Still.load _) (fun v => still_loadCellsFrom a n _ _)
theorem still_loadVar (t : TypeId) (a : Addr) : Still (loadVar t a) := by
  unfold Go.loadVar
  refine Still.bind (still_isAgg t) (fun b => ?_)
  split
  · refine Still.bind (still_sizeOf t) (fun n => Still.bind ?_ (fun _ => Still.pure _))
    exact still_loadCellsFrom a _ _ _
  · exact Still.load a
theorem Still.loadAt (t : TypeId) (x : Value) : Still (Instr.loadAt t x) := by
  unfold Instr.loadAt
  refine Still.bind ?_ (fun a => still_loadVar t a)
  unfold Instr.sureAddr
  split
  · exact Still.pure _
  · exact Still.stuck _

theorem Still.unsupported {α : Type} (u : Unsupported) : Still (unsupported u : Sem α) := by
  intro P w v w' h; cases h
theorem Still.zeroValue (t : TypeId) : Still (zeroValue t) := by
  unfold Go.zeroValue
  refine Still.bind (Still.typeInfo t) (fun i => ?_)
  split
  · exact Still.pure _
  · exact Still.unsupported _
theorem Grows.pure {α : Type} (x : α) : Grows (Pure.pure x : Sem α) := (Still.pure x).grows
theorem Grows.newVar (t : TypeId) (v : Value) : Grows (newVar t v) := by
  unfold Go.newVar Go.newRow
  exact (Grows.newObj _).bind fun _ => .pure _
theorem Grows.alloc (t : TypeId) : Grows (Instr.alloc t true (.tuple #[])) := by
  unfold Instr.alloc
  exact (Still.zeroValue t).grows.bind fun z => (Grows.newVar t z).bind fun _ => .pure _
theorem Grows.box (t : TypeId) (v : Value) : Grows (Instr.box t v) := by
  unfold Instr.box
  exact (Grows.newVar t v).bind fun _ => .pure _
theorem Grows.buildSlice (t : TypeId) (n : Nat) (ps : Array (Nat × Value)) : Grows (Instr.buildSlice t n ps) := by
  unfold Instr.buildSlice
  repeat' (first
    | exact Grows.pure _
    | exact (Still.stuck _).grows
    | exact (Still.unsupported _).grows
    | exact Grows.newObj _
    | exact (Still.zeroValue _).grows
    | exact (still_sizeOf _).grows
    | exact (Still.underlying _).grows
    | refine Grows.bind ?_ (fun _ => ?_)
    | split
    | (unfold Go.newRow)
    | (simp only []; split))

/-- an operation that reads -/
def isStill : Op → Bool
  | .load _ _ => true
  | .move _ => true
  | .assign _ => true
  | _ => false

/-- an operation that leaves what there is -/
def isGrow : Op → Bool
  | .load _ _ => true
  | .move _ => true
  | .assign _ => true
  | .alloc _ => true
  | .box _ _ => true
  | .buildSlice _ _ _ => true
  | _ => false

theorem grow_run {o : Oper} (h : isGrow o.op = true) (ρ : Operand → Value) {P : Program} {w : World} {n : Next} {w' : World} (hr : (execOp ρ o).run P w = .ok n w') : Grown w w' ∧ ∃ v, n = .value v := by
  obtain ⟨dst, op, type, pos, after, guard⟩ := o
  have key : ∀ {s : Sem Value}, Grows s → execOp ρ ⟨dst, op, type, pos, after, guard⟩ = (do let v ← s; Pure.pure (.value v)) → Grown w w' ∧ ∃ v, n = .value v := by
    intro s hs e
    rw [e, Sem.run_bind] at hr
    cases h1 : s.run P w with
    | ok v w1 =>
      rw [h1] at hr
      have := hs P w v w1 h1
      cases hr
      exact ⟨this, v, rfl⟩
    | halt y w1 => rw [h1] at hr; cases hr
  cases op <;> simp only [isGrow] at h <;> try (cases h; done)
  case move x => cases hr; exact ⟨.refl _, _, rfl⟩
  case assign x => cases hr; exact ⟨.refl _, _, rfl⟩
  case load t x => exact key (Still.loadAt t (ρ x)).grows rfl
  case alloc t => exact key (Grows.alloc t) rfl
  case box t x => exact key (Grows.box t (ρ x)) rfl
  case buildSlice t k ps => exact key (Grows.buildSlice t k _) rfl

/-- what such an operation hands on, it hands on in a world that has what there was -/
theorem wpOp_grow {P : Program} {ops : Array Oper} {Q : Exit → Act → World → Prop} {j : Nat} {o : Oper} (hj : ops[j]? = some o) (hs : isGrow o.op = true) (hQ : ∀ c a w, ¬ Q (.panic c) a w) {K : Act → World → Prop} {a : Act} {w : World}
    (h : wpOp P ops Q j K a w) : wpOp P ops Q j (fun a' w' => Grown w w' ∧ K a' w') a w := by
  unfold wpOp at *
  simp only [hj] at *
  split
  · rename_i hw
    simp only [hw, if_true] at h
    rcases h with h | ⟨h1, h2⟩
    · left
      unfold Oper.wp at *
      cases hr : (execOp a.eval o).run P w with
      | ok n w1 =>
        rw [hr] at h
        obtain ⟨hg, v, rfl⟩ := grow_run hs a.eval hr
        simp only [Oper.upon] at h ⊢
        exact ⟨hg, h⟩
      | halt x w1 =>
        rw [hr] at h
        cases x <;> simp only [Oper.upon] at h ⊢
        case panic u => exact (hQ _ _ _ h).elim
    · exact .inr ⟨h1, h2⟩
  · rename_i hw
    simp only [hw] at h
    exact ⟨.refl _, by simpa using h⟩

/-- what could come ahead of i, one after the other -/
def fillZ (ops : Array Oper) (i : Nat) : Nat → Array Bool → List Nat
  | 0, _ => []
  | n + 1, l => match (Region.ready .any ops l).find? (fun j => !(j == i)) with
    | none => []
    | some j => j :: fillZ ops i n (l.setIfInBounds j true)

def setAll (l : Array Bool) : List Nat → Array Bool
  | [] => l
  | j :: z => setAll (l.setIfInBounds j true) z

/-- all that could come ahead of i is still -/
def stillAhead (ops : Array Oper) (l : Array Bool) (i : Nat) : Bool :=
  let z := fillZ ops i ops.size l
  (z.all fun j => match ops[j]? with | some o => isGrow o.op | none => false) && (Region.ready .any ops (setAll l z)).all (· == i)

theorem setAll_size (l : Array Bool) : ∀ z, (setAll l z).size = l.size
  | [] => rfl
  | j :: z => by simp [setAll, setAll_size (l.setIfInBounds j true) z]

theorem setAll_le {l : Array Bool} {k : Nat} : ∀ {z : List Nat}, l.getD k false = true → (setAll l z).getD k false = true
  | [], h => h
  | j :: z, h => setAll_le (z := z) (getD_set_true h)

theorem setAll_mem {k : Nat} : ∀ {z : List Nat} {l : Array Bool}, (setAll l z).getD k false = true → l.getD k false = true ∨ k ∈ z
  | [], l, h => .inl h
  | j :: z, l, h => by
    rcases setAll_mem (z := z) (l := l.setIfInBounds j true) h with h1 | h1
    · by_cases e : j = k
      · exact .inr (by simp [e])
      · rw [getD_set_ne false e] at h1; exact .inl h1
    · exact .inr (by simp [h1])

theorem getD_tf {l : Array Bool} {k : Nat} (h : l.getD k true = false) : l.getD k false = false ∧ k < l.size := by
  rcases Nat.lt_or_ge k l.size with h' | h'
  · simp [h'] at h ⊢; exact h
  · simp [Array.getElem?_eq_none h'] at h

theorem getD_ft {l : Array Bool} {k : Nat} (h : l.getD k false = false) (hk : k < l.size) : l.getD k true = false := by
  simp [hk] at h ⊢; exact h

theorem first_still {P : Program} {ops : Array Oper} {Q : Exit → Act → World → Prop} {i : Nat} {oi : Oper} {v : Value} (hi : ops[i]? = some oi) (hsel : ∀ (j : Nat) (o : Oper) cs b, ops[j]? = some o → o.op ≠ .select cs b)
    (hQ : ∀ c a w, ¬ Q (.panic c) a w) {L : Array Bool} (hL : ∀ j ∈ Region.ready .any ops L, j = i) {w0 : World} {S : World → Prop} (hGS : ∀ w, Grown w0 w → S w) :
    ∀ (fuel : Nat) (listed : Array Bool) (a : Act) (w : World),
      (∀ j oj, ops[j]? = some oj → j ≠ i → listed.getD j true = false → (∀ e ∈ oj.after, Region.binds .any e = true → e.on ≠ i) → oi.apart ops oj = true) →
      (∀ k, listed.getD k false = true → L.getD k false = true) → L.size = listed.size → (∀ j o, ops[j]? = some o → L.getD j false = true → listed.getD j false = false → isGrow o.op = true) →
      i ∈ Region.ready .any ops listed → Grown w0 w → YieldsIf P ops (Grown w0) oi v a →
      wpAnyH P .any ops Q S fuel (listed.setIfInBounds i true) (a.put oi.dst v) w → wpAnyH P .any ops Q S (fuel + 1) listed a w := by
  intro fuel
  induction fuel with
  | zero =>
    intro listed a w _ _ _ _ hr hg hy H
    refine ⟨fun h => (by rw [h] at hr; cases hr), fun j hj => ?_⟩
    by_cases hji : j = i
    · subst hji; exact hy.wpOp hi hg ⟨hGS _ hg, H⟩
    · have := ready_mono hj hji
      rw [H.1] at this
      cases this
  | succ fuel ih =>
    intro listed a w hfree hle hsz hst hr hg hy H
    refine ⟨fun h => (by rw [h] at hr; cases hr), fun j hj => ?_⟩
    by_cases hji : j = i
    · subst hji; exact hy.wpOp hi hg ⟨hGS _ hg, H⟩
    · have h1 := H.2 j (ready_mono hj hji)
      obtain ⟨hjun, oj, hoj, hall⟩ := mem_ready.1 hj
      obtain ⟨hjf, hjl⟩ := getD_tf hjun
      have hLj : L.getD j false = true := by
        cases hc : L.getD j false with
        | true => rfl
        | false =>
          exact absurd (hL j (mem_ready.2 ⟨getD_ft hc (by rw [hsz]; exact hjl), oj, hoj, fun e he hb => hle _ (hall e he hb)⟩)) hji
      have hs := hst j oj hoj hLj hjf
      have hnot : ∀ e ∈ oj.after, Region.binds .any e = true → e.on ≠ i := fun e he hb heq => by
        have h1 := hall e he hb
        have h0 := (mem_ready.1 hr).1
        rw [heq] at h1
        rcases Nat.lt_or_ge i listed.size with h' | h'
        · simp [h'] at h0 h1; rw [h0] at h1; cases h1
        · simp [Array.getElem?_eq_none h'] at h1
      have h1' : wpOp P ops Q j (fun a' w' => Grown w0 w' ∧ wpAnyH P .any ops Q S fuel ((listed.setIfInBounds i true).setIfInBounds j true) a' w') (a.put oi.dst v) w := wpOp_mono (fun a' w' h => ⟨hg.trans h.1, h.2.2⟩) (wpOp_grow hoj hs hQ h1)
      have h2 := wpOp_putIf hoj (hfree j oj hoj hji hjun hnot) (fun cs b => hsel i oi cs b hi) (fun cs b => hsel j oj cs b hoj) (fun c a w hc => absurd hc (hQ c _ w)) hy h1'
      have hfree' : ∀ k ok, ops[k]? = some ok → k ≠ i → (listed.setIfInBounds j true).getD k true = false →
          (∀ e ∈ ok.after, Region.binds .any e = true → e.on ≠ i) → oi.apart ops ok = true := fun k ok hk hki hun hno => by
        refine hfree k ok hk hki ?_ hno
        by_cases hjk : j = k
        · subst hjk; exact hjun
        · rw [getD_set_ne true hjk] at hun; exact hun
      refine wpOp_mono (fun a' w' h3 => ?_) h2
      obtain ⟨hy', hg', h4⟩ := h3
      refine ⟨hGS _ hg', ih (listed.setIfInBounds j true) a' _ hfree' ?_ (by simpa using hsz) ?_ (ready_mono hr (Ne.symm hji)) hg' hy' ?_⟩
      · intro k hk
        by_cases e : j = k
        · subst e; exact hLj
        · rw [getD_set_ne false e] at hk; exact hle k hk
      · intro k o hk hk1 hk2
        refine hst k o hk hk1 ?_
        cases hc : listed.getD k false with
        | false => rfl
        | true => rw [getD_set_true hc] at hk2; cases hk2
      · rw [Array.setIfInBounds_comm _ _ hji]
        exact h4

theorem take_stillH {P : Program} {ops : Array Oper} {Q : Exit → Act → World → Prop} {S : World → Prop} {i : Nat} {oi : Oper} {v : Value} {fuel : Nat} {listed : Array Bool} {a : Act} {w : World} (hi : ops[i]? = some oi)
    (hs : Region.noSelect ops = true) (hf : Region.free .any ops listed i = true) (hr : (Region.ready .any ops listed).contains i = true) (hst : stillAhead ops listed i = true)
    (hQ : ∀ c a w, ¬ Q (.panic c) a w) (hy : YieldsIf P ops (Grown w) oi v a)
    (hGS : ∀ w', Grown w w' → S w') (h : wpAnyH P .any ops Q S fuel (listed.setIfInBounds i true) (a.put oi.dst v) w) : wpAnyH P .any ops Q S (fuel + 1) listed a w := by
  unfold stillAhead at hst
  simp only [Bool.and_eq_true] at hst
  obtain ⟨h1, h2⟩ := hst
  refine first_still (S := S) hi (Region.noSelect_spec hs) hQ (L := setAll listed (fillZ ops i ops.size listed)) (fun j hj => by simpa using List.all_eq_true.1 h2 j hj) hGS fuel listed a w (Region.free_spec hi hf)
    (fun k hk => setAll_le hk) (setAll_size _ _) (fun j o hj hk1 hk2 => ?_) (by simpa using hr) (.refl w) hy h
  rcases setAll_mem hk1 with h3 | h3
  · rw [h3] at hk2; cases hk2
  · have := List.all_eq_true.1 h1 j h3
    rw [hj] at this
    exact this

theorem held_mono {P : Program} {ops : Array Oper} {Q : Exit → Act → World → Prop} {S S' : World → Prop} (hS : ∀ w, S w → S' w) : ∀ (fuel : Nat) (l : Array Bool) (a : Act) (w : World), wpAnyH P .any ops Q S fuel l a w → wpAnyH P .any ops Q S' fuel l a w
  | 0, _, _, _, h => h
  | fuel + 1, _, _, _, h => ⟨h.1, fun i hi => wpOp_mono (fun a' w' h' => ⟨hS _ h'.1, held_mono hS fuel _ a' w' h'.2⟩) (h.2 i hi)⟩

end Go.Aw

/-
  Aw, part 14: regions are sound.
-/
set_option linter.unusedSimpArgs false
set_option linter.unusedVariables false
namespace Go.Aw
open Go

section
variable {P : Program} {T : Nat → TI} {C : Ctx} {m : Mu} {I : Nat → Prop} {H : List ABlk} {w : World}

/-- The abstract frame and own memory stand for the frame and the world. -/
def Rel (C : Ctx) (E : List AV) (H : List ABlk) (a : Act) (w : World) : Prop := ∃ m I, St C m I H w ∧ RepL w m I E a.tmps.toList ∧ a.defers = C.dfr

/-- What code leaves, told by what is left abstractly. -/
def QR (C : Ctx) (Q : Exit → List AV → List ABlk → Prop) : Exit → Act → World → Prop
  | .panic _, _, _ => False
  | .outgrown, _, _ => False
  | e, a, w => ∃ E H, Q e E H ∧ Rel C E H a w

theorem putK_eq (E : List AV) (d : Option Nat) (x : AV) (K : List AV → Prop) : putK E d x K = K (match d with | none => E | some d => E.set d x) := by
  cases d with
  | none => rfl
  | some d => simp only [putK, setK_eq]

theorem put_rep {E : List AV} {a : Act} {d : Option Nat} {x : AV} {y : Value} (hE : RepL w m I E a.tmps.toList) (hx : Rep w m I x y) : RepL w m I (match d with | none => E | some d => E.set d x) (a.put d y).tmps.toList := by
  cases d with
  | none => exact hE
  | some d =>
    simp only [Act.put, Array.toList_setIfInBounds]
    exact hE.set d hx

theorem put_defers {a : Act} {d : Option Nat} {y : Value} : (a.put d y).defers = a.defers := by cases d <;> rfl

/-- what is known of the bools on which operations hang -/
def KnOk (ops : Array Oper) (kn : List (Nat × Bool)) (a : Act) : Prop := ∀ x ∈ kn, yielded ops a.tmps x.1 = some x.2

theorem kno_mem : ∀ {kn : List (Nat × Bool)} {j : Nat} {b : Bool}, kno kn j = some b → (j, b) ∈ kn
  | [], _, _, h => by cases h
  | (k, c) :: r, j, b, h => by
    unfold kno at h
    cases e : Nat.beq k j with
    | true =>
      rw [e] at h
      cases h
      rw [Nat.eq_of_beq_eq_true e]; simp
    | false => rw [e] at h; simp [kno_mem h]

theorem wanted_of {ops : Array Oper} {o : Oper} {g : Nat × Bool} {a : Act} {b : Bool} (hg : o.guard = some g) (hy : yielded ops a.tmps g.1 = some b) : Region.wanted o (yielded ops a.tmps) = (b == g.2) := by
  unfold Region.wanted
  rw [hg]
  obtain ⟨j, want⟩ := g
  simp only at hy ⊢
  rw [hy]
  cases b <;> cases want <;> rfl

theorem knDel_spec {ops : Array Oper} {d : Nat} : ∀ {kn : List (Nat × Bool)} {K : List (Nat × Bool) → Prop}, knDel ops d kn K → ∃ kn', K kn' ∧ ∀ x ∈ kn', x ∈ kn ∧ dstOf ops x.1 ≠ some d
  | [], K, h => ⟨[], h, by simp⟩
  | x :: r, K, h => by
    unfold knDel at h
    cases hd : dstOf ops x.1 with
    | none =>
      rw [hd] at h
      obtain ⟨kn', h1, h2⟩ := knDel_spec h
      exact ⟨kn', h1, fun y hy => ⟨by simp [(h2 y hy).1], (h2 y hy).2⟩⟩
    | some d' =>
      rw [hd] at h
      cases hb : Nat.beq d' d with
      | true =>
        simp only [hb] at h
        obtain ⟨kn', h1, h2⟩ := knDel_spec h
        exact ⟨kn', h1, fun y hy => ⟨by simp [(h2 y hy).1], (h2 y hy).2⟩⟩
      | false =>
        simp only [hb] at h
        obtain ⟨kn', h1, h2⟩ := knDel_spec h
        refine ⟨x :: kn', h1, fun y hy => ?_⟩
        rcases List.mem_cons.1 hy with rfl | hy
        · refine ⟨by simp, fun e => ?_⟩
          rw [hd] at e; cases e
          simp at hb
        · exact ⟨by simp [(h2 y hy).1], (h2 y hy).2⟩

theorem yielded_put {ops : Array Oper} {a : Act} {d : Option Nat} {y : Value} {j : Nat} (h : ∀ d', d = some d' → dstOf ops j ≠ some d') : yielded ops (a.put d y).tmps j = yielded ops a.tmps j := by
  cases d with
  | none => rfl
  | some d =>
    have hne := h d rfl
    unfold yielded
    unfold dstOf at hne
    cases ho : ops[j]? with
    | none => rfl
    | some o =>
      rw [ho] at hne
      simp only [Option.bind_some]
      cases hd : o.dst with
      | none => rfl
      | some d' =>
        have : d ≠ d' := fun e => hne (by simp only [hd, e])
        simp [Act.put, Array.getElem?_setIfInBounds_ne this]

theorem knPut_spec {ops : Array Oper} {d : Option Nat} {kn : List (Nat × Bool)} {K : List (Nat × Bool) → Prop} {a : Act} (h : knPut ops d kn K) (hk : KnOk ops kn a) : ∃ kn', K kn' ∧ ∀ y, KnOk ops kn' (a.put d y) := by
  cases d with
  | none => exact ⟨kn, h, fun y => hk⟩
  | some d =>
    obtain ⟨kn', h1, h2⟩ := knDel_spec h
    refine ⟨kn', h1, fun y x hx => ?_⟩
    rw [yielded_put (fun d' e => by cases e; exact (h2 x hx).2)]
    exact hk x (h2 x hx).1

/-- How one operation goes on: it is done, or left out. -/
def Step (P : Program) (T : Nat → TI) (ops : Array Oper) (o : Oper) (kn : List (Nat × Bool)) (E : List AV) (H : List ABlk) (a : Act) (K : List (Nat × Bool) → List AV → List ABlk → Prop) : Prop :=
  (Region.wanted o (yielded ops a.tmps) = true ∧ aop P T o.op E H fun v H => putK E o.dst v fun E => knPut ops o.dst kn fun kn => K kn E H) ∨
  (Region.wanted o (yielded ops a.tmps) = false ∧ putK E o.dst (.v (.tuple #[])) fun E => knPut ops o.dst kn fun kn => K kn E H)

theorem opK_step {ops : Array Oper} {o : Oper} {kn : List (Nat × Bool)} {K : List (Nat × Bool) → List AV → List ABlk → Prop} {E : List AV} {a : Act} (hE : RepL w m I E a.tmps.toList) (hkn : KnOk ops kn a) (hk : opK P T ops o kn E H K) :
    ∃ kn' E', KnOk ops kn' a ∧ RepL w m I E' a.tmps.toList ∧ Step P T ops o kn' E' H a K := by
  unfold opK at hk
  cases hg : o.guard with
  | none =>
    simp only [hg] at hk
    exact ⟨kn, E, hkn, hE, .inl ⟨by unfold Region.wanted; rw [hg], hk⟩⟩
  | some g =>
    simp only [hg] at hk
    cases hd : dstOf ops g.1 with
    | none => rw [hd] at hk; exact hk.elim
    | some d =>
      rw [hd] at hk
      cases hkk : kno kn g.1 with
      | some b =>
        simp only [hkk] at hk
        have hw := wanted_of (b := b) hg (hkn (g.1, b) (kno_mem hkk))
        rw [eqB_iff] at hk
        refine ⟨kn, E, hkn, hE, ?_⟩
        cases hb : (b == g.2) with
        | true => rw [hb] at hk hw; exact .inl ⟨hw, hk⟩
        | false => rw [hb] at hk hw; exact .inr ⟨hw, hk⟩
      | none =>
        simp only [hkk, fv_eq] at hk
        have hlk := lk_rep d hE
        cases hx : lk E d with
        | v z =>
          rw [hx] at hk hlk
          cases z with
          | bool t =>
            simp only [ASplit.iff, setK_eq, eqB_iff] at hk
            have hz := hlk.v_eq
            have hslot : a.tmps[d]? = some (.bool t) := by
              simp only [List.getD_eq_getElem?_getD, Array.getElem?_toList] at hz
              cases hs : a.tmps[d]? with
              | none => rw [hs] at hz; simp [undef] at hz
              | some u => rw [hs] at hz; simpa using hz
            have hy : yielded ops a.tmps g.1 = some t := by
              unfold yielded
              have hdd : (ops[g.1]?).bind (·.dst) = some d := by
                unfold dstOf at hd
                cases h9 : ops[g.1]? with
                | none => rw [h9] at hd; cases hd
                | some o' => rw [h9] at hd; exact hd
              rw [hdd]
              simp only [Option.bind_some, hslot]
            have hw := wanted_of hg hy
            have hset : RepL w m I (E.set d (.v (.bool t))) a.tmps.toList := by
              have h1 := hE.set d (x := .v (.bool t)) (y := .bool t) (by simp only [Rep])
              have h2 : a.tmps.toList.set d (.bool t) = a.tmps.toList := by
                apply List.ext_getElem?
                intro j
                by_cases e1 : d = j
                · subst e1
                  have hlt : d < a.tmps.toList.length := by
                    have := (Array.getElem?_eq_some_iff.1 hslot).1; simpa using this
                  rw [List.getElem?_set_self hlt, Array.getElem?_toList, hslot]
                · rw [List.getElem?_set_ne e1]
              rw [h2] at h1; exact h1
            refine ⟨(g.1, t) :: kn, E.set d (.v (.bool t)), ?_, hset, ?_⟩
            · intro x hx
              rcases List.mem_cons.1 hx with rfl | hx
              · exact hy
              · exact hkn x hx
            · cases hb : (t == g.2) with
              | true => rw [hb] at hk hw; exact .inl ⟨hw, hk⟩
              | false => rw [hb] at hk hw; exact .inr ⟨hw, hk⟩
          | tuple ts =>
            have hz := hlk.v_eq
            have hy : yielded ops a.tmps g.1 = none := by
              unfold yielded
              have hdd : (ops[g.1]?).bind (·.dst) = some d := by
                unfold dstOf at hd
                cases h9 : ops[g.1]? with
                | none => rw [h9] at hd; cases hd
                | some o' => rw [h9] at hd; exact hd
              rw [hdd]
              simp only [Option.bind_some]
              simp only [List.getD_eq_getElem?_getD, Array.getElem?_toList] at hz
              cases hs : a.tmps[d]? with
              | none => rfl
              | some u => rw [hs] at hz; simp at hz; rw [hz]
            refine ⟨kn, E, hkn, hE, .inr ⟨?_, hk⟩⟩
            unfold Region.wanted
            rw [hg]
            obtain ⟨j, want⟩ := g
            simp only at hy ⊢
            rw [hy]; rfl
          | _ => exact hk.elim
        | _ => rw [hx] at hk; exact hk.elim

/-- One operation, carried out. -/
theorem step_op (hT : TOk P T) (h : St C m I H w) {ops : Array Oper} {o : Oper} {kn : List (Nat × Bool)} {E : List AV} {a : Act} (hE : RepL w m I E a.tmps.toList) (hd : a.defers = C.dfr) (hkn : KnOk ops kn a)
    {K : List (Nat × Bool) → List AV → List ABlk → Prop} (hk : Step P T ops o kn E H a K) {R : Act → World → Prop} {Q : Exit → Act → World → Prop}
    (hR : ∀ kn E H m I a w, K kn E H → St C m I H w → RepL w m I E a.tmps.toList → a.defers = C.dfr → KnOk ops kn a → R a w) :
    if Region.wanted o (yielded ops a.tmps) then o.wp P a w R Q ∨ (o.asks P a w ∧ LetsOut Q) else R (a.put o.dst undef) w := by
  rcases hk with ⟨hw, hk⟩ | ⟨hw, hk⟩
  · rw [if_pos hw]
    refine .inl (Oper.wp_mono (fun a' w' h' => ?_) (aop_sound hT h hE hk))
    obtain ⟨x, y, H', m', I', h1, rfl, h3, h4, h5⟩ := h'
    rw [putK_eq] at h1
    obtain ⟨kn', h6, h7⟩ := knPut_spec h1 hkn
    exact hR kn' _ H' m' I' _ w' h6 h4 (put_rep (RepL.ext h5 _ _ hE) h3) (by rw [put_defers]; exact hd) (h7 y)
  · rw [if_neg (by simp [hw])]
    rw [putK_eq] at hk
    obtain ⟨kn', h6, h7⟩ := knPut_spec hk hkn
    exact hR kn' _ H m I _ w h6 h (put_rep hE (by simp [Rep, undef])) (by rw [put_defers]; exact hd) (h7 undef)

/-- A region, in the order of this list. -/
structure AO (P : Program) (T : Nat → TI) (ops : Array Oper) (os : List Oper) (kn : List (Nat × Bool)) (Q : List AV → List ABlk → Prop) (E : List AV) (H : List ABlk) : Prop where
  run : ∀ (C : Ctx) (R : Exit → Act → World → Prop), (∀ E H a w, Q E H → Rel C E H a w → R .normal a w) → ∀ (is : List Nat) (m : Mu) (I : Nat → Prop) (a : Act) (w : World), is.map (fun i => ops[i]?) = os.map some →
    St C m I H w → RepL w m I E a.tmps.toList → a.defers = C.dfr → KnOk ops kn a → wpOps P ops R is a w

theorem AO.nil {ops : Array Oper} {kn : List (Nat × Bool)} {Q : List AV → List ABlk → Prop} {E : List AV} (h : Q E H) : AO P T ops [] kn Q E H :=
  ⟨fun C R hR is m I a w hi hs hE hd hkn => by
    cases is with
    | nil => exact hR E H a w h ⟨m, I, hs, hE, hd⟩
    | cons => simp at hi⟩

theorem AO.cons (hT : TOk P T) {ops : Array Oper} {o : Oper} {os : List Oper} {kn : List (Nat × Bool)} {Q : List AV → List ABlk → Prop} {E : List AV} (h : opK P T ops o kn E H fun kn E H => AO P T ops os kn Q E H) : AO P T ops (o :: os) kn Q E H :=
  ⟨fun C R hR is m I a w hi hs hE hd hkn => by
    cases is with
    | nil => simp at hi
    | cons i is =>
      simp only [List.map_cons, List.cons.injEq] at hi
      obtain ⟨kn', E', hkn', hE', hst⟩ := opK_step hE hkn h
      have := step_op (Q := R) (R := wpOps P ops R is) hT hs hE' hd hkn' hst (fun kn E H m I a w g1 g2 g3 g4 g5 => g1.run C R hR is m I a w hi.2 g2 g3 g4 g5)
      simp only [wpOps, hi.1]
      exact this⟩

/-! ### in whatever order -/
def ordQ (ops : Array Oper) : List Nat → Array Bool → Bool
  | [], l => Region.ready .any ops l == []
  | i :: q, l => (match ops[i]? with
      | some o => isQuiet o.op && Region.free .any ops l i && (Region.ready .any ops l).contains i
      | none => false) && ordQ ops q (l.setIfInBounds i true)

def ordOk (ops : Array Oper) : List Nat → List Nat → Array Bool → Bool
  | [], q, l => ordQ ops q l
  | i :: r, q, l => (match ops[i]? with
      | some o => (isPure o.op && Region.free .any ops l i && (Region.ready .any ops l).contains i) || (Region.ready .any ops l == [i]) || (isStill o.op && Region.free .any ops l i && (Region.ready .any ops l).contains i && stillAhead ops l i)
      | none => false) && ordOk ops r q (l.setIfInBounds i true)

theorem aop_quiet (hT : TOk P T) (h : St C m I H w) {o : Oper} {a : Act} {E : List AV} (hE : RepL w m I E a.tmps.toList) {K : AV → List ABlk → Prop} (hp : isQuiet o.op = true) (hk : aop P T o.op E H K) :
    ∃ x v, K x H ∧ Rep w m I x v ∧ ∀ w', Grown w w' → (execOp a.eval o).run P w' = .ok (.value v) w' := by
  by_cases hq : isPure o.op = true
  · obtain ⟨x, v, h1, h2, h3⟩ := aop_pure hT h hE hq hk
    exact ⟨x, v, h1, h2, fun w' _ => h3 w'⟩
  · obtain ⟨dst, op, type, pos, after, guard⟩ := o
    cases op <;> simp only [isQuiet] at hp <;> try (exact absurd hp hq)
    case load t x =>
      simp only [aop] at hk
      obtain ⟨p, hk, hr⟩ := evK_sound hE hk
      obtain ⟨v, y, g1, g2, g3⟩ := loadAtK_sound (P := P) hT h hk hr
      refine ⟨v, y, g1, g2, fun w' hg => ?_⟩
      have : execOp a.eval ⟨dst, .load t x, type, pos, after, guard⟩ = (do let v ← Instr.loadAt t (a.eval x); pure (.value v)) := rfl
      rw [this, Sem.run_bind, g3 w' hg]; rfl

/-- the quiet end of a region -/
structure AQ (P : Program) (T : Nat → TI) (ops : Array Oper) (q : List Nat) (kn : List (Nat × Bool)) (Q : List AV → List ABlk → Prop) (E : List AV) (H : List ABlk) : Prop where
  run : ∀ (C : Ctx) (R : Exit → Act → World → Prop), (∀ E H a w, Q E H → Rel C E H a w → R .normal a w) → (∀ c a w, ¬ R (.panic c) a w) → Region.noSelect ops = true → ∀ (m : Mu) (I : Nat → Prop) (a : Act) (w : World) (l : Array Bool) (fuel : Nat),
    St C m I H w → RepL w m I E a.tmps.toList → a.defers = C.dfr → KnOk ops kn a → q.length ≤ fuel → ordQ ops q l = true → wpAnyH P .any ops R (fun w' => w' = w) fuel l a w

/-- a region in whatever order, told in one -/
structure AD (P : Program) (T : Nat → TI) (ops : Array Oper) (is q : List Nat) (kn : List (Nat × Bool)) (Q : List AV → List ABlk → Prop) (E : List AV) (H : List ABlk) : Prop where
  run : ∀ (C : Ctx) (R : Exit → Act → World → Prop), (∀ E H a w, Q E H → Rel C E H a w → R .normal a w) → (∀ c a w, ¬ R (.panic c) a w) → Region.noSelect ops = true → ∀ (m : Mu) (I : Nat → Prop) (a : Act) (w : World) (l : Array Bool) (fuel : Nat),
    St C m I H w → RepL w m I E a.tmps.toList → a.defers = C.dfr → KnOk ops kn a → is.length + q.length ≤ fuel → ordOk ops is q l = true → wpAny P .any ops R fuel l a w

/-! ### orders that part and meet -/
def unl (ops : Array Oper) : List Nat → Array Bool
  | [] => Array.replicate ops.size false
  | i :: d => (unl ops d).setIfInBounds i true

def oneOk (ops : Array Oper) (l : Array Bool) (i : Nat) : Bool :=
  match ops[i]? with
  | some o => (isPure o.op && Region.free .any ops l i && (Region.ready .any ops l).contains i) || (Region.ready .any ops l == [i]) || (isStill o.op && Region.free .any ops l i && (Region.ready .any ops l).contains i && stillAhead ops l i)
  | none => false

inductive Pl where
  | nil
  | one (i : Nat) (r : Pl)
  | imm (i : Nat) (r : Pl)
  | fork (a : Nat) (p : Pl) (b : Nat) (q : Pl) (r : Pl)

def immOk (ops : Array Oper) (l : Array Bool) (i : Nat) : Bool := Region.free .any ops l i && (Region.ready .any ops l).contains i

def planLen : Pl → Nat
  | .nil => 0
  | .one _ r => planLen r + 1
  | .imm _ r => planLen r + 1
  | .fork _ p _ _ r => planLen r + (planLen p + 1)

def brTo : Pl → List Nat → List Nat
  | .nil, d => d
  | .one i p, d => brTo p (i :: d)
  | .imm i p, d => brTo p (i :: d)
  | .fork a p _ _ r, d => brTo r (brTo p (a :: d))

def brOk (ops : Array Oper) : Pl → List Nat → Bool
  | .nil, _ => true
  | .one i p, d => oneOk ops (unl ops d) i && brOk ops p (i :: d)
  | .imm i p, d => immOk ops (unl ops d) i && brOk ops p (i :: d)
  | .fork a p b q r, d => (Region.ready .any ops (unl ops d) == [a, b]) && brOk ops p (a :: d) && brOk ops q (b :: d) && (unl ops (brTo p (a :: d)) == unl ops (brTo q (b :: d))) && Nat.beq (planLen p) (planLen q) && brOk ops r (brTo p (a :: d))

def planOk (ops : Array Oper) (p : Pl) (d : List Nat) : Bool := brOk ops p d && Region.ready .any ops (unl ops (brTo p d)) == []

def KeepsI (I : Nat → Prop) (w w' : World) : Prop := ∀ b, I b → w'.heap[b]? = w.heap[b]?

theorem KeepsI.ext {w' w'' : World} {m' : Mu} {I' : Nat → Prop} (he : Ext w m I w' m' I') (h : KeepsI I' w' w'') : KeepsI I w w'' := fun b hb => (h b (he.imm b hb)).trans (he.same b hb)

theorem step_opH (hT : TOk P T) (h : St C m I H w) {ops : Array Oper} {o : Oper} {kn : List (Nat × Bool)} {E : List AV} {a : Act} (hE : RepL w m I E a.tmps.toList) (hd : a.defers = C.dfr) (hkn : KnOk ops kn a)
    {K : List (Nat × Bool) → List AV → List ABlk → Prop} (hk : Step P T ops o kn E H a K) {R : Act → World → Prop} {Q : Exit → Act → World → Prop}
    (hR : ∀ kn E H m' I' a w', K kn E H → St C m' I' H w' → RepL w' m' I' E a.tmps.toList → a.defers = C.dfr → KnOk ops kn a → Ext w m I w' m' I' → R a w') :
    if Region.wanted o (yielded ops a.tmps) then o.wp P a w R Q ∨ (o.asks P a w ∧ LetsOut Q) else R (a.put o.dst undef) w := by
  rcases hk with ⟨hw, hk⟩ | ⟨hw, hk⟩
  · rw [if_pos hw]
    refine .inl (Oper.wp_mono (fun a' w' h' => ?_) (aop_sound hT h hE hk))
    obtain ⟨x, y, H', m', I', h1, rfl, h3, h4, h5⟩ := h'
    rw [putK_eq] at h1
    obtain ⟨kn', h6, h7⟩ := knPut_spec h1 hkn
    exact hR kn' _ H' m' I' _ w' h6 h4 (put_rep (RepL.ext h5 _ _ hE) h3) (by rw [put_defers]; exact hd) (h7 y) h5
  · rw [if_neg (by simp [hw])]
    rw [putK_eq] at hk
    obtain ⟨kn', h6, h7⟩ := knPut_spec hk hkn
    exact hR kn' _ H m I _ w h6 h (put_rep hE (by simp [Rep, undef])) (by rw [put_defers]; exact hd) (h7 undef) (.refl _ _ _)

/-- what is at hand in a region -/
structure At (C : Ctx) (S : World → Prop) (ops : Array Oper) (kn : List (Nat × Bool)) (E : List AV) (H : List ABlk) (m : Mu) (I : Nat → Prop) (a : Act) (w : World) : Prop where
  st : St C m I H w
  rep : RepL w m I E a.tmps.toList
  dfr : a.defers = C.dfr
  kn : KnOk ops kn a
  s : ∀ w', KeepsI I w w' → S w'

theorem At.now {S : World → Prop} {ops : Array Oper} {kn : List (Nat × Bool)} {E : List AV} {a : Act} (h : At C S ops kn E H m I a w) : S w := h.s w (fun _ _ => rfl)
theorem At.grown {S : World → Prop} {ops : Array Oper} {kn : List (Nat × Bool)} {E : List AV} {a : Act} (h : At C S ops kn E H m I a w) : ∀ w', Grown w w' → S w' := fun w' hg => h.s w' (fun b hb => hg.2 b (h.st.immlt b hb))

/-- what one operation that may be taken now leaves -/
theorem take_one (hT : TOk P T) {ops : Array Oper} {i : Nat} {o : Oper} (hoi : ops[i]? = some o) {kn : List (Nat × Bool)} {E : List AV} {K : List (Nat × Bool) → List AV → List ABlk → Prop} (hk : opK P T ops o kn E H K)
    {R : Exit → Act → World → Prop} (hp : ∀ c a w, ¬ R (.panic c) a w) (hs : Region.noSelect ops = true) {a : Act} {d : List Nat} {f : Nat} {S : World → Prop} (hA : At C S ops kn E H m I a w) (h1 : oneOk ops (unl ops d) i = true)
    (hR : ∀ kn E H m I a w, K kn E H → At C S ops kn E H m I a w → wpAnyH P .any ops R S f (unl ops (i :: d)) a w) : wpAnyH P .any ops R S (f + 1) (unl ops d) a w := by
  obtain ⟨kn', E', hkn', hE', hst⟩ := opK_step hA.rep hA.kn hk
  simp only [oneOk, hoi, Bool.and_eq_true, Bool.or_eq_true, beq_iff_eq] at h1
  rcases h1 with (⟨⟨h1, h2⟩, h3⟩ | h1) | ⟨⟨⟨h1, h2⟩, h3⟩, h5⟩
  · rcases hst with ⟨hw, hk⟩ | ⟨hw, hk⟩
    · obtain ⟨x, v, g1, g2, g3⟩ := aop_pure hT hA.st hE' h1 hk
      rw [putK_eq] at g1
      obtain ⟨kn'', g4, g5⟩ := knPut_spec g1 hkn'
      refine wpAnyH_take (v := v) hoi hs h2 h3 (fun c a w hc => absurd hc (hp c _ w)) (.inl ⟨hw, fun w' _ => g3 w'⟩) hA.now ?_
      exact hR _ _ _ _ _ _ _ g4 ⟨hA.st, put_rep hE' g2, by rw [put_defers]; exact hA.dfr, g5 v, hA.s⟩
    · rw [putK_eq] at hk
      obtain ⟨kn'', g4, g5⟩ := knPut_spec hk hkn'
      refine wpAnyH_take (v := undef) hoi hs h2 h3 (fun c a w hc => absurd hc (hp c _ w)) (.inr ⟨hw, rfl⟩) hA.now ?_
      exact hR _ _ _ _ _ _ _ g4 ⟨hA.st, put_rep hE' (by simp [Rep, undef]), by rw [put_defers]; exact hA.dfr, g5 undef, hA.s⟩
  · refine wpAnyH_all h1 (by simp) (fun j hj => ?_)
    obtain rfl : j = i := by simpa using hj
    have := step_opH (Q := R) (R := fun a' w' => S w' ∧ wpAnyH P .any ops R S f ((unl ops d).setIfInBounds j true) a' w') hT hA.st hE' hA.dfr hkn' hst (fun kn E H m I a w g1 g2 g3 g4 g5 g6 => by
      have hA' : At C S ops kn E H m I a w := ⟨g2, g3, g4, g5, fun w' hw' => hA.s w' (hw'.ext g6)⟩
      exact ⟨hA'.now, hR _ _ _ _ _ _ _ g1 hA'⟩)
    unfold wpOp
    rw [hoi]
    exact this
  · have hqt : isQuiet o.op = true := by
      obtain ⟨dst, op, type, pos, after, guard⟩ := o
      cases op <;> simp only [isStill] at h1 <;> first | (cases h1; done) | rfl
    rcases hst with ⟨hw, hk⟩ | ⟨hw, hk⟩
    · obtain ⟨x, v, g1, g2, g3⟩ := aop_quiet hT hA.st hE' hqt hk
      rw [putK_eq] at g1
      obtain ⟨kn'', g4, g5⟩ := knPut_spec g1 hkn'
      refine take_stillH (v := v) hoi hs h2 h3 h5 hp (.inl ⟨hw, fun w' hw' => g3 w' hw'⟩) hA.grown ?_
      exact hR _ _ _ _ _ _ _ g4 ⟨hA.st, put_rep hE' g2, by rw [put_defers]; exact hA.dfr, g5 v, hA.s⟩
    · rw [putK_eq] at hk
      obtain ⟨kn'', g4, g5⟩ := knPut_spec hk hkn'
      refine take_stillH (v := undef) hoi hs h2 h3 h5 hp (.inr ⟨hw, rfl⟩) hA.grown ?_
      exact hR _ _ _ _ _ _ _ g4 ⟨hA.st, put_rep hE' (by simp [Rep, undef]), by rw [put_defers]; exact hA.dfr, g5 undef, hA.s⟩

/-- a load of what stays is taken first, whatever may come ahead -/
theorem take_imm (hT : TOk P T) {ops : Array Oper} {i : Nat} {o : Oper} {t : Nat} {x : Operand} (hoi : ops[i]? = some o) (hop : o.op = .load t x) (hg : o.guard = none) {kn : List (Nat × Bool)} {E : List AV} {K : List (Nat × Bool) → List AV → List ABlk → Prop}
    (hk : evK E x fun p => ifK (immB p H) (loadAtK T H t p fun v => putK E o.dst v fun E => knPut ops o.dst kn fun kn => K kn E H))
    {R : Exit → Act → World → Prop} (hp : ∀ c a w, ¬ R (.panic c) a w) (hs : Region.noSelect ops = true) {a : Act} {d : List Nat} {f : Nat} {S : World → Prop} (hA : At C S ops kn E H m I a w) (h1 : immOk ops (unl ops d) i = true)
    (hR : ∀ kn E H m I a w S, K kn E H → At C S ops kn E H m I a w → wpAnyH P .any ops R S f (unl ops (i :: d)) a w) : wpAnyH P .any ops R S (f + 1) (unl ops d) a w := by
  obtain ⟨p, hk, hpr⟩ := evK_sound hA.rep hk
  obtain ⟨him, hk⟩ := ifK_iff.1 hk
  obtain ⟨v, y, g1, g2, g3⟩ := loadAtK_imm (P := P) hT hA.st him hk hpr
  rw [putK_eq] at g1
  obtain ⟨kn', g4, g5⟩ := knPut_spec g1 hA.kn
  simp only [immOk, Bool.and_eq_true] at h1
  have hrun : ∀ w', KeepsI I w w' → (execOp a.eval o).run P w' = .ok (.value y) w' := by
    intro w' hw'
    obtain ⟨dst, op, type, pos, after, guard⟩ := o
    simp only at hop
    subst hop
    have : execOp a.eval ⟨dst, .load t x, type, pos, after, guard⟩ = (do let v ← Instr.loadAt t (a.eval x); pure (.value v)) := rfl
    rw [this, Sem.run_bind, g3 w' hw']; rfl
  have hwant : Region.wanted o (yielded ops a.tmps) = true := by unfold Region.wanted; rw [hg]
  refine held_mono (S := fun w' => S w' ∧ KeepsI I w w') (fun _ h => h.1) _ _ _ _ ?_
  refine wpAnyH_take (v := y) hoi hs h1.1 h1.2 (fun c a w hc => absurd hc (hp c _ w)) (.inl ⟨hwant, fun w' hw' => hrun w' hw'.2⟩) ⟨hA.now, fun _ _ => rfl⟩ ?_
  exact hR _ _ _ _ _ _ _ _ g4 ⟨hA.st, put_rep hA.rep g2, by rw [put_defers]; exact hA.dfr, g5 y, fun w' hw' => ⟨hA.s w' hw', hw'⟩⟩

/-- one of two ways -/
structure AF (P : Program) (T : Nat → TI) (ops : Array Oper) (p : Pl) (kn : List (Nat × Bool)) (J : List (Nat × Bool) → List AV → List ABlk → Prop) (E : List AV) (H : List ABlk) : Prop where
  run : ∀ (C : Ctx) (R : Exit → Act → World → Prop), (∀ c a w, ¬ R (.panic c) a w) → Region.noSelect ops = true → ∀ (S : World → Prop) (m : Mu) (I : Nat → Prop) (a : Act) (w : World) (d : List Nat) (fuel : Nat),
    At C S ops kn E H m I a w → brOk ops p d = true →
    (∀ kn E H m I a w S, J kn E H → At C S ops kn E H m I a w → wpAnyH P .any ops R S fuel (unl ops (brTo p d)) a w) → wpAnyH P .any ops R S (fuel + planLen p) (unl ops d) a w

theorem AF.nil {ops : Array Oper} {kn : List (Nat × Bool)} {J : List (Nat × Bool) → List AV → List ABlk → Prop} {E : List AV} (h : J kn E H) : AF P T ops .nil kn J E H :=
  ⟨fun C R hp hs S m I a w d fuel hA ho hR => hR kn E H m I a w S h hA⟩

theorem AF.one (hT : TOk P T) {ops : Array Oper} {i : Nat} {o : Oper} {p : Pl} {kn : List (Nat × Bool)} {J : List (Nat × Bool) → List AV → List ABlk → Prop} {E : List AV} (hoi : ops[i]? = some o) (h : opK P T ops o kn E H fun kn E H => AF P T ops p kn J E H) : AF P T ops (.one i p) kn J E H :=
  ⟨fun C R hp hs S m I a w d fuel hA ho hR => by
    simp only [brOk, Bool.and_eq_true] at ho
    exact take_one (f := fuel + planLen p) hT hoi h hp hs hA ho.1 (fun kn E H m I a w g1 g2 => g1.run C R hp hs S m I a w (i :: d) fuel g2 ho.2 hR)⟩

theorem AF.imm (hT : TOk P T) {ops : Array Oper} {i : Nat} {o : Oper} {t : Nat} {x : Operand} {p : Pl} {kn : List (Nat × Bool)} {J : List (Nat × Bool) → List AV → List ABlk → Prop} {E : List AV} (hoi : ops[i]? = some o) (hop : o.op = .load t x) (hg : o.guard = none)
    (h : evK E x fun q => ifK (immB q H) (loadAtK T H t q fun v => putK E o.dst v fun E => knPut ops o.dst kn fun kn => AF P T ops p kn J E H)) : AF P T ops (.imm i p) kn J E H :=
  ⟨fun C R hp hs S m I a w d fuel hA ho hR => by
    simp only [brOk, Bool.and_eq_true] at ho
    exact take_imm (f := fuel + planLen p) hT hoi hop hg h hp hs hA ho.1 (fun kn E H m I a w S g1 g2 => g1.run C R hp hs S m I a w (i :: d) fuel g2 ho.2 hR)⟩

/-- one of two that may come now -/
structure AH (P : Program) (T : Nat → TI) (ops : Array Oper) (i : Nat) (p : Pl) (kn : List (Nat × Bool)) (J : List (Nat × Bool) → List AV → List ABlk → Prop) (E : List AV) (H : List ABlk) : Prop where
  run : ∀ (C : Ctx) (R : Exit → Act → World → Prop), (∀ c a w, ¬ R (.panic c) a w) → Region.noSelect ops = true → ∀ (S : World → Prop) (m : Mu) (I : Nat → Prop) (a : Act) (w : World) (d : List Nat) (fuel : Nat),
    At C S ops kn E H m I a w → brOk ops p (i :: d) = true →
    (∀ kn E H m I a w S, J kn E H → At C S ops kn E H m I a w → wpAnyH P .any ops R S fuel (unl ops (brTo p (i :: d))) a w) → wpOp P ops R i (fun a' w' => S w' ∧ wpAnyH P .any ops R S (fuel + planLen p) (unl ops (i :: d)) a' w') a w

theorem AH.of (hT : TOk P T) {ops : Array Oper} {i : Nat} {o : Oper} {p : Pl} {kn : List (Nat × Bool)} {J : List (Nat × Bool) → List AV → List ABlk → Prop} {E : List AV} (hoi : ops[i]? = some o) (h : opK P T ops o kn E H fun kn E H => AF P T ops p kn J E H) : AH P T ops i p kn J E H :=
  ⟨fun C R hp hs S m I a w d fuel hA ho hR => by
    obtain ⟨kn', E', hkn', hE', hst⟩ := opK_step hA.rep hA.kn h
    have := step_opH (Q := R) (R := fun a' w' => S w' ∧ wpAnyH P .any ops R S (fuel + planLen p) (unl ops (i :: d)) a' w') hT hA.st hE' hA.dfr hkn' hst (fun kn E H m I a w g1 g2 g3 g4 g5 g6 => by
      have hA' : At C S ops kn E H m I a w := ⟨g2, g3, g4, g5, fun w' hw' => hA.s w' (hw'.ext g6)⟩
      exact ⟨hA'.now, g1.run C R hp hs S m I a w (i :: d) fuel hA' ho hR⟩)
    unfold wpOp
    rw [hoi]
    exact this⟩

theorem AF.fork {ops : Array Oper} {i : Nat} {p : Pl} {j : Nat} {q : Pl} {r : Pl} {kn : List (Nat × Bool)} {Q : List (Nat × Bool) → List AV → List ABlk → Prop} {E : List AV} (J : List (Nat × Bool) → List AV → List ABlk → Prop)
    (h1 : AH P T ops i p kn J E H) (h2 : AH P T ops j q kn J E H) (h3 : ∀ kn E H, J kn E H → AF P T ops r kn Q E H) : AF P T ops (.fork i p j q r) kn Q E H :=
  ⟨fun C R hp hs S m I a w d fuel hA ho hR => by
    simp only [brOk, Bool.and_eq_true, beq_iff_eq] at ho
    obtain ⟨⟨⟨⟨⟨o1, o2⟩, o3⟩, o4⟩, o5⟩, o6⟩ := ho
    have o5 := Nat.eq_of_beq_eq_true o5
    have e : fuel + planLen (.fork i p j q r) = (fuel + planLen r) + planLen p + 1 := by simp only [planLen]; omega
    rw [e]
    refine wpAnyH_all o1 (by simp) (fun k hk => ?_)
    simp only [List.mem_cons, List.not_mem_nil, or_false] at hk
    rcases hk with rfl | rfl
    · exact h1.run C R hp hs S m I a w d (fuel + planLen r) hA o2 (fun kn E H m I a w S g1 g2 => (h3 kn E H g1).run C R hp hs S m I a w _ fuel g2 o6 hR)
    · have := h2.run C R hp hs S m I a w d (fuel + planLen r) hA o3 (fun kn E H m I a w S g1 g2 => by
        rw [← o4]
        exact (h3 kn E H g1).run C R hp hs S m I a w _ fuel g2 o6 hR)
      rw [← o5] at this
      exact this⟩

/-- both ways lead to one place -/
theorem AF.meet {ops : Array Oper} {i : Nat} {p : Pl} {j : Nat} {q : Pl} {r : Pl} {kn : List (Nat × Bool)} {Q : List (Nat × Bool) → List AV → List ABlk → Prop} {E : List AV} (kn1 : List (Nat × Bool)) (E1 : List AV) (H1 : List ABlk)
    (h1 : AH P T ops i p kn (fun kn E H => kn = kn1 ∧ E = E1 ∧ H = H1) E H) (h2 : AH P T ops j q kn (fun kn E H => kn = kn1 ∧ E = E1 ∧ H = H1) E H) (h3 : AF P T ops r kn1 Q E1 H1) : AF P T ops (.fork i p j q r) kn Q E H :=
  AF.fork _ h1 h2 (fun _ _ _ ⟨e1, e2, e3⟩ => by rw [e1, e2, e3]; exact h3)

end
end Go.Aw

