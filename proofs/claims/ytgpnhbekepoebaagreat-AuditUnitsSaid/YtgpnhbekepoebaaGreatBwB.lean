/-
  Part of a general proof tool: appends, copies, built values, no condition.
-/
import Derived.Test.YtgpnhbekepoebaaGreatBwA
import Derived.Laws.Append
import Derived.Laws.BytesString
set_option linter.unusedSimpArgs false
set_option linter.unusedVariables false
/-
  Aw, part 7: slices: parts, contents, append, make, copy; conversions; composite values.
-/
set_option linter.unusedSimpArgs false
set_option linter.unusedVariables false
namespace Go.Aw
open Go

section
variable {P : Program} {T : Nat → TI} {C : Ctx} {m : Mu} {I : Nat → Prop} {H : List ABlk} {w : World}

def OptRep (w : World) (m : Mu) (I : Nat → Prop) : Option AV → Option Value → Prop
  | none, y => y = none
  | some x, y => ∃ v, y = some v ∧ Rep w m I x v

theorem boundsK_sound {isS : Bool} {lo hi : Option AV} {LO HI : Option Value} {n cap : Nat} {K : Nat → Nat → Prop} (hk : boundsK lo hi n K) (hcap : n ≤ cap)
    (hlo : OptRep w m I lo LO) (hhi : OptRep w m I hi HI) :
    ∃ a b, K a b ∧ a ≤ b ∧ b ≤ n ∧ (∀ w', (Instr.sliceBounds isS n cap LO HI none).run P w' = .ok (a, b, cap) w') := by
  unfold boundsK at hk
  cases lo with
  | none =>
    simp only [OptRep] at hlo; subst hlo
    cases hi with
    | none =>
      simp only [OptRep] at hhi; subst hhi
      exact ⟨0, n, hk, Nat.zero_le _, Nat.le_refl _, fun w' => by simp [Instr.sliceBounds]⟩
    | some h =>
      obtain ⟨y, rfl, hr⟩ := hhi
      obtain ⟨k, v, rfl, rfl, hk⟩ := intK_spec hk hr
      simp only [AReq.iff] at hk
      obtain ⟨⟨h1, h2⟩, hk⟩ := hk
      refine ⟨0, v.toNat, hk, Nat.zero_le _, by omega, ?_⟩
      have : v ≤ (cap : Int) := by omega
      intro w'
      simp [Instr.sliceBounds, Instr.sliceBound, asIntOf, h1, this]
  | some l =>
    obtain ⟨yl, rfl, hrl⟩ := hlo
    cases hi with
    | none =>
      simp only [OptRep] at hhi; subst hhi
      obtain ⟨k, v, rfl, rfl, hk⟩ := intK_spec hk hrl
      simp only [AReq.iff] at hk
      obtain ⟨⟨h1, h2⟩, hk⟩ := hk
      refine ⟨v.toNat, n, hk, by omega, Nat.le_refl _, ?_⟩
      intro w'
      simp [Instr.sliceBounds, Instr.sliceBound, asIntOf, h1, h2]
    | some h =>
      obtain ⟨y, rfl, hr⟩ := hhi
      obtain ⟨k, v, rfl, rfl, hk⟩ := intK_spec hk hrl
      obtain ⟨k', u, rfl, rfl, hk⟩ := intK_spec hk hr
      simp only [AReq.iff] at hk
      obtain ⟨⟨h1, h2, h3⟩, hk⟩ := hk
      refine ⟨v.toNat, u.toNat, hk, by omega, by omega, ?_⟩
      obtain ⟨v, rfl⟩ := Int.eq_ofNat_of_zero_le h1
      obtain ⟨u, rfl⟩ := Int.eq_ofNat_of_zero_le (show 0 ≤ u by omega)
      have e2 : u ≤ cap := by omega
      have e3 : v ≤ u := by omega
      intro w'
      simp [Instr.sliceBounds, Instr.sliceBound, asIntOf, e2, e3]

theorem bounds3_sound {lo h mx : Option AV} {LO : Option Value} {hv mv : AV} {HI MX : Value} {n cap : Nat} {K : Nat → Nat → Prop} (hk : boundsK lo (some hv) n fun a b => intK mv fun q => AReq (q = b) (K a b)) (hcap : n ≤ cap)
    (hlo : OptRep w m I lo LO) (hhi : Rep w m I hv HI) (hmx : Rep w m I mv MX) :
    ∃ a b, K a b ∧ a ≤ b ∧ b ≤ n ∧ (∀ w', (Instr.sliceBounds true n cap LO (some HI) (some MX)).run P w' = .ok (a, b, b) w') := by
  unfold boundsK at hk
  cases lo with
  | none =>
    simp only [OptRep] at hlo; subst hlo
    obtain ⟨k, v, rfl, rfl, hk⟩ := intK_spec hk hhi
    simp only [AReq.iff] at hk
    obtain ⟨⟨h1, h2⟩, hk⟩ := hk
    obtain ⟨k', q, rfl, rfl, hk⟩ := intK_spec hk hmx
    obtain ⟨h3, hk⟩ := hk
    refine ⟨0, v.toNat, hk, Nat.zero_le _, by omega, ?_⟩
    obtain ⟨v, rfl⟩ := Int.eq_ofNat_of_zero_le h1
    subst h3
    have e2 : v ≤ cap := by omega
    intro w'
    simp [Instr.sliceBounds, Instr.sliceBound, asIntOf, e2]
  | some l =>
    obtain ⟨yl, rfl, hrl⟩ := hlo
    obtain ⟨k, v, rfl, rfl, hk⟩ := intK_spec hk hrl
    obtain ⟨k', u, rfl, rfl, hk⟩ := intK_spec hk hhi
    simp only [AReq.iff] at hk
    obtain ⟨⟨h1, h2, h3⟩, hk⟩ := hk
    obtain ⟨k'', q, rfl, rfl, hk⟩ := intK_spec hk hmx
    obtain ⟨h4, hk⟩ := hk
    refine ⟨v.toNat, u.toNat, hk, by omega, by omega, ?_⟩
    obtain ⟨v, rfl⟩ := Int.eq_ofNat_of_zero_le h1
    obtain ⟨u, rfl⟩ := Int.eq_ofNat_of_zero_le (show 0 ≤ u by omega)
    subst h4
    have e2 : u ≤ cap := by omega
    have e3 : v ≤ u := by omega
    intro w'
    simp [Instr.sliceBounds, Instr.sliceBound, asIntOf, e2, e3]

/-- A part of an immutable slice. -/
theorem part_imm {sz n a b mm : Nat} {xs : List AV} {A : Option Addr} (hab : a ≤ b) (hb : b ≤ n) (hm : b ≤ mm) (hxs : xs.length = n * sz)
    (hA : (A = none ∧ n = 0) ∨ ∃ x : Addr, A = some x ∧ (n = 0 ∨ (x.spot = none ∧ I x.block ∧ RepC w m I xs x.block x.off))) (hnil : A = none → mm = 0) :
    ((xs.drop (a * sz)).take ((b - a) * sz)).length = (b - a) * sz ∧
    (((if mm = a then A else A.map (·.add (a * sz))) = none ∧ b - a = 0 ∧ mm - a = 0) ∨
      ∃ x : Addr, (if mm = a then A else A.map (·.add (a * sz))) = some x ∧ (b - a = 0 ∨ (x.spot = none ∧ I x.block ∧ RepC w m I ((xs.drop (a * sz)).take ((b - a) * sz)) x.block x.off))) := by
  constructor
  · rw [List.length_take, List.length_drop, hxs, ← Nat.sub_mul]
    exact Nat.min_eq_left (Nat.mul_le_mul_right _ (by omega))
  · rcases hA with ⟨rfl, rfl⟩ | ⟨x, rfl, hx⟩
    · have := hnil rfl
      left; refine ⟨by simp, by omega, by omega⟩
    · right
      by_cases e : mm = a
      · exact ⟨x, by simp [e], .inl (by omega)⟩
      · refine ⟨x.add (a * sz), by simp [e], ?_⟩
        rcases hx with hx | ⟨h1, h2, h3⟩
        · left; omega
        · obtain ⟨bb, o, s⟩ := x
          simp only at h1 h2 h3
          subst h1
          rw [Addr.add_at]
          exact .inr ⟨rfl, h2, RepC.take _ (RepC.drop _ h3)⟩

theorem sliceK_sound (hT : TOk P T) {t : Nat} {x : AV} {y : Value} {lo hi mx : Option AV} {LO HI MX : Option Value} {K : AV → Prop} (hk : sliceK T t x lo hi mx K) (hr : Rep w m I x y)
    (hlo : OptRep w m I lo LO) (hhi : OptRep w m I hi HI)
    (hmx : OptRep w m I mx MX) (hne : ∀ e, (T t).u = .slice e → (T e).u ≠ .other) (hne2 : ∀ n e, (T t).u = .arr n e → (T e).u ≠ .other) (hna : ∀ n e, (T t).u ≠ .arr n e) : Val P w m I K (Instr.sliceAt t y LO HI MX) := by
  unfold sliceK at hk
  cases hU : (T t).u with
  | str =>
    rw [hU] at hk
    cases mx with
    | some _ => exact hk.elim
    | none =>
      simp only [OptRep] at hmx; subst hmx
      cases x with
      | v z =>
        obtain rfl := hr.v_eq
        cases y with
        | string s =>
          obtain ⟨a, b, hk, h1, h2, h3⟩ := boundsK_sound (P := P) (isS := false) hk (Nat.le_refl _) hlo hhi
          exact .ofv hk (fun w' => by simp [Instr.sliceAt, Instr.slice, und_str hT hU, h3])
        | _ => exact hk.elim
      | _ => exact hk.elim
  | slice e =>
    rw [hU] at hk
    have hu := fun w => und_slice (P := P) hT hU w
    have hsize := fun w => run_sizeOf_tab (P := P) hT (hne e hU) w
    cases mx with
    | none =>
      simp only [OptRep] at hmx; subst hmx
      cases x with
      | vs sz n xs =>
        simp only [ifK_iff] at hk
        obtain ⟨hs, hk⟩ := hk
        have hs' := Nat.eq_of_beq_eq_true hs
        simp only [Rep] at hr
        obtain ⟨A, cap, rfl, hc, hl, hA⟩ := hr
        obtain ⟨a, b, hk, h1, h2, h3⟩ := boundsK_sound (P := P) (isS := true) hk hc hlo hhi
        simp only [ACut.iff] at hk
        have := part_imm (w := w) (m := m) (I := I) (mm := cap) (A := A) h1 h2 (by omega) hl (by rcases hA with ⟨h, h', _⟩ | h; exact .inl ⟨h, h'⟩; exact .inr h) (fun h => by rcases hA with ⟨_, _, h'⟩ | ⟨_, h', _⟩; exact h'; rw [h] at h'; cases h')
        refine .of hk.2 (v := .slice (if cap = a then A else A.map (·.add (a * sz))) (b - a) (cap - a)) (by simp only [Rep]; exact ⟨_, _, rfl, by omega, this.1, by rcases this.2 with h | h; exact .inl h; exact .inr h⟩) (fun w' => ?_)
        simp [Instr.sliceAt, Instr.slice, hu, h3, hsize, hs']
      | vx sz n xs =>
        simp only [ifK_iff] at hk
        obtain ⟨hs, hk⟩ := hk
        have hs' := Nat.eq_of_beq_eq_true hs
        simp only [Rep] at hr
        obtain ⟨A, rfl, hl, hA⟩ := hr
        obtain ⟨a, b, hk, h1, h2, h3⟩ := boundsK_sound (P := P) (isS := true) hk (Nat.le_refl n) hlo hhi
        simp only [ACut.iff] at hk
        have := part_imm (w := w) (m := m) (I := I) (mm := n) (A := A) h1 h2 (by omega) hl hA (fun h => by rcases hA with ⟨_, h'⟩ | ⟨_, h', _⟩; exact h'; rw [h] at h'; cases h')
        refine .of hk.2 (v := .slice (if n = a then A else A.map (·.add (a * sz))) (b - a) (n - a)) (by simp only [Rep]; exact ⟨_, _, rfl, by omega, this.1, by rcases this.2 with h | h; exact .inl h; exact .inr h⟩) (fun w' => ?_)
        simp [Instr.sliceAt, Instr.slice, hu, h3, hsize, hs']
      | ms sz l o n =>
        simp only [ifK_iff] at hk
        obtain ⟨hs, hk⟩ := hk
        have hs' := Nat.eq_of_beq_eq_true hs
        simp only [Rep] at hr
        obtain ⟨hl, ⟨hb, hn, ho, rfl⟩ | ⟨bb, cap, o', hb, rfl, hc, hsz, ho⟩⟩ := hr
        · subst hn; subst ho
          obtain ⟨a, b, hk, h1, h2, h3⟩ := boundsK_sound (P := P) (isS := true) (n := 0) (cap := 0) hk (Nat.le_refl _) hlo hhi
          obtain rfl : b = 0 := by omega
          obtain rfl : a = 0 := by omega
          simp only [Nat.zero_mul, Nat.add_zero, Nat.sub_zero] at hk
          refine .of hk (v := .slice none 0 0) (by simp [Rep, hl, hb]) (fun w' => ?_)
          simp [Instr.sliceAt, Instr.slice, hu, h3, hsize]
        · obtain ⟨a, b, hk, h1, h2, h3⟩ := boundsK_sound (P := P) (isS := true) hk hc hlo hhi
          by_cases e : cap = a
          · subst e
            refine .of hk (v := .slice (some ⟨bb, o', none⟩) (b - cap) (cap - cap)) (by simp only [Rep]; refine ⟨hl, .inr ⟨bb, cap - cap, o', hb, rfl, by omega, ?_, fun h => by omega⟩⟩; rw [Nat.sub_self, Nat.zero_mul]; omega) (fun w' => ?_)
            simp [Instr.sliceAt, Instr.slice, hu, h3, hsize]
          · have hcap0 : cap ≠ 0 := by omega
            have := ho hcap0
            subst this
            have hmul : (cap - a) * sz + a * sz = cap * sz := by rw [← Nat.add_mul]; congr 1; omega
            refine .of hk (v := .slice (some ⟨bb, o' + a * sz, none⟩) (b - a) (cap - a)) (by simp only [Rep]; exact ⟨hl, .inr ⟨bb, cap - a, _, hb, rfl, by omega, by omega, fun _ => rfl⟩⟩) (fun w' => ?_)
            simp [Instr.sliceAt, Instr.slice, hu, h3, hsize, e, Addr.add_at, hs']
      | _ => exact hk.elim
    | some mv =>
      obtain ⟨M, rfl, hmr⟩ := hmx
      cases hi with
      | none => exact hk.elim
      | some hv =>
        obtain ⟨HV, rfl, hhr⟩ := hhi
        cases x with
        | vs sz n xs =>
          simp only [ifK_iff] at hk
          obtain ⟨hs, hk⟩ := hk
          have hs' := Nat.eq_of_beq_eq_true hs
          simp only [Rep] at hr
          obtain ⟨A, cap, rfl, hc, hl, hA⟩ := hr
          obtain ⟨a, b, hk, h1, h2, h3⟩ := bounds3_sound (P := P) (h := none) (mx := none) hk hc hlo hhr hmr
          simp only [ACut.iff] at hk
          have := part_imm (w := w) (m := m) (I := I) (mm := b) (A := A) h1 h2 (by omega) hl (by rcases hA with ⟨h, h', _⟩ | h; exact .inl ⟨h, h'⟩; exact .inr h) (fun h => by rcases hA with ⟨_, h', _⟩ | ⟨_, h', _⟩; omega; rw [h] at h'; cases h')
          refine .of hk.2 (v := .slice (if b = a then A else A.map (·.add (a * sz))) (b - a) (b - a)) (by simp only [Rep]; exact ⟨_, rfl, this.1, by rcases this.2 with ⟨h, h', _⟩ | h; exact .inl ⟨h, h'⟩; exact .inr h⟩) (fun w' => ?_)
          simp [Instr.sliceAt, Instr.slice, hu, h3, hsize, hs']
        | vx sz n xs =>
          simp only [ifK_iff] at hk
          obtain ⟨hs, hk⟩ := hk
          have hs' := Nat.eq_of_beq_eq_true hs
          simp only [Rep] at hr
          obtain ⟨A, rfl, hl, hA⟩ := hr
          obtain ⟨a, b, hk, h1, h2, h3⟩ := bounds3_sound (P := P) (h := none) (mx := none) hk (Nat.le_refl n) hlo hhr hmr
          simp only [ACut.iff] at hk
          have := part_imm (w := w) (m := m) (I := I) (mm := b) (A := A) h1 h2 (by omega) hl hA (fun h => by rcases hA with ⟨_, h'⟩ | ⟨_, h', _⟩; omega; rw [h] at h'; cases h')
          refine .of hk.2 (v := .slice (if b = a then A else A.map (·.add (a * sz))) (b - a) (b - a)) (by simp only [Rep]; exact ⟨_, rfl, this.1, by rcases this.2 with ⟨h, h', _⟩ | h; exact .inl ⟨h, h'⟩; exact .inr h⟩) (fun w' => ?_)
          simp [Instr.sliceAt, Instr.slice, hu, h3, hsize, hs']
        | _ => exact hk.elim
  | arr n e => exact absurd hU (hna n e)
  | _ => rw [hU] at hk; exact hk.elim

theorem World.cell?_heap {w w' : World} (h : w'.heap = w.heap) (a : Addr) : w'.cell? a = w.cell? a := by unfold World.cell?; rw [h]

/-- What a slice or a text holds. -/
theorem contentK_sound (h : St C m I H w) {sz0 : Nat} {x : AV} {y : Value} {K : Nat → List AV → Prop} (hk : contentK H sz0 x K) (hr : Rep w m I x y) :
    ∃ n xs ys, K n xs ∧ RepL w m I xs ys ∧ (∀ u ∈ ys, u.oneCell' = true) ∧ xs.length = n * sz0 ∧ (Builtin.lenOf y).run P w = .ok n w ∧
      ∀ (w' : World), w'.heap = w.heap → ∀ k, k ≤ n → (Builtin.firstCells sz0 k y).run P w' = .ok ⟨ys.take (k * sz0)⟩ w' := by
  have himm : ∀ {sz n cap : Nat} {xs : List AV} {A : Option Addr}, sz = sz0 → K n xs → xs.length = n * sz → y = .slice A n cap →
      ((A = none ∧ n = 0) ∨ ∃ x : Addr, A = some x ∧ (n = 0 ∨ (x.spot = none ∧ I x.block ∧ RepC w m I xs x.block x.off))) →
      ∃ n xs ys, K n xs ∧ RepL w m I xs ys ∧ (∀ u ∈ ys, u.oneCell' = true) ∧ xs.length = n * sz0 ∧ (Builtin.lenOf y).run P w = .ok n w ∧
        ∀ (w' : World), w'.heap = w.heap → ∀ k, k ≤ n → (Builtin.firstCells sz0 k y).run P w' = .ok ⟨ys.take (k * sz0)⟩ w' := by
    rintro sz n cap xs A rfl hk hl rfl hA
    rcases hA with ⟨rfl, rfl⟩ | ⟨x, rfl, hx⟩
    · have : xs = [] := List.eq_nil_of_length_eq_zero (by simpa using hl)
      subst this
      refine ⟨0, [], [], hk, by simp [RepL], by simp, by simp, by simp [Builtin.lenOf], fun w' hw' k hk0 => ?_⟩
      obtain rfl : k = 0 := by omega
      simp [Builtin.firstCells]
    · rcases hx with rfl | ⟨h1, h2, h3⟩
      · have : xs = [] := List.eq_nil_of_length_eq_zero (by simpa using hl)
        subst this
        refine ⟨0, [], [], hk, by simp [RepL], by simp, by simp, by simp [Builtin.lenOf], fun w' hw' k hk0 => ?_⟩
        obtain rfl : k = 0 := by omega
        simp [Builtin.firstCells, loadCells, loadCellsFrom]
      · obtain ⟨b, o, s⟩ := x
        simp only at h1 h2 h3
        subst h1
        obtain ⟨ys, h4, h5, h6⟩ := RepC.cells h3
        refine ⟨n, xs, ys, hk, h4, h5, hl, by simp [Builtin.lenOf], fun w' hw' k hk0 => ?_⟩
        have hlen : (ys.take (k * sz)).length = k * sz := by
          rw [List.length_take, h4.length, hl]; exact Nat.min_eq_left (Nat.mul_le_mul_right _ hk0)
        have := run_loadCells_list (P := P) w' ⟨b, o, none⟩ (ys.take (k * sz)) (fun j v hj => by
          rw [Addr.add_at, World.cell?_heap hw']
          refine h6 j v ?_
          rw [List.getElem?_take] at hj
          split at hj
          · exact hj
          · cases hj)
        rw [hlen] at this
        simpa [Builtin.firstCells] using this
  cases x with
  | v z =>
    obtain rfl := hr.v_eq
    cases y with
    | slice A n cap => cases A with
      | none =>
        simp only [contentK, ifK_iff] at hk
        have hn := Nat.eq_of_beq_eq_true hk.1
        subst hn
        exact himm (sz := sz0) (xs := []) rfl hk.2 (by simp) rfl (.inl ⟨rfl, rfl⟩)
      | some A => exact hk.elim
    | string s =>
      simp only [contentK, ifK_iff] at hk
      have hn := Nat.eq_of_beq_eq_true hk.1
      subst hn
      refine ⟨s.size, _, s.data.toList.map fun b => Value.int .u8 b.toNat, hk.2, ?_, by simp [Value.oneCell'], by rw [List.length_map, Array.length_toList, Nat.mul_one]; rfl, by simp [Builtin.lenOf], fun w' hw' k hk0 => ?_⟩
      · generalize s.data.toList = l
        induction l with
        | nil => simp [RepL]
        | cons b l ih => simp only [List.map_cons, RepL]; exact ⟨_, _, rfl, by simp [byteC, Rep], ih⟩
      · have e : (s.extract 0 k).data.map (fun b => Value.int .u8 b.toNat) = ⟨(s.data.toList.map fun b => Value.int .u8 b.toNat).take k⟩ := by
          apply Array.ext'
          simp [ByteArray.extract, ByteArray.copySlice, List.map_take]
        simp only [Builtin.firstCells, Nat.mul_one, Sem.run_pure]
        rw [e]
    | _ => exact hk.elim
  | vs sz n xs =>
    simp only [contentK, ifK_iff] at hk
    simp only [Rep] at hr
    obtain ⟨A, cap, e, hc, hl, hA⟩ := hr
    exact himm (Nat.eq_of_beq_eq_true hk.1) hk.2 hl e (by rcases hA with ⟨h, h', _⟩ | h; exact .inl ⟨h, h'⟩; exact .inr h)
  | vx sz n xs =>
    simp only [contentK, ifK_iff] at hk
    simp only [Rep] at hr
    obtain ⟨A, e, hl, hA⟩ := hr
    exact himm (Nat.eq_of_beq_eq_true hk.1) hk.2 hl e hA
  | ms sz l o n =>
    simp only [contentK, ifK_iff, blkK_iff] at hk
    obtain ⟨hs, B, hB, hk⟩ := hk
    have hs' := Nat.eq_of_beq_eq_true hs
    subst hs'
    obtain ⟨t, xs, hV, hk⟩ := seeK_iff.1 hk
    · simp only [ACut.iff] at hk
      simp only [Rep] at hr
      obtain ⟨hl, ⟨hb, rfl, rfl, rfl⟩ | ⟨bb, cap, o', hb, rfl, hc, hsz, ho⟩⟩ := hr
      · refine ⟨0, _, [], hk.2, by simp [RepL], by simp, by simp, by simp [Builtin.lenOf], fun w' hw' k hk0 => ?_⟩
        obtain rfl : k = 0 := by omega
        simp [Builtin.firstCells]
      · have hcc := RepC.take (n * sz) (RepC.drop o (h.repV hB hV hb))
        rw [Nat.zero_add] at hcc
        obtain ⟨ys, h4, h5, h6⟩ := RepC.cells hcc
        have hlx : ((xs.drop o).take (n * sz)).length = n * sz := by rw [List.length_take, List.length_drop]; omega
        refine ⟨n, _, ys, hk.2, h4, h5, hlx, by simp [Builtin.lenOf], fun w' hw' k hk0 => ?_⟩
        have hlen : (ys.take (k * sz)).length = k * sz := by
          rw [List.length_take, h4.length, hlx]; exact Nat.min_eq_left (Nat.mul_le_mul_right _ hk0)
        have := run_loadCells_list (P := P) w' ⟨bb, o', none⟩ (ys.take (k * sz)) (fun j v hj => by
          rw [Addr.add_at, World.cell?_heap hw']
          rw [List.getElem?_take] at hj
          split at hj
          · rename_i hlt
            have : cap ≠ 0 := by
              intro h0
              have : n = 0 := by omega
              subst this
              obtain rfl : k = 0 := by omega
              simp at hlt
            rw [ho this]
            exact h6 j v hj
          · cases hj)
        rw [hlen] at this
        simpa [Builtin.firstCells] using this
  | _ => exact hk.elim

end
end Go.Aw

/-
  Aw, part 8: arrays' parts, append, make, copy; conversions; composite values.
-/
set_option linter.unusedSimpArgs false
set_option linter.unusedVariables false
namespace Go.Aw
open Go

section
variable {P : Program} {T : Nat → TI} {C : Ctx} {m : Mu} {I : Nat → Prop} {H : List ABlk} {w : World}

theorem BlkRep.fits {l t : Nat} {xs : List AV} (h : BlkRep w m I l (.cells t xs)) : xs.length ≤ m.size l := by
  simp only [BlkRep] at h
  rcases h with ⟨_, rfl, _⟩ | ⟨b, ys, fr, _, _, _, _, h5, _, y1, y2, rfl, h7⟩
  · simp
  · have := h7.length; rw [← h5]; simp; omega

theorem sliceArrK_sound (hT : TOk P T) (h : St C m I H w) {t n e : Nat} (hU : (T t).u = .arr n e) (hne : (T e).u ≠ .other) {x : AV} {y : Value} {lo hi mx : Option AV} {LO HI MX : Option Value} {K : AV → Prop} (hk : sliceArrK T n e H x lo hi mx K) (hr : Rep w m I x y)
    (hlo : OptRep w m I lo LO) (hhi : OptRep w m I hi HI) (hmx : OptRep w m I mx MX) : Val P w m I K (Instr.sliceAt t y LO HI MX) := by
  have hsize := fun w => run_sizeOf_tab (P := P) hT hne w
  unfold sliceArrK at hk
  cases mx with
  | some _ => exact hk.elim
  | none =>
    simp only [OptRep] at hmx; subst hmx
    have hgen : ∀ {l o b : Nat}, l < m.n → m.blk l = some b → o + n * (T e).size ≤ m.size l → (boundsK lo hi n fun a b => K (.ms (T e).size l (o + a * (T e).size) (b - a))) →
        Val P w m I K (Instr.sliceAt t (.pointer (some ⟨b, o, none⟩)) LO HI none) := by
      intro l o bb hl hb hfit hk
      obtain ⟨a, b, hk, h1, h2, h3⟩ := boundsK_sound (P := P) (isS := false) hk (Nat.le_refl n) hlo hhi
      have hmul : (n - a) * (T e).size + a * (T e).size = n * (T e).size := by rw [← Nat.add_mul]; congr 1; omega
      by_cases e' : n = a
      · subst e'
        refine .of hk (v := .slice (some ⟨bb, o, none⟩) (b - n) (n - n)) (by simp only [Rep]; exact ⟨hl, .inr ⟨bb, n - n, o, hb, rfl, by omega, by omega, fun h => by omega⟩⟩) (fun w' => ?_)
        simp [Instr.sliceAt, und_arr hT hU, Instr.sureAddr, h3, hsize]
      · refine .of hk (v := .slice (some ⟨bb, o + a * (T e).size, none⟩) (b - a) (n - a)) (by simp only [Rep]; exact ⟨hl, .inr ⟨bb, n - a, _, hb, rfl, by omega, by omega, fun _ => rfl⟩⟩) (fun w' => ?_)
        simp [Instr.sliceAt, und_arr hT hU, Instr.sureAddr, h3, hsize, e', Addr.add_at]
    cases x with
    | ptr l o =>
      simp only [blkK_iff] at hk
      obtain ⟨B, hB, hk⟩ := hk
      simp only [Rep] at hr
      obtain ⟨hl, b, hb, rfl⟩ := hr
      cases B with
      | dead => exact hk.elim
      | map _ _ _ => exact hk.elim
      | iter _ _ _ => exact hk.elim
      | head _ _ => exact hk.elim
      | obj _ => exact hk.elim
      | loop _ _ _ => exact hk.elim
      | ice t xs => exact hk.elim
      | cells t' xs =>
        simp only [AReq.iff] at hk
        have := (h.blks l _ hB).fits
        exact hgen hl hb (by omega) hk.2
    | pe l b0 sz i j =>
      simp only [blkK_iff] at hk
      obtain ⟨B, hB, hk⟩ := hk
      simp only [Rep] at hr
      obtain ⟨hl, b, hb, rfl⟩ := hr
      cases B with
      | dead => exact hk.elim
      | map _ _ _ => exact hk.elim
      | iter _ _ _ => exact hk.elim
      | head _ _ => exact hk.elim
      | obj _ => exact hk.elim
      | loop _ _ _ => exact hk.elim
      | ice t xs => exact hk.elim
      | cells t' xs =>
        simp only [AReq.iff] at hk
        have := (h.blks l _ hB).fits
        exact hgen hl hb (by omega) hk.2
    | _ => exact hk.elim

/-- zero cells are one cell each -/
theorem zok_one {x : AV} {z : Value} (h : zok x z = true) : ∀ u ∈ z.cells.toList, u.oneCell' = true := by
  have hsing : z.oneCell' = true → ∀ u ∈ z.cells.toList, u.oneCell' = true := by
    intro h1 u hu
    cases z <;> first
      | (simp [Value.oneCell'] at h1; done)
      | (simp [Value.cells] at hu; subst hu; rfl)
  unfold zok at h
  split at h <;> first
    | exact hsing rfl
    | (simp only [Bool.and_eq_true] at h
       exact fun u hu => List.all_eq_true.1 h.2 u hu)
    | cases h

theorem zeroCells_spec {zero : Array Value} (h : ∀ u ∈ zero.toList, u.oneCell' = true) (n : Nat) : (∀ u ∈ (Builtin.zeroCells zero n).toList, u.oneCell' = true) ∧ (Builtin.zeroCells zero n).toList.length = n * zero.size := by
  constructor
  · intro u hu
    simp only [Builtin.zeroCells, Array.toList_map, Array.toList_range, List.mem_map, List.mem_range] at hu
    obtain ⟨i, hi, rfl⟩ := hu
    have h0 : 0 < zero.size := by
      rcases Nat.eq_zero_or_pos zero.size with h0 | h0
      · rw [h0] at hi; simp at hi
      · exact h0
    have hlt : i % zero.size < zero.size := Nat.mod_lt _ h0
    rw [getElem!_pos zero _ hlt]
    exact h _ (by simp)
  · simp [Builtin.zeroCells]

theorem lenOfK_run {x : AV} {y : Value} {K : AV → Prop} (hk : lenOfK x K) (hr : Rep w m I x y) : ∃ (n : Nat) (a : Option Addr) (c : Nat), K (.v (.int .i64 n)) ∧ y = .slice a n c := by
  cases x with
  | v z =>
    obtain rfl := hr.v_eq
    cases y with
    | slice a n c =>
      cases a with
      | none =>
        simp only [lenOfK, ifK_iff] at hk
        have := Nat.eq_of_beq_eq_true hk.1
        subst this
        exact ⟨0, _, _, hk.2, rfl⟩
      | some _ => exact hk.elim
    | _ => exact hk.elim
  | vs sz n xs => simp only [Rep] at hr; obtain ⟨a, c, e, _⟩ := hr; exact ⟨n, a, c, hk, e⟩
  | vx sz n xs => simp only [Rep] at hr; obtain ⟨a, e, _⟩ := hr; exact ⟨n, a, _, hk, e⟩
  | ms sz l o n =>
    simp only [Rep] at hr
    obtain ⟨_, ⟨_, h0, _, e⟩ | ⟨b, c, o', _, e, _⟩⟩ := hr
    · subst h0; exact ⟨0, _, _, hk, e⟩
    · exact ⟨n, _, _, hk, e⟩
  | _ => exact hk.elim

/-- append, as the model runs it -/
theorem run_append_fits (hT : TOk P T) {t t2 e ty : Nat} (hU : (T t).u = .slice e) (hne : (T e).u ≠ .other) {base : Option Addr} {sLen sCap n : Nat} {y : Value} {us : List Value}
    (hz : ∃ d, (∀ w, (underlying t2).run P w = .ok d w) ∧ (∀ k, d ≠ .int k)) (hlen : (Builtin.lenOf y).run P w = .ok n w) (hcells : (Builtin.firstCells (T e).size n y).run P w = .ok ⟨us⟩ w) (hfit : sLen + n ≤ sCap)
    {w' : World} (hst : ∀ a, base = some a → (storeCells (a.add (sLen * (T e).size)) us).run P w = .ok () w') (hnone : base = none → w' = w) :
    (Builtin.append_ #[t, t2] ty #[.slice base sLen sCap, y]).run P w = .ok (.slice base (sLen + n) sCap) w' := by
  obtain ⟨d, hd, hnd⟩ := hz
  have hzero : (match d with | .int _ => true | _ => false) = false := by cases d <;> first | rfl | exact absurd rfl (hnd _)
  simp only [Builtin.append_, List.getElem?_toArray, List.getElem?_cons_zero, List.getElem?_cons_succ, Sem.run_bind, und_slice hT hU, Result.andThen_ok, run_sizeOf_tab hT hne, hd, Sem.run_pure]
  cases d <;> first
    | exact absurd rfl (hnd _)
    | (simp only [Bool.false_eq_true, if_false, Sem.run_ite, Sem.run_bind, hlen, Result.andThen_ok, Bool.not_false, if_true]
       rw [if_pos hfit]
       simp only [Sem.run_bind, Sem.run_ite, if_true, hcells, Result.andThen_ok]
       cases base with
       | none => rw [hnone rfl]; rfl
       | some a => simp [hst a rfl])

theorem run_append_grows (hT : TOk P T) {t t2 e ty : Nat} (hU : (T t).u = .slice e) (hne : (T e).u ≠ .other) {base : Option Addr} {sLen sCap n : Nat} {y : Value} {us os : List Value}
    (hz : ∃ d, (∀ w, (underlying t2).run P w = .ok d w) ∧ (∀ k, d ≠ .int k)) (hlen : (Builtin.lenOf y).run P w = .ok n w) (hcells : ∀ w' : World, w'.heap = w.heap → (Builtin.firstCells (T e).size n y).run P w' = .ok ⟨us⟩ w')
    (hold : ∀ w' : World, w'.heap = w.heap → (Builtin.firstCells (T e).size sLen (.slice base sLen sCap)).run P w' = .ok ⟨os⟩ w') (hfit : ¬ sLen + n ≤ sCap) (hb1 : 1 ≤ (T e).bytes) (hb : (sLen + n) * (T e).bytes ≤ 140737488355328) :
    ∃ (w' : World) (cap : Nat) (rest : List Value), (∀ u ∈ rest, u.oneCell' = true) ∧ rest.length = (cap - (sLen + n)) * (T e).size ∧ sLen + n ≤ cap ∧ w'.heap = w.heap ∧ (w'.os = w.os ∧ w'.output = w.output) ∧
      (Builtin.append_ #[t, t2] ty #[.slice base sLen sCap, y]).run P w = .ok (.slice (some ⟨w.heap.size, 0, none⟩) (sLen + n) cap) (w'.alloc (.cells ⟨os ++ us ++ rest⟩ e)) := by
  obtain ⟨d, hd, hnd⟩ := hz
  obtain ⟨d', i, z, hi1, hi2, hi3, hi4, hi5, hi6, hi7, hi8⟩ := hT.info rfl hne
  have hti := fun w => run_typeInfo_of (P := P) hi2 w
  have hzv : ∀ w, (zeroValue e).run P w = .ok z w := fun w => by simp [zeroValue, hti, hi6]
  have hmax : ¬ (((sLen + n : Nat) : Int) > IntKind.i64.max ∧ ((false : Bool) = true ∨ i.bytes = 0)) := by rw [hi5]; rintro ⟨_, h | h⟩ <;> first | cases h | omega
  have hnext : ¬ Builtin.nextslicecap (sLen + n) sCap * i.bytes > 2 ^ 48 := by
    have := growslice_fits (need := sLen + n) (old := sCap) (bytes := i.bytes) (by omega) (by rw [hi5]; exact hb)
    omega
  let cap := Question.cut (.appendCap (sLen + n) sCap e) (w.tape w.drawn (.appendCap (sLen + n) sCap e))
  have hcap : sLen + n ≤ cap := by simp only [cap, Question.cut]; omega
  have hzs := zeroCells_spec (zok_one hi7) (cap - (sLen + n))
  refine ⟨{ w with drawn := w.drawn + 1 }, cap, (Builtin.zeroCells z.cells (cap - (sLen + n))).toList, hzs.1, by rw [hzs.2, hi8], hcap, rfl, ⟨rfl, rfl⟩, ?_⟩
  simp only [Builtin.append_, List.getElem?_toArray, List.getElem?_cons_zero, List.getElem?_cons_succ, Sem.run_bind, und_slice hT hU, Result.andThen_ok, run_sizeOf_tab hT hne, hd, Sem.run_pure]
  have hq : (Question.appendCap (sLen + n) sCap e).forced = false := rfl
  cases d <;> first
    | exact absurd rfl (hnd _)
    | (simp only [Bool.false_eq_true, if_false, Sem.run_ite, Sem.run_bind, hlen, Result.andThen_ok, Bool.not_false, if_true]
       rw [if_neg hfit]
       simp only [hti, Result.andThen_ok, Bool.false_eq_true, false_or]
       rw [if_neg (by simpa using hmax)]
       simp only [Sem.run_bind, Sem.run_ite, Sem.run_pure, hti, Result.andThen_ok]
       rw [if_neg hnext]
       simp only [Sem.run_bind, Sem.run_pure, Result.andThen_ok, run_choose, hq, Bool.false_eq_true, if_false, run_askRoom, hti]
       rw [hold { w with drawn := w.drawn + 1 } rfl]
       simp only [Result.andThen_ok, Sem.run_bind, Sem.run_ite, Bool.not_false, if_true]
       rw [hcells { w with drawn := w.drawn + 1 } rfl]
       simp only [Result.andThen_ok, hzv, newRow, Sem.run_bind, run_newObj, Sem.run_pure]
       have ea : (({ toList := os } : Array Value) ++ ({ toList := us } : Array Value) ++ Builtin.zeroCells z.cells (cap - (sLen + n))) = ⟨os ++ us ++ (Builtin.zeroCells z.cells (cap - (sLen + n))).toList⟩ := by
         apply Array.ext'; simp
       rw [← ea]
       rfl)

end
end Go.Aw

/-
  Aw, part 9: append, composite values, make, copy, conversions.
-/
set_option linter.unusedSimpArgs false
set_option linter.unusedVariables false
namespace Go.Aw
open Go

section
variable {P : Program} {T : Nat → TI} {C : Ctx} {m : Mu} {I : Nat → Prop} {H : List ABlk} {w : World}

/-- A loc gets another number. -/
theorem St.move (h : St C m I H w) {l : Nat} {B : ABlk} (hl : H[l]? = some B) (hv : B.live) :
    St C (m.push (m.blk l) (m.size l)) I (H.set l .dead ++ [B]) w ∧ Ext w m I w (m.push (m.blk l) (m.size l)) I := by
  have hlt : l < m.n := by rw [h.n]; exact (List.getElem?_eq_some_iff.1 hl).1
  have he : Ext w m I w (m.push (m.blk l) (m.size l)) I := ⟨by simp [Mu.push], fun k hk => (Mu.push_old hk).1, fun k hk => (Mu.push_old hk).2, fun _ h => h, fun _ _ => rfl⟩
  have hk := h.kill l
  have hlen : (H.set l .dead).length = m.n := by rw [List.length_set, h.n]
  have hnl : ¬ Live (H.set l .dead) l := by
    rintro ⟨b, h1, h2⟩
    rw [List.getElem?_set_self (by rw [← h.n]; exact hlt)] at h1
    cases h1; exact h2
  have hlive : ∀ k, Live (H.set l .dead ++ [B]) k → (k < m.n ∧ Live (H.set l .dead) k) ∨ k = m.n := by
    intro k hk
    obtain ⟨b, h1, h2⟩ := hk
    rcases getElem?_push_lt h1 with ⟨h3, h4⟩ | ⟨h3, _⟩
    · exact .inl ⟨by omega, b, h4, h2⟩
    · exact .inr (by omega)
  have hold : ∀ k, Live (H.set l .dead) k → Live H k ∧ k ≠ l := by
    intro k hk
    refine ⟨?_, fun e => hnl (e ▸ hk)⟩
    obtain ⟨b, h1, h2⟩ := hk
    by_cases e : l = k
    · subst e; exact absurd ⟨b, h1, h2⟩ hnl
    · rw [List.getElem?_set_ne e] at h1; exact ⟨b, h1, h2⟩
  refine ⟨⟨by simp [Mu.push, h.n], ?_, ?_, h.old, h.size, ?_, h.imm0, h.imm, h.immlt, Nat.le_trans h.m0n (by simp [Mu.push]), ?_, ?_, h.side⟩, he⟩
  · intro k b hkb
    rcases getElem?_push_lt hkb with ⟨h3, h4⟩ | ⟨h3, rfl⟩
    · have h3' : k < m.n := by omega
      exact (hk.blks k b h4).ext he h3' (fun x hx hvb => ⟨rfl, ((hk.blks k b h4).lt hvb hx).2⟩)
    · have hB := (h.blks l _ hl).ext he hlt (fun x hx hvb => ⟨rfl, ((h.blks l _ hl).lt hvb hx).2⟩)
      rw [h3, hlen]
      cases b with
      | dead => exact hv.elim
      | ice t xs => exact hv.elim
      | cells t xs =>
        simp only [BlkRep] at hB ⊢
        rw [Mu.push_new.1, Mu.push_new.2]
        rw [(Mu.push_old hlt).1, (Mu.push_old hlt).2] at hB
        exact hB
      | map es bs clock =>
        simp only [BlkRep] at hB ⊢
        rw [Mu.push_new.1]
        rw [(Mu.push_old hlt).1] at hB
        exact hB
      | iter lm since seen =>
        simp only [BlkRep] at hB ⊢
        rw [Mu.push_new.1]
        rw [(Mu.push_old hlt).1] at hB
        exact hB
      | head t xs =>
        simp only [BlkRep] at hB ⊢
        rw [Mu.push_new.1, Mu.push_new.2]
        rw [(Mu.push_old hlt).1, (Mu.push_old hlt).2] at hB
        exact hB
      | obj R =>
        simp only [BlkRep] at hB ⊢
        rw [Mu.push_new.1]
        rw [(Mu.push_old hlt).1] at hB
        exact hB
      | loop _ R _ =>
        simp only [BlkRep] at hB ⊢
        rw [Mu.push_new.1]
        rw [(Mu.push_old hlt).1] at hB
        exact hB
  · intro a b x ha hb hax hbx
    rcases hlive a ha with ⟨h1, h2⟩ | h1 <;> rcases hlive b hb with ⟨h3, h4⟩ | h3
    · rw [(Mu.push_old h1).1] at hax; rw [(Mu.push_old h3).1] at hbx
      exact h.dist a b x (hold a h2).1 (hold b h4).1 hax hbx
    · rw [(Mu.push_old h1).1] at hax; rw [h3, Mu.push_new.1] at hbx
      exact absurd (h.dist a l x (hold a h2).1 ⟨B, hl, hv⟩ hax hbx) (hold a h2).2
    · rw [(Mu.push_old h3).1] at hbx; rw [h1, Mu.push_new.1] at hax
      exact absurd (h.dist b l x (hold b h4).1 ⟨B, hl, hv⟩ hbx hax) (hold b h4).2
    · omega
  · intro a b ha hab
    rcases hlive a ha with ⟨h1, h2⟩ | h1
    · rw [(Mu.push_old h1).1] at hab; exact h.own a b (hold a h2).1 hab
    · rw [h1, Mu.push_new.1] at hab; exact h.own l b ⟨B, hl, hv⟩ hab
  · intro a ha; have := h.m0n; rw [(Mu.push_old (by omega)).1]; exact h.m0b a ha
  · intro a ha; have := h.m0n; rw [(Mu.push_old (by omega)).2]; exact h.m0s a ha

/-- An empty loc that is nil. -/
theorem St.pushNil (h : St C m I H w) (t : Nat) : St C (m.push none 0) I (H ++ [.cells t []]) w ∧ Ext w m I w (m.push none 0) I :=
  h.push (Nat.le_refl _) ⟨rfl, rfl⟩ (fun _ _ => rfl) (fun b hb => by cases hb) (fun _ => by simp [BlkRep, Mu.push])

theorem storeCells_nil (a : Addr) (w : World) : (storeCells a []).run P w = .ok () w := rfl

theorem appendK_sound (hT : TOk P T) (h : St C m I H w) {t t2 e ty n : Nat} {ys : List AV} {us : List Value} {x : AV} {X y : Value} {K : AV → List ABlk → Prop} (hU : (T t).u = .slice e) (hne : (T e).u ≠ .other)
    (hz : ∃ d, (∀ w, (underlying t2).run P w = .ok d w) ∧ (∀ k, d ≠ .int k)) (hk : appendK T t H x n ys K) (hx : Rep w m I x X) (hr : RepL w m I ys us) (h1 : ∀ u ∈ us, u.oneCell' = true) (hl : ys.length = n * (T e).size)
    (hlen : (Builtin.lenOf y).run P w = .ok n w) (hcells : ∀ w' : World, w'.heap = w.heap → (Builtin.firstCells (T e).size n y).run P w' = .ok ⟨us⟩ w') :
    Mem P C w m I K (Builtin.append_ #[t, t2] ty #[X, y]) := by
  unfold appendK at hk
  rw [hU] at hk
  simp only [ifK_iff] at hk
  obtain ⟨hb1, hk⟩ := hk
  have hb1' : 1 ≤ (T e).bytes := Nat.le_of_ble_eq_true hb1
  have hul := hr.length
  -- a new block
  have hgrow : ∀ {H1 : List ABlk} {base : Option Addr} {sLen sCap : Nat} {xs : List AV} {os : List Value}, X = .slice base sLen sCap → St C m I H1 w → RepL w m I xs os → (∀ u ∈ os, u.oneCell' = true) → xs.length = sLen * (T e).size →
      (∀ w' : World, w'.heap = w.heap → (Builtin.firstCells (T e).size sLen (.slice base sLen sCap)).run P w' = .ok ⟨os⟩ w') → ¬ sLen + n ≤ sCap → (sLen + n) * (T e).bytes ≤ 140737488355328 →
      K (.ms (T e).size H1.length 0 (sLen + n)) (H1 ++ [.cells e (xs ++ ys)]) → Mem P C w m I K (Builtin.append_ #[t, t2] ty #[X, y]) := by
    rintro H1 base sLen sCap xs os rfl hs hro ho1 hxl hold hfit hbb hk
    obtain ⟨w', cap, rest, hr1, hr2, hcap, hw, hoo, hrun⟩ := run_append_grows (ty := ty) hT hU hne hz hlen hcells hold hfit hb1' hbb
    obtain ⟨hs1, he1⟩ := hs.world hw hoo
    have hrp : RepP w' m I (xs ++ ys) (os ++ us ++ rest) := ⟨os ++ us, rest, rfl, RepL.ext he1 _ _ (RepL.append hro hr)⟩
    obtain ⟨hs2, he2⟩ := hs1.alloc (t := e) hrp (by
      intro u hu
      simp only [List.mem_append] at hu
      rcases hu with (hu | hu) | hu
      · exact ho1 u hu
      · exact h1 u hu
      · exact hr1 u hu)
    refine ⟨_, _, _, _, I, _, hk, ?_, hs2, he1.trans he2, hrun⟩
    have hn : m.n = H1.length := hs.n
    simp only [Rep]
    rw [← hn, Mu.push_new.1, Mu.push_new.2]
    refine ⟨by simp [Mu.push], .inr ⟨_, cap, 0, rfl, by rw [hw], hcap, ?_, fun _ => rfl⟩⟩
    have : (cap - (sLen + n)) * (T e).size + (sLen + n) * (T e).size = cap * (T e).size := by rw [← Nat.add_mul]; congr 1; omega
    have hol := hro.length
    rw [Nat.add_mul] at this
    simp only [List.length_append, hr2, hul, hol, hxl, hl]; omega
  cases x with
  | v z =>
    obtain rfl := hx.v_eq
    cases X with
    | slice a mm c => cases a with
      | some a => exact hk.elim
      | none =>
        simp only [ifK_iff, AReq.iff, ASplit.iff] at hk
        obtain ⟨e1, e2, hb, hk⟩ := hk
        have := Nat.eq_of_beq_eq_true e1; subst this
        have := Nat.eq_of_beq_eq_true e2; subst this
        by_cases hn0 : n = 0
        · subst hn0
          simp only [decide_true] at hk
          have hus : us = [] := List.eq_nil_of_length_eq_zero (by rw [hul, hl]; simp)
          subst hus
          refine ⟨_, .slice none 0 0, H, m, I, w, hk, by simp only [Rep], h, .refl _ _ _, ?_⟩
          exact run_append_fits (w' := w) hT hU hne hz hlen (hcells w rfl) (by omega) (fun a ha => by cases ha) (fun _ => rfl)
        · simp only [hn0, decide_false, appK_eq] at hk
          refine hgrow (H1 := H) (xs := []) (os := []) (sLen := 0) rfl h (by simp [RepL]) (by simp) (by simp) (fun w' _ => by simp [Builtin.firstCells]) (by omega) (by simpa using hb) ?_
          simpa using hk
    | _ => exact hk.elim
  | vx sz mm xs =>
    simp only [ifK_iff, AReq.iff, ASplit.iff] at hk
    obtain ⟨e1, hb, hk⟩ := hk
    have e1' := Nat.eq_of_beq_eq_true e1
    subst e1'
    have hx' := hx
    simp only [Rep] at hx
    obtain ⟨a, rfl, hxl, ha⟩ := hx
    by_cases hn0 : n = 0
    · subst hn0
      simp only [decide_true] at hk
      have hus : us = [] := List.eq_nil_of_length_eq_zero (by rw [hul, hl]; simp)
      subst hus
      refine ⟨_, _, H, m, I, w, hk, hx', h, .refl _ _ _, ?_⟩
      exact run_append_fits (w' := w) hT hU hne hz hlen (hcells w rfl) (by omega) (fun a ha => storeCells_nil _ _) (fun _ => rfl)
    · simp only [hn0, decide_false, appK_eq, Nat.zero_add] at hk
      obtain ⟨n', xs', os, ⟨rfl, rfl⟩, h2, h3, h4, h5, h6⟩ := contentK_sound (P := P) h (sz0 := (T e).size) (x := .vx (T e).size mm xs) (K := fun n' xs' => n' = mm ∧ xs' = xs) (by simp [contentK, ifK_iff]) hx'
      have hol : os.take (n' * (T e).size) = os := List.take_of_length_le (by rw [h2.length, h4]; exact Nat.le_refl _)
      exact hgrow (H1 := H) rfl h h2 h3 h4 (fun w' hw' => by rw [h6 w' hw' n' (Nat.le_refl _), hol]) (by omega) hb hk
  | ms sz l o mm =>
    cases o with
    | succ o => exact hk.elim
    | zero =>
      simp only [ifK_iff, blkK_iff] at hk
      obtain ⟨e1, B, hB, hk⟩ := hk
      have e1' := Nat.eq_of_beq_eq_true e1
      subst e1'
      cases B with
      | dead => exact hk.elim
      | map _ _ _ => exact hk.elim
      | iter _ _ _ => exact hk.elim
      | head _ _ => exact hk.elim
      | obj _ => exact hk.elim
      | loop _ _ _ => exact hk.elim
      | ice t xs => exact hk.elim
      | cells t' xs =>
        simp only [ifK_iff, AReq.iff, setH_iff, appK_eq, Nat.zero_add] at hk
        obtain ⟨hte, ⟨hxl, hb⟩, hlt, hk⟩ := hk
        have := Nat.eq_of_beq_eq_true hte; subst this
        have hx' := hx
        simp only [Rep] at hx
        obtain ⟨hlm, ⟨hbl, hm0, _, rfl⟩ | ⟨b, cap, o', hbl, rfl, hmc, hsz, ho⟩⟩ := hx
        · subst hm0
          have hxs : xs = [] := List.eq_nil_of_length_eq_zero (by rw [hxl]; simp)
          subst hxs
          by_cases hn0 : n = 0
          · subst hn0
            have hus : us = [] := List.eq_nil_of_length_eq_zero (by rw [hul, hl]; simp)
            have hys : ys = [] := List.eq_nil_of_length_eq_zero (by rw [hl]; simp)
            subst hus; subst hys
            obtain ⟨hs2, he2⟩ := (h.kill l).pushNil t'
            refine ⟨_, _, _, _, I, w, hk, ?_, hs2, he2, run_append_fits (w' := w) hT hU hne hz hlen (hcells w rfl) (by omega) (fun a ha => by cases ha) (fun _ => rfl)⟩
            simp only [Rep]
            rw [List.length_set, ← h.n, Mu.push_new.1]
            simp [Mu.push]
          · refine hgrow (H1 := H.set l .dead) (xs := []) (os := []) (sLen := 0) rfl (h.kill l) (by simp [RepL]) (by simp) (by simp) (fun w' _ => by simp [Builtin.firstCells]) (by omega) (by simpa using hb) ?_
            simpa using hk
        · by_cases hfit : mm + n ≤ cap
          · -- within the capacity
            obtain ⟨hs1, he1⟩ := h.move hB trivial
            have hn1 : (H.set l .dead).length = m.n := by rw [List.length_set, h.n]
            have hget : (H.set l ABlk.dead ++ [ABlk.cells t' xs])[m.n]? = some (.cells t' xs) := by rw [← hn1]; simp
            have hblk : (m.push (m.blk l) (m.size l)).blk m.n = some b := by rw [Mu.push_new.1, hbl]
            have hcs : (mm + n) * (T t').size ≤ cap * (T t').size := Nat.mul_le_mul_right _ hfit
            rw [Nat.add_mul] at hcs
            obtain ⟨w', hst, hs2, he2⟩ := hs1.store P (o := mm * (T t').size) (xs' := xs ++ ys) hget hblk h1 (by rw [Mu.push_new.2, hul, hl]; omega) (by
              rintro w' ys0 he ⟨y1, y2, rfl, h7⟩
              have h8 := h7.length
              refine ⟨y1 ++ us, y2.drop us.length, ?_, RepL.append h7 (RepL.ext (he1.trans he) _ _ hr)⟩
              rw [List.take_append_of_le_length (by omega), List.take_of_length_le (by omega), List.drop_append]
              rw [List.drop_eq_nil_of_le (by omega), List.nil_append]
              congr 2; omega)
            have hset : (H.set l ABlk.dead ++ [ABlk.cells t' xs]).set m.n (.cells t' (xs ++ ys)) = H.set l .dead ++ [.cells t' (xs ++ ys)] := by
              rw [← hn1, List.set_append_right _ _ (Nat.le_refl _), Nat.sub_self]; rfl
            rw [hset] at hs2
            refine ⟨.ms (T t').size (H.set l .dead).length 0 (mm + n), _, _, _, I, w', hk, ?_, hs2, he1.trans he2, run_append_fits (w' := w') hT hU hne hz hlen (hcells w rfl) hfit (fun a ha => ?_) (fun ha => by cases ha)⟩
            · simp only [Rep]
              rw [hn1, Mu.push_new.1, Mu.push_new.2, hbl]
              exact ⟨by simp [Mu.push], .inr ⟨b, cap, o', rfl, rfl, hfit, hsz, ho⟩⟩
            · cases ha
              rw [Addr.add_at]
              by_cases hc0 : cap = 0
              · have hus : us = [] := List.eq_nil_of_length_eq_zero (by rw [hul, hl, show n = 0 by omega]; simp)
                subst hus
                rw [storeCells_nil] at hst ⊢
                exact hst
              · rw [ho hc0, Nat.zero_add]; exact hst
          · obtain ⟨n', xs', os, ⟨rfl, rfl⟩, h2, h3, h4, h5, h6⟩ := contentK_sound (P := P) h (sz0 := (T t').size) (x := .ms (T t').size l 0 mm) (K := fun n' xs' => n' = mm ∧ xs' = xs) (by
              rw [contentK, ifK_iff, blkK_iff]
              exact ⟨by simp, _, hB, ACut.all hxl ⟨rfl, rfl⟩⟩) hx'
            have hol : os.take (n' * (T t').size) = os := List.take_of_length_le (by rw [h2.length, h4]; exact Nat.le_refl _)
            exact hgrow (H1 := H.set l .dead) rfl (h.kill l) h2 h3 h4 (fun w' hw' => by rw [h6 w' hw' n' (Nat.le_refl _), hol]) hfit hb hk
  | _ => exact hk.elim

end
end Go.Aw

/-
  Aw, part 10: composite values, make, copy, conversions, least and greatest.
-/
set_option linter.unusedSimpArgs false
set_option linter.unusedVariables false
namespace Go.Aw
open Go

section
variable {P : Program} {T : Nat → TI} {C : Ctx} {m : Mu} {I : Nat → Prop} {H : List ABlk} {w : World}

theorem setFold : ∀ (us : List Value) (off k : Nat) (cs : Array Value), off + k + us.length ≤ cs.size →
    (us.zipIdx k).foldl (fun cs (c, j) => cs.setIfInBounds (off + j) c) cs = ⟨cs.toList.take (off + k) ++ us ++ cs.toList.drop (off + k + us.length)⟩
  | [], off, k, cs, _ => by apply Array.ext'; simp
  | u :: us, off, k, cs, hl => by
    simp only [List.length_cons] at hl
    simp only [List.zipIdx_cons, List.foldl_cons]
    rw [setFold us off (k + 1) _ (by simp; omega)]
    apply Array.ext'
    have := list_seg_step cs.toList (off + k) u us (by simp; omega)
    simpa [Array.toList_setIfInBounds, Nat.add_assoc] using this

theorem fillK_sound {E : List AV} {a : Act} (hE : RepL w m I E a.tmps.toList) {place : Nat → Option (Nat × Nat)} : ∀ {ps : List (Nat × Operand)} {cs : List AV} {zs : List Value} {K : List AV → Prop},
    fillK place E ps cs K → RepL w m I cs zs → (∀ u ∈ zs, u.oneCell' = true) →
    ∃ cs' zs', K cs' ∧ RepL w m I cs' zs' ∧ (∀ u ∈ zs', u.oneCell' = true) ∧ zs'.length = zs.length ∧ Instr.fill place ⟨zs⟩ (ps.map fun p => (p.1, a.eval p.2)) = some ⟨zs'⟩
  | [], cs, zs, K, hk, hr, h1 => ⟨cs, zs, hk, hr, h1, rfl, rfl⟩
  | p :: ps, cs, zs, K, hk, hr, h1 => by
    simp only [fillK] at hk
    cases hp : place p.1 with
    | none => simp [hp] at hk
    | some q =>
      simp only [hp] at hk
      obtain ⟨x, hk, hx⟩ := evK_sound hE hk
      obtain ⟨xs, us, hk, hru, h2, hu⟩ := cellsK_sound hk hx
      rw [lenK_iff] at hk
      obtain ⟨hq, hk⟩ := hk
      obtain ⟨hfit, hk⟩ := splK_spec _ _ _ _ hk
      have hzl := hr.length
      have hul := hru.length
      have hsz : (a.eval p.2).cells.size = us.length := by rw [← Array.length_toList, hu]
      have hnew : RepL w m I (spl cs q.1 xs) (zs.take q.1 ++ us ++ zs.drop (q.1 + us.length)) := by
        unfold spl
        have := RepL.append (RepL.append (hr.take q.1) hru) (hr.drop (q.1 + us.length))
        rw [hul] at this ⊢; exact this
      obtain ⟨cs', zs', g1, g2, g3, g4, g5⟩ := fillK_sound hE hk hnew (by
        intro u hu
        simp only [List.mem_append] at hu
        rcases hu with (hu | hu) | hu
        · exact h1 u (List.mem_of_mem_take hu)
        · exact h2 u hu
        · exact h1 u (List.mem_of_mem_drop hu))
      refine ⟨cs', zs', g1, g2, g3, by rw [g4]; simp; omega, ?_⟩
      simp only [List.map_cons, Instr.fill, hp]
      have hc : ¬ ((decide ((a.eval p.2).cells.size ≠ q.2) || decide (q.1 + (a.eval p.2).cells.size > (⟨zs⟩ : Array Value).size)) = true) := by
        rw [hsz]; simp; omega
      have hc' : ¬ ((a.eval p.2).cells.size ≠ q.2 || decide (q.1 + (a.eval p.2).cells.size > (⟨zs⟩ : Array Value).size)) = true := by
        simpa using hc
      obtain ⟨off, size⟩ := q
      simp only at *
      rw [if_neg (by simpa using hc)]
      have hfold := setFold us off 0 ⟨zs⟩ (by simp; omega)
      rw [← Array.foldl_toList, Array.toList_zipIdx, hu]
      simp only [Nat.add_zero] at hfold
      rw [hfold]
      exact g5

theorem zero_cells (hT : TOk P T) {t : Nat} (hne : (T t).u ≠ .other) {K : List AV → Prop} (hk : cellsK (T t).zero K) :
    ∃ xs zs z, K xs ∧ RepL w m I xs zs ∧ (∀ u ∈ zs, u.oneCell' = true) ∧ z.cells = ⟨zs⟩ ∧ zs.length = (T t).size ∧ ∀ w, (zeroValue t).run P w = .ok z w := by
  obtain ⟨d, i, z, h1, h2, h3, h4, h5, h6, h7, h8⟩ := hT.info rfl hne
  obtain ⟨xs, zs, g1, g2, g3, g4⟩ := cellsK_sound hk (zok_rep w m I _ _ h7)
  refine ⟨xs, zs, z, g1, g2, g3, by apply Array.ext'; simpa using g4, by rw [← g4, Array.length_toList, h8], fun w => ?_⟩
  simp [zeroValue, run_typeInfo_of h2, h6]

/-- the places of a struct's fields -/
theorem places_tab (hT : TOk P T) {s : Nat} {fs : List (Nat × Bool × Nat)} (hu : (T s).u = .struct fs) : ∃ gs : Array Field, (∀ w, (underlying s).run P w = .ok (.struct gs) w) ∧
    ∀ w, (gs.mapM fun f => do pure (f.offset, ← sizeOf f.type) : Sem (Array (Nat × Nat))).run P w = .ok ⟨fs.map fun f => (f.1, f.2.2)⟩ w := by
  obtain ⟨d, hd, hok, hpu⟩ := run_und hT hu (by simp)
  cases d <;> simp only [udOk] at hok <;> try (cases hok; done)
  rename_i gs
  refine ⟨gs, hd, fun w => ?_⟩
  have hlist : ∀ (gs : List Field) (fs : List (Nat × Bool × Nat)), fs.length = gs.length → (∀ x ∈ fs.zip gs, x.1.1 = x.2.offset ∧ ∀ w, (sizeOf x.2.type).run P w = .ok x.1.2.2 w) →
      (gs.mapM fun f => do pure (f.offset, ← sizeOf f.type) : Sem (List (Nat × Nat))).run P w = .ok (fs.map fun f => (f.1, f.2.2)) w := by
    intro gs
    induction gs with
    | nil => intro fs hl _; cases fs with
      | nil => rfl
      | cons f fs => simp at hl
    | cons g gs ih =>
      intro fs hl hall
      cases fs with
      | nil => simp at hl
      | cons f fs =>
        have h1 := hall (f, g) (by simp)
        have h2 := ih fs (by simpa using hl) (fun x hx => hall x (by simp [hx]))
        simp only [List.mapM_cons, Sem.run_bind, Sem.run_pure, h1.2, Result.andThen_ok, h2, List.map_cons]
        rw [← h1.1]
  simp only [Bool.and_eq_true, beq_iff_eq, List.all_eq_true] at hok
  have := hlist gs.toList fs (by simpa using hok.1) (fun x hx => by
    have h1 := hok.2 x hx
    simp only [Bool.and_eq_true, beq_iff_eq, bne_iff_ne] at h1
    obtain ⟨⟨⟨⟨h2, h3⟩, h4⟩, h5⟩, h6⟩ := h1
    refine ⟨h2, fun w => ?_⟩
    cases hi : P.info? x.2.type with
    | none => simp [hi] at h5
    | some i => rw [h3]; simp [sizeOf, run_typeInfo_of hi, Program.cellsOf, hi])
  rw [Array.mapM_eq_mapM_toList, Sem.run_map, this]
  rfl

/-- a type that the table has -/
def okT (T : Nat → TI) (e : Nat) (K : Prop) : Prop :=
  match (T e).u with
  | .other => False
  | _ => K

theorem okT_iff {e : Nat} {K : Prop} : okT T e K ↔ (T e).u ≠ .other ∧ K := by
  unfold okT; cases h : (T e).u <;> simp

def buildK (T : Nat → TI) (t : Nat) (E : List AV) (ps : List (Nat × Operand)) (K : AV → Prop) : Prop :=
  match (T t).u with
  | .struct fs => cellsK (T t).zero fun cs => fillK (fun i => match fs[i]? with | some f => some (f.1, f.2.2) | none => none) E ps cs fun cs => K (.agg cs)
  | .arr _ e => okT T e <| cellsK (T t).zero fun cs => fillK (fun i => some (i * (T e).size, (T e).size)) E ps cs fun cs => K (.agg cs)
  | _ => False

theorem buildK_sound (hT : TOk P T) {t : Nat} {E : List AV} {a : Act} (hE : RepL w m I E a.tmps.toList) {ps : Array (Nat × Operand)} {K : AV → Prop} (hk : buildK T t E ps.toList K) :
    Val P w m I K (Instr.build t (ps.map fun p => (p.1, a.eval p.2))) := by
  unfold buildK at hk
  cases hU : (T t).u with
  | struct fs =>
    rw [hU] at hk
    obtain ⟨xs, zs, z, hk, g1, g2, g3, g4, g5⟩ := zero_cells (w := w) (m := m) (I := I) hT (by simp [hU]) hk
    obtain ⟨cs, us, k1, k2, k3, _, k5⟩ := fillK_sound hE hk g1 g2
    obtain ⟨gs, hgs, hpl⟩ := places_tab (P := P) hT hU
    refine .of k1 (v := .agg ⟨us⟩) (by simp only [Rep]; exact ⟨us, rfl, k2, k3⟩) (fun w' => ?_)
    have hplace : (fun (i : Nat) => ((⟨fs.map fun (f : Nat × Bool × Nat) => (f.1, f.2.2)⟩ : Array (Nat × Nat)))[i]?) = (fun (i : Nat) => match fs[i]? with | some f => some (f.1, f.2.2) | none => none) := by
      funext i
      simp only [List.getElem?_toArray, List.getElem?_map]
      cases fs[i]? <;> rfl
    have k5' := k5
    rw [← hplace] at k5'
    simp only [Instr.build, Sem.run_bind, g5, Result.andThen_ok, hgs, hpl, g3, Array.toList_map]
    rw [k5']; rfl
  | arr n e =>
    rw [hU] at hk
    simp only [okT_iff] at hk
    obtain ⟨hne, hk⟩ := hk
    obtain ⟨xs, zs, z, hk, g1, g2, g3, g4, g5⟩ := zero_cells (w := w) (m := m) (I := I) hT (by simp [hU]) hk
    obtain ⟨cs, us, k1, k2, k3, _, k5⟩ := fillK_sound hE hk g1 g2
    refine .of k1 (v := .agg ⟨us⟩) (by simp only [Rep]; exact ⟨us, rfl, k2, k3⟩) (fun w' => ?_)
    simp only [Instr.build, Sem.run_bind, g5, Result.andThen_ok, und_arr hT hU, run_sizeOf_tab hT hne, g3, Array.toList_map]
    rw [k5]; rfl
  | _ => rw [hU] at hk; exact hk.elim

end
end Go.Aw

/-
  Aw, part 11: slices written out, make, copy, conversions, least and greatest.
-/
set_option linter.unusedSimpArgs false
set_option linter.unusedVariables false
namespace Go.Aw
open Go

section
variable {P : Program} {T : Nat → TI} {C : Ctx} {m : Mu} {I : Nat → Prop} {H : List ABlk} {w : World}

/-- A new block that nobody will write. -/
theorem St.allocImm (h : St C m I H w) {t : Nat} {ys : List Value} :
    St C m (fun b => I b ∨ b = w.heap.size) H (w.alloc (.cells ⟨ys⟩ t)) ∧ Ext w m I (w.alloc (.cells ⟨ys⟩ t)) m (fun b => I b ∨ b = w.heap.size) := by
  have hold : ∀ b, b < w.heap.size → (w.alloc (.cells ⟨ys⟩ t)).heap[b]? = w.heap[b]? := fun b hb => by show (w.heap.push _)[b]? = _; rw [Array.getElem?_push, if_neg (Nat.ne_of_lt hb)]
  have he : Ext w m I (w.alloc (.cells ⟨ys⟩ t)) m (fun b => I b ∨ b = w.heap.size) := ⟨Nat.le_refl _, fun _ _ => rfl, fun _ _ => rfl, fun _ h => .inl h, fun b hb => hold b (h.immlt b hb)⟩
  refine ⟨⟨h.n, ?_, h.dist, ?_, ?_, h.own, fun b hb => .inl (h.imm0 b hb), ?_, ?_, h.m0n, h.m0b, h.m0s, h.side⟩, he⟩
  · intro l b hb
    refine (h.blks l b hb).ext he (by rw [h.n]; exact (List.getElem?_eq_some_iff.1 hb).1) (fun x hx hv => ?_)
    have := (h.blks l b hb).lt hv hx
    exact ⟨hold x this.1, fun hi => by rcases hi with hi | hi; exact this.2 hi; omega⟩
  · intro b h1 h2; rw [hold b (Nat.lt_of_lt_of_le h1 h.size)]; exact h.old b h1 h2
  · simp; exact Nat.le_succ_of_le h.size
  · intro b hb
    rcases hb with hb | rfl
    · exact h.imm b hb
    · exact .inr (.inr h.size)
  · intro b hb
    simp only [World.size_alloc]
    rcases hb with hb | rfl
    · exact Nat.lt_succ_of_lt (h.immlt b hb)
    · exact Nat.lt_succ_self _

def anysK : Nat → (List AV → Prop) → Prop
  | 0, K => K []
  | n + 1, K => anysK n fun r => K (.any :: r)

theorem anysK_eq : ∀ (n : Nat) (K : List AV → Prop), anysK n K = K (List.replicate n .any)
  | 0, _ => rfl
  | n + 1, K => by simp only [anysK, anysK_eq n, List.replicate_succ]

def buildSliceK (T : Nat → TI) (t len : Nat) (E : List AV) (ps : List (Nat × Operand)) (K : AV → Prop) : Prop :=
  match (T t).u with
  | .slice e => okT T e <| ifK (Nat.ble (len * (T e).size) 16777216) <| cellsK (T e).zero fun _ => anysK (len * (T e).size) fun cs =>
      fillK (fun i => some (i * (T e).size, (T e).size)) E ps cs fun cs => K (.vx (T e).size len cs)
  | _ => False

theorem buildSliceK_sound (hT : TOk P T) (h : St C m I H w) {t len : Nat} {E : List AV} {a : Act} (hE : RepL w m I E a.tmps.toList) {ps : Array (Nat × Operand)} {K : AV → List ABlk → Prop} (hk : buildSliceK T t len E ps.toList fun x => K x H) :
    Mem P C w m I K (Instr.buildSlice t len (ps.map fun p => (p.1, a.eval p.2))) := by
  unfold buildSliceK at hk
  cases hU : (T t).u with
  | slice e =>
    rw [hU] at hk
    simp only [okT_iff, ifK_iff] at hk
    obtain ⟨hne, hle, hk⟩ := hk
    have hle' := Nat.le_of_ble_eq_true hle
    obtain ⟨_, zs, z, hk, _, g2, g3, g4, g5⟩ := zero_cells (w := w) (m := m) (I := I) hT hne hk
    rw [anysK_eq] at hk
    let base : List Value := (List.range (len * (T e).size)).map (fun i => z.cells[i % z.cells.size]!)
    have hbl : base.length = len * (T e).size := by simp [base]
    have hb1 : ∀ u ∈ base, u.oneCell' = true := by
      intro u hu
      simp only [base, List.mem_map, List.mem_range] at hu
      obtain ⟨i, hi, rfl⟩ := hu
      have hs : z.cells.size = (T e).size := by rw [g3]; simpa using g4
      have h0 : 0 < z.cells.size := by
        rw [hs]; rcases Nat.eq_zero_or_pos (T e).size with h0 | h0
        · rw [h0] at hi; simp at hi
        · exact h0
      have hlt : i % z.cells.size < z.cells.size := Nat.mod_lt _ h0
      rw [getElem!_pos z.cells _ hlt]
      refine g2 _ ?_
      have : z.cells.toList = zs := by rw [g3]
      rw [← this]; simp
    have hbr : RepL w m I (List.replicate (len * (T e).size) .any) base := by rw [← hbl]; exact RepL.any base
    obtain ⟨cs, us, k1, k2, k3, k4, k5⟩ := fillK_sound hE hk hbr hb1
    obtain ⟨hs, he⟩ := h.allocImm (t := e) (ys := us)
    refine ⟨_, .slice (some ⟨w.heap.size, 0, none⟩) len len, H, m, _, _, k1, ?_, hs, he, ?_⟩
    · simp only [Rep]
      have hcl : cs.length = len * (T e).size := by rw [← k2.length, k4, hbl]
      refine ⟨some ⟨w.heap.size, 0, none⟩, rfl, hcl, .inr ⟨_, rfl, .inr ⟨rfl, .inr rfl, ?_⟩⟩⟩
      refine RepC.of_cells (RepL.ext he _ _ k2) k3 (fun j u hj => ?_)
      simp only [Nat.zero_add, World.cell?]
      have : (w.alloc (.cells ⟨us⟩ e)).heap[w.heap.size]? = some (.cells ⟨us⟩ e) := by show (w.heap.push _)[w.heap.size]? = _; rw [Array.getElem?_push, if_pos rfl]
      simp only [this]; simpa using hj
    · simp only [Instr.buildSlice, Sem.run_bind, und_slice hT hU, Result.andThen_ok, run_sizeOf_tab hT hne, Sem.run_ite]
      rw [if_neg (by omega)]
      simp only [Sem.run_pure, Result.andThen_ok, Sem.run_bind, Sem.run_ite]
      by_cases h0 : len * (T e).size = 0
      · have hb0 : base = [] := List.eq_nil_of_length_eq_zero (by rw [hbl, h0])
        rw [if_pos h0]
        have harr : (Array.range (len * (T e).size)).map (fun x => (#[] : Array Value)[x % (#[] : Array Value).size]!) = ⟨base⟩ := by
          rw [hb0, h0]; apply Array.ext'; simp
        simp only [harr, Array.toList_map, k5, newRow, Sem.run_bind, run_newObj, Sem.run_pure, Result.andThen_ok]
        rfl
      · rw [if_neg h0]
        have harr : (Array.range (len * (T e).size)).map (fun x => z.cells[x % z.cells.size]!) = ⟨base⟩ := by
          apply Array.ext'; simp [base]
        simp only [g5, harr, Array.toList_map, k5, newRow, Sem.run_bind, run_newObj, Sem.run_pure, Result.andThen_ok]
        rfl
  | _ => rw [hU] at hk; exact hk.elim

/-- zero cells, copied -/
theorem zeros_copied (zs : List Value) (n : Nat) : (List.range (n * zs.length)).map (fun i => (⟨zs⟩ : Array Value)[i % zs.length]!) = (List.replicate n zs).flatten := by
  induction n with
  | zero => simp
  | succ n ih =>
    rw [Nat.succ_mul, List.range_add, List.map_append, ih, List.replicate_succ', List.flatten_append]
    congr 1
    simp only [List.map_map, List.flatten_cons, List.flatten_nil, List.append_nil]
    apply List.ext_getElem?
    intro j
    simp only [List.getElem?_map, Function.comp]
    by_cases hj : j < zs.length
    · rw [List.getElem?_range hj, List.getElem?_eq_getElem hj]
      simp only [Option.map_some, Function.comp]
      have : (n * zs.length + j) % zs.length = j := by rw [Nat.mul_comm, Nat.mul_add_mod]; exact Nat.mod_eq_of_lt hj
      rw [this, getElem!_pos _ _ (by simpa using hj)]
      simp
    · rw [List.getElem?_eq_none (by simp; omega), List.getElem?_eq_none (by omega)]; rfl

theorem makeSliceK_sound (hT : TOk P T) (h : St C m I H w) {t : Nat} {len cap : AV} {L M : Value} {K : AV → List ABlk → Prop} (hk : makeSliceK T t H len cap K) (hl : Rep w m I len L) (hc : Rep w m I cap M) (hne : ∀ e, (T t).u = .slice e → (T e).u ≠ .other) :
    Mem P C w m I K (Instr.makeSlice t L M) := by
  unfold makeSliceK at hk
  cases hU : (T t).u with
  | slice e =>
    rw [hU] at hk
    have hne := hne e hU
    obtain ⟨k, n, rfl, rfl, hk⟩ := intK_spec hk hl
    obtain ⟨k', c, rfl, rfl, hk⟩ := intK_spec hk hc
    simp only [AReq.iff, fv_eq] at hk
    obtain ⟨⟨h1, h2, h3, h4⟩, hk⟩ := hk
    obtain ⟨xs, zs, z, hk, g1, g2, g3, g4, g5⟩ := zero_cells (w := w) (m := m) (I := I) hT hne hk
    rw [lenK_iff, appK_eq, Nat.zero_add] at hk
    obtain ⟨_, hkk⟩ := hk
    obtain ⟨d', i, z', hi1, hi2, hi3, hi4, hi5, _⟩ := hT.info rfl hne
    have hwn : IntKind.i64.wrap n = n := by
      have e63 : (2 : Int) ^ 63 = 9223372036854775808 := by decide
      have e64 : (2 : Int) ^ 64 = 18446744073709551616 := by decide
      simp only [IntKind.wrap, IntKind.bits, IntKind.signed, Bool.true_and, e63, e64]
      rw [Int.emod_eq_of_lt h1 (by omega)]
      rw [if_neg (by simp [e63]; omega)]
    have hwc : IntKind.i64.wrap c = c := by
      have e63 : (2 : Int) ^ 63 = 9223372036854775808 := by decide
      have e64 : (2 : Int) ^ 64 = 18446744073709551616 := by decide
      simp only [IntKind.wrap, IntKind.bits, IntKind.signed, Bool.true_and, e63, e64]
      rw [Int.emod_eq_of_lt (by omega) (by omega)]
      rw [if_neg (by simp [e63]; omega)]
    obtain ⟨n, rfl⟩ := Int.eq_ofNat_of_zero_le h1
    obtain ⟨c, rfl⟩ := Int.eq_ofNat_of_zero_le (show 0 ≤ c by omega)
    let us : List Value := (List.replicate c zs).flatten
    have hun : us = (List.replicate n zs).flatten ++ (List.replicate (c - n) zs).flatten := by
      simp only [us]
      rw [← List.flatten_append, List.replicate_append_replicate]
      congr 2; omega
    have hrep : ∀ k, RepL w m I (List.replicate k xs).flatten (List.replicate k zs).flatten := by
      intro k
      induction k with
      | zero => simp [RepL]
      | succ k ih => simp only [List.replicate_succ, List.flatten_cons]; exact RepL.append g1 ih
    have h1c : ∀ u ∈ us, u.oneCell' = true := by
      intro u hu
      simp only [us, List.mem_flatten, List.mem_replicate] at hu
      obtain ⟨l, ⟨_, rfl⟩, hu⟩ := hu
      exact g2 u hu
    have hul : us.length = c * (T e).size := by simp [us, g4]
    obtain ⟨hs, he⟩ := h.alloc (t := e) (xs := (List.replicate n xs).flatten) (ys := us) ⟨_, _, hun, hrep n⟩ h1c
    refine ⟨_, .slice (some ⟨w.heap.size, 0, none⟩) n c, _, _, I, _, hkk, ?_, hs, he, ?_⟩
    · simp only [Rep]
      rw [← h.n, Mu.push_new.1, Mu.push_new.2]
      refine ⟨by simp [Mu.push], .inr ⟨_, c, 0, rfl, by simp, by omega, by rw [hul]; omega, fun _ => rfl⟩⟩
    · have hbig : ¬ ((i.bytes : Int) * (c : Int) > 2 ^ 48) := by
        have : (2 : Int) ^ 48 = 281474976710656 := by decide
        rw [this, hi5]
        have : ((T e).bytes : Int) * (c : Int) = (c : Int) * ((T e).bytes : Int) := Int.mul_comm _ _
        omega
      have hcond : ¬ (((decide ((c : Int) < 0) || decide ((i.bytes : Int) * (c : Int) > 2 ^ 48)) || decide ((n : Int) < 0) || decide ((n : Int) > (c : Int))) = true) := by
        have a1 : ¬ (c : Int) < 0 := by omega
        have a2 : ¬ (n : Int) < 0 := by omega
        have a3 : ¬ (n : Int) > (c : Int) := by omega
        simp only [a1, a2, a3, hbig, decide_false, Bool.or_false, Bool.false_eq_true, not_false_eq_true]
      simp only [Instr.makeSlice, Sem.run_bind, und_slice hT hU, Result.andThen_ok, asInt, asIntOf, Sem.run_pure, run_typeInfo_of hi2, hwn, hwc, Sem.run_ite]
      rw [if_neg hcond]
      simp only [Sem.run_bind, run_askRoom, Result.andThen_ok, run_sizeOf_tab hT hne, Int.toNat_natCast, Sem.run_ite, Sem.run_pure]
      have hcomm : ∀ (z : Array Value), z = (if c * (T e).size = 0 then #[] else ⟨zs⟩) → (Array.range (c * (T e).size)).map (fun x => z[x % z.size]!) = ⟨us⟩ := by
        rintro z rfl
        by_cases h0 : c * (T e).size = 0
        · have : us = [] := List.eq_nil_of_length_eq_zero (by rw [hul, h0])
          rw [this, h0]; apply Array.ext'; simp
        · rw [if_neg h0]
          apply Array.ext'
          have := zeros_copied zs c
          rw [g4] at this
          simp only [Array.toList_map, Array.toList_range]
          have e1 : (⟨zs⟩ : Array Value).size = (T e).size := by simpa using g4
          rw [e1]
          exact this
      by_cases h0 : c * (T e).size = 0
      · rw [if_pos h0]
        have := hcomm #[] (by rw [if_pos h0])
        simp only [Result.andThen_ok, this, newRow, Sem.run_bind, run_newObj, Sem.run_pure]
        rfl
      · rw [if_neg h0]
        have := hcomm ⟨zs⟩ (by rw [if_neg h0])
        simp only [g5, Result.andThen_ok, g3, this, newRow, Sem.run_bind, run_newObj, Sem.run_pure]
        rfl
  | _ => rw [hU] at hk; exact hk.elim

theorem copyK_sound (hT : TOk P T) (h : St C m I H w) {t t2 ty : Nat} {dst src : AV} {D S : Value} {K : AV → List ABlk → Prop} (hk : copyK T t H dst src K) (hd : Rep w m I dst D) (hs : Rep w m I src S) (hne : ∀ e, (T t).u = .slice e → (T e).u ≠ .other) :
    Mem P C w m I K (Builtin.copy_ #[t, t2] ty #[D, S]) := by
  unfold copyK at hk
  cases hU : (T t).u with
  | slice e =>
    rw [hU] at hk
    have hne := hne e hU
    cases dst with
    | ms sz l o n =>
      cases hsz : Nat.beq sz (T e).size with
      | false => simp only [hsz] at hk
      | true =>
        simp only [hsz] at hk
        have hsz' := Nat.eq_of_beq_eq_true hsz
        subst hsz'
        obtain ⟨k, xs, ys, hk, h1, h2, h3, h4, h5⟩ := contentK_sound (P := P) h hk hs
        rw [blkK_iff] at hk
        obtain ⟨B, hB, hk⟩ := hk
        cases B with
        | dead => exact hk.elim
        | map _ _ _ => exact hk.elim
        | iter _ _ _ => exact hk.elim
        | head _ _ => exact hk.elim
        | obj _ => exact hk.elim
        | loop _ _ _ => exact hk.elim
        | ice t xs => exact hk.elim
        | cells t' bs =>
          simp only [ACut.iff, AUpd.iff, setH_iff, List.drop_zero, Nat.zero_add] at hk
          obtain ⟨hcl, hfit, hlt, hk⟩ := hk
          have hrun := h5 w rfl (min k n) (Nat.min_le_left _ _)
          have hr := RepL.take (min k n * (T e).size) h1
          simp only [Rep] at hd
          obtain ⟨hlm, ⟨hb, hn0, ho0, rfl⟩ | ⟨b, cap, o', hb, rfl, hnc, hfits, ho⟩⟩ := hd
          · subst hn0
            have hmin : min k 0 = 0 := Nat.min_zero k
            rw [hmin] at hk hfit hrun
            simp only [Nat.zero_mul, List.take_zero, List.length_nil, Nat.add_zero] at hk hfit hrun
            have hspl : spl bs o [] = bs := by simp [spl]
            rw [hspl] at hk
            have hset : H.set l (.cells t' bs) = H := by
              apply List.ext_getElem?
              intro j
              by_cases e1 : l = j
              · subst e1; rw [List.getElem?_set_self hlt, hB]
              · rw [List.getElem?_set_ne e1]
            rw [hset] at hk
            refine ⟨_, .int .i64 0, H, m, I, w, hk, by simp [Rep], h, .refl _ _ _, ?_⟩
            simp only [Builtin.copy_, List.getElem?_toArray, List.getElem?_cons_zero, List.getElem?_cons_succ, Sem.run_bind, und_slice hT hU, Result.andThen_ok, h4, run_sizeOf_tab hT hne]
            have : Nat.min k 0 = 0 := Nat.min_zero k
            rw [this, hrun]
            rfl
          · have hlen : (ys.take (min k n * (T e).size)).length = min k n * (T e).size := by
              rw [List.length_take, h1.length, h3]; exact Nat.min_eq_left (Nat.mul_le_mul_right _ (Nat.min_le_left _ _))
            obtain ⟨w', hst, hs2, he2⟩ := h.splice P (o := o) hB hb hr (fun u hu => h2 u (List.mem_of_mem_take hu)) hfit
            refine ⟨_, .int .i64 (min k n : Nat), _, m, I, w', hk, by simp [Rep], hs2, he2, ?_⟩
            have hst' : (storeCells ⟨b, o', none⟩ (ys.take (min k n * (T e).size))).run P w = .ok () w' := by
              by_cases hc0 : cap = 0
              · have hmin : min k n = 0 := by omega
                rw [hmin] at hst ⊢
                simp only [Nat.zero_mul, List.take_zero] at hst ⊢
                rw [storeCells_nil] at hst ⊢
                exact hst
              · rw [ho hc0]; exact hst
            simp only [Builtin.copy_, List.getElem?_toArray, List.getElem?_cons_zero, List.getElem?_cons_succ, Sem.run_bind, und_slice hT hU, Result.andThen_ok, h4, run_sizeOf_tab hT hne]
            have : Nat.min k n = min k n := rfl
            rw [this, hrun]
            simp only [Result.andThen_ok, hst', Sem.run_pure]
            rfl
    | _ => exact hk.elim
  | _ => rw [hU] at hk; exact hk.elim

theorem minmaxK_sound {mx : Bool} : ∀ {xs : List AV} {ys : List Value} {n : Int} {k : IntKind} {K : AV → Prop}, minmaxK mx xs n k K → RepL w m I xs ys →
    Val P w m I K (ys.foldlM (if mx then Builtin.max2 else Builtin.min2) (.int k n))
  | [], ys, n, k, K, hk, hr => by
    simp only [RepL] at hr; subst hr
    exact .ofv hk (fun _ => rfl)
  | x :: xs, ys, n, k, K, hk, hr => by
    simp only [RepL] at hr
    obtain ⟨y, zs, rfl, h1, h2⟩ := hr
    simp only [minmaxK] at hk
    obtain ⟨k', v, rfl, rfl, hk⟩ := intK_spec hk h1
    cases mx with
    | true =>
      obtain ⟨r, u, g1, g2, g3⟩ := minmaxK_sound hk h2
      refine ⟨r, u, g1, g2, fun w' => ?_⟩
      simp only [if_true] at g3 ⊢
      simp only [List.foldlM_cons, Sem.run_bind, Builtin.max2, Sem.run_pure, Result.andThen_ok, g3]
    | false =>
      obtain ⟨r, u, g1, g2, g3⟩ := minmaxK_sound hk h2
      refine ⟨r, u, g1, g2, fun w' => ?_⟩
      simp only [Bool.false_eq_true, if_false] at g3 ⊢
      simp only [List.foldlM_cons, Sem.run_bind, Builtin.min2, Sem.run_pure, Result.andThen_ok, g3]

theorem minmax0K_sound {mx : Bool} {xs : List AV} {ys : List Value} {K : AV → Prop} {ts : Array Nat} {ty : Nat} (hk : minmax0K mx xs K) (hr : RepL w m I xs ys) :
    Val P w m I K (if mx then Builtin.max_ ts ty ⟨ys⟩ else Builtin.min_ ts ty ⟨ys⟩) := by
  unfold minmax0K at hk
  cases xs with
  | nil => exact hk.elim
  | cons x xs =>
    simp only [RepL] at hr
    obtain ⟨y, zs, rfl, h1, h2⟩ := hr
    cases x with
    | v z =>
      obtain rfl := h1.v_eq
      cases y with
      | int k n =>
        have := minmaxK_sound (P := P) hk h2
        cases mx <;> simpa [Builtin.max_, Builtin.min_] using this
      | _ => exact hk.elim
    | _ => exact hk.elim

end
end Go.Aw

