/-
  The statement StateBounds: of a state that may be, of no line more is authorised, received or paid back than was shipped and paid, without any condition.
-/
import Derived.Test.YtnfbiphfhkfnaaaGreatAwE
import Derived.Shelf.Strings.Builder1
import Derived.RangeFuncIn
import Derived.RangeFuncLeaves
import Derived.RangeFuncRecord
set_option linter.unusedSimpArgs false
set_option linter.unusedVariables false
/-
  Aw, part 26: strings.Builder.
-/
set_option linter.unusedSimpArgs false
set_option linter.unusedVariables false
namespace Go.Aw
open Go Go.Proofs Go.Shelf Go.RowKit

variable {P : Program} {ρ : Ren}

/-- a nil slice in an own cell becomes an own one -/
theorem Conv.ownIn {H : List ABlk} {k sz : Nat} {xs : List AV} (e : Nat) {l t : Nat} {cs cs' : List AV} (hl : H[l]? = some (.cells t cs)) (h : FitN sz H.length cs cs') : Conv k xs H xs ((H ++ [ABlk.cells e []]).set l (.cells t cs')) := by
  intro C m I w ys hk hs hr
  obtain ⟨h1, h2⟩ := hs.push (w' := w) (bo := none) (s := 0) (B := .cells e []) (Nat.le_refl _) ⟨rfl, rfl⟩ (fun _ _ => rfl) (fun b hb => by cases hb) (fun _ => by simp only [BlkRep]; exact .inl ⟨Mu.push_new.1, by simp, Mu.push_new.2⟩)
  have hlt : l < H.length := (List.getElem?_eq_some_iff.1 hl).1
  have hl' : (H ++ [ABlk.cells e []])[l]? = some (.cells t cs) := by rw [List.getElem?_append_left hlt]; exact hl
  obtain ⟨h3, h4⟩ := h1.put (w' := w) (B' := .cells t cs') hl' trivial rfl ⟨rfl, rfl⟩ (fun _ _ => rfl) (fun he => by
    have hB := h1.blks l _ hl'
    simp only [BlkRep] at hB ⊢
    rcases hB with ⟨g1, g2, g3⟩ | ⟨b, zs, fr, g1, g2, g3, g4, g5, g6, y1, y2, g7, g8⟩
    · subst g2
      cases h
      exact .inl ⟨g1, rfl, g3⟩
    · exact .inr ⟨b, zs, fr, g1, g2, g3, g4, g5, g6, y1, y2, g7, FitN.rep (by simp [Mu.push, hs.n]) (by rw [← hs.n]; exact Mu.push_new.1) h g8⟩)
  exact ⟨_, I, h3, RepL.ext h4 _ _ (RepL.ext h2 _ _ hr)⟩
/-- a call that is handed all own memory as it is -/
theorem ACall.all {H : List ABlk} {f : Nat} {args : List AV} {K K0 : AV → List ABlk → Prop} (hc : callOk P f = true) (h : Spec P f args H K0) (k : ∀ r H', K0 r H' → K r H') : ACall P f args H K := ACall.iff.2 ⟨hc, h.mono k⟩
end Go.Aw

/-
  Aw, part 27: a loop's round by round.
-/
set_option linter.unusedSimpArgs false
set_option linter.unusedVariables false
namespace Go.Aw
open Go

section
variable {P : Program} {T : Nat → TI} {H : List ABlk}

/-- a loop that stands ahead of a round -/
@[irreducible] def ALp (P : Program) (k : Nat) (c : Code) (Q : Exit → List AV → List ABlk → Prop) (E : List AV) (H : List ABlk) : Prop :=
  ∀ (C : Ctx) (a : Act) (w : World), C.m0.n ≤ k → Rel C E H a w → ∀ (b : Frame) (kk : List Item) (cs : List Frame), ∃ e a' w', QR C Q e a' w' ∧ Arrives P (lone (b.at a (.code c :: .inLoop c :: kk)) cs w) b kk cs e a' w'

theorem ALoop.un {k : Nat} {c : Code} {Q : Exit → List AV → List ABlk → Prop} {E : List AV} (h : ALp P k c Q E H) : ALoop P T k E H c Q := by
  unfold ALoop
  unfold ALp at h
  intro C a w hC hr b kk cs
  obtain ⟨e, a', w', hq, harr⟩ := h C a w hC hr b kk cs
  exact ⟨e, a', w', hq, .of_steps (.one step_loop) harr⟩

theorem ALp.step {k : Nat} {c : Code} {Q : Exit → List AV → List ABlk → Prop} {E : List AV} (h : AW P T k c (fun x E H => match x with | .normal => ALp P k c Q E H | x => Q x E H) E H) : ALp P k c Q E H := by
  unfold ALp
  intro C a w hC hr b kk cs
  obtain ⟨e, a₁, w₁, hq, harr⟩ := h.run C a w hC hr b (.inLoop c :: kk) cs
  cases e with
  | normal =>
    obtain ⟨E', H', h1, h2⟩ := hq
    unfold ALp at h1
    obtain ⟨e₂, a₂, w₂, hq₂, harr₂⟩ := h1 C a₁ w₁ hC h2 b kk cs
    exact ⟨e₂, a₂, w₂, hq₂, .of_steps (Steps.trans harr (.one step_inLoop)) harr₂⟩
  | exit id => exact ⟨.exit id, a₁, w₁, hq, .pass (x := .inLoop c) rfl (fun _ _ => .inl (by simp)) harr⟩
  | goto l => exact ⟨.goto l, a₁, w₁, hq, .pass (x := .inLoop c) rfl (fun _ _ => .inl (by simp)) harr⟩
  | ret => exact ⟨.ret, a₁, w₁, hq, .pass (x := .inLoop c) rfl (fun _ _ => .inl (by simp)) harr⟩
  | panic ch => exact hq.elim
  | outgrown => exact hq.elim
theorem AIdx.sp {xs : List AV} {sz i : Nat} {K : List AV → Prop} (hl : Nat.ble (i * sz + sz) xs.length = true) (h : K ((xs.drop (i * sz)).take sz)) : AIdx xs sz i K := AIdx.iff.2 ⟨Nat.le_of_ble_eq_true hl, h⟩
end
end Go.Aw

/-
  Aw, part 28: a range over a function.
-/
set_option linter.unusedSimpArgs false
set_option linter.unusedVariables false
namespace Go.Aw
open Go Go.RowKit

section
variable {P : Program} {T : Nat → TI} {C : Ctx} {m : Mu} {I : Nat → Prop} {H : List ABlk} {w : World}

/-- within a round, or not -/
def fen : Option Nat → Fence
  | none => Fence.wide
  | some l => Fence.wide.inRound l
/-! ### an order of operations, within a round or not -/
structure AOI (P : Program) (T : Nat → TI) (ro : Option Nat) (ops : Array Oper) (os : List Oper) (kn : List (Nat × Bool)) (Q : List AV → List ABlk → Prop) (E : List AV) (H : List ABlk) : Prop where
  run : ∀ (C : Ctx) (R : Exit → Act → World → Prop), (∀ E H a w, Q E H → Rel C E H a w → R .normal a w) → ¬ LetsOut R → ∀ (n : Nat) (is : List Nat) (m : Mu) (I : Nat → Prop) (a : Act) (w : World), is.map (fun i => ops[i]?) = os.map some →
    St C m I H w → RepL w m I E a.tmps.toList → a.defers = C.dfr → KnOk ops kn a → wpOpsIn (fen ro) n P ops R is a w

/-- code in a round, left off its end alone -/
structure ARd (P : Program) (T : Nat → TI) (b : Nat) (c : Code) (Q : List AV → List ABlk → Prop) (E : List AV) (H : List ABlk) : Prop where
  run : ∀ (C : Ctx) (n : Nat) (a : Act) (w : World), Rel C E H a w → c.wpIn (fen (some b)) n P (Exit.then (fun a w => ∃ E H, Q E H ∧ Rel C E H a w) (fun _ _ _ => False)) a w

def wpS (P : Program) : List Code → (Exit → Act → World → Prop) → Act → World → Prop
  | [], Q, a, w => Q .normal a w
  | c :: cs, Q, a, w => c.wpIn Fence.wide 1 P (Exit.then (wpS P cs Q) Q) a w

def RPost (C : Ctx) (K : AV → List ABlk → Prop) (e : Ending) (w' : World) : Prop := ∃ r v H' m' I', e = .returned v ∧ K r H' ∧ Rep w' m' I' r v ∧ St C m' I' H' w'

/-- codes to a function's end, one behind the other, in one of which something is ranged over -/
structure ARF (P : Program) (T : Nat → TI) (k : Nat) (fn : Func) (K : AV → List ABlk → Prop) (cs : List Code) (E : List AV) (H : List ABlk) : Prop where
  run : ∀ (C : Ctx) (R : Ending → World → Prop) (a : Act) (w : World), (∀ e w, RPost C K e w → R e w) → C.m0.n ≤ k → C.dfr = [] → Rel C E H a w → wpS P cs (bodyPostM Fence.wide 1 P fn R) a w

end
end Go.Aw

