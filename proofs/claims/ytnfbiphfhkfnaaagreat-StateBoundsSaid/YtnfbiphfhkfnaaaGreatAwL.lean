/-
  The statement StateBounds: of a state that may be, of no line more is authorised, received or paid back than was shipped and paid, without any condition.
-/
import Derived.Test.YtnfbiphfhkfnaaaGreatAwK
import Derived.Test.YtnfbiphfhkfnaaaGreatAwF
import Derived.Test.YtnfbiphfhkfnaaaGreatAwH
set_option linter.unusedSimpArgs false
set_option linter.unusedVariables false
/-
  Aw, part 46: closed calls are computed: strings.Builder.
-/
set_option linter.unusedSimpArgs false
set_option linter.unusedVariables false
namespace Go.Aw
open Go Go.Proofs Go.Shelf Go.RowKit

section
variable {P : Program} {ρ : Ren}
end

/-- the builder's functions at this cut: String, copyCheck; its type, a byte's type -/
structure Bd where
  fS : Nat
  fC : Nat
  tb : Nat
  t5 : Nat
structure BdOk (P : Program) (B : Bd) : Prop where
  str : ∀ {H0 : List ABlk} {l0 l1 : Nat} {a : AV} (l : List UInt8), l ≠ [] → l.length ≤ 9223372036854775807 → H0[l0]? = some (.cells B.tb [a, .ms 1 l1 0 l.length]) → H0[l1]? = some (.cells B.t5 (l.map byteC)) →
    Spec P B.fS [.ptr l0 0] H0 fun r H => r = .v (.string ⟨l.toArray⟩) ∧ H = H0.set l1 .dead
  chk : ∀ {H0 : List ABlk} {l0 : Nat} {x : AV} (ao : AV), (ao = .ptr l0 0 ∨ ao = .v (.pointer none)) → H0[l0]? = some (.cells B.tb [ao, x]) →
    Spec P B.fC [.ptr l0 0] H0 fun r H => r = .tup [] ∧ H = H0.set l0 (.cells B.tb [.ptr l0 0, x])

end Go.Aw

/-
  Aw, part 55: values taken weaker: a slice whose room is known for one whose room is not, a nil one for an empty one.
-/
set_option linter.unusedSimpArgs false
set_option linter.unusedVariables false
namespace Go.Aw
open Go

mutual
inductive Wk : AV → AV → Prop
  | same {x : AV} : Wk x x
  | nil {sz : Nat} : Wk (.v (.slice none 0 0)) (.vs sz 0 [])
  | vx {sz n : Nat} {xs xs' : List AV} : WkL xs xs' → Wk (.vx sz n xs) (.vs sz n xs')
  | agg {xs xs' : List AV} : WkL xs xs' → Wk (.agg xs) (.agg xs')
inductive WkL : List AV → List AV → Prop
  | nil : WkL [] []
  | cons {x x' : AV} {xs xs' : List AV} : Wk x x' → WkL xs xs' → WkL (x :: xs) (x' :: xs')
end

theorem WkL.len : ∀ {xs xs' : List AV}, WkL xs xs' → xs'.length = xs.length
  | _, _, .nil => rfl
  | _, _, .cons _ h => by simp [h.len]

section
variable {w : World} {m : Mu} {I : Nat → Prop}
mutual
theorem Wk.rep : ∀ {x x' : AV} {y : Value}, Wk x x' → Rep w m I x y → Rep w m I x' y
  | _, _, y, .same, h => h
  | _, _, y, .nil, h => by
    simp only [Rep] at h ⊢
    exact ⟨none, 0, h, Nat.le_refl _, by simp, .inl (by simp)⟩
  | _, _, y, .vx (sz := sz) (n := n) hl, h => by
    simp only [Rep] at h ⊢
    obtain ⟨a, e, h1, h2⟩ := h
    refine ⟨a, n, e, Nat.le_refl _, by rw [hl.len]; exact h1, ?_⟩
    rcases h2 with ⟨h2, h3⟩ | ⟨A, ha, h2⟩
    · exact .inl ⟨h2, h3, h3⟩
    · refine .inr ⟨A, ha, ?_⟩
      rcases h2 with h2 | ⟨h2, h3, h4⟩
      · exact .inl h2
      · exact .inr ⟨h2, h3, hl.repC h4⟩
  | _, _, y, .agg hl, h => by
    simp only [Rep] at h ⊢
    obtain ⟨ys, e, h1, h2⟩ := h
    exact ⟨ys, e, hl.rep h1, h2⟩
theorem WkL.rep : ∀ {xs xs' : List AV} {ys : List Value}, WkL xs xs' → RepL w m I xs ys → RepL w m I xs' ys
  | _, _, ys, .nil, h => h
  | _, _, ys, .cons hx hl, h => by
    simp only [RepL] at h ⊢
    obtain ⟨y, zs, e, h1, h2⟩ := h
    exact ⟨y, zs, e, hx.rep h1, hl.rep h2⟩
theorem WkL.repC : ∀ {xs xs' : List AV} {b off : Nat}, WkL xs xs' → RepC w m I xs b off → RepC w m I xs' b off
  | _, _, b, off, .nil, h => h
  | _, _, b, off, .cons hx hl, h => by
    simp only [RepC] at h ⊢
    obtain ⟨⟨y, h1, h2, h3⟩, h4⟩ := h
    exact ⟨⟨y, h1, h2, hx.rep h3⟩, hl.repC h4⟩
end
end
theorem WkL.refl : ∀ xs, WkL xs xs
  | [] => .nil
  | _ :: xs => .cons .same (WkL.refl xs)

section
variable {P : Program} {H : List ABlk}
theorem Spec.wk {f : Nat} {args args' : List AV} {K : AV → List ABlk → Prop} (h : Spec P f args' H K) (hw : WkL args args') : Spec P f args H K :=
  fun C m I w vs hs hr => h C m I w vs hs (hw.rep hr)
/-- a function of values, among own blocks -/
theorem Fun.any {f : Nat} {args : List AV} {r : AV} (hc : callOk P f = true) (h : Fun P f args r) (ha : ∀ ρ, renL ρ args = args) (hr : ∀ ρ, r.ren ρ = r) : Spec P f args H (fun r' H' => r' = r ∧ H' = H) :=
  (ACall.iff.1 (ACall.val (K := fun r' H' => r' = r ∧ H' = H) hc h (ha _) (hr _) ⟨rfl, rfl⟩)).2
end
end Go.Aw

