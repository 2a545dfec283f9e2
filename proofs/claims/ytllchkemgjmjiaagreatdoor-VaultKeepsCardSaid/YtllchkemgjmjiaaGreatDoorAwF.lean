/-
  The statement VaultKeeps: opened again, a vault tells the text that was laid last, and all bodies behind that, without any condition.
-/
import Derived.Test.YtllchkemgjmjiaaGreatDoorAwE
import Derived.Shelf.Strings.Builder1
import Derived.RangeFuncIn
import Derived.RangeFuncLeaves
import Derived.RangeFuncRecord
set_option linter.unusedSimpArgs false
set_option linter.unusedVariables false
/-
  Aw, part 26: strings.Builder.
-/
set_option linter.unusedSimpArgs false
set_option linter.unusedVariables false
namespace Go.Aw
open Go Go.Proofs Go.Shelf Go.RowKit

variable {P : Program} {ρ : Ren}

set_option maxHeartbeats 2000000 in
set_option maxRecDepth 100000 in
theorem builder_string (L : Lays.n169 P ρ) (X : Builder.Extra P ρ) (b g cap size : Nat) (l : List UInt8) (w : World) (h0 : l ≠ []) (hcap : l.length ≤ cap) (hsz : l.length ≤ size) (hm : l.length ≤ 9223372036854775807)
    (c0 : w.cell? ⟨b, 1, none⟩ = some (.slice (some ⟨g, 0, none⟩) l.length cap)) (hsh : w.shape? g = some (ρ.t 5, size)) (hcell : ∀ j x, l[j]? = some x → w.cell? ((⟨g, 0, none⟩ : Addr).add j) = some (.int .u8 x.toNat)) :
    Calls P (ρ.f 169) #[.pointer (some ⟨b, 0, none⟩)] w fun e w' => e = .returned (.string ⟨l.toArray⟩) ∧ w' = w.drew.freeze ⟨g, 0, none⟩ l.length := by
  have hl0 : l.length ≠ 0 := by simpa using h0
  have c1 : w.drew.cell? ⟨b, 1, none⟩ = some (.slice (some ⟨g, 0, none⟩) l.length cap) := c0
  have hSD : (Builtin.unsafeSliceData_ #[(ρ.t 37)] (ρ.t 127) #[.slice (some ⟨g, 0, none⟩) l.length cap]).run P w.drew = .ok (.pointer (some ⟨g, 0, none⟩)) w.drew :=
    Lib.run_unsafeSliceData_row _ _ _ _ _ _ (by omega)
  have hUS : (Builtin.unsafeString_ #[(ρ.t 127), (ρ.t 3)] (ρ.t 9) #[.pointer (some ⟨g, 0, none⟩), .int .i64 l.length]).run P w.drew = .ok (.string ⟨l.toArray⟩) (w.drew.freeze ⟨g, 0, none⟩ l.length) :=
    Lib.run_unsafeString_row w.drew (ρ.t 127) (ρ.t 3) (ρ.t 9) (ρ.t 5) L.t127 X.cellsByte g size hsh l h0 hsz hm hcell
  have mixed := L.mixed
  have t72 := L.t72; have a72 := L.a72; have z72 := L.z72; have v72 := L.v72; have u72 := run_underlying L.t72
  have t70 := L.t70; have a70 := L.a70; have z70 := L.z70; have v70 := L.v70; have u70 := run_underlying L.t70
  have t37 := L.t37; have a37 := L.a37; have z37 := L.z37; have v37 := L.v37; have u37 := run_underlying L.t37
  have t127 := L.t127; have a127 := L.a127; have z127 := L.z127; have v127 := L.v127; have u127 := run_underlying L.t127
  have t3 := L.t3; have a3 := L.a3; have z3 := L.z3; have v3 := L.v3; have u3 := run_underlying L.t3
  have t9 := L.t9; have a9 := L.a9; have z9 := L.z9; have v9 := L.v9; have u9 := run_underlying L.t9
  have t5 := X.t5; have a5 := X.a5; have z5 := X.z5; have v5 := X.v5; have u5 := run_underlying X.t5
  clear hcell hsh h0 c0
  go_enter L.f169, Body.n169_ntmps ρ
  go_wp2
  go_region_o
  all_goals (go_wp2; go_ret; exact ⟨rfl, rfl⟩)

theorem byteC_rep {w : World} {m : Mu} {I : Nat → Prop} : ∀ {l : List UInt8} {ys : List Value}, RepL w m I (l.map byteC) ys → ys = l.map fun x => .int .u8 x.toNat
  | [], ys, h => by simpa [RepL] using h
  | x :: l, ys, h => by
    simp only [List.map_cons, RepL, byteC, Rep] at h
    obtain ⟨y, zs, rfl, rfl, h2⟩ := h
    rw [byteC_rep h2]; rfl

theorem Spec.builderString (L : Lays.n169 P ρ) (X : Builder.Extra P ρ) {tb : Nat} {a : AV} (l : List UInt8) (h0 : l ≠ []) (hm : l.length ≤ 9223372036854775807) :
    Spec P (ρ.f 169) [.ptr 0 0] [.cells tb [a, .ms 1 1 0 l.length], .cells (ρ.t 5) (l.map byteC)] fun r H => r = .v (.string ⟨l.toArray⟩) ∧ H = [.cells tb [a, .ms 1 1 0 l.length], .dead] := by
  intro C m I w vs hs hr
  have hl0 : l.length ≠ 0 := by simpa using h0
  simp only [RepL, Rep] at hr
  obtain ⟨y, zs, rfl, ⟨hlt, b, hb, rfl⟩, rfl⟩ := hr
  have hB := hs.blks 0 _ rfl
  simp only [BlkRep] at hB
  rcases hB with ⟨h2, _⟩ | ⟨b', ys, fr, h2, h3, h4, h5, h6, h7, y1, y2, rfl, h8⟩
  · rw [h2] at hb; cases hb
  rw [hb] at h2; cases h2
  simp only [RepL, Rep] at h8
  obtain ⟨va, q1, rfl, _, vb, q2, rfl, ⟨hlt1, hy⟩, rfl⟩ := h8
  rcases hy with ⟨_, h9, _⟩ | ⟨g, cap, o, hg, rfl, hcap, hfit, ho⟩
  · exact absurd h9 hl0
  obtain rfl : o = 0 := ho (by omega)
  have hG := hs.blks 1 _ rfl
  simp only [BlkRep] at hG
  rcases hG with ⟨h2, _⟩ | ⟨g', us, fr', g2, g3, g4, g5, g6, g7, u1, u2, rfl, g8⟩
  · rw [h2] at hg; cases hg
  rw [hg] at g2; cases g2
  have hu := byteC_rep g8
  have hul : u1.length = l.length := by rw [hu]; simp
  have hcalls := builder_string (P := P) (ρ := ρ) L X b g cap (u1 ++ u2).length l w h0 hcap (by rw [List.length_append]; omega) hm
    (by unfold World.cell?; simp [h4]) (by unfold World.shape?; simp [g4]) (by
      intro j x hx
      have : (⟨g, 0, none⟩ : Addr).add j = ⟨g, j, none⟩ := by unfold Addr.add; split <;> simp_all
      rw [this]
      unfold World.cell?
      have hj : j < l.length := (List.getElem?_eq_some_iff.1 hx).1
      simp only [g4]
      rw [hu]
      simp [List.getElem?_append_left, hj]
      rw [(List.getElem?_eq_some_iff.1 hx).2])
  refine hcalls.mono ?_
  rintro e w' ⟨rfl, rfl⟩
  have hfz : (w.drew.freeze ⟨g, 0, none⟩ l.length).heap.size = w.heap.size := by
    unfold World.freeze; split
    · rfl
    · rw [Array.size_modify]; rfl
  have hoth : ∀ k, k ≠ g → (w.drew.freeze ⟨g, 0, none⟩ l.length).heap[k]? = w.heap[k]? := by
    intro k hk
    unfold World.freeze
    split
    · rfl
    · simp only [Array.getElem?_modify]
      rw [if_neg (fun e => hk e.symm)]; rfl
  have hos : (w.drew.freeze ⟨g, 0, none⟩ l.length).os = w.os ∧ (w.drew.freeze ⟨g, 0, none⟩ l.length).output = w.output := by
    unfold World.freeze; split <;> exact ⟨rfl, rfl⟩
  obtain ⟨hs', he⟩ := hs.put (l := 1) (B := .cells (ρ.t 5) (l.map byteC)) (B' := .dead) rfl trivial hfz hos (fun k hk => hoth k (fun e => hk (by rw [e]; exact hg))) (fun _ => trivial)
  exact ⟨.v (.string ⟨l.toArray⟩), _, _, m, I, rfl, ⟨rfl, rfl⟩, by simp only [Rep], hs', he⟩

theorem lies_first {e : TypeId} {s : Nat} (hc : P.cellsOf e = s) (hs : 0 < s) (count : Nat) (hn : 1 ≤ count) : liesAt P P.depth e count 0 e 1 = true := by
  have hd : P.depth = (2 * (P.types.size + Made.depth) + 1) + 1 := rfl
  rw [hd]
  simp only [liesAt, Bool.or_eq_true]
  left
  rw [hd]
  simp [rowAt, hc, hn, sameLayout]
  omega

set_option maxHeartbeats 1000000 in
set_option maxRecDepth 100000 in
theorem builder_fresh (L : Lays.n240 P ρ) (X : Builder.X72 P ρ) (hcs : P.cellsOf (ρ.t 72) = 2) (b k : Nat) (hk : 2 ≤ k) (w : World) (h0 : w.cell? ⟨b, 0, none⟩ = some (.pointer none)) (hsh : w.shape? b = some ((ρ.t 72), k)) (hfz : w.frozen? ⟨b, 0, none⟩ = false) :
    Calls P (ρ.f 240) #[.pointer (some ⟨b, 0, none⟩)] w fun e w' => e = .returned (.tuple #[]) ∧ w' = w.setCell ⟨b, 0, none⟩ (.pointer (some ⟨b, 0, none⟩)) := by
  obtain ⟨j, hj, hjs⟩ := Option.map_eq_some_iff.1 X.sizeBuilder
  have hlies : liesAt P P.depth (ρ.t 72) (k / P.cellsOf (ρ.t 72)) 0 (ρ.t 72) 1 = true := lies_first hcs (by omega) _ (by rw [hcs]; omega)
  have mixed := L.mixed
  have t72 := L.t72; have a72 := L.a72; have z72 := L.z72; have v72 := L.v72; have u72 := run_underlying L.t72
  have t70 := L.t70; have a70 := L.a70; have z70 := L.z70; have v70 := L.v70; have u70 := run_underlying L.t70
  have t9 := L.t9; have a9 := L.a9; have z9 := L.z9; have v9 := L.v9; have u9 := run_underlying L.t9
  have t4 := L.t4; have a4 := L.a4; have z4 := L.z4; have v4 := L.v4; have u4 := run_underlying L.t4
  have t164 := L.t164; have a164 := L.a164; have z164 := L.z164; have v164 := L.v164; have u164 := run_underlying L.t164
  go_enter L.f240, Body.n240_ntmps ρ
  go_wp2
  rw [Lib.run_to_unsafe w ⟨b, 0, none⟩ L.t70 L.t164 hj (by rw [hjs]; decide) hsh (show 0 < k by omega)]
  simp only [Result.andThen]
  rw [Oper.upon_value]
  go_wp2
  rw [run_callFunc_extern L.f276 (by kernel_rfl) (by kernel_rfl) (by kernel_rfl) (e := Extern.AbiNoEscape.same) (by kernel_rfl)]
  rw [Lib.run_noEscape]
  simp only [Result.andThen]
  rw [Oper.upon_value]
  go_wp2
  rw [Lib.run_from_unsafe w ⟨b, 0, none⟩ L.t164 L.t70 hj hsh hlies]
  simp only [Result.andThen]
  rw [Oper.upon_value]
  go_wp2
  go_end0
  exact ⟨rfl, rfl⟩

/-- copyCheck, at a builder that was written or not -/
theorem Spec.builderCheck (L : Lays.n240 P ρ) (X : Builder.X72 P ρ) (hcs : P.cellsOf (ρ.t 72) = 2) {x : AV} {G : List ABlk} (ao : AV) (hao : ao = .ptr 0 0 ∨ ao = .v (.pointer none)) :
    Spec P (ρ.f 240) [.ptr 0 0] (.cells (ρ.t 72) [ao, x] :: G) fun r H => r = .tup [] ∧ H = .cells (ρ.t 72) [.ptr 0 0, x] :: G := by
  intro C m I w vs hs hr
  simp only [RepL, Rep] at hr
  obtain ⟨y, zs, rfl, ⟨hlt, b, hb, rfl⟩, rfl⟩ := hr
  have hB := hs.blks 0 _ rfl
  simp only [BlkRep] at hB
  rcases hB with ⟨h2, _⟩ | ⟨b', ys, fr, h2, h3, h4, h5, h6, h7, h8⟩
  · rw [h2] at hb; cases hb
  rw [hb] at h2; cases h2
  obtain ⟨y1, y2, hy12, h8⟩ := h8
  simp only [RepL] at h8
  obtain ⟨va, q1, rfl, hva, vb, q2, rfl, hvb, rfl⟩ := h8
  have hys : ys = va :: vb :: y2 := by rw [hy12]; rfl
  have hc0 : w.cell? ⟨b, 0, none⟩ = some va := by unfold World.cell?; simp [h4, hys]
  rcases hao with rfl | rfl
  · simp only [Rep] at hva
    obtain ⟨_, b2, hb2, rfl⟩ := hva
    rw [hb] at hb2; cases hb2
    refine (Any.Builder_copyCheck_used L X b w hc0).mono ?_
    rintro e w' ⟨rfl, rfl⟩
    exact ⟨.tup [], .tuple #[], _, m, I, rfl, ⟨rfl, rfl⟩, by simp only [Rep]; exact ⟨[], rfl, by simp [RepL]⟩, hs, Ext.refl _ _ _⟩
  · simp only [Rep] at hva
    subst hva
    have hlen : ys.length = y2.length + 2 := by rw [hys]; rfl
    have hfz : w.frozen? ⟨b, 0, none⟩ = false := by simp only [World.frozen?, h4]; exact h5 0 (by omega)
    refine (builder_fresh L X hcs b (y2.length + 2) (by omega) w hc0 (by unfold World.shape?; simp [h4, hlen]) hfz).mono ?_
    rintro e w' ⟨rfl, rfl⟩
    have hb2 : w.heap[b]? = some (.cells ⟨.pointer none :: vb :: y2⟩ (ρ.t 72) fr) := by rw [h4, hys]
    have hset := setCell_eq_setRow w b 0 ⟨.pointer none :: vb :: y2⟩ (ρ.t 72) fr (.pointer (some ⟨b, 0, none⟩)) hb2
    rw [hset]
    obtain ⟨hs', he⟩ := hs.put (l := 0) (w' := w.setRow b _) (B := .cells (ρ.t 72) [.v (.pointer none), x]) (B' := .cells (ρ.t 72) [.ptr 0 0, x]) rfl trivial (by simp [World.setRow]) ⟨rfl, rfl⟩ (fun k hk => setRow_other w b k _ (fun e => hk (by rw [e]; exact hb))) (fun he => by
      simp only [BlkRep]
      refine .inr ⟨b, .pointer (some ⟨b, 0, none⟩) :: vb :: y2, fr, hb, h3, ?_, ?_, ?_, ?_, ?_⟩
      · exact setRow_heap w b _ _ _ _ hb2
      · rw [hys] at h5; exact h5
      · rw [← h6, hys]; rfl
      · intro u hu
        rw [hys] at h7
        rcases List.mem_cons.1 hu with rfl | hu
        · rfl
        · exact h7 u (List.mem_cons_of_mem _ hu)
      · refine ⟨[.pointer (some ⟨b, 0, none⟩), vb], y2, rfl, ?_⟩
        simp only [RepL, Rep]
        exact ⟨_, _, rfl, ⟨hlt, b, hb, rfl⟩, _, _, rfl, Rep.ext he _ _ hvb, rfl⟩)
    exact ⟨.tup [], .tuple #[], _, m, I, rfl, ⟨rfl, rfl⟩, by simp only [Rep]; exact ⟨[], rfl, by simp [RepL]⟩, hs', he⟩

/-- a nil slice in an own cell becomes an own one -/
theorem Conv.ownIn {H : List ABlk} {k sz : Nat} {xs : List AV} (e : Nat) {l t : Nat} {cs cs' : List AV} (hl : H[l]? = some (.cells t cs)) (h : FitN sz H.length cs cs') : Conv k xs H xs ((H ++ [ABlk.cells e []]).set l (.cells t cs')) := by
  intro C m I w ys hk hs hr
  obtain ⟨h1, h2⟩ := hs.push (w' := w) (bo := none) (s := 0) (B := .cells e []) (Nat.le_refl _) ⟨rfl, rfl⟩ (fun _ _ => rfl) (fun b hb => by cases hb) (fun _ => by simp only [BlkRep]; exact .inl ⟨Mu.push_new.1, by simp, Mu.push_new.2⟩)
  have hlt : l < H.length := (List.getElem?_eq_some_iff.1 hl).1
  have hl' : (H ++ [ABlk.cells e []])[l]? = some (.cells t cs) := by rw [List.getElem?_append_left hlt]; exact hl
  obtain ⟨h3, h4⟩ := h1.put (w' := w) (B' := .cells t cs') hl' trivial rfl ⟨rfl, rfl⟩ (fun _ _ => rfl) (fun he => by
    have hB := h1.blks l _ hl'
    simp only [BlkRep] at hB ⊢
    rcases hB with ⟨g1, g2, g3⟩ | ⟨b, zs, fr, g1, g2, g3, g4, g5, g6, y1, y2, g7, g8⟩
    · subst g2
      cases h
      exact .inl ⟨g1, rfl, g3⟩
    · exact .inr ⟨b, zs, fr, g1, g2, g3, g4, g5, g6, y1, y2, g7, FitN.rep (by simp [Mu.push, hs.n]) (by rw [← hs.n]; exact Mu.push_new.1) h g8⟩)
  exact ⟨_, I, h3, RepL.ext h4 _ _ (RepL.ext h2 _ _ hr)⟩
/-- a call that is handed all own memory as it is -/
theorem ACall.all {H : List ABlk} {f : Nat} {args : List AV} {K K0 : AV → List ABlk → Prop} (hc : callOk P f = true) (h : Spec P f args H K0) (k : ∀ r H', K0 r H' → K r H') : ACall P f args H K := ACall.iff.2 ⟨hc, h.mono k⟩
end Go.Aw

/-
  Aw, part 27: a loop's round by round.
-/
set_option linter.unusedSimpArgs false
set_option linter.unusedVariables false
namespace Go.Aw
open Go

section
variable {P : Program} {T : Nat → TI} {H : List ABlk}

/-- a loop that stands ahead of a round -/
@[irreducible] def ALp (P : Program) (k : Nat) (c : Code) (Q : Exit → List AV → List ABlk → Prop) (E : List AV) (H : List ABlk) : Prop :=
  ∀ (C : Ctx) (a : Act) (w : World), C.m0.n ≤ k → Rel C E H a w → ∀ (b : Frame) (kk : List Item) (cs : List Frame), ∃ e a' w', QR C Q e a' w' ∧ Arrives P (lone (b.at a (.code c :: .inLoop c :: kk)) cs w) b kk cs e a' w'

theorem ALoop.un {k : Nat} {c : Code} {Q : Exit → List AV → List ABlk → Prop} {E : List AV} (h : ALp P k c Q E H) : ALoop P T k E H c Q := by
  unfold ALoop
  unfold ALp at h
  intro C a w hC hr b kk cs
  obtain ⟨e, a', w', hq, harr⟩ := h C a w hC hr b kk cs
  exact ⟨e, a', w', hq, .of_steps (.one step_loop) harr⟩

theorem ALp.step {k : Nat} {c : Code} {Q : Exit → List AV → List ABlk → Prop} {E : List AV} (h : AW P T k c (fun x E H => match x with | .normal => ALp P k c Q E H | x => Q x E H) E H) : ALp P k c Q E H := by
  unfold ALp
  intro C a w hC hr b kk cs
  obtain ⟨e, a₁, w₁, hq, harr⟩ := h.run C a w hC hr b (.inLoop c :: kk) cs
  cases e with
  | normal =>
    obtain ⟨E', H', h1, h2⟩ := hq
    unfold ALp at h1
    obtain ⟨e₂, a₂, w₂, hq₂, harr₂⟩ := h1 C a₁ w₁ hC h2 b kk cs
    exact ⟨e₂, a₂, w₂, hq₂, .of_steps (Steps.trans harr (.one step_inLoop)) harr₂⟩
  | exit id => exact ⟨.exit id, a₁, w₁, hq, .pass (x := .inLoop c) rfl (fun _ _ => .inl (by simp)) harr⟩
  | goto l => exact ⟨.goto l, a₁, w₁, hq, .pass (x := .inLoop c) rfl (fun _ _ => .inl (by simp)) harr⟩
  | ret => exact ⟨.ret, a₁, w₁, hq, .pass (x := .inLoop c) rfl (fun _ _ => .inl (by simp)) harr⟩
  | panic ch => exact hq.elim
  | outgrown => exact hq.elim
/-- a round's state is taken for another one -/
theorem ALp.conv {k : Nat} {c : Code} {Q : Exit → List AV → List ABlk → Prop} {E : List AV} (E' : List AV) (H' : List ABlk) (hc : Conv k E H E' H') (h : ALp P k c Q E' H') : ALp P k c Q E H := by
  unfold ALp at *
  exact fun C a w hC hr => h C a w hC (hc.rel hC hr)
/-- cells are overwritten, by computing -/
theorem AUpd.sp {xs cs : List AV} {o : Nat} {K : List AV → Prop} (h : splK xs o cs K) : AUpd xs o cs K := AUpd.iff.2 (splK_spec _ _ _ _ h)
theorem AIdx.sp {xs : List AV} {sz i : Nat} {K : List AV → Prop} (hl : Nat.ble (i * sz + sz) xs.length = true) (h : K ((xs.drop (i * sz)).take sz)) : AIdx xs sz i K := AIdx.iff.2 ⟨Nat.le_of_ble_eq_true hl, h⟩
/-- a fork whose two ways end alike -/
theorem AF.forkE {ops : Array Oper} {i : Nat} {p : Pl} {j : Nat} {q : Pl} {r : Pl} {kn k1 : List (Nat × Bool)} {Q : List (Nat × Bool) → List AV → List ABlk → Prop} {E E1 : List AV} {H1 : List ABlk}
    (h1 : AH P T ops i p kn (fun kn E H => kn = k1 ∧ E = E1 ∧ H = H1) E H) (h2 : AH P T ops j q kn (fun kn E H => kn = k1 ∧ E = E1 ∧ H = H1) E H) (h3 : AF P T ops r k1 Q E1 H1) : AF P T ops (.fork i p j q r) kn Q E H :=
  AF.fork _ h1 h2 (by rintro _ _ _ ⟨rfl, rfl, rfl⟩; exact h3)
end
end Go.Aw

/-
  Aw, part 28: a range over a function.
-/
set_option linter.unusedSimpArgs false
set_option linter.unusedVariables false
namespace Go.Aw
open Go Go.RowKit

section
variable {P : Program} {T : Nat → TI} {C : Ctx} {m : Mu} {I : Nat → Prop} {H : List ABlk} {w : World}

/-- within a round, or not -/
def fen : Option Nat → Fence
  | none => Fence.wide
  | some l => Fence.wide.inRound l
theorem fen_fn (ro : Option Nat) (f : FuncId) : (fen ro).fn f := by cases ro <;> trivial
theorem fen_round (ro : Option Nat) : (fen ro).round = ro := by cases ro <;> rfl
theorem fen_depth (ro : Option Nat) : (fen ro).depth = none := by cases ro <;> rfl
theorem fen_fenced (ro : Option Nat) : Machine.fenced P (fen ro) = Machine.fenced P Fence.wide := by cases ro <;> rfl
theorem calls_fen {ro : Option Nat} {n : Nat} {f : FuncId} {args : Array Value} {R : Ending → World → Prop} (h : Calls P f args w R) : CallsIn (fen ro) n P f args w R := by
  have := (callsIn_wide (n := n)).2 h
  cases ro with
  | none => exact this
  | some l => exact this

def calm : Op → Bool
  | .defer _ => false
  | _ => true

theorem oper_in {ro : Option Nat} {n : Nat} {o : Oper} {a : Act} {next : Act → World → Prop} {Q : Exit → Act → World → Prop} (hc : calm o.op = true) (h : o.wp P a w next Q) : o.wpIn (fen ro) n P a w next Q := by
  refine ⟨fun f _ => fen_fn ro f, ?_⟩
  rw [fen_round, Oper.semAt_eq _ _ _ (by intro c e; rw [e] at hc; cases hc)]
  unfold Oper.wp at h
  revert h
  generalize (execOp a.eval o).run P w = r
  intro h
  unfold Oper.upon at h
  unfold Oper.uponIn
  split at h <;> first
    | exact h
    | exact h.elim
    | skip
  · exact ⟨fun hd => by simp [fen_depth] at hd, calls_fen h⟩
  · refine ⟨fun hd => by simp [fen_depth] at hd, ?_⟩
    intro c cs _
    obtain ⟨v, w', h1, h2⟩ := h c cs
    refine ⟨v, w', h1, ?_⟩
    rw [fen_fenced]
    exact stepsIn_wide.2 h2

/-! ### an order of operations, within a round or not -/
structure AOI (P : Program) (T : Nat → TI) (ro : Option Nat) (ops : Array Oper) (os : List Oper) (kn : List (Nat × Bool)) (Q : List AV → List ABlk → Prop) (E : List AV) (H : List ABlk) : Prop where
  run : ∀ (C : Ctx) (R : Exit → Act → World → Prop), (∀ E H a w, Q E H → Rel C E H a w → R .normal a w) → ¬ LetsOut R → ∀ (n : Nat) (is : List Nat) (m : Mu) (I : Nat → Prop) (a : Act) (w : World), is.map (fun i => ops[i]?) = os.map some →
    St C m I H w → RepL w m I E a.tmps.toList → a.defers = C.dfr → KnOk ops kn a → wpOpsIn (fen ro) n P ops R is a w

theorem AOI.nil {ro : Option Nat} {ops : Array Oper} {kn : List (Nat × Bool)} {Q : List AV → List ABlk → Prop} {E : List AV} (h : Q E H) : AOI P T ro ops [] kn Q E H :=
  ⟨fun C R hR hL n is m I a w hi hs hE hd hkn => by
    cases is with
    | nil => exact hR E H a w h ⟨m, I, hs, hE, hd⟩
    | cons => simp at hi⟩

theorem AOI.cons (hT : TOk P T) {ro : Option Nat} {ops : Array Oper} {o : Oper} {os : List Oper} {kn : List (Nat × Bool)} {Q : List AV → List ABlk → Prop} {E : List AV} (hc : calm o.op = true) (h : opK P T ops o kn E H fun kn E H => AOI P T ro ops os kn Q E H) : AOI P T ro ops (o :: os) kn Q E H :=
  ⟨fun C R hR hL n is m I a w hi hs hE hd hkn => by
    cases is with
    | nil => simp at hi
    | cons i is =>
      simp only [List.map_cons, List.cons.injEq] at hi
      obtain ⟨kn', E', hkn', hE', hst⟩ := opK_step hE hkn h
      have := step_op (Q := R) (R := wpOpsIn (fen ro) n P ops R is) hT hs hE' hd hkn' hst (fun kn E H m I a w g1 g2 g3 g4 g5 => g1.run C R hR hL n is m I a w hi.2 g2 g3 g4 g5)
      simp only [wpOpsIn, hi.1]
      by_cases hw : Region.wanted o (yielded ops a.tmps) = true
      · rw [if_pos hw] at this ⊢
        rcases this with h | ⟨_, h⟩
        · exact oper_in hc h
        · exact absurd h hL
      · rw [if_neg hw] at this ⊢
        exact ⟨fun f _ => fen_fn ro f, this⟩⟩

theorem QR_out {Q : Exit → List AV → List ABlk → Prop} : ¬ LetsOut (QR C Q) := by rintro ⟨a, w, h⟩; exact h

/-- code in a round, left off its end alone -/
structure ARd (P : Program) (T : Nat → TI) (b : Nat) (c : Code) (Q : List AV → List ABlk → Prop) (E : List AV) (H : List ABlk) : Prop where
  run : ∀ (C : Ctx) (n : Nat) (a : Act) (w : World), Rel C E H a w → c.wpIn (fen (some b)) n P (Exit.then (fun a w => ∃ E H, Q E H ∧ Rel C E H a w) (fun _ _ _ => False)) a w

theorem then_out {K : Act → World → Prop} : ¬ LetsOut (Exit.then K (fun _ _ _ => False)) := by rintro ⟨a, w, h⟩; exact h
theorem ARd.region {b id : Nat} {ops : Array Oper} {Q : List AV → List ABlk → Prop} {E : List AV} (h : AOI P T (some b) ops ops.toList [] Q E H) : ARd P T b (.region id ops false) Q E H :=
  ⟨fun C n a w ⟨m, I, hs, hE, hd⟩ => wpIn_region (h.run C _ (fun E H a w hq hr => ⟨E, H, hq, hr⟩) then_out n _ m I a w (range_ops ops) hs hE hd (fun _ hx => by cases hx))⟩
theorem ARd.seq {b : Nat} {x y : Code} {Q : List AV → List ABlk → Prop} {E : List AV} (h : ARd P T b x (fun E H => ARd P T b y Q E H) E H) : ARd P T b (.seq x y) Q E H :=
  ⟨fun C n a w hr => wpIn_seq (wpIn_mono (h.run C n a w hr) (fun e a w hq => by
    cases e with
    | normal => obtain ⟨E', H', h1, h2⟩ := hq; exact h1.run C n a w h2
    | _ => exact hq.elim))⟩
theorem ARd.block {b id : Nat} {x : Code} {Q : List AV → List ABlk → Prop} {E : List AV} (h : ARd P T b x Q E H) : ARd P T b (.block id x) Q E H :=
  ⟨fun C n a w hr => wpIn_block (wpIn_mono (h.run C n a w hr) (fun e a w hq => by
    cases e with
    | normal => exact hq
    | _ => exact hq.elim))⟩
theorem ARd.skip {b : Nat} {Q : List AV → List ABlk → Prop} {E : List AV} (h : Q E H) : ARd P T b .skip Q E H :=
  ⟨fun C n a w hr => wpIn_skip ⟨E, H, h, hr⟩⟩
/-- a region outside of rounds, in which yield may be called -/
theorem AW.regionI {k id : Nat} {ops : Array Oper} {Q : Exit → List AV → List ABlk → Prop} {E : List AV} (h : AOI P T none ops ops.toList [] (Q .normal) E H) : AW P T k (.region id ops false) Q E H :=
  ⟨fun C a w hC ⟨m, I, hs, hE, hd⟩ => (wpIn_wide (n := 0)).1 (wpIn_region (h.run C (QR C Q) (fun E H a w hq hr => ⟨E, H, hq, hr⟩) QR_out 0 _ m I a w (range_ops ops) hs hE hd (fun _ hx => by cases hx)))⟩

/-! ### a call of yield -/
def LpR (st : LoopState) (ps : Array Tmp) (asg body : Code) (r : Loop) : Prop := r.state = st ∧ r.pending = none ∧ r.params = ps ∧ r.assign = asg ∧ r.body = body
def setPs : List Tmp → List AV → List AV → List AV
  | p :: ps, x :: xs, E => setPs ps xs (E.set p x)
  | _, _, E => E

theorem setPs_rep : ∀ {ps : List Tmp} {xs : List AV} {ys : List Value} {E : List AV} {vs : Array Value}, RepL w m I xs ys → RepL w m I E vs.toList →
    RepL w m I (setPs ps xs E) ((ps.zip ys).foldl (fun t (p : Tmp × Value) => t.setIfInBounds p.1 p.2) vs).toList
  | [], xs, ys, E, vs, _, h => by simpa [setPs] using h
  | p :: ps, [], ys, E, vs, hx, h => by simp only [RepL] at hx; subst hx; simpa [setPs] using h
  | p :: ps, x :: xs, ys, E, vs, hx, h => by
    simp only [RepL] at hx
    obtain ⟨y, zs, rfl, h1, h2⟩ := hx
    simp only [setPs, List.zip_cons_cons, List.foldl_cons]
    refine setPs_rep h2 ?_
    rw [Array.toList_setIfInBounds]
    exact h.set p h1

theorem St.dfr {d : List Deferred} (h : St C m I H w) : St { C with dfr := d } m I H w :=
  ⟨h.n, h.blks, h.dist, h.old, h.size, h.own, h.imm0, h.imm, h.immlt, h.m0n, h.m0b, h.m0s, h.side⟩

theorem St.setLoop (h : St C m I H w) {l b : Nat} {R R' : Loop → Prop} {xs : List AV} {r r' : Loop} (hl : H[l]? = some (.loop b R xs)) (hr : w.heap[b]? = some (.loop r)) (hR : R' r') (ht : r'.tmps = r.tmps) :
    St C m I (H.set l (.loop b R' xs)) (w.putObj b (.loop r')) ∧ Ext w m I (w.putObj b (.loop r')) m I := by
  have hB := h.blks l _ hl
  simp only [BlkRep] at hB
  obtain ⟨h1, h2, r0, h3, h4, h5⟩ := hB
  rw [hr] at h3; cases h3
  have hlt : b < w.heap.size := (Array.getElem?_eq_some_iff.1 hr).1
  refine h.put hl trivial (by simp) ⟨rfl, rfl⟩ (fun k hk => World.putObj_heap_other (fun e => hk (by rw [e]; exact h1))) (fun he => ?_)
  simp only [BlkRep]
  exact ⟨h1, h2, r', World.putObj_heap_same hlt, hR, by rw [ht]; exact RepL.ext he _ _ h5⟩

theorem St.loopAt (h : St C m I H w) {l b : Nat} {R : Loop → Prop} {xs : List AV} (hl : H[l]? = some (.loop b R xs)) : ∃ r, w.heap[b]? = some (.loop r) ∧ R r ∧ RepL w m I xs r.tmps.toList := by
  have hB := h.blks l _ hl
  simp only [BlkRep] at hB
  exact hB.2.2

/-- A call of yield that is wanted: the round is done, and true comes back. -/
theorem AOI.yield {ops : Array Oper} {os : List Oper} {kn : List (Nat × Bool)} {Q : List AV → List ABlk → Prop} {E : List AV} {dst : Option Nat} {y : Operand} {args : Array Operand} {ats : Array TypeId} {type : TypeId} {pos : String} {after : Array Edge} {guard : Option (Nat × Bool)}
    {b : Nat} (l : Nat) {E0 : List AV} {ps : Array Tmp} {asg body : Code} (KR : List ABlk → Prop)
    (hy : ev E y = .v (.func (.yield b) #[] #[])) (hw : (match guard with | none => true | some g => kno kn g.1 == some g.2) = true)
    (hl : H[l]? = some (.loop b (LpR .ready ps asg body) E0)) (hsz : args.size = ps.size)
    (hround : ARd P T b asg (fun E2 H2 => H2 = H ∧ ARd P T b body (fun E3 H3 => H3[l]? = some (.loop b (LpR .busy ps asg body) E0) ∧ KR (H3.set l (.loop b (LpR .ready ps asg body) E0))) E2 (H.set l (.loop b (LpR .busy ps asg body) E0))) (setPs ps.toList (args.toList.map (ev E)) E0) H)
    (hrest : ∀ H4, KR H4 → putK E dst (.v (.bool true)) fun E => knPut ops dst kn fun kn => AOI P T none ops os kn Q E H4) :
    AOI P T none ops (⟨dst, .call ⟨.value y, args, ats⟩, type, pos, after, guard⟩ :: os) kn Q E H :=
  ⟨fun C R hR hL n is m I a w hi hs hE hd hkn => by
    cases is with
    | nil => simp at hi
    | cons i is =>
      simp only [List.map_cons, List.cons.injEq] at hi
      simp only [wpOpsIn, hi.1]
      have hwanted : Region.wanted ⟨dst, .call ⟨.value y, args, ats⟩, type, pos, after, guard⟩ (yielded ops a.tmps) = true := by
        cases guard with
        | none => rfl
        | some g =>
          simp only [beq_iff_eq] at hw
          have := wanted_of (o := ⟨dst, .call ⟨.value y, args, ats⟩, type, pos, after, some g⟩) (b := g.2) rfl (hkn (g.1, g.2) (kno_mem hw))
          rw [this]; simp
      rw [if_pos hwanted]
      refine ⟨fun f _ => fen_fn none f, ?_⟩
      obtain ⟨r, hr1, hr2, hr3⟩ := hs.loopAt hl
      obtain ⟨e1, e2, e3, e4, e5⟩ := hr2
      have hyv : a.eval y = .func (.yield b) #[] #[] := by
        have := ev_rep (o := y) hE
        rw [hy] at this
        simpa only [Rep] using this
      have hexec : (execOp a.eval ⟨dst, .call ⟨.value y, args, ats⟩, type, pos, after, guard⟩).run P w = .ok (.round b r.fn ((r.params.zip (args.map a.eval)).foldl (fun tmps (t, a) => tmps.setIfInBounds t a) r.tmps) r.assign r.body) w := by
        have h1 := run_yield (P := P) (args := args.map a.eval) hr1 (by rw [e3]; simpa using hsz)
        simp only [execOp, resolve, hyv, Deferred.ofValue, Sem.run_bind, Sem.run_pure, Result.andThen_ok, invoke]
        simpa using h1
      rw [fen_round, Oper.semAt_none, hexec, Oper.uponIn_round]
      refine ⟨fun hd => by simp [fen_depth] at hd, ?_⟩
      have hs' := hs.rebase
      generalize hC : (Ctx.mk w _ I m _ _ _ _) = C' at hs'
      have hC0 : C'.dfr = [] := by subst hC; rfl
      have hxs : RepL w m I (args.toList.map (ev E)) (args.map a.eval).toList := by
        rw [Array.toList_map]
        generalize args.toList = l
        induction l with
        | nil => simp [RepL]
        | cons x l ih => simp only [List.map_cons, RepL]; exact ⟨_, _, rfl, ev_rep hE, ih⟩
      have htm : RepL w m I (setPs ps.toList (args.toList.map (ev E)) E0) ((r.params.zip (args.map a.eval)).foldl (fun tmps (p : Tmp × Value) => tmps.setIfInBounds p.1 p.2) r.tmps).toList := by
        have := setPs_rep (ps := ps.toList) hxs hr3
        rw [e3, ← Array.foldl_toList, Array.toList_zip]
        exact this
      refine roundIn_of_wpIn (F := fen none) (fen_fn none _) ?_
      rw [e4, e5]
      refine wpIn_mono (hround.run C' (n - 1) ⟨_, []⟩ w ⟨m, I, hs', htm, hC0.symm⟩) (fun e a1 w1 hq => ?_)
      cases e with
      | normal =>
        obtain ⟨E2, H2, ⟨rfl, hbody⟩, m1, I1, hs1, hE1, hd1⟩ := hq
        obtain ⟨r1, hr1', ⟨f1, f2, f3, f4, f5⟩, hr3'⟩ := hs1.loopAt hl
        refine ⟨_, run_beginRound hr1' f1, ?_⟩
        obtain ⟨hs2, he2⟩ := hs1.setLoop (R' := LpR .busy ps asg body) hl hr1' (r' := { r1 with state := .busy }) ⟨rfl, f2, f3, f4, f5⟩ rfl
        refine wpIn_mono (hbody.run C' (n - 1) a1 _ ⟨m1, I1, hs2, RepL.ext he2 _ _ hE1, hd1⟩) (fun e a3 w3 hq => ?_)
        cases e with
        | normal =>
          obtain ⟨E3, H3, ⟨hl3, hKR⟩, m3, I3, hs3, hE3, hd3⟩ := hq
          obtain ⟨r3, hr3'', ⟨g1, g2, g3, g4, g5⟩, _⟩ := hs3.loopAt hl3
          refine ⟨_, _, run_endRound none hr3'', ?_⟩
          obtain ⟨hs4, he4⟩ := hs3.setLoop (R' := LpR .ready ps asg body) hl3 hr3'' (r' := { r3 with state := if (none : Option Code).isNone then .ready else .done, pending := none }) ⟨rfl, rfl, g3, g4, g5⟩ rfl
          have hb4 : St C m3 I3 (H3.set l (.loop b (LpR .ready ps asg body) E0)) (w3.putObj b (.loop { r3 with state := if (none : Option Code).isNone then .ready else .done, pending := none })) := by subst hC; exact hs.back ⟨rfl, rfl, rfl⟩ (fun b hb => hb) hs4
          have hx4 : Ext w m I (w3.putObj b (.loop { r3 with state := if (none : Option Code).isNone then .ready else .done, pending := none })) m3 I3 := by have := hs4.since; subst hC; exact this
          have hrs := hrest _ hKR
          rw [putK_eq] at hrs
          obtain ⟨kn', h6, h7⟩ := knPut_spec hrs hkn
          exact h6.run C R hR hL n is m3 I3 _ _ hi.2 hb4 (put_rep (RepL.ext hx4 _ _ hE) (by simp only [Rep]; rfl)) (by rw [put_defers]; exact hd) (h7 _)
        | _ => exact hq.elim
      | _ => exact hq.elim⟩

/-! ### the statement -/
theorem St.other (h : St C m I H w) {x : Nat} (o : Obj) (hx : C.w0.heap.size ≤ x) (hI : ¬ I x) (hown : ∀ l, Live H l → m.blk l ≠ some x) : St C m I H (w.putObj x o) ∧ Ext w m I (w.putObj x o) m I := by
  have hoth : ∀ k, k ≠ x → (w.putObj x o).heap[k]? = w.heap[k]? := fun k hk => World.putObj_heap_other hk
  have he : Ext w m I (w.putObj x o) m I := ⟨Nat.le_refl _, fun _ _ => rfl, fun _ _ => rfl, fun _ h => h, fun b hb => hoth b (fun e => hI (e ▸ hb))⟩
  refine ⟨⟨h.n, ?_, h.dist, ?_, by rw [World.putObj_size]; exact h.size, h.own, h.imm0, h.imm, fun b hb => by rw [World.putObj_size]; exact h.immlt b hb, h.m0n, h.m0b, h.m0s, h.side⟩, he⟩
  · intro k b hk
    have hkm : k < m.n := by rw [h.n]; exact (List.getElem?_eq_some_iff.1 hk).1
    exact (h.blks k b hk).ext he hkm (fun y hy hv => ⟨hoth y (fun e => hown k ⟨b, hk, hv⟩ (e ▸ hy)), ((h.blks k b hk).lt hv hy).2⟩)
  · intro b h1 h2
    rw [hoth b (by omega)]; exact h.old b h1 h2

/-- begun anew, the names that are kept as they were -/
theorem St.rebaseK (h : St C m I H w) (d : List Deferred) : St (Ctx.mk w (fun b => ∃ l, Live H l ∧ m.blk l = some b) I C.m0 (fun _ hb => hb.elim fun _ hl => (h.live_lt hl.1 hl.2).1) h.immlt (fun _ hb ho => ho.elim fun _ hl => (h.live_lt hl.1 hl.2).2 hb) d) m I H w :=
  ⟨h.n, h.blks, h.dist, fun _ _ _ => rfl, Nat.le_refl _, fun l b hl hb => .inl ⟨l, hl, hb⟩, fun _ h => h, fun _ h => .inl h, h.immlt, h.m0n, h.m0b, h.m0s, rfl, rfl⟩
theorem St.backK (h : St C m I H w) {m' : Mu} {I' : Nat → Prop} {H' : List ABlk} {w' : World} {C' : Ctx} (hC : C'.w0 = w ∧ C'.I0 = I ∧ C'.m0 = C.m0) (hO : ∀ b, C'.O b → ∃ l, Live H l ∧ m.blk l = some b) (h' : St C' m' I' H' w') : St C m' I' H' w' := by
  obtain ⟨e1, e2, e3⟩ := hC
  have hown : ∀ b, C'.O b → C.O b ∨ C.w0.heap.size ≤ b := fun b hb => let ⟨l, hl, hx⟩ := hO b hb; h.own l b hl hx
  refine ⟨h'.n, h'.blks, h'.dist, ?_, ?_, ?_, ?_, ?_, h'.immlt, ?_, ?_, ?_, (h'.side.1.trans (by rw [e1])).trans h.side.1, (h'.side.2.trans (by rw [e1])).trans h.side.2⟩
  · intro b h1 h2
    have h3 : b < w.heap.size := Nat.lt_of_lt_of_le h1 h.size
    rw [h'.old b (by rw [e1]; exact h3) (fun ho => by rcases hown b ho with h4 | h4; exact h2 h4; omega), e1]
    exact h.old b h1 h2
  · have := h'.size; rw [e1] at this; exact Nat.le_trans h.size this
  · intro l b hl hb
    rcases h'.own l b hl hb with h1 | h1
    · exact hown b h1
    · rw [e1] at h1; exact .inr (Nat.le_trans h.size h1)
  · intro b hb; exact h'.imm0 b (by rw [e2]; exact h.imm0 b hb)
  · intro b hb
    rcases h'.imm b hb with h1 | h1 | h1
    · rw [e2] at h1; exact h.imm b h1
    · exact .inr (hown b h1)
    · rw [e1] at h1; exact .inr (.inr (Nat.le_trans h.size h1))
  · rw [← e3]; exact h'.m0n
  · intro l hl; rw [h'.m0b l (by rw [e3]; exact hl), e3]
  · intro l hl; rw [h'.m0s l (by rw [e3]; exact hl), e3]

def wpS (P : Program) : List Code → (Exit → Act → World → Prop) → Act → World → Prop
  | [], Q, a, w => Q .normal a w
  | c :: cs, Q, a, w => c.wpIn Fence.wide 1 P (Exit.then (wpS P cs Q) Q) a w

def RPost (C : Ctx) (K : AV → List ABlk → Prop) (e : Ending) (w' : World) : Prop := ∃ r v H' m' I', e = .returned v ∧ K r H' ∧ Rep w' m' I' r v ∧ St C m' I' H' w'

/-- codes to a function's end, one behind the other, in one of which something is ranged over -/
structure ARF (P : Program) (T : Nat → TI) (k : Nat) (fn : Func) (K : AV → List ABlk → Prop) (cs : List Code) (E : List AV) (H : List ABlk) : Prop where
  run : ∀ (C : Ctx) (R : Ending → World → Prop) (a : Act) (w : World), (∀ e w, RPost C K e w → R e w) → C.m0.n ≤ k → C.dfr = [] → Rel C E H a w → wpS P cs (bodyPostM Fence.wide 1 P fn R) a w

theorem ARF.seq {k : Nat} {fn : Func} {K : AV → List ABlk → Prop} {x y : Code} {cs : List Code} {E : List AV} (h : ARF P T k fn K (x :: y :: cs) E H) : ARF P T k fn K (.seq x y :: cs) E H :=
  ⟨fun C R a w hR hk hd hr => wpIn_seq (wpIn_mono (h.run C R a w hR hk hd hr) (fun e a w hq => by cases e <;> exact hq))⟩
theorem ARF.aw {k : Nat} {fn : Func} {K : AV → List ABlk → Prop} {x : Code} {cs : List Code} {E : List AV} (h : AW P T k x (fun e E H => match e with | .normal => ARF P T k fn K cs E H | _ => False) E H) : ARF P T k fn K (x :: cs) E H :=
  ⟨fun C R a w hR hk hd hr => wpIn_mono (wpIn_wide.2 (h.run C a w hk hr)) (fun e a w hq => by
    cases e with
    | normal => obtain ⟨E', H', h1, h2⟩ := hq; exact h1.run C R a w hR hk hd h2
    | panic c => exact hq.elim
    | outgrown => exact hq.elim
    | _ => obtain ⟨E', H', h1, h2⟩ := hq; exact h1.elim)⟩

theorem spec_ofR (hT : TOk P T) {f : Nat} {fn : Func} {c : Code} (hf : P.funcs[f]? = some fn) (hb : fn.body = some c) {args : List AV} {K : AV → List ABlk → Prop}
    (h : ARF P T H.length fn K [c] (pad args fn.ntmps) H) : Spec P f args H K := by
  intro C m I w vs hs hr
  refine (callsIn_wide (n := 1)).1 ?_
  refine callsIn_of_wp_marks hf hb trivial ?_
  have hs' := hs.rebase
  generalize hC : (Ctx.mk w _ I m _ _ _ _) = C' at hs'
  have hk : C'.m0.n ≤ H.length := by subst hC; exact Nat.le_of_eq hs.n
  have hlen := hr.length
  have hE : RepL w m I (pad args fn.ntmps) ((⟨vs⟩ : Array Value) ++ Array.replicate (fn.ntmps - (⟨vs⟩ : Array Value).size) undef).toList := by
    rw [pad_eq]
    have e : ((⟨vs⟩ : Array Value) ++ Array.replicate (fn.ntmps - (⟨vs⟩ : Array Value).size) undef).toList = vs ++ List.replicate (fn.ntmps - args.length) undef := by
      simp [hlen]
    rw [e]
    refine RepL.append hr ?_
    have := RepL.any (w := w) (m := m) (I := I) (List.replicate (fn.ntmps - args.length) undef)
    simpa using this
  refine wpIn_mono (h.run C' _ ⟨_, []⟩ w ?_ hk (by subst hC; rfl) ⟨m, I, hs', hE, by subst hC; rfl⟩) (fun e a w' hq => by cases e <;> exact hq)
  rintro e w' ⟨r, v, H', m', I', he, h1, h2, h3⟩
  refine ⟨r, v, H', m', I', he, h1, h2, ?_, ?_⟩
  · subst hC; exact hs.back ⟨rfl, rfl, rfl⟩ (fun b hb => hb) h3
  · have := h3.since; subst hC; exact this

/-- The statement 'for .. := range f { .. }', and what stands behind it to the function's end. -/
theorem ARF.range (hT : TOk P T) {k id : Nat} {fn : Func} {K : AV → List ABlk → Prop} {fo : Operand} {ps : Array Tmp} {asg body tail : Code} {E : List AV} {g : Nat} {cs : List AV} (K1 : List ABlk → Prop)
    (hfo : ev E fo = .fn g [] cs) (hg : callOk P g = true)
    (hcall : ∀ b, Spec P g (.v (.func (.yield b) #[] #[]) :: cs) (H ++ [.loop b (LpR .ready ps asg body) E]) (fun _ H' => H'[H.length]? = some (.loop b (LpR .ready ps asg body) E) ∧ K1 (H'.set H.length .dead)))
    (htail : ∀ H', K1 H' → AW P T k tail (AEnd T k fn.results.toList K) E H') : ARF P T k fn K [.block id (.rangeFunc fo ps asg body), tail] E H :=
  ⟨fun C R a w hR hk hd ⟨m, I, hs, hE, hda⟩ => by
    have hfv := ev_rep (o := fo) hE
    rw [hfo] at hfv
    simp only [Rep, RepL] at hfv
    obtain ⟨us, ys, hfe, rfl, hcs⟩ := hfv
    refine wpIn_block ?_
    refine wpIn_rangeFunc ?_
    intro fi hfi
    generalize hrec : ({ state := .ready, pending := none, fn := fi, tmps := a.tmps, params := ps, assign := asg, body := body, defers := w.heap.size } : Loop) = rec
    obtain ⟨gA, eA⟩ := hs.grown (w' := w.alloc (.deferred (some []))) ⟨by simp, fun b hb => Below.heap_alloc _ _ _ hb⟩ ⟨rfl, rfl⟩
    have hszA : (w.alloc (.deferred (some []))).heap.size = w.heap.size + 1 := by simp
    obtain ⟨hs1, e1⟩ := gA.push (w' := (w.alloc (.deferred (some []))).alloc (.loop rec)) (bo := some (w.heap.size + 1)) (s := 0) (B := .loop (w.heap.size + 1) (LpR .ready ps asg body) E) (by simp) ⟨rfl, rfl⟩ (fun b hb => Below.heap_alloc _ _ _ hb) (fun b hb => by cases hb; rw [hszA]; exact Nat.le_refl _) (fun he => by
      simp only [BlkRep]
      refine ⟨Mu.push_new.1, fun hi => ?_, rec, ?_, ?_, ?_⟩
      · have := gA.immlt _ hi; omega
      · rw [← hszA]; exact World.alloc_heap_new _ _
      · rw [← hrec]; exact ⟨rfl, rfl, rfl, rfl, rfl⟩
      · have ht : rec.tmps = a.tmps := by rw [← hrec]
        rw [ht]; exact RepL.ext he _ _ (RepL.ext eA _ _ hE))
    generalize hm1 : m.push (some (w.heap.size + 1)) 0 = m1 at hs1 e1
    generalize hw1 : (w.alloc (.deferred (some []))).alloc (.loop rec) = w1 at hs1 e1
    have hD1 : w1.heap[w.heap.size]? = some (.deferred (some [])) := by
      rw [← hw1]; exact (Below.heap_alloc _ _ _ (by simp)).trans (World.alloc_heap_new w _)
    have hsz1 : w1.heap.size = w.heap.size + 2 := by rw [← hw1]; simp
    have hs1' := hs1.rebaseK []
    generalize hC1 : (Ctx.mk w1 _ I C.m0 _ _ _ _) = C1 at hs1'
    have hC1w : C1.w0 = w1 := by subst hC1; rfl
    have hC1O : ¬ C1.O w.heap.size := by
      subst hC1
      rintro ⟨l, ⟨b, h1, h2⟩, h3⟩
      rcases getElem?_push_lt h1 with ⟨h4, h5⟩ | ⟨h4, _⟩
      · have hln : l < m.n := by rw [hs.n]; exact h4
        rw [← hm1, (Mu.push_old hln).1] at h3
        have := (hs.live_lt ⟨b, h5, h2⟩ h3).1
        omega
      · rw [h4, ← hs.n, ← hm1, Mu.push_new.1] at h3
        injection h3 with h3; omega
    refine ⟨w.heap.size + 1, [{ target := .collected w.heap.size, args := #[] }], w1, { target := .fn (.func g) ⟨ys⟩, args := #[.func (.yield (w.heap.size + 1)) #[] #[]] }, w1, g, #[.func (.yield (w.heap.size + 1)) #[] #[]] ++ ⟨ys⟩, w1, ?_, ?_, fun _ _ => trivial, ?_, fun _ => Nat.le_refl 1, ?_⟩
    · rw [← hw1, ← hrec]; exact run_enterLoop_outer _ _ _ _ _
    · simp only [resolve, hfe]
      simp [go_sem]
    · unfold callOk at hg
      cases hfn : P.funcs[g]? with
      | none => rw [hfn] at hg; cases hg
      | some gn =>
        rw [hfn] at hg
        simp only [Bool.and_eq_true, Bool.not_eq_true'] at hg
        have hb : gn.body.isNone = false := by cases hfb : gn.body <;> simp [hfb] at hg ⊢
        simp only [invoke, callFunc, Sem.run_bind, run_program, hfn, Result.andThen_ok, Sem.run_ite, hg.2, Bool.false_eq_true, if_false, hb]
        simp
    · refine callsIn_wide.2 ?_
      have hcl := hcall (w.heap.size + 1) C1 m1 I w1 (.func (.yield (w.heap.size + 1)) #[] #[] :: ys) hs1' (by
        simp only [RepL, Rep]
        exact ⟨_, _, rfl, rfl, RepL.ext e1 _ _ (RepL.ext eA _ _ hcs)⟩)
      have harr : (#[Value.func (.yield (w.heap.size + 1)) #[] #[]] ++ (⟨ys⟩ : Array Value)) = ⟨.func (.yield (w.heap.size + 1)) #[] #[] :: ys⟩ := by apply Array.ext'; simp
      rw [harr]
      refine hcl.mono ?_
      rintro e w3 ⟨r, v, H', m', I', rfl, ⟨hl', hK1⟩, _, hs3, e3⟩
      obtain ⟨r3, hr3, ⟨g1, g2, g3, g4, g5⟩, _⟩ := hs3.loopAt hl'
      refine ⟨none, _, by rw [← g2]; exact run_endLoop hr3 (by rw [g1]; decide), ?_⟩
      have hb3 : m'.blk H.length = some (w.heap.size + 1) := by
        have hB := hs3.blks _ _ hl'
        simp only [BlkRep] at hB
        exact hB.1
      obtain ⟨hs4', e4⟩ := hs3.put (w' := w3.putObj (w.heap.size + 1) (.loop { r3 with state := .exhausted })) (B' := .dead) hl' trivial (by simp) ⟨rfl, rfl⟩ (fun k hk => World.putObj_heap_other (fun e => hk (by rw [e]; exact hb3))) (fun _ => trivial)
      have hD3 : w3.heap[w.heap.size]? = some (.deferred (some [])) := by
        rw [hs3.old _ (by rw [hC1w]; omega) hC1O, hC1w]; exact hD1
      have hD4 : (w3.putObj (w.heap.size + 1) (.loop { r3 with state := .exhausted })).heap[w.heap.size]? = some (.deferred (some [])) := by
        rw [World.putObj_heap_other (by omega)]; exact hD3
      have hsz3 : w1.heap.size ≤ w3.heap.size := by have := hs3.size; rwa [hC1w] at this
      have hsz4 : w1.heap.size ≤ (w3.putObj (w.heap.size + 1) (.loop { r3 with state := .exhausted })).heap.size := by rw [World.putObj_size]; exact hsz3
      generalize w3.putObj (w.heap.size + 1) (.loop { r3 with state := .exhausted }) = w4 at hs4' e4 hD4 hsz4 ⊢
      have hs4 : St C m' I' (H'.set H.length .dead) w4 := by
        refine hs1.backK (C' := C1) ?_ ?_ hs4' <;> subst hC1
        · exact ⟨rfl, rfl, rfl⟩
        · exact fun b hb => hb
      have hI4 : ¬ I' w.heap.size := by
        intro hi
        rcases hs4'.imm _ hi with h1 | h1 | h1
        · subst hC1; have := hs.immlt _ h1; omega
        · exact hC1O h1
        · rw [hC1w] at h1; omega
      have hO4 : ∀ l, Live (H'.set H.length .dead) l → m'.blk l ≠ some w.heap.size := by
        intro l h1 h2
        rcases hs4'.own l _ h1 h2 with h3 | h3
        · exact hC1O h3
        · rw [hC1w] at h3; omega
      have hs5 := hs4.rebaseK [{ target := .collected w.heap.size, args := #[] }]
      generalize hC5 : (Ctx.mk w4 _ I' C.m0 _ _ _ _) = C5 at hs5
      have hC5w : C5.w0 = w4 := by subst hC5; rfl
      have hC5I : C5.I0 = I' := by subst hC5; rfl
      have hC5O : ¬ C5.O w.heap.size := by
        subst hC5
        rintro ⟨l, h1, h2⟩
        exact hO4 l h1 h2
      have hE4 : RepL w4 m' I' E a.tmps.toList := RepL.ext e4 _ _ (RepL.ext e3 _ _ (RepL.ext e1 _ _ (RepL.ext eA _ _ hE)))
      have hrun := (htail _ hK1).run C5 { a with defers := [{ target := .collected w.heap.size, args := #[] }] ++ a.defers } w4 (by subst hC5; exact hk) ⟨m', I', hs5, hE4, by subst hC5; rw [hda, hd]; rfl⟩
      show Code.wpIn _ _ _ _ _ _ _
      refine wpIn_mono (wpIn_wide.2 hrun) (fun e a5 w5 hq => ?_)
      have hend : (∃ E5 H5, resultK T fn.results.toList E5 H5 (fun x H => AFin k x H K) ∧ Rel C5 E5 H5 a5 w5) → LeavesInM Fence.wide 1 P fn a5.tmps R a5.defers .returning w5 := by
        rintro ⟨E5, H5, hres, m5, I5, hs6, hE6, hd6⟩
        rw [hd6]
        have hD5 : w5.heap[w.heap.size]? = some (.deferred (some [])) := by
          rw [hs6.old _ (by rw [hC5w]; omega) hC5O, hC5w]; exact hD4
        have hdf : C5.dfr = [{ target := .collected w.heap.size, args := #[] }] := by subst hC5; rfl
        rw [hdf]
        refine ⟨by simp, .inl ⟨_, _, rfl, run_takeDeferred hD5, ?_⟩⟩
        have hs7 : St C m5 I5 H5 w5 := by
          refine hs4.backK (C' := C5) ?_ ?_ hs6 <;> subst hC5
          · exact ⟨rfl, rfl, rfl⟩
          · exact fun b hb => hb
        obtain ⟨hs8, e8⟩ := hs7.other (.deferred none) hs.size (by
          intro hi
          rcases hs6.imm _ hi with h1 | h1 | h1
          · rw [hC5I] at h1; exact hI4 h1
          · exact hC5O h1
          · rw [hC5w] at h1; omega) (by
          intro l h1 h2
          rcases hs6.own l _ h1 h2 with h3 | h3
          · exact hC5O h3
          · rw [hC5w] at h3; omega)
        obtain ⟨x, y, h1, h2, h3⟩ := resultK_sound (P := P) hT hs8 (RepL.ext e8 _ _ hE6) hres
        obtain ⟨x', H'', hc, h1⟩ := AFin.iff.1 h1
        obtain ⟨m'', I'', hs9, hr9⟩ := hc C m5 I5 _ [y] hk hs8 (by simp only [RepL]; exact ⟨_, _, rfl, h2, rfl⟩)
        obtain ⟨_, _, e9, h9, _⟩ := hr9.cons_inv
        cases e9
        exact ⟨y, h3, hR _ _ ⟨x', y, H'', m'', I'', rfl, h1, h9, hs9⟩⟩
      cases e with
      | normal => exact hend hq
      | ret => exact hend hq
      | exit id => obtain ⟨_, _, h1, _⟩ := hq; exact h1.elim
      | goto l => obtain ⟨_, _, h1, _⟩ := hq; exact h1.elim
      | panic c => exact hq.elim
      | outgrown => exact hq.elim⟩
end
end Go.Aw

