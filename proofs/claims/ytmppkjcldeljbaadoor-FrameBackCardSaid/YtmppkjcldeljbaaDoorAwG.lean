/-
  The statement FrameBack: a frame is taken of its sectors, and only what was put is taken, without any condition.
-/
import Derived.Test.YtmppkjcldeljbaaDoorAwF
set_option linter.unusedSimpArgs false
set_option linter.unusedVariables false
/-
  Aw, part 29: a region in all of its orders.
-/
set_option linter.unusedSimpArgs false
set_option linter.unusedVariables false
namespace Go.Aw
open Go

section
variable {P : Program} {T : Nat → TI} {H : List ABlk}

/-- the operations d are done, f are left -/
structure AG (P : Program) (T : Nat → TI) (ops : Array Oper) (d : List Nat) (f : Nat) (kn : List (Nat × Bool)) (J : List AV → List ABlk → Prop) (E : List AV) (H : List ABlk) : Prop where
  run : ∀ (C : Ctx) (R : Exit → Act → World → Prop), (∀ c a w, ¬ R (.panic c) a w) → Region.noSelect ops = true → (∀ E H a w, J E H → Rel C E H a w → R .normal a w) → ∀ (S : World → Prop) (m : Mu) (I : Nat → Prop) (a : Act) (w : World),
    At C S ops kn E H m I a w → wpAnyH P .any ops R S f (unl ops d) a w

theorem AG.done {ops : Array Oper} {d : List Nat} {f : Nat} {kn : List (Nat × Bool)} {J : List AV → List ABlk → Prop} {E : List AV} (h1 : (Region.ready .any ops (unl ops d) == []) = true) (h : J E H) : AG P T ops d f kn J E H :=
  ⟨fun C R hp hs hR S m I a w hA => wpAnyH_done (by simpa using h1) (hR E H a w h ⟨m, I, hA.st, hA.rep, hA.dfr⟩) f⟩

theorem AG.one (hT : TOk P T) {ops : Array Oper} {d : List Nat} {f : Nat} {kn : List (Nat × Bool)} {J : List AV → List ABlk → Prop} {E : List AV} (i : Nat) {o : Oper} (hoi : ops[i]? = some o) (h1 : oneOk ops (unl ops d) i = true)
    (h : opK P T ops o kn E H fun kn E H => AG P T ops (i :: d) f kn J E H) : AG P T ops d (f + 1) kn J E H :=
  ⟨fun C R hp hs hR S m I a w hA => take_one hT hoi h hp hs hA h1 (fun kn E H m I a w g1 g2 => g1.run C R hp hs hR S m I a w g2)⟩

theorem AG.imm (hT : TOk P T) {ops : Array Oper} {d : List Nat} {f : Nat} {kn : List (Nat × Bool)} {J : List AV → List ABlk → Prop} {E : List AV} (i : Nat) {o : Oper} {t : Nat} {x : Operand} (hoi : ops[i]? = some o) (hop : o.op = .load t x) (hg : o.guard = none) (h1 : immOk ops (unl ops d) i = true)
    (h : evK E x fun q => ifK (immB q H) (loadAtK T H t q fun v => putK E o.dst v fun E => knPut ops o.dst kn fun kn => AG P T ops (i :: d) f kn J E H)) : AG P T ops d (f + 1) kn J E H :=
  ⟨fun C R hp hs hR S m I a w hA => take_imm hT hoi hop hg h hp hs hA h1 (fun kn E H m I a w S g1 g2 => g1.run C R hp hs hR S m I a w g2)⟩

/-- each of these may come now -/
structure AGs (P : Program) (T : Nat → TI) (ops : Array Oper) (l : List Nat) (d : List Nat) (f : Nat) (kn : List (Nat × Bool)) (J : List AV → List ABlk → Prop) (E : List AV) (H : List ABlk) : Prop where
  run : ∀ i ∈ l, ∀ (C : Ctx) (R : Exit → Act → World → Prop), (∀ c a w, ¬ R (.panic c) a w) → Region.noSelect ops = true → (∀ E H a w, J E H → Rel C E H a w → R .normal a w) → ∀ (S : World → Prop) (m : Mu) (I : Nat → Prop) (a : Act) (w : World),
    At C S ops kn E H m I a w → wpOp P ops R i (fun a' w' => S w' ∧ wpAnyH P .any ops R S f ((unl ops d).setIfInBounds i true) a' w') a w

theorem AGs.nil {ops : Array Oper} {d : List Nat} {f : Nat} {kn : List (Nat × Bool)} {J : List AV → List ABlk → Prop} {E : List AV} : AGs P T ops [] d f kn J E H := ⟨fun i hi => by cases hi⟩
theorem AGs.cons (hT : TOk P T) {ops : Array Oper} {i : Nat} {l : List Nat} {d : List Nat} {f : Nat} {kn : List (Nat × Bool)} {J : List AV → List ABlk → Prop} {E : List AV} {o : Oper} (hoi : ops[i]? = some o)
    (h : opK P T ops o kn E H fun kn E H => AG P T ops (i :: d) f kn J E H) (hl : AGs P T ops l d f kn J E H) : AGs P T ops (i :: l) d f kn J E H :=
  ⟨fun j hj C R hp hs hR S m I a w hA => by
    rcases List.mem_cons.1 hj with rfl | hj
    · obtain ⟨kn', E', hkn', hE', hst⟩ := opK_step hA.rep hA.kn h
      have := step_opH (Q := R) (R := fun a' w' => S w' ∧ wpAnyH P .any ops R S f ((unl ops d).setIfInBounds j true) a' w') hT hA.st hE' hA.dfr hkn' hst (fun kn E H m I a w g1 g2 g3 g4 g5 g6 => by
        have hA' : At C S ops kn E H m I a w := ⟨g2, g3, g4, g5, fun w' hw' => hA.s w' (hw'.ext g6)⟩
        exact ⟨hA'.now, g1.run C R hp hs hR S m I a w hA'⟩)
      unfold wpOp
      rw [hoi]
      exact this
    · exact hl.run j hj C R hp hs hR S m I a w hA⟩

theorem AG.alt {ops : Array Oper} {d : List Nat} {f : Nat} {kn : List (Nat × Bool)} {J : List AV → List ABlk → Prop} {E : List AV} (i : Nat) (l : List Nat) (h1 : (Region.ready .any ops (unl ops d) == i :: l) = true) (h : AGs P T ops (i :: l) d f kn J E H) : AG P T ops d (f + 1) kn J E H :=
  ⟨fun C R hp hs hR S m I a w hA => wpAnyH_all (by simpa using h1) (by simp) (fun k hk => h.run k (by simpa using hk) C R hp hs hR S m I a w hA)⟩

theorem AW.orders (hm : P.follows .mixedOrders = true) {k id : Nat} {ops : Array Oper} {Q : Exit → List AV → List ABlk → Prop} {E : List AV} (hs : Region.noSelect ops = true) (n : Nat) (hn : ops.size = n) (h : AG P T ops [] n [] (Q .normal) E H) : AW P T k (.region id ops true) Q E H :=
  ⟨fun C a w hC ⟨m, I, hst, hE, hd⟩ => by
    subst hn
    obtain ⟨hs', he⟩ := hst.world (w' := { w with drawn := w.drawn + 1 }) rfl ⟨rfl, rfl⟩
    refine wp_region_any hm ?_
    have := h.run C (QR C Q) (fun c a w hc => hc) hs (fun E H a w hq hr => ⟨E, H, hq, hr⟩) (fun _ => True) m I a _ ⟨hs', RepL.ext he _ _ hE, hd, (fun _ hx => by cases hx), fun _ _ => trivial⟩
    exact wpAny_of_held _ _ _ _ this⟩
end
end Go.Aw

