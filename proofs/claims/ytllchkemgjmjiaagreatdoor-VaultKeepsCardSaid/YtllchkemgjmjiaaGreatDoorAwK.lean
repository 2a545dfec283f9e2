/-
  The statement VaultKeeps: opened again, a vault tells the text that was laid last, and all bodies behind that, without any condition.
-/
import Derived.Test.YtllchkemgjmjiaaGreatDoorAwG
import Derived.Defers
set_option linter.unusedSimpArgs false
set_option linter.unusedVariables false
/-
  Aw, part 50: a deferred call.
-/
set_option linter.unusedSimpArgs false
set_option linter.unusedVariables false
namespace Go.Aw
open Go

section
variable {P : Program} {T : Nat → TI} {m : Mu} {I : Nat → Prop} {H : List ABlk} {w : World}

/-- a deferred call's contract -/
def SpecD (P : Program) (f : Nat) (args : List AV) (H : List ABlk) (K : AV → List ABlk → Prop) : Prop :=
  ∀ (C : Ctx) (m : Mu) (I : Nat → Prop) (w : World) (vs : List Value) (u : FrameMode), St C m I H w → RepL w m I args vs →
    CallsD P f ⟨vs⟩ u w fun e u' w' => u' = u ∧ ∃ r v H' m' I', e = .returned v ∧ K r H' ∧ Rep w' m' I' r v ∧ St C m' I' H' w' ∧ Ext w m I w' m' I'

theorem SpecD.mono {f : Nat} {args : List AV} {K K' : AV → List ABlk → Prop} (h : SpecD P f args H K) (hk : ∀ r H, K r H → K' r H) : SpecD P f args H K' :=
  fun C m I w vs u hs hr => (h C m I w vs u hs hr).mono fun _ _ _ ⟨hu, r, v, H', m', I', e, k, rest⟩ => ⟨hu, r, v, H', m', I', e, hk _ _ k, rest⟩

theorem specD_of (hT : TOk P T) {f : Nat} {fn : Func} {c : Code} (hf : P.funcs[f]? = some fn) (hb : fn.body = some c) {args : List AV} {K : AV → List ABlk → Prop}
    (h : AW P T H.length c (AEnd T H.length fn.results.toList K) (pad args fn.ntmps) H) : SpecD P f args H K := by
  intro C m I w vs u hs hr
  refine callsD_of_wp hf hb ?_
  have hs' := hs.rebase
  generalize hC : (Ctx.mk w _ I m _ _ _ _) = C' at hs'
  have hk : C'.m0.n ≤ H.length := by subst hC; exact Nat.le_of_eq hs.n
  have hlen := hr.length
  have hE : RepL w m I (pad args fn.ntmps) ((⟨vs⟩ : Array Value) ++ Array.replicate (fn.ntmps - (⟨vs⟩ : Array Value).size) undef).toList := by
    rw [pad_eq]
    have e : ((⟨vs⟩ : Array Value) ++ Array.replicate (fn.ntmps - (⟨vs⟩ : Array Value).size) undef).toList = vs ++ List.replicate (fn.ntmps - args.length) undef := by
      simp [hlen]
    rw [e]
    refine RepL.append hr ?_
    have := RepL.any (w := w) (m := m) (I := I) (List.replicate (fn.ntmps - args.length) undef)
    simpa using this
  refine wp_mono (h.run C' _ w hk ⟨m, I, hs', hE, by subst hC; rfl⟩) (fun e a w' hq => ?_)
  have hend : (∃ E H', resultK T fn.results.toList E H' (fun x H' => AFin H.length x H' K) ∧ Rel C' E H' a w') → a.defers = [] ∧ ∃ v, (results fn a.tmps).run P w' = .ok v w' ∧
      (∃ r v' H' m' I', Ending.returned v = .returned v' ∧ K r H' ∧ Rep w' m' I' r v' ∧ St C m' I' H' w' ∧ Ext w m I w' m' I') := by
    rintro ⟨E', H', hkk, m', I', hs2, hE2, hd2⟩
    obtain ⟨x, y, h1, h2, h3⟩ := resultK_sound (P := P) hT hs2 hE2 hkk
    obtain ⟨x', H'', hc, h1⟩ := AFin.iff.1 h1
    obtain ⟨m'', I'', hs3, hr3⟩ := hc C' m' I' w' [y] hk hs2 (by simp only [RepL]; exact ⟨_, _, rfl, h2, rfl⟩)
    have h4 : Rep w' m'' I'' x' y := by
      obtain ⟨_, _, e, h5, _⟩ := hr3.cons_inv
      cases e; exact h5
    refine ⟨by subst hC; exact hd2, y, h3, x', y, H'', m'', I'', rfl, h1, h4, ?_, ?_⟩
    · subst hC; exact hs.back ⟨rfl, rfl, rfl⟩ (fun b hb => hb) hs3
    · have := hs3.since; subst hC; exact this
  cases e with
  | normal => exact hend hq
  | ret => exact hend hq
  | exit id => obtain ⟨_, _, h1, _⟩ := hq; exact h1.elim
  | goto l => obtain ⟨_, _, h1, _⟩ := hq; exact h1.elim
  | panic c => exact hq.elim
  | outgrown => exact hq.elim

/-- what is handed back in the end -/
def RD (C : Ctx) (K : AV → List ABlk → Prop) (e : Ending) (w' : World) : Prop := ∃ r v H' m' I', e = .returned v ∧ K r H' ∧ Rep w' m' I' r v ∧ St C m' I' H' w'

/-- code of a function that may defer a call -/
structure AWD (P : Program) (T : Nat → TI) (fn : Func) (k : Nat) (K : AV → List ABlk → Prop) (c : Code) (E : List AV) (H : List ABlk) : Prop where
  run : ∀ (C : Ctx) (a : Act) (w : World), C.m0.n ≤ k → C.dfr = [] → Rel C E H a w → c.wp P (bodyPostD P fn (RD C K)) a w

/-- the end with nothing deferred -/
theorem AWD.fin (hT : TOk P T) {fn : Func} {k : Nat} {K : AV → List ABlk → Prop} {C : Ctx} (hC : C.m0.n ≤ k) (hd0 : C.dfr = []) {E : List AV} {a : Act} (hk : resultK T fn.results.toList E H (fun x H' => AFin k x H' K)) (hr : Rel C E H a w) :
    Leaves P fn a.tmps (RD C K) a.defers .returning w := by
  obtain ⟨m', I', hs2, hE2, hd2⟩ := hr
  rw [hd2, hd0]
  obtain ⟨x, y, h1, h2, h3⟩ := resultK_sound (P := P) hT hs2 hE2 hk
  obtain ⟨x', H'', hc, h1⟩ := AFin.iff.1 h1
  obtain ⟨m'', I'', hs3, hr3⟩ := hc C m' I' w [y] hC hs2 (by simp only [RepL]; exact ⟨_, _, rfl, h2, rfl⟩)
  have h4 : Rep w m'' I'' x' y := by
    obtain ⟨_, _, e, h5, _⟩ := hr3.cons_inv
    cases e; exact h5
  exact ⟨y, h3, x', y, H'', m'', I'', rfl, h1, h4, hs3⟩

theorem AWD.seq (hT : TOk P T) {fn : Func} {k : Nat} {K : AV → List ABlk → Prop} {x y : Code} {E : List AV} (h : AW P T k x (fun e E H => match e with | .normal => AWD P T fn k K y E H | .ret => AEnd T k fn.results.toList K .ret E H | _ => False) E H) : AWD P T fn k K (.seq x y) E H :=
  ⟨fun C a w hC hd hr => by
    refine wp_seq (wp_mono (h.run C a w hC hr) (fun e a w hq => ?_))
    cases e with
    | normal => obtain ⟨E', H', h1, h2⟩ := hq; exact h1.run C a w hC hd h2
    | ret => obtain ⟨E', H', h1, h2⟩ := hq; exact AWD.fin hT hC hd h1 h2
    | exit id => obtain ⟨_, _, h1, _⟩ := hq; exact h1.elim
    | goto l => obtain ⟨_, _, h1, _⟩ := hq; exact h1.elim
    | panic c => exact hq.elim
    | outgrown => exact hq.elim⟩

/-- the end behind a deferred call -/
def AEndD (P : Program) (T : Nat → TI) (k : Nat) (rs : List ResultVar) (g : Nat) (xs : List AV) (K : AV → List ABlk → Prop) (E : List AV) (H : List ABlk) : Prop :=
  SpecD P g xs H fun _ H' => resultK T rs E H' (fun x H' => AFin k x H' K)

theorem AWD.defer (hT : TOk P T) {fn : Func} {k : Nat} {K : AV → List ABlk → Prop} {id : Nat} {ops : Array Oper} {c2 : Code} {o0 o1 : Oper} {x0 : Operand} {g : Nat} {cargs : Array Operand} {ts : Array Nat} {E : List AV} (hkH : k ≤ H.length)
    (hops : ops = #[o0, o1]) (h00 : o0.op = .move x0) (h01 : o0.guard = none) (h10 : o1.op = .defer ⟨.value (.func g), cargs, ts⟩) (h11 : o1.guard = none) (h12 : o1.dst = none) (hg : callOk P g = true)
    (h : evK E x0 fun v => putK E o0.dst v fun E => evsK E cargs.toList fun xs => AW P T H.length c2 (fun e E' H' => match e with | .normal => AEndD P T k fn.results.toList g xs K E' H' | .ret => AEndD P T k fn.results.toList g xs K E' H' | _ => False) E H) :
    AWD P T fn k K (.seq (.region id ops false) c2) E H :=
  ⟨fun C a w hC hd0 hr => by
    obtain ⟨m, I, hs, hE, hd⟩ := hr
    obtain ⟨v, h, hv⟩ := evK_sound hE h
    rw [putK_eq] at h
    have hE1 := put_rep (a := a) (d := o0.dst) (y := a.eval x0) hE hv
    obtain ⟨xs, hh, hx⟩ := evsK_sound hE1 h
    clear h
    subst hops
    obtain ⟨d0, op0, t0, p0, af0, g0⟩ := o0
    obtain ⟨d1, op1, t1, p1, af1, g1⟩ := o1
    simp only at h00 h01 h10 h11 h12 hh hE1 hx
    subst h00 h01 h10 h11 h12
    generalize ha1 : a.put d0 (a.eval x0) = a1 at *
    refine wp_seq (wp_region ?_)
    show wpOps P _ _ [0, 1] a w
    have hrun : (execOp a1.eval ⟨none, .defer ⟨.value (.func g), cargs, ts⟩, t1, p1, af1, none⟩).run P w = .ok (.defer { target := .fn (.func g) #[], args := cargs.map a1.eval }) w := by
      simp [execOp, resolve, Deferred.ofValue, Act.eval]
    rw [wpOps_cons]
    unfold wpOp
    simp only [List.getElem?_toArray, List.getElem?_cons_zero, Region.wanted, if_true]
    refine .inl ?_
    unfold Oper.wp
    have hrun0 : (execOp a.eval ⟨d0, .move x0, t0, p0, af0, none⟩).run P w = .ok (.value (a.eval x0)) w := rfl
    rw [hrun0]
    simp only [Oper.upon]
    rw [ha1, wpOps_cons]
    unfold wpOp
    simp only [List.getElem?_toArray, List.getElem?_cons_succ, List.getElem?_cons_zero, Region.wanted, if_true]
    refine .inl ?_
    unfold Oper.wp
    rw [hrun]
    have hdf : a1.defers = [] := by rw [← ha1, put_defers, hd, hd0]
    simp only [Oper.upon]
    rw [hdf]
    show c2.wp P _ { a1 with defers := [_] } w
    generalize hD : ({ target := .fn (.func g) #[], args := cargs.map a1.eval } : Deferred) = D
    have hs' := St.dfr (d := [D]) hs.rebase
    generalize hC' : ({ Ctx.mk w _ I m _ _ _ _ with dfr := [D] } : Ctx) = C' at hs'
    have c1 : C'.w0 = w := by subst hC'; rfl
    have c2' : C'.I0 = I := by subst hC'; rfl
    have c3 : C'.m0 = m := by subst hC'; rfl
    have c4 : C'.dfr = [D] := by subst hC'; rfl
    have c5 : ∀ b, C'.O b → ∃ l, Live H l ∧ m.blk l = some b := by subst hC'; exact fun b hb => hb
    have hkk : C'.m0.n ≤ H.length := by rw [c3]; exact Nat.le_of_eq hs.n
    refine wp_mono (hh.run C' { a1 with defers := [D] } w hkk ⟨m, I, hs', hE1, by rw [c4]⟩) (fun e a' w' hq => ?_)
    have hend : (∃ E' H', AEndD P T k fn.results.toList g xs K E' H' ∧ Rel C' E' H' a' w') → Leaves P fn a'.tmps (RD C K) a'.defers .returning w' := by
      rintro ⟨E', H', hA, m', I', hs2, hE2, hd2⟩
      rw [hd2, c4, ← hD]
      have hext : Ext w m I w' m' I' := by have := hs2.since; rw [c1, c2', c3] at this; exact this
      have hx2 := RepL.ext hext _ _ hx
      have e1 : cargs.map a1.eval = ⟨cargs.toList.map a1.eval⟩ := by apply Array.ext'; simp
      rw [e1]
      have hinv : (invoke (.fn (.func g) #[]) ⟨cargs.toList.map a1.eval⟩).run P w' = .ok (.enter g ⟨cargs.toList.map a1.eval⟩) w' := by
        unfold callOk at hg
        cases hfn : P.funcs[g]? with
        | none => rw [hfn] at hg; cases hg
        | some fn =>
          rw [hfn] at hg
          simp only [Bool.and_eq_true, Bool.not_eq_true'] at hg
          have hb : fn.body.isNone = false := by cases hfb : fn.body <;> simp [hfb] at hg ⊢
          have harr : ((#[] : Array Value) ++ ({ toList := cargs.toList.map a1.eval } : Array Value)) = ⟨cargs.toList.map a1.eval⟩ := by apply Array.ext'; simp
          simp only [invoke, callFunc, Sem.run_bind, Result.andThen_ok, run_program, hfn, Sem.run_ite, hg.2, Bool.false_eq_true, if_false, hb, Sem.run_pure, Array.append_empty]
      refine leaves_cons (by simp) hinv ?_
      refine (hA C' m' I' w' _ .returning hs2 hx2).mono ?_
      rintro e u' w'' ⟨rfl, r, v, H'', m'', I'', rfl, hkr, hr2, hs3, he3⟩
      show Leaves P fn a'.tmps (RD C K) [] (settle .returning) w''
      obtain ⟨x, y, g1, g2, g3⟩ := resultK_sound (P := P) hT hs3 (RepL.ext he3 _ _ hE2) hkr
      obtain ⟨x', H3, hc, g4⟩ := AFin.iff.1 g1
      have hs4 : St C m'' I'' H'' w'' := hs.back ⟨c1, c2', c3⟩ c5 hs3
      obtain ⟨m3, I3, hs5, hr3⟩ := hc C m'' I'' w'' [y] hC hs4 (by simp only [RepL]; exact ⟨_, _, rfl, g2, rfl⟩)
      have g5 : Rep w'' m3 I3 x' y := by
        obtain ⟨_, _, e, h5, _⟩ := hr3.cons_inv
        cases e; exact h5
      exact ⟨y, g3, x', y, H3, m3, I3, rfl, g4, g5, hs5⟩
    cases e with
    | normal => exact hend hq
    | ret => exact hend hq
    | exit id => obtain ⟨_, _, h1, _⟩ := hq; exact h1.elim
    | goto l => obtain ⟨_, _, h1, _⟩ := hq; exact h1.elim
    | panic c => exact hq.elim
    | outgrown => exact hq.elim⟩

/-- A function that may defer a call. -/
theorem spec_of_defer (hT : TOk P T) {f : Nat} {fn : Func} {c : Code} (hf : P.funcs[f]? = some fn) (hb : fn.body = some c) {args : List AV} {K : AV → List ABlk → Prop}
    (h : AWD P T fn H.length K c (pad args fn.ntmps) H) : Spec P f args H K := by
  intro C m I w vs hs hr
  have hs' := hs.rebase
  generalize hC : (Ctx.mk w _ I m _ _ _ _) = C' at hs'
  have hk : C'.m0.n ≤ H.length := by subst hC; exact Nat.le_of_eq hs.n
  have hlen := hr.length
  have hE : RepL w m I (pad args fn.ntmps) ((⟨vs⟩ : Array Value) ++ Array.replicate (fn.ntmps - (⟨vs⟩ : Array Value).size) undef).toList := by
    rw [pad_eq]
    have e : ((⟨vs⟩ : Array Value) ++ Array.replicate (fn.ntmps - (⟨vs⟩ : Array Value).size) undef).toList = vs ++ List.replicate (fn.ntmps - args.length) undef := by
      simp [hlen]
    rw [e]
    refine RepL.append hr ?_
    have := RepL.any (w := w) (m := m) (I := I) (List.replicate (fn.ntmps - args.length) undef)
    simpa using this
  have hrun := h.run C' { tmps := (⟨vs⟩ : Array Value) ++ Array.replicate (fn.ntmps - (⟨vs⟩ : Array Value).size) undef, defers := [] } w hk (by subst hC; rfl) ⟨m, I, hs', hE, by subst hC; rfl⟩
  have hR : ∀ e w', RD C' K e w' → ∃ r v H' m' I', e = .returned v ∧ K r H' ∧ Rep w' m' I' r v ∧ St C m' I' H' w' ∧ Ext w m I w' m' I' := by
    rintro e w' ⟨r, v, H', m', I', e1, e2, e3, e4⟩
    refine ⟨r, v, H', m', I', e1, e2, e3, ?_, ?_⟩
    · subst hC; exact hs.back ⟨rfl, rfl, rfl⟩ (fun b hb => hb) e4
    · have := e4.since; subst hC; exact this
  exact (calls_of_wp_defers hf hb hrun).mono hR
end
end Go.Aw

/-
  Aw, part 51: a block that code only reads is held still, while other blocks change.
-/
set_option linter.unusedSimpArgs false
set_option linter.unusedVariables false
namespace Go.Aw
open Go

section
variable {P : Program} {T : Nat → TI} {H : List ABlk}

theorem AW.stillTo {k : Nat} {c : Code} {Q : Exit → List AV → List ABlk → Prop} {E : List AV} {l t : Nat} {xs : List AV} (hl : H[l]? = some (.cells t xs))
    (h : AW P T H.length c (fun e E' H' => match e with | .normal => AOut H.length E' H' (fun E1 H'' => ∃ H1 : List ABlk, plainL E1 ∧ (∀ b ∈ H1, b = .dead ∨ b.live ∧ b.plain) ∧ H1[l]? = some (.cells t xs) ∧ H1.length = H.length ∧ H'' = H1.set l (.ice t xs) ∧ Q .normal E1 H1) | _ => False) E (H.set l (.ice t xs))) : AW P T k c Q E H :=
  ⟨fun C a w hC hr => by
    obtain ⟨m, I, hs, hE, hd⟩ := hr
    obtain ⟨hs1, he1⟩ := hs.freeze hl
    have hs2 := St.dfr (d := C.dfr) hs1.rebase
    have hlt : l < H.length := (List.getElem?_eq_some_iff.1 hl).1
    have hlive : ∀ j, Live (H.set l (.ice t xs)) j → Live H j ∧ j ≠ l := by
      rintro j ⟨b, h1, h2⟩
      by_cases e : l = j
      · subst e; rw [List.getElem?_set_self hlt] at h1; cases h1; exact h2.elim
      · rw [List.getElem?_set_ne e] at h1; exact ⟨⟨b, h1, h2⟩, fun h => e h.symm⟩
    have hliveb : ∀ j, j ≠ l → Live H j → Live (H.set l (.ice t xs)) j := by
      rintro j hj ⟨b, h1, h2⟩
      exact ⟨b, by rw [List.getElem?_set_ne (fun e => hj e.symm)]; exact h1, h2⟩
    have hLl : Live H l := ⟨_, hl, trivial⟩
    generalize hC' : ({ Ctx.mk w _ _ m _ _ _ _ with dfr := C.dfr } : Ctx) = C' at hs2
    have c1 : C'.w0 = w := by subst hC'; rfl
    have c2 : C'.I0 = fun b => I b ∨ m.blk l = some b := by subst hC'; rfl
    have c3 : C'.m0 = m := by subst hC'; rfl
    have c4 : C'.dfr = C.dfr := by subst hC'; rfl
    have c5 : ∀ b, C'.O b → ∃ j, Live (H.set l (.ice t xs)) j ∧ m.blk j = some b := by subst hC'; exact fun b hb => hb
    refine wp_mono (h.run C' a w (by rw [c3]; exact Nat.le_of_eq hs.n) ⟨m, _, hs2, RepL.ext he1 _ _ hE, by rw [c4]; exact hd⟩) (fun e a' w' hq => ?_)
    have hmain : (∃ E1 H'', (∃ H1 : List ABlk, plainL E1 ∧ (∀ b ∈ H1, b = .dead ∨ b.live ∧ b.plain) ∧ H1[l]? = some (.cells t xs) ∧ H1.length = H.length ∧ H'' = H1.set l (.ice t xs) ∧ Q .normal E1 H1) ∧ Rel C' E1 H'' a' w') → ∃ E' H', Q .normal E' H' ∧ Rel C E' H' a' w' := by
      rintro ⟨E1, _, ⟨H1, hp, hH, hl1, hlen1, rfl, q⟩, m', I', hs3, hE3, hd3⟩
      have hlt1 : l < H1.length := by omega
      have hlive1 : ∀ j, Live H1 j → j ≠ l → Live (H1.set l (.ice t xs)) j := by
        rintro j ⟨b, h1, h2⟩ hj
        exact ⟨b, by rw [List.getElem?_set_ne (fun e => hj e.symm)]; exact h1, h2⟩
      have hn' : m'.n = H.length := by rw [hs3.n, List.length_set, hlen1]
      have hmb : ∀ j, j < m.n → m'.blk j = m.blk j := fun j hj => by rw [hs3.m0b j (by rw [c3]; exact hj), c3]
      have hms : ∀ j, j < m.n → m'.size j = m.size j := fun j hj => by rw [hs3.m0s j (by rw [c3]; exact hj), c3]
      have hold : ∀ b, b < w.heap.size → ¬ C'.O b → w'.heap[b]? = w.heap[b]? := fun b h1 h2 => by
        have := hs3.old b (by rw [c1]; exact h1) h2
        rw [c1] at this; exact this
      have hOl : ∀ b, m.blk l = some b → ¬ C'.O b := by
        intro b hb ho
        obtain ⟨j, h1, h2⟩ := c5 b ho
        obtain ⟨h3, h4⟩ := hlive j h1
        exact h4 (hs.dist j l b h3 hLl h2 hb)
      have hOI : ∀ b, I b → ¬ C'.O b := by
        intro b hb ho
        obtain ⟨j, h1, h2⟩ := c5 b ho
        exact (hs.live_lt (hlive j h1).1 h2).2 hb
      have hIl : ∀ b, I b → m.blk l ≠ some b := fun b hb e => (hs.live_lt hLl e).2 hb
      have hII : ∀ b, I b → I' b := fun b hb => hs3.imm0 b (by rw [c2]; exact .inl hb)
      have hext : Ext w m I w' m' (fun b => I' b ∧ m.blk l ≠ some b) :=
        ⟨by rw [hn', hs.n]; exact Nat.le_refl _, hmb, hms, fun b hb => ⟨hII b hb, hIl b hb⟩, fun b hb => hold b (hs.immlt b hb) (hOI b hb)⟩
      refine ⟨_, H1, q, m', fun b => I' b ∧ m.blk l ≠ some b, ?_, plainL_rep _ _ hp hE3, by rw [← c4]; exact hd3⟩
      have hIx : ∀ x, m.blk l = some x → I' x := fun x hx => hs3.imm0 x (by rw [c2]; exact .inr hx)
      refine ⟨by rw [hn', hlen1], ?_, ?_, ?_, ?_, ?_, fun b hb => ⟨hII b (hs.imm0 b hb), hIl b (hs.imm0 b hb)⟩, ?_, fun b hb => hs3.immlt b hb.1, by rw [hn', ← hs.n]; exact hs.m0n, ?_, ?_, ?_⟩
      · intro j b hb
        by_cases e : j = l
        · subst e
          rw [hl1] at hb
          cases hb
          have hjm : j < m.n := by rw [hs.n]; exact hlt
          exact (hs.blks j _ hl).ext hext hjm (fun x hx _ => ⟨hold x ((hs.blks j _ hl).lt trivial hx).1 (hOl x hx), fun hi => hi.2 hx⟩)
        · rcases hH b (List.mem_of_getElem? hb) with rfl | ⟨hv, hpl⟩
          · trivial
          · have hb3 : (H1.set l (.ice t xs))[j]? = some b := by rw [List.getElem?_set_ne (fun g => e g.symm)]; exact hb
            exact plain_blk hpl (fun x hx => hx.1) (hs3.blks j b hb3)
      · have hone : ∀ i j x, i ≠ l → Live H1 i → Live H1 j → m'.blk i = some x → m'.blk j = some x → i = j := by
          intro i j x hil h1 h2 h3 h4
          by_cases e : j = l
          · subst e
            rw [hmb j (by rw [hs.n]; exact hlt)] at h4
            exact absurd (hIx x h4) (hs3.live_lt (hlive1 i h1 hil) h3).2
          · exact hs3.dist i j x (hlive1 i h1 hil) (hlive1 j h2 e) h3 h4
        intro i j x h1 h2 h3 h4
        by_cases e : i = l
        · by_cases e2 : j = l
          · rw [e, e2]
          · exact (hone j i x e2 h2 h1 h4 h3).symm
        · exact hone i j x e h1 h2 h3 h4
      · intro b h1 h2
        have h3 : b < w.heap.size := Nat.lt_of_lt_of_le h1 hs.size
        rw [hold b h3 (fun ho => ?_)]
        · exact hs.old b h1 h2
        · obtain ⟨j, g1, g2⟩ := c5 b ho
          rcases hs.own j b (hlive j g1).1 g2 with g3 | g3
          · exact h2 g3
          · omega
      · have := hs3.size; rw [c1] at this; exact Nat.le_trans hs.size this
      · intro j b h1 h2
        by_cases e : j = l
        · subst e
          rw [hmb j (by rw [hs.n]; exact hlt)] at h2
          exact hs.own j b hLl h2
        · rcases hs3.own j b (hlive1 j h1 e) h2 with g | g
          · obtain ⟨j1, g1, g2⟩ := c5 b g
            exact hs.own j1 b (hlive j1 g1).1 g2
          · rw [c1] at g; exact .inr (Nat.le_trans hs.size g)
      · rintro b ⟨h1, h2⟩
        rcases hs3.imm b h1 with h3 | h3 | h3
        · rw [c2] at h3
          rcases h3 with h3 | h3
          · exact hs.imm b h3
          · exact absurd h3 h2
        · obtain ⟨j, g1, g2⟩ := c5 b h3
          exact .inr (hs.own j b (hlive j g1).1 g2)
        · rw [c1] at h3; exact .inr (.inr (Nat.le_trans hs.size h3))
      · intro j hj
        have := hs.m0n
        rw [hmb j (by omega)]; exact hs.m0b j hj
      · intro j hj
        have := hs.m0n
        rw [hms j (by omega)]; exact hs.m0s j hj
      · have := hs3.side; rw [c1] at this
        exact ⟨this.1.trans hs.side.1, this.2.trans hs.side.2⟩
    cases e with
    | normal =>
      obtain ⟨E', H', ho, h3⟩ := hq
      obtain ⟨E'', H'', h1, h2⟩ := AOut.iff.1 ho
      exact hmain ⟨E'', H'', h2, h1.rel (by rw [c3]; exact Nat.le_of_eq hs.n) h3⟩
    | panic c => exact hq.elim
    | outgrown => exact hq.elim
    | exit i => obtain ⟨_, _, h1, _⟩ := hq; exact h1.elim
    | goto i => obtain ⟨_, _, h1, _⟩ := hq; exact h1.elim
    | ret => obtain ⟨_, _, h1, _⟩ := hq; exact h1.elim⟩

end
end Go.Aw

