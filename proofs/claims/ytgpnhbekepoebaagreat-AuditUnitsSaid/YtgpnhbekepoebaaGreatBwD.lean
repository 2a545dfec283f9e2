/-
  Part of a general proof tool: code, loops, functions, laws, no condition.
-/
import Derived.Test.YtgpnhbekepoebaaGreatBwC
import Derived.WalkKit
import Derived.ChangeCalls
import Derived.ProofKit
import Derived.OpenShut
import Derived.Carry
import Derived.ShutString
set_option linter.unusedSimpArgs false
set_option linter.unusedVariables false
/-
  Aw, part 15: code, loops, a function.
-/
set_option linter.unusedSimpArgs false
set_option linter.unusedVariables false
namespace Go.Aw
open Go

section
variable {P : Program} {T : Nat → TI} {C : Ctx} {m : Mu} {I : Nat → Prop} {H : List ABlk} {w : World}

/-- One abstract state stands for all that another one stands for; the first k locs stay where they are. -/
def Conv (k : Nat) (xs : List AV) (H : List ABlk) (xs' : List AV) (H' : List ABlk) : Prop :=
  ∀ (C : Ctx) (m : Mu) (I : Nat → Prop) (w : World) (ys : List Value), C.m0.n ≤ k → St C m I H w → RepL w m I xs ys → ∃ m' I', St C m' I' H' w ∧ RepL w m' I' xs' ys

theorem Conv.refl (k : Nat) (E : List AV) (H : List ABlk) : Conv k E H E H := fun _ m I _ _ _ h1 h2 => ⟨m, I, h1, h2⟩
theorem Conv.trans {k : Nat} {E E' E'' : List AV} {H H' H'' : List ABlk} (h : Conv k E H E' H') (h' : Conv k E' H' E'' H'') : Conv k E H E'' H'' := fun C m I w ys hk h1 h2 =>
  let ⟨_, _, h3, h4⟩ := h C m I w ys hk h1 h2
  h' C _ _ w ys hk h3 h4

theorem Conv.rel {k : Nat} {E E' : List AV} {H H' : List ABlk} (h : Conv k E H E' H') {a : Act} (hC : C.m0.n ≤ k) (hr : Rel C E H a w) : Rel C E' H' a w :=
  let ⟨m, I, h1, h2, h3⟩ := hr
  let ⟨m', I', h4, h5⟩ := h C m I w _ hC h1 h2
  ⟨m', I', h4, h5, h3⟩

/-- a loop, to be shown by what holds at its head -/
@[irreducible] def ALoop (P : Program) (T : Nat → TI) (k : Nat) (E : List AV) (H : List ABlk) (c : Code) (Q : Exit → List AV → List ABlk → Prop) : Prop :=
  ∀ (C : Ctx) (a : Act) (w : World), C.m0.n ≤ k → Rel C E H a w → (Code.loop c).wp P (QR C Q) a w

/-- a state that is taken for another one -/
@[irreducible] def AOut (k : Nat) (E : List AV) (H : List ABlk) (Q : List AV → List ABlk → Prop) : Prop := ∃ E' H', Conv k E H E' H' ∧ Q E' H'
theorem AOut.iff {k : Nat} {Q : List AV → List ABlk → Prop} {E : List AV} {H : List ABlk} : AOut k E H Q ↔ ∃ E' H', Conv k E H E' H' ∧ Q E' H' := by unfold AOut; exact Iff.rfl
theorem AOut.stay {k : Nat} {Q : List AV → List ABlk → Prop} {E : List AV} {H : List ABlk} (h : Q E H) : AOut k E H Q := AOut.iff.2 ⟨E, H, Conv.refl k E H, h⟩
/-- a round's end: the head again, nearer to the end -/
@[irreducible] def AHead (k : Nat) (J : Nat → List AV → List ABlk → Prop) (n : Nat) (E : List AV) (H : List ABlk) : Prop := ∃ j E' H', j < n ∧ J j E' H' ∧ Conv k E H E' H'
theorem AHead.iff {k : Nat} {J : Nat → List AV → List ABlk → Prop} {n : Nat} {E : List AV} {H : List ABlk} : AHead k J n E H ↔ ∃ j E' H', j < n ∧ J j E' H' ∧ Conv k E H E' H' := by unfold AHead; exact Iff.rfl
theorem AHead.mk {k : Nat} {J : Nat → List AV → List ABlk → Prop} {n : Nat} {E : List AV} {H : List ABlk} (j : Nat) (E' : List AV) (H' : List ABlk) (hj : j < n) (hJ : J j E' H') (hc : Conv k E H E' H') : AHead k J n E H := AHead.iff.2 ⟨j, E', H', hj, hJ, hc⟩

/-- code, whatever the world that the state stands for -/
structure AW (P : Program) (T : Nat → TI) (k : Nat) (c : Code) (Q : Exit → List AV → List ABlk → Prop) (E : List AV) (H : List ABlk) : Prop where
  run : ∀ (C : Ctx) (a : Act) (w : World), C.m0.n ≤ k → Rel C E H a w → c.wp P (QR C Q) a w

section
variable {k : Nat} {Q : Exit → List AV → List ABlk → Prop} {E : List AV}

theorem AW.skip (h : Q .normal E H) : AW P T k .skip Q E H := ⟨fun C a w hC hr => wp_skip ⟨E, H, h, hr⟩⟩
theorem AW.exit {id : Nat} (h : Q (.exit id) E H) : AW P T k (.exit id) Q E H := ⟨fun C a w hC hr => wp_exit ⟨E, H, h, hr⟩⟩
theorem AW.ret (h : Q .ret E H) : AW P T k .ret Q E H := ⟨fun C a w hC hr => wp_ret ⟨E, H, h, hr⟩⟩
theorem AW.region {id : Nat} {ops : Array Oper} (h : AO P T ops ops.toList [] (Q .normal) E H) : AW P T k (.region id ops false) Q E H :=
  ⟨fun C a w hC ⟨m, I, hs, hE, hd⟩ => wp_region (h.run C (QR C Q) (fun E H a w hq hr => ⟨E, H, hq, hr⟩) _ m I a w (range_ops ops) hs hE hd (fun _ hx => by cases hx))⟩
theorem AW.plan (hm : P.follows .mixedOrders = true) {id : Nat} {ops : Array Oper} (p : Pl) (h1 : (planOk ops p [] && Region.noSelect ops && Nat.ble (planLen p) ops.size) = true) (h : AF P T ops p [] (fun _ => Q .normal) E H) :
    AW P T k (.region id ops true) Q E H :=
  ⟨fun C a w hC ⟨m, I, hs, hE, hd⟩ => by
    simp only [Bool.and_eq_true, planOk, beq_iff_eq] at h1
    obtain ⟨⟨⟨h1, h4⟩, h2⟩, h3⟩ := h1
    have h3 := Nat.le_of_ble_eq_true h3
    obtain ⟨hs', he⟩ := hs.world (w' := { w with drawn := w.drawn + 1 }) rfl ⟨rfl, rfl⟩
    refine wp_region_any hm ?_
    obtain ⟨f, hf⟩ : ∃ f, ops.size = f + planLen p := ⟨ops.size - planLen p, by omega⟩
    have := h.run C (QR C Q) (fun c a w hc => hc) h2 (fun _ => True) m I a _ [] f ⟨hs', RepL.ext he _ _ hE, hd, (fun _ hx => by cases hx), fun _ _ => trivial⟩ h1 (fun kn E H m I a w S g1 g2 => wpAnyH_done h4 ⟨E, H, g1, m, I, g2.st, g2.rep, g2.dfr⟩ f)
    rw [← hf] at this
    exact wpAny_of_held _ _ _ _ this⟩
theorem AW.seq {x y : Code} (h : AW P T k x (fun e E H => match e with | .normal => AW P T k y Q E H | e => Q e E H) E H) : AW P T k (.seq x y) Q E H :=
  ⟨fun C a w hC hr => by
    refine wp_seq (wp_mono (h.run C a w hC hr) (fun e a w hq => ?_))
    cases e with
    | normal => obtain ⟨E', H', h1, h2⟩ := hq; exact h1.run C a w hC h2
    | panic c => exact hq.elim
    | outgrown => exact hq.elim
    | exit id => exact hq
    | goto l => exact hq
    | ret => exact hq⟩
/-- the state is taken for another one -/
theorem AW.conv {c : Code} (E' : List AV) (H' : List ABlk) (hc : Conv k E H E' H') (h : AW P T k c Q E' H') : AW P T k c Q E H :=
  ⟨fun C a w hC hr => h.run C a w hC (hc.rel hC hr)⟩
theorem AW.cond {c : Operand} {x y : Code} (h : evK E c fun c => match c with
    | .v c => match c with
      | .bool t => ACond t (AW P T k x Q E H) (AW P T k y Q E H)
      | _ => False
    | _ => False) : AW P T k (.cond c x y) Q E H :=
  ⟨fun C a w hC ⟨m, I, hs, hE, hd⟩ => by
    obtain ⟨v, h, hv⟩ := evK_sound hE h
    cases v with
    | v z =>
      have hz := hv.v_eq
      cases z with
      | bool t =>
        simp only [ACond.iff] at h
        refine wp_cond hz ?_
        cases t with
        | true => exact h.run C a w hC ⟨m, I, hs, hE, hd⟩
        | false => exact h.run C a w hC ⟨m, I, hs, hE, hd⟩
      | _ => exact h.elim
    | _ => exact h.elim⟩
theorem AW.block {id : Nat} {c : Code} (h : AW P T k c (fun x E H => match x with | .exit i => (match Nat.beq i id with | true => Q .normal E H | false => Q x E H) | x => Q x E H) E H) : AW P T k (.block id c) Q E H :=
  ⟨fun C a w hC hr => by
    refine wp_block (wp_mono (h.run C a w hC hr) (fun e a w hq => ?_))
    cases e with
    | exit i =>
      obtain ⟨E', H', h1, h2⟩ := hq
      simp only [Exit.inBlock]
      cases hb : Nat.beq i id with
      | true =>
        simp only [hb] at h1
        rw [if_pos (Nat.eq_of_beq_eq_true hb)]
        exact ⟨E', H', h1, h2⟩
      | false =>
        simp only [hb] at h1
        rw [if_neg (fun e => by rw [e] at hb; simp at hb)]
        exact ⟨E', H', h1, h2⟩
    | normal => exact hq
    | panic c => exact hq.elim
    | outgrown => exact hq.elim
    | goto l => exact hq
    | ret => exact hq⟩
theorem AW.loop {c : Code} (h : ALoop P T k E H c Q) : AW P T k (.loop c) Q E H := ⟨fun C a w hC hr => by unfold ALoop at h; exact h C a w hC hr⟩
end

/-! ### loops -/
theorem wp_loop_n {c : Code} {R : Exit → Act → World → Prop} (J : Nat → Act → World → Prop) (round : ∀ n a w, J n a w → c.wp P (Exit.then (fun a' w' => ∃ k, k < n ∧ J k a' w') R) a w) :
    ∀ n a w, J n a w → (Code.loop c).wp P R a w := by
  intro n0 a0 w0 h0
  intro b k cs
  have key : ∀ n a w, J n a w → ∃ e a' w', R e a' w' ∧ Arrives P (lone (b.at a (.code c :: .inLoop c :: k)) cs w) b k cs e a' w' := by
    intro n
    induction n using Nat.strongRecOn with
    | _ n ih =>
      intro a w hI
      obtain ⟨e, a₁, w₁, hq, harr⟩ := round n a w hI b (.inLoop c :: k) cs
      cases e with
      | normal =>
        obtain ⟨j, hj, hI₁⟩ := hq
        obtain ⟨e₂, a₂, w₂, hq₂, harr₂⟩ := ih j hj a₁ w₁ hI₁
        exact ⟨e₂, a₂, w₂, hq₂, .of_steps (Steps.trans harr (.one step_inLoop)) harr₂⟩
      | exit id => exact ⟨_, a₁, w₁, hq, .pass (x := .inLoop c) rfl (fun _ _ => .inl (by simp)) harr⟩
      | goto l => exact ⟨_, a₁, w₁, hq, .pass (x := .inLoop c) rfl (fun _ _ => .inl (by simp)) harr⟩
      | ret => exact ⟨_, a₁, w₁, hq, .pass (x := .inLoop c) rfl (fun _ _ => .inl (by simp)) harr⟩
      | panic ch => exact ⟨_, a₁, w₁, hq, .pass (x := .inLoop c) rfl (fun _ _ => .inl (by simp)) harr⟩
      | outgrown => exact ⟨_, a₁, w₁, hq, .pass (x := .inLoop c) rfl (fun _ _ => .inl (by simp)) harr⟩
  obtain ⟨e, a', w', hq, harr⟩ := key _ a0 w0 h0
  exact ⟨e, a', w', hq, .of_steps (.one step_loop) harr⟩

/-- A loop by what holds at its head: J n E H, n falling. -/
theorem ALoop.mk {k : Nat} {c : Code} {Q : Exit → List AV → List ABlk → Prop} (J : Nat → List AV → List ABlk → Prop)
    {E : List AV} {n : Nat} (E' : List AV) (H' : List ABlk) (h : J n E' H') (he : Conv k E H E' H')
    (round : ∀ n E H, J n E H → AW P T k c (fun x E H => match x with | .normal => AHead k J n E H | x => AOut k E H (Q x)) E H) : ALoop P T k E H c Q := by
  unfold ALoop
  intro C a w hC hr
  refine wp_loop_n (fun n a w => ∃ E H, J n E H ∧ Rel C E H a w) (fun n a w hj => ?_) n a w ⟨E', H', h, he.rel hC hr⟩
  obtain ⟨E, H, hj, hr⟩ := hj
  refine wp_mono ((round n E H hj).run C a w hC hr) (fun e a w hq => ?_)
  cases e with
  | normal =>
    obtain ⟨E', H', h1, h4⟩ := hq
    obtain ⟨j, E'', H'', h1, h2, h3⟩ := AHead.iff.1 h1
    exact ⟨j, h1, E'', H'', h2, h3.rel hC h4⟩
  | panic c => exact hq.elim
  | outgrown => exact hq.elim
  | exit id => obtain ⟨E', H', h1, h4⟩ := hq; obtain ⟨E'', H'', h2, h3⟩ := AOut.iff.1 h1; exact ⟨E'', H'', h3, h2.rel hC h4⟩
  | goto l => obtain ⟨E', H', h1, h4⟩ := hq; obtain ⟨E'', H'', h2, h3⟩ := AOut.iff.1 h1; exact ⟨E'', H'', h3, h2.rel hC h4⟩
  | ret => obtain ⟨E', H', h1, h4⟩ := hq; obtain ⟨E'', H'', h2, h3⟩ := AOut.iff.1 h1; exact ⟨E'', H'', h3, h2.rel hC h4⟩

/-! ### a function -/
def resK (T : Nat → TI) (E : List AV) (H : List ABlk) : List ResultVar → (List AV → Prop) → Prop
  | [], K => K []
  | r :: rs, K => match r with
    | .tmp t => fv (lk E t) fun x => resK T E H rs fun xs => K (x :: xs)
    | .cell a t => fv (lk E a) fun p => loadAtK T H t p fun x => resK T E H rs fun xs => K (x :: xs)

def resultK (T : Nat → TI) (rs : List ResultVar) (E : List AV) (H : List ABlk) (K : AV → List ABlk → Prop) : Prop :=
  resK T E H rs fun xs => match xs with
    | [] => K (.tup []) H
    | x :: r => match r with
      | [] => K x H
      | y :: r => K (.tup (x :: y :: r)) H

/-- the end of a function: what it hands back -/
@[irreducible] def AFin (k : Nat) (x : AV) (H : List ABlk) (K : AV → List ABlk → Prop) : Prop := ∃ x' H', Conv k [x] H [x'] H' ∧ K x' H'
theorem AFin.iff {k : Nat} {K : AV → List ABlk → Prop} {x : AV} {H : List ABlk} : AFin k x H K ↔ ∃ x' H', Conv k [x] H [x'] H' ∧ K x' H' := by unfold AFin; exact Iff.rfl
theorem AFin.mk {k : Nat} {K : AV → List ABlk → Prop} {x : AV} {H : List ABlk} (h : K x H) : AFin k x H K := AFin.iff.2 ⟨x, H, Conv.refl k _ H, h⟩
theorem AFin.to {k : Nat} {K : AV → List ABlk → Prop} {x : AV} {H : List ABlk} (x' : AV) (H' : List ABlk) (hc : Conv k [x] H [x'] H') (h : K x' H') : AFin k x H K := AFin.iff.2 ⟨x', H', hc, h⟩

def AEnd (T : Nat → TI) (k : Nat) (rs : List ResultVar) (K : AV → List ABlk → Prop) (e : Exit) (E : List AV) (H : List ABlk) : Prop :=
  match e with
  | .normal => resultK T rs E H (fun x H => AFin k x H K)
  | .ret => resultK T rs E H (fun x H => AFin k x H K)
  | _ => False

def pad : List AV → Nat → List AV
  | [], 0 => []
  | [], n + 1 => .any :: pad [] n
  | x :: xs, 0 => x :: xs
  | x :: xs, n + 1 => x :: pad xs n

theorem pad_nil : ∀ n, pad [] n = List.replicate n .any
  | 0 => rfl
  | n + 1 => by simp [pad, pad_nil n, List.replicate_succ]

theorem pad_eq : ∀ (xs : List AV) (n : Nat), pad xs n = xs ++ List.replicate (n - xs.length) .any
  | [], n => by simp [pad_nil]
  | x :: xs, 0 => by simp [pad]
  | x :: xs, n + 1 => by simp [pad, pad_eq xs n]

theorem resK_sound (hT : TOk P T) (h : St C m I H w) {E : List AV} {a : Act} (hE : RepL w m I E a.tmps.toList) : ∀ {rs : List ResultVar} {K : List AV → Prop}, resK T E H rs K →
    ∃ xs ys, K xs ∧ RepL w m I xs ys ∧ (rs.mapM (fun r => match r with
      | .tmp t => pure (a.tmps.getD t undef)
      | .cell x t => do loadVar t (← asAddr (a.tmps.getD x undef))) : Sem (List Value)).run P w = .ok ys w
  | [], K, hk => ⟨[], [], hk, by simp [RepL], by simp⟩
  | r :: rs, K, hk => by
    unfold resK at hk
    cases r with
    | tmp t =>
      simp only [fv_eq] at hk
      obtain ⟨xs, ys, h1, h2, h3⟩ := resK_sound hT h hE hk
      have h4 := lk_rep t hE
      refine ⟨_, a.tmps.getD t undef :: ys, h1, ?_, ?_⟩
      · simp only [RepL]
        refine ⟨_, _, rfl, ?_, h2⟩
        simpa [Array.getD_eq_getD_getElem?] using h4
      · simp only [List.mapM_cons, Sem.run_bind, Sem.run_pure, Result.andThen_ok, h3]
    | cell x t =>
      simp only [fv_eq] at hk
      have h4 := lk_rep x hE
      obtain ⟨v, y, hk, hv, hl⟩ := loadAtK_sound (P := P) hT h hk h4
      have hl := hl w (.refl w)
      obtain ⟨xs, ys, h1, h2, h3⟩ := resK_sound hT h hE hk
      refine ⟨_, y :: ys, h1, by simp only [RepL]; exact ⟨_, _, rfl, hv, h2⟩, ?_⟩
      have hgd : a.tmps.getD x undef = a.tmps.toList.getD x undef := by simp [Array.getD_eq_getD_getElem?]
      have hrun : (do loadVar t (← asAddr (a.tmps.getD x undef)) : Sem Value).run P w = .ok y w := by
        rw [hgd]
        generalize a.tmps.toList.getD x undef = p at hl h4 ⊢
        cases p with
        | pointer o => cases o with
          | none => simp [Instr.loadAt, Instr.sureAddr] at hl
          | some ad => simpa [Instr.loadAt, Instr.sureAddr, asAddr] using hl
        | _ => simp [Instr.loadAt, Instr.sureAddr] at hl
      simp only [List.mapM_cons, Sem.run_bind, Result.andThen_ok] at hrun ⊢
      rw [hrun]
      simp only [Result.andThen_ok, h3, Sem.run_pure]

theorem resultK_sound (hT : TOk P T) (h : St C m I H w) {E : List AV} {a : Act} (hE : RepL w m I E a.tmps.toList) {fn : Func} {K : AV → List ABlk → Prop} (hk : resultK T fn.results.toList E H K) :
    ∃ x y, K x H ∧ Rep w m I x y ∧ (results fn a.tmps).run P w = .ok y w := by
  unfold resultK at hk
  obtain ⟨xs, ys, hk, hr, hrun⟩ := resK_sound (P := P) hT h hE hk
  have hrun' : (results fn a.tmps).run P w = .ok (if h : (⟨ys⟩ : Array Value).size = 1 then (⟨ys⟩ : Array Value)[0] else .tuple ⟨ys⟩) w := by
    unfold results
    rw [Sem.run_bind, Array.mapM_eq_mapM_toList, Sem.run_map]
    refine (congrArg (fun r : Result (List Value) => (r.andThen fun a w' => .ok a.toArray w').andThen fun (a : Array Value) w' => Sem.run P (pure (if h : a.size = 1 then a[0] else Value.tuple a)) w') hrun).trans ?_
    rfl
  cases xs with
  | nil =>
    simp only [RepL] at hr; subst hr
    exact ⟨_, .tuple #[], hk, by simp only [Rep]; exact ⟨[], rfl, by simp [RepL]⟩, by rw [hrun']; rfl⟩
  | cons x r =>
    obtain ⟨y, zs, rfl, h1, h2⟩ := hr.cons_inv
    cases r with
    | nil =>
      simp only [RepL] at h2; subst h2
      exact ⟨x, y, hk, h1, by rw [hrun']; rfl⟩
    | cons x2 r =>
      obtain ⟨y2, zs2, rfl, h3, h4⟩ := h2.cons_inv
      refine ⟨_, .tuple ⟨y :: y2 :: zs2⟩, hk, by simp only [Rep]; exact ⟨_, rfl, by simp only [RepL]; exact ⟨_, _, rfl, h1, _, _, rfl, h3, h4⟩⟩, ?_⟩
      rw [hrun', dif_neg (by simp)]

/-- The surroundings, begun anew here. -/
theorem St.rebase (h : St C m I H w) : St (Ctx.mk w (fun b => ∃ l, Live H l ∧ m.blk l = some b) I m (fun _ hb => hb.elim fun _ hl => (h.live_lt hl.1 hl.2).1) h.immlt (fun _ hb ho => ho.elim fun _ hl => (h.live_lt hl.1 hl.2).2 hb) []) m I H w :=
  ⟨h.n, h.blks, h.dist, fun _ _ _ => rfl, Nat.le_refl _, fun l b hl hb => .inl ⟨l, hl, hb⟩, fun _ h => h, fun _ h => .inl h, h.immlt, Nat.le_refl _, fun _ _ => rfl, fun _ _ => rfl, rfl, rfl⟩

/-- What happened in surroundings that were begun anew happened in the old ones. -/
theorem St.back (h : St C m I H w) {m' : Mu} {I' : Nat → Prop} {H' : List ABlk} {w' : World} {C' : Ctx} (hC : C'.w0 = w ∧ C'.I0 = I ∧ C'.m0 = m) (hO : ∀ b, C'.O b → ∃ l, Live H l ∧ m.blk l = some b) (h' : St C' m' I' H' w') : St C m' I' H' w' := by
  obtain ⟨e1, e2, e3⟩ := hC
  have hown : ∀ b, C'.O b → C.O b ∨ C.w0.heap.size ≤ b := fun b hb => let ⟨l, hl, hx⟩ := hO b hb; h.own l b hl hx
  refine ⟨h'.n, h'.blks, h'.dist, ?_, ?_, ?_, ?_, ?_, h'.immlt, ?_, ?_, ?_, (h'.side.1.trans (by rw [e1])).trans h.side.1, (h'.side.2.trans (by rw [e1])).trans h.side.2⟩
  · intro b h1 h2
    have h3 : b < w.heap.size := Nat.lt_of_lt_of_le h1 h.size
    rw [h'.old b (by rw [e1]; exact h3) (fun ho => by rcases hown b ho with h4 | h4; exact h2 h4; omega), e1]
    exact h.old b h1 h2
  · have := h'.size; rw [e1] at this; exact Nat.le_trans h.size this
  · intro l b hl hb
    rcases h'.own l b hl hb with h1 | h1
    · exact hown b h1
    · rw [e1] at h1; exact .inr (Nat.le_trans h.size h1)
  · intro b hb; exact h'.imm0 b (by rw [e2]; exact h.imm0 b hb)
  · intro b hb
    rcases h'.imm b hb with h1 | h1 | h1
    · rw [e2] at h1; exact h.imm b h1
    · exact .inr (hown b h1)
    · rw [e1] at h1; exact .inr (.inr (Nat.le_trans h.size h1))
  · have := h'.m0n; rw [e3] at this; exact Nat.le_trans h.m0n this
  · intro l hl; rw [h'.m0b l (by rw [e3]; exact Nat.lt_of_lt_of_le hl h.m0n), e3]; exact h.m0b l hl
  · intro l hl; rw [h'.m0s l (by rw [e3]; exact Nat.lt_of_lt_of_le hl h.m0n), e3]; exact h.m0s l hl

/-- A function's contract, out of its body. -/
theorem spec_of (hT : TOk P T) {f : Nat} {fn : Func} {c : Code} (hf : P.funcs[f]? = some fn) (hb : fn.body = some c) {args : List AV} {K : AV → List ABlk → Prop}
    (h : AW P T H.length c (AEnd T H.length fn.results.toList K) (pad args fn.ntmps) H) : Spec P f args H K := by
  intro C m I w vs hs hr
  refine calls_of_wp hf hb ?_
  have hs' := hs.rebase
  generalize hC : (Ctx.mk w _ I m _ _ _ _) = C' at hs'
  have hk : C'.m0.n ≤ H.length := by subst hC; exact Nat.le_of_eq hs.n
  have hlen := hr.length
  have hE : RepL w m I (pad args fn.ntmps) ((⟨vs⟩ : Array Value) ++ Array.replicate (fn.ntmps - (⟨vs⟩ : Array Value).size) undef).toList := by
    rw [pad_eq]
    have e : ((⟨vs⟩ : Array Value) ++ Array.replicate (fn.ntmps - (⟨vs⟩ : Array Value).size) undef).toList = vs ++ List.replicate (fn.ntmps - args.length) undef := by
      simp [hlen]
    rw [e]
    refine RepL.append hr ?_
    have := RepL.any (w := w) (m := m) (I := I) (List.replicate (fn.ntmps - args.length) undef)
    simpa using this
  refine wp_mono (h.run C' _ w hk ⟨m, I, hs', hE, by subst hC; rfl⟩) (fun e a w' hq => ?_)
  have hend : (∃ E H', resultK T fn.results.toList E H' (fun x H' => AFin H.length x H' K) ∧ Rel C' E H' a w') → a.defers = [] ∧ ∃ v, (results fn a.tmps).run P w' = .ok v w' ∧
      (∃ r v' H' m' I', Ending.returned v = .returned v' ∧ K r H' ∧ Rep w' m' I' r v' ∧ St C m' I' H' w' ∧ Ext w m I w' m' I') := by
    rintro ⟨E', H', hkk, m', I', hs2, hE2, hd2⟩
    obtain ⟨x, y, h1, h2, h3⟩ := resultK_sound (P := P) hT hs2 hE2 hkk
    obtain ⟨x', H'', hc, h1⟩ := AFin.iff.1 h1
    obtain ⟨m'', I'', hs3, hr3⟩ := hc C' m' I' w' [y] hk hs2 (by simp only [RepL]; exact ⟨_, _, rfl, h2, rfl⟩)
    have h4 : Rep w' m'' I'' x' y := by
      obtain ⟨_, _, e, h5, _⟩ := hr3.cons_inv
      cases e; exact h5
    refine ⟨by subst hC; exact hd2, y, h3, x', y, H'', m'', I'', rfl, h1, h4, ?_, ?_⟩
    · subst hC; exact hs.back ⟨rfl, rfl, rfl⟩ (fun b hb => hb) hs3
    · have := hs3.since; subst hC; exact this
  cases e with
  | normal => exact hend hq
  | ret => exact hend hq
  | exit id => obtain ⟨_, _, h1, _⟩ := hq; exact h1.elim
  | goto l => obtain ⟨_, _, h1, _⟩ := hq; exact h1.elim
  | panic c => exact hq.elim
  | outgrown => exact hq.elim

/-- What holds in the end may be taken for something else. -/
theorem Spec.conv {f : Nat} {args : List AV} {K K' : AV → List ABlk → Prop} (h : Spec P f args H K) (hc : ∀ r H', K r H' → ∃ r' H'', Conv H.length [r] H' [r'] H'' ∧ K' r' H'') : Spec P f args H K' := by
  intro C m I w vs hs hr
  have hs' := hs.rebase
  generalize hC : (Ctx.mk w _ I m _ _ _ _) = C' at hs'
  have hk : C'.m0.n ≤ H.length := by subst hC; exact Nat.le_of_eq hs.n
  refine (h C' m I w vs hs' hr).mono ?_
  rintro e w' ⟨r, v, H', m', I', he, h1, h2, h3, h4⟩
  obtain ⟨r', H'', hc, h5⟩ := hc r H' h1
  obtain ⟨m'', I'', hs3, hr3⟩ := hc C' m' I' w' [v] hk h3 (by simp only [RepL]; exact ⟨_, _, rfl, h2, rfl⟩)
  obtain ⟨_, _, e', h6, _⟩ := hr3.cons_inv
  cases e'
  refine ⟨r', v, H'', m'', I'', he, h5, h6, ?_, ?_⟩
  · subst hC; exact hs.back ⟨rfl, rfl, rfl⟩ (fun b hb => hb) hs3
  · have := hs3.since; subst hC; exact this

end
end Go.Aw

/-
  Aw, part 16: other names for the own blocks; what stands for what.
-/
set_option linter.unusedSimpArgs false
set_option linter.unusedVariables false
namespace Go.Aw
open Go

mutual
/-- the own blocks' names changed -/
def AV.ren (ρ : Nat → Nat) : AV → AV
  | .any => .any
  | .v x => .v x
  | .agg xs => .agg (renL ρ xs)
  | .tup xs => .tup (renL ρ xs)
  | .vs a b xs => .vs a b (renL ρ xs)
  | .vx a b xs => .vx a b (renL ρ xs)
  | .ip xs => .ip (renL ρ xs)
  | .ms sz l off n => .ms sz (ρ l) off n
  | .ptr l off => .ptr (ρ l) off
  | .pe l b sz i j => .pe (ρ l) b sz i j
  | .mp l => .mp (ρ l)
  | .fn f fs cs => .fn f (renL ρ fs) (renL ρ cs)
def renL (ρ : Nat → Nat) : List AV → List AV
  | [] => []
  | x :: xs => x.ren ρ :: renL ρ xs
end

theorem renL_map (ρ : Nat → Nat) : ∀ xs : List AV, renL ρ xs = xs.map (·.ren ρ)
  | [] => rfl
  | x :: xs => by simp [renL, renL_map ρ xs]

theorem renL_length (ρ : Nat → Nat) (xs : List AV) : (renL ρ xs).length = xs.length := by simp [renL_map]
theorem renL_append (ρ : Nat → Nat) (xs ys : List AV) : renL ρ (xs ++ ys) = renL ρ xs ++ renL ρ ys := by simp [renL_map]

def ABlk.ren (ρ : Nat → Nat) : ABlk → ABlk
  | .dead => .dead
  | .cells t xs => .cells t (renL ρ xs)
  | .ice t xs => .ice t (renL ρ xs)
  | .map es bs c => .map (es.map fun x => (x.1.ren ρ, x.2.ren ρ)) bs c
  | .iter lm s e => .iter (ρ lm) s e
  | .head t xs => .head t (renL ρ xs)
  | .obj R => .obj R
  | .loop b R xs => .loop b R (renL ρ xs)

theorem ABlk.ren_live {ρ : Nat → Nat} {b : ABlk} : (b.ren ρ).live ↔ b.live := by cases b <;> simp [ABlk.ren, ABlk.live]

/-- mc has the n blocks that m has under ρ. -/
structure Names (m : Mu) (ρ : Nat → Nat) (mc : Mu) : Prop where
  blk : ∀ l, l < mc.n → mc.blk l = m.blk (ρ l)
  size : ∀ l, l < mc.n → mc.size l = m.size (ρ l)
  lt : ∀ l, l < mc.n → ρ l < m.n
  out : ∀ l, mc.n ≤ l → m.n ≤ ρ l

section
variable {w : World} {m mc : Mu} {I : Nat → Prop} {ρ : Nat → Nat}

theorem Names.lt_iff (h : Names m ρ mc) (l : Nat) : ρ l < m.n ↔ l < mc.n :=
  ⟨fun h1 => Nat.lt_of_not_le fun h2 => by have := h.out l h2; omega, h.lt l⟩

mutual
theorem ren_rep (h : Names m ρ mc) : ∀ (x : AV) (y : Value), Rep w m I (x.ren ρ) y ↔ Rep w mc I x y
  | .any, _ => by simp only [AV.ren, Rep]
  | .v _, _ => by simp only [AV.ren, Rep]
  | .agg xs, y => by simp only [AV.ren, Rep, renL_rep h xs]
  | .tup xs, y => by simp only [AV.ren, Rep, renL_rep h xs]
  | .vs sz n xs, y => by simp only [AV.ren, Rep, renC_rep h xs, renL_length]
  | .vx sz n xs, y => by simp only [AV.ren, Rep, renC_rep h xs, renL_length]
  | .ip xs, y => by simp only [AV.ren, Rep, renC_rep h xs]
  | .ms sz l off n, y => by
    simp only [AV.ren, Rep, h.lt_iff]
    constructor <;> (rintro ⟨hl, h1⟩; refine ⟨hl, ?_⟩; simpa only [h.blk l hl, h.size l hl] using h1)
  | .ptr l off, y => by
    simp only [AV.ren, Rep, h.lt_iff]
    constructor <;> (rintro ⟨hl, h1⟩; refine ⟨hl, ?_⟩; simpa only [h.blk l hl, h.size l hl] using h1)
  | .pe l b0 sz i j, y => by
    simp only [AV.ren, Rep, h.lt_iff]
    constructor <;> (rintro ⟨hl, h1⟩; refine ⟨hl, ?_⟩; simpa only [h.blk l hl, h.size l hl] using h1)
  | .mp l, y => by
    simp only [AV.ren, Rep, h.lt_iff]
    constructor <;> (rintro ⟨hl, h1⟩; refine ⟨hl, ?_⟩; simpa only [h.blk l hl, h.size l hl] using h1)
  | .fn f fs cs, y => by simp only [AV.ren, Rep, renL_rep h fs, renL_rep h cs]
theorem renL_rep (h : Names m ρ mc) : ∀ (xs : List AV) (ys : List Value), RepL w m I (renL ρ xs) ys ↔ RepL w mc I xs ys
  | [], ys => by simp only [renL, RepL]
  | x :: xs, ys => by simp only [renL, RepL, ren_rep h x, renL_rep h xs]
theorem renC_rep (h : Names m ρ mc) : ∀ (xs : List AV) (b off : Nat), RepC w m I (renL ρ xs) b off ↔ RepC w mc I xs b off
  | [], b, off => by simp only [renL, RepC]
  | x :: xs, b, off => by simp only [renL, RepC, ren_rep h x, renC_rep h xs]
end

theorem blk_ren (h : Names m ρ mc) {l : Nat} (hl : l < mc.n) (b : ABlk) : BlkRep w m I (ρ l) (b.ren ρ) ↔ BlkRep w mc I l b := by
  cases b with
  | dead => exact Iff.rfl
  | cells t xs => simp only [ABlk.ren, BlkRep, RepP, renL_rep h, h.blk l hl, h.size l hl, renL_map, List.map_eq_nil_iff]; simp only [← renL_map, renL_rep h]
  | ice t xs => simp only [ABlk.ren, BlkRep, renC_rep h, h.blk l hl, renL_map, List.map_eq_nil_iff]; simp only [← renL_map, renC_rep h]
  | iter lm since seen =>
    simp only [ABlk.ren, BlkRep, h.lt_iff, h.blk l hl]
    constructor <;> (rintro ⟨h0, h1⟩; refine ⟨h0, ?_⟩; simpa only [h.blk lm h0] using h1)
  | head t xs => simp only [ABlk.ren, BlkRep, RepP, renL_rep h, h.blk l hl, h.size l hl, renL_length]
  | obj R => simp only [ABlk.ren, BlkRep, h.blk l hl]
  | loop b R xs => simp only [ABlk.ren, BlkRep, h.blk l hl, renL_rep h]
  | map es bs clock =>
    have e1 : (es.map fun x => (x.1.ren ρ, x.2.ren ρ)).map (·.1) = renL ρ (es.map (·.1)) := by simp [renL_map]
    have e2 : (es.map fun x => (x.1.ren ρ, x.2.ren ρ)).map (·.2) = renL ρ (es.map (·.2)) := by simp [renL_map]
    simp only [ABlk.ren, BlkRep, MapRep, e1, e2, renL_rep h, h.blk l hl]

/-! ### what stands for what: taken weaker -/
/-- pointwise: the same, or nothing known -/
inductive Fit : List AV → List AV → Prop
  | nil : Fit [] []
  | any {x : AV} {xs ys : List AV} : Fit xs ys → Fit (x :: xs) (.any :: ys)
  | same {x : AV} {xs ys : List AV} : Fit xs ys → Fit (x :: xs) (x :: ys)

theorem Fit.rep : ∀ {xs xs' : List AV} {ys : List Value}, Fit xs xs' → RepL w m I xs ys → RepL w m I xs' ys
  | _, _, _, .nil, h => h
  | _, _, ys, .any hf, h => by
    simp only [RepL] at h ⊢
    obtain ⟨y, zs, e, _, h2⟩ := h
    exact ⟨y, zs, e, by simp only [Rep], hf.rep h2⟩
  | _, _, ys, .same hf, h => by
    simp only [RepL] at h ⊢
    obtain ⟨y, zs, e, h1, h2⟩ := h
    exact ⟨y, zs, e, h1, hf.rep h2⟩

theorem Fit.refl : ∀ xs : List AV, Fit xs xs
  | [] => .nil
  | _ :: xs => .same (Fit.refl xs)

theorem Conv.fit {k : Nat} {xs xs' : List AV} {H : List ABlk} (h : Fit xs xs') : Conv k xs H xs' H := fun _ m I _ _ _ h1 h2 => ⟨m, I, h1, h.rep h2⟩

/-- a list's name for l: what it says there, beyond it what lies out of reach -/
def nm (rl : List Nat) (N : Nat) (l : Nat) : Nat :=
  match rl, l with
  | [], l => N + l
  | x :: _, 0 => x
  | _ :: rl, l + 1 => nm rl N l

theorem nm_lt : ∀ {rl : List Nat} {N l : Nat}, l < rl.length → rl[l]? = some (nm rl N l)
  | [], _, _, h => by simp at h
  | x :: rl, N, 0, _ => rfl
  | x :: rl, N, l + 1, h => by simpa [nm] using nm_lt (rl := rl) (N := N) (l := l) (by simpa using h)

theorem nm_out : ∀ {rl : List Nat} {N l : Nat}, rl.length ≤ l → N ≤ nm rl N l
  | [], N, l, _ => by simp [nm]
  | x :: rl, N, 0, h => by simp at h
  | x :: rl, N, l + 1, h => by simpa [nm] using nm_out (rl := rl) (N := N) (l := l) (by simpa using h)

/-- the named blocks, each as told, or given up -/
inductive Picks (ρ : Nat → Nat) (H : List ABlk) : List Nat → List ABlk → Prop
  | nil : Picks ρ H [] []
  | same {l : Nat} {b : ABlk} {rl : List Nat} {H' : List ABlk} : H[l]? = some (b.ren ρ) → Picks ρ H rl H' → Picks ρ H (l :: rl) (b :: H')
  | dead {l : Nat} {rl : List Nat} {H' : List ABlk} : l < H.length → Picks ρ H rl H' → Picks ρ H (l :: rl) (.dead :: H')

theorem Picks.length {H : List ABlk} : ∀ {rl : List Nat} {H' : List ABlk}, Picks ρ H rl H' → H'.length = rl.length
  | _, _, .nil => rfl
  | _, _, .same _ h => by simp [h.length]
  | _, _, .dead _ h => by simp [h.length]

theorem Picks.get {H : List ABlk} : ∀ {rl : List Nat} {H' : List ABlk} {i : Nat} {b : ABlk}, Picks ρ H rl H' → H'[i]? = some b → ∃ l, rl[i]? = some l ∧ l < H.length ∧ (H[l]? = some (b.ren ρ) ∨ b = .dead)
  | _, _, i, b, .nil, h => by simp at h
  | _, _, i, b, .same (l := l) h1 h, hi => by
    cases i with
    | zero => simp at hi; subst hi; exact ⟨l, rfl, (List.getElem?_eq_some_iff.1 h1).1, .inl h1⟩
    | succ i => simpa using h.get (by simpa using hi)
  | _, _, i, b, .dead (l := l) h1 h, hi => by
    cases i with
    | zero => simp at hi; subst hi; exact ⟨l, rfl, h1, .inr rfl⟩
    | succ i => simpa using h.get (by simpa using hi)

/-- Own blocks are numbered anew; those that are not named are given up. -/
theorem Conv.ren {k : Nat} {xs : List AV} {H H' : List ABlk} (rl : List Nat) (xs' : List AV) (hk : ∀ i, i < k → rl[i]? = some i) (hn : rl.Nodup)
    (hf : Fit xs (renL (nm rl H.length) xs')) (hp : Picks (nm rl H.length) H rl H') : Conv k xs H xs' H' := by
  intro C m I w ys hC hs hr
  have hlen := hp.length
  let mc : Mu := { n := rl.length, blk := fun l => m.blk (nm rl H.length l), size := fun l => m.size (nm rl H.length l) }
  have hlt : ∀ l, l < rl.length → nm rl H.length l < H.length := by
    intro l hl
    obtain ⟨b, hb⟩ : ∃ b, H'[l]? = some b := ⟨H'[l]'(by omega), List.getElem?_eq_getElem (by omega)⟩
    obtain ⟨x, h1, h2, _⟩ := hp.get hb
    rw [nm_lt (N := H.length) hl] at h1
    cases h1; exact h2
  have hN : Names m (nm rl H.length) mc := ⟨fun _ _ => rfl, fun _ _ => rfl, fun l hl => by rw [hs.n]; exact hlt l hl, fun l hl => by rw [hs.n]; exact nm_out hl⟩
  have hlv : ∀ l b, H'[l]? = some b → b.live → l < rl.length ∧ Live H (nm rl H.length l) := by
    intro l b hb hv
    have hl : l < rl.length := by have := (List.getElem?_eq_some_iff.1 hb).1; omega
    obtain ⟨x, h1, h2, h3⟩ := hp.get hb
    rw [nm_lt (N := H.length) hl] at h1
    cases h1
    rcases h3 with h3 | h3
    · exact ⟨hl, _, h3, ABlk.ren_live.2 hv⟩
    · rw [h3] at hv; exact hv.elim
  have hkl : ∀ i, i < k → i < rl.length ∧ nm rl H.length i = i := by
    intro i hi
    have h1 := hk i hi
    have h2 : i < rl.length := (List.getElem?_eq_some_iff.1 h1).1
    rw [nm_lt (N := H.length) h2] at h1
    exact ⟨h2, by injection h1⟩
  refine ⟨mc, I, ⟨by simp [mc, hlen], ?_, ?_, hs.old, hs.size, ?_, hs.imm0, hs.imm, hs.immlt, ?_, ?_, ?_, hs.side⟩, (renL_rep hN _ _).1 (hf.rep hr)⟩
  · intro l b hb
    have hl : l < rl.length := by have := (List.getElem?_eq_some_iff.1 hb).1; omega
    obtain ⟨x, h1, h2, h3⟩ := hp.get hb
    rw [nm_lt (N := H.length) hl] at h1
    cases h1
    rcases h3 with h3 | h3
    · exact (blk_ren hN hl b).1 (hs.blks _ _ h3)
    · rw [h3]; trivial
  · rintro l l' x ⟨b, hb, hv⟩ ⟨b', hb', hv'⟩ hx hx'
    obtain ⟨h1, h2⟩ := hlv l b hb hv
    obtain ⟨h3, h4⟩ := hlv l' b' hb' hv'
    have he := hs.dist _ _ x h2 h4 hx hx'
    have e1 := nm_lt (N := H.length) h1
    have e2 := nm_lt (N := H.length) h3
    rw [he, ← e2] at e1
    exact (List.getElem?_inj h1 hn).1 e1
  · rintro l x ⟨b, hb, hv⟩ hx
    exact hs.own _ x (hlv l b hb hv).2 hx
  · show C.m0.n ≤ rl.length
    cases hz : C.m0.n with
    | zero => omega
    | succ j => exact Nat.succ_le_of_lt (hkl j (by omega)).1
  · intro l hl
    show m.blk (nm rl H.length l) = _
    rw [(hkl l (by omega)).2]; exact hs.m0b l hl
  · intro l hl
    show m.size (nm rl H.length l) = _
    rw [(hkl l (by omega)).2]; exact hs.m0s l hl

theorem RepC.same {I' : Nat → Prop} (h : Ext w m I w m I') : ∀ {xs : List AV} {b off : Nat}, RepC w m I xs b off → RepC w m I' xs b off
  | [], b, off, _ => by simp only [RepC]
  | x :: xs, b, off, hr => by
    simp only [RepC] at hr ⊢
    obtain ⟨⟨y, h1, h2, h3⟩, h4⟩ := hr
    exact ⟨⟨y, h1, h2, Rep.ext h x y h3⟩, RepC.same h h4⟩

/-- A block is no longer written. -/
theorem St.freeze {C : Ctx} {H : List ABlk} (hs : St C m I H w) {l t : Nat} {xs : List AV} (hl : H[l]? = some (.cells t xs)) :
    St C m (fun b => I b ∨ m.blk l = some b) (H.set l (.ice t xs)) w ∧ Ext w m I w m (fun b => I b ∨ m.blk l = some b) := by
  have he : Ext w m I w m (fun b => I b ∨ m.blk l = some b) := ⟨Nat.le_refl _, fun _ _ => rfl, fun _ _ => rfl, fun _ h => .inl h, fun _ _ => rfl⟩
  have hlt : l < H.length := (List.getElem?_eq_some_iff.1 hl).1
  have hLl : Live H l := ⟨_, hl, trivial⟩
  have hlive : ∀ j, Live (H.set l (.ice t xs)) j → Live H j ∧ j ≠ l := by
    rintro j ⟨b, h1, h2⟩
    by_cases e : l = j
    · subst e; rw [List.getElem?_set_self hlt] at h1; cases h1; exact h2.elim
    · rw [List.getElem?_set_ne e] at h1; exact ⟨⟨b, h1, h2⟩, fun h => e h.symm⟩
  refine ⟨⟨by simp [hs.n], ?_, fun a b x h1 h2 => hs.dist a b x (hlive a h1).1 (hlive b h2).1, hs.old, hs.size, fun a b h1 => hs.own a b (hlive a h1).1, fun b hb => .inl (hs.imm0 b hb), ?_, ?_, hs.m0n, hs.m0b, hs.m0s, hs.side⟩, he⟩
  · intro j b hb
    by_cases e : l = j
    · subst e
      rw [List.getElem?_set_self hlt] at hb
      cases hb
      have hB := hs.blks l _ hl
      simp only [BlkRep] at hB ⊢
      rcases hB with hB | ⟨x, ys, fr, h1, _⟩
      · exact .inl ⟨hB.1, hB.2.1⟩
      · exact .inr ⟨x, h1, .inr h1, RepC.same he (hs.repC hl h1)⟩
    · rw [List.getElem?_set_ne e] at hb
      refine (hs.blks j b hb).ext he (by rw [hs.n]; exact (List.getElem?_eq_some_iff.1 hb).1) (fun x hx hv => ⟨rfl, ?_⟩)
      rintro (hi | hi)
      · exact ((hs.blks j b hb).lt hv hx).2 hi
      · exact e (hs.dist l j x hLl ⟨b, hb, hv⟩ hi hx)
  · rintro b (hb | hb)
    · exact hs.imm b hb
    · exact .inr (hs.own l b hLl hb)
  · rintro b (hb | hb)
    · exact hs.immlt b hb
    · exact (hs.live_lt hLl hb).1

theorem Conv.freeze {k : Nat} {xs : List AV} {H : List ABlk} (l : Nat) {t : Nat} {cs : List AV} (hl : H[l]? = some (.cells t cs)) : Conv k xs H xs (H.set l (.ice t cs)) := fun C m I w ys _ hs hr =>
  let ⟨h1, h2⟩ := hs.freeze hl
  ⟨m, _, h1, RepL.ext h2 _ _ hr⟩

end
end Go.Aw

/-
  Aw, part 17: a call within greater memory; slices lent for the time of a call.
-/
set_option linter.unusedSimpArgs false
set_option linter.unusedVariables false
namespace Go.Aw
open Go

mutual
theorem ren_id : ∀ x : AV, x.ren id = x
  | .any => rfl
  | .v _ => rfl
  | .agg xs => by simp only [AV.ren, renL_id xs]
  | .tup xs => by simp only [AV.ren, renL_id xs]
  | .vs _ _ xs => by simp only [AV.ren, renL_id xs]
  | .vx _ _ xs => by simp only [AV.ren, renL_id xs]
  | .ip xs => by simp only [AV.ren, renL_id xs]
  | .ms .. => rfl
  | .ptr .. => rfl
  | .pe .. => rfl
  | .mp _ => rfl
  | .fn _ fs cs => by simp only [AV.ren, renL_id fs, renL_id cs]
theorem renL_id : ∀ xs : List AV, renL id xs = xs
  | [] => rfl
  | x :: xs => by simp only [renL, ren_id x, renL_id xs]
end

mutual
/-- what the callee sees of what the caller has -/
inductive Lend (H : List ABlk) (B : List Nat) (ρ : Nat → Nat) : AV → AV → Prop
  | same {x x0 : AV} : x = x0.ren ρ → Lend H B ρ x x0
  | any {x : AV} : Lend H B ρ x .any
  | ms {sz l off n t : Nat} {cs cs' : List AV} : ((l ∈ B ∧ H[l]? = some (.cells t cs)) ∨ H[l]? = some (.ice t cs)) → off + n * sz ≤ cs.length → (cs.drop off).take (n * sz) = renL ρ cs' → Lend H B ρ (.ms sz l off n) (.vs sz n cs')
  | ptr {l off t : Nat} {cs cs' : List AV} : ((l ∈ B ∧ H[l]? = some (.cells t cs)) ∨ H[l]? = some (.ice t cs)) → cs.drop off = renL ρ cs' → Lend H B ρ (.ptr l off) (.ip cs')
  | pe {l b0 sz i j t : Nat} {cs cs' : List AV} : ((l ∈ B ∧ H[l]? = some (.cells t cs)) ∨ H[l]? = some (.ice t cs)) → cs.drop (b0 + i * sz + j) = renL ρ cs' → Lend H B ρ (.pe l b0 sz i j) (.ip cs')
  | vx {sz n : Nat} {cs cs' : List AV} : cs = renL ρ cs' → Lend H B ρ (.vx sz n cs) (.vs sz n cs')
  | nil {sz : Nat} : Lend H B ρ (.v (.slice none 0 0)) (.vs sz 0 [])
  | nilx {sz : Nat} : Lend H B ρ (.v (.slice none 0 0)) (.vx sz 0 [])
  | agg {xs xs' : List AV} : LendL H B ρ xs xs' → Lend H B ρ (.agg xs) (.agg xs')
  | tup {xs xs' : List AV} : LendL H B ρ xs xs' → Lend H B ρ (.tup xs) (.tup xs')
  | fn {f : Nat} {fs fs' cs cs' : List AV} : LendL H B ρ fs fs' → LendL H B ρ cs cs' → Lend H B ρ (.fn f fs cs) (.fn f fs' cs')
inductive LendL (H : List ABlk) (B : List Nat) (ρ : Nat → Nat) : List AV → List AV → Prop
  | nil : LendL H B ρ [] []
  | cons {x x' : AV} {xs xs' : List AV} : Lend H B ρ x x' → LendL H B ρ xs xs' → LendL H B ρ (x :: xs) (x' :: xs')
end

theorem LendL.same {H : List ABlk} {B : List Nat} {ρ : Nat → Nat} : ∀ (xs : List AV), LendL H B ρ (renL ρ xs) xs
  | [] => .nil
  | x :: xs => .cons (.same rfl) (LendL.same xs)

mutual
/-- says nothing of what may not change -/
def AV.plain : AV → Prop
  | .any => True
  | .v _ => True
  | .agg xs => plainL xs
  | .tup xs => plainL xs
  | .vs _ n _ => n = 0
  | .vx _ n _ => n = 0
  | .ip _ => False
  | .ms .. => True
  | .ptr .. => True
  | .pe .. => True
  | .mp _ => True
  | .fn _ fs cs => plainL fs ∧ plainL cs
def plainL : List AV → Prop
  | [] => True
  | x :: xs => x.plain ∧ plainL xs
end

def ABlk.plain : ABlk → Prop
  | .dead => True
  | .cells _ xs => plainL xs
  | .ice _ _ => False
  | .map es _ _ => plainL (es.map (·.1)) ∧ plainL (es.map (·.2))
  | .iter _ _ _ => True
  | .head _ xs => plainL xs
  | .obj _ => True
  | .loop _ _ xs => plainL xs

section
variable {P : Program} {C : Ctx} {w : World} {m mc : Mu} {I I' : Nat → Prop} {ρ : Nat → Nat} {H : List ABlk}

mutual
theorem plain_rep : ∀ (x : AV) (y : Value), x.plain → Rep w m I x y → Rep w m I' x y
  | .any, _, _, h => by simp only [Rep]
  | .v _, _, _, h => h
  | .agg xs, y, hp, h => by
    simp only [Rep, AV.plain] at h hp ⊢
    obtain ⟨ys, e, h1, h2⟩ := h
    exact ⟨ys, e, plainL_rep xs ys hp h1, h2⟩
  | .tup xs, y, hp, h => by
    simp only [Rep, AV.plain] at h hp ⊢
    obtain ⟨ys, e, h1⟩ := h
    exact ⟨ys, e, plainL_rep xs ys hp h1⟩
  | .vs sz n xs, y, hp, h => by
    simp only [Rep, AV.plain] at h hp ⊢
    obtain ⟨a, cap, e, h1, h2, h3⟩ := h
    refine ⟨a, cap, e, h1, h2, ?_⟩
    rcases h3 with h3 | ⟨A, h3, _⟩
    · exact .inl h3
    · exact .inr ⟨A, h3, .inl hp⟩
  | .vx sz n xs, y, hp, h => by
    simp only [Rep, AV.plain] at h hp ⊢
    obtain ⟨a, e, h2, h3⟩ := h
    refine ⟨a, e, h2, ?_⟩
    rcases h3 with h3 | ⟨A, h3, _⟩
    · exact .inl h3
    · exact .inr ⟨A, h3, .inl hp⟩
  | .ip xs, y, hp, h => hp.elim
  | .ms .., _, _, h => by simpa only [Rep] using h
  | .ptr .., _, _, h => by simpa only [Rep] using h
  | .pe .., _, _, h => by simpa only [Rep] using h
  | .mp _, _, _, h => by simpa only [Rep] using h
  | .fn f fs cs, y, hp, h => by
    simp only [Rep, AV.plain] at h hp ⊢
    obtain ⟨us, ys, e, h1, h2⟩ := h
    exact ⟨us, ys, e, plainL_rep fs us hp.1 h1, plainL_rep cs ys hp.2 h2⟩
theorem plainL_rep : ∀ (xs : List AV) (ys : List Value), plainL xs → RepL w m I xs ys → RepL w m I' xs ys
  | [], ys, _, h => by simpa only [RepL] using h
  | x :: xs, ys, hp, h => by
    simp only [RepL, plainL] at h hp ⊢
    obtain ⟨y, zs, e, h1, h2⟩ := h
    exact ⟨y, zs, e, plain_rep x y hp.1 h1, plainL_rep xs zs hp.2 h2⟩
end

theorem plain_blk {l : Nat} {b : ABlk} (hp : b.plain) (hI : ∀ x, I' x → I x) (h : BlkRep w m I l b) : BlkRep w m I' l b := by
  cases b with
  | dead => trivial
  | ice t xs => exact hp.elim
  | cells t xs =>
    simp only [BlkRep] at h ⊢
    rcases h with h | ⟨b, ys, fr, h1, h2, h3, h4, h5, h6, y1, y2, e, h7⟩
    · exact .inl h
    · exact .inr ⟨b, ys, fr, h1, fun hi => h2 (hI _ hi), h3, h4, h5, h6, y1, y2, e, plainL_rep _ _ hp h7⟩
  | map es bs clock =>
    simp only [BlkRep] at h ⊢
    obtain ⟨b, ents, h1, h2, h3, h4, h5, h6⟩ := h
    exact ⟨b, ents, h1, fun hi => h2 (hI _ hi), h3, plainL_rep _ _ hp.1 h4, plainL_rep _ _ hp.2 h5, h6⟩
  | iter lm since seen =>
    simp only [BlkRep] at h ⊢
    obtain ⟨h0, b, h1, h2, h3⟩ := h
    exact ⟨h0, b, h1, fun hi => h2 (hI _ hi), h3⟩
  | head t xs =>
    simp only [BlkRep] at h ⊢
    obtain ⟨b, ys, fr, h1, h2, h3, h4, h5, h6, y1, y2, e, h7⟩ := h
    exact ⟨b, ys, fr, h1, fun hi => h2 (hI _ hi), h3, h4, h5, h6, y1, y2, e, plainL_rep _ _ hp h7⟩
  | obj R =>
    simp only [BlkRep] at h ⊢
    obtain ⟨b, o, h1, h2, h3⟩ := h
    exact ⟨b, o, h1, fun hi => h2 (hI _ hi), h3⟩
  | loop b R xs =>
    simp only [BlkRep] at h ⊢
    obtain ⟨h1, h2, r, h3, h4, h5⟩ := h
    exact ⟨h1, fun hi => h2 (hI _ hi), r, h3, h4, plainL_rep _ _ hp h5⟩

/-- the lent blocks -/
def Lent (m : Mu) (B : List Nat) (b : Nat) : Prop := ∃ l ∈ B, m.blk l = some b

theorem lent_cells (hs : St C m I H w) {B : List Nat} {l t b : Nat} {cs : List AV} (h : (l ∈ B ∧ H[l]? = some (.cells t cs)) ∨ H[l]? = some (.ice t cs)) (hb : m.blk l = some b) :
    (I b ∨ Lent m B b) ∧ RepC w m I cs b 0 := by
  rcases h with ⟨h1, h2⟩ | h2
  · exact ⟨.inr ⟨l, h1, hb⟩, hs.repC h2 hb⟩
  · have hB := hs.blks l _ h2
    simp only [BlkRep] at hB
    rcases hB with ⟨h3, _⟩ | ⟨x, h3, h4, h5⟩
    · rw [h3] at hb; cases hb
    · rw [hb] at h3; cases h3; exact ⟨.inl h4, h5⟩

mutual
theorem Lend.rep (hs : St C m I H w) {B : List Nat} (hN : Names m ρ mc) (hI : ∀ b, I b ∨ Lent m B b → I' b) : ∀ {x x0 : AV} {y : Value}, Lend H B ρ x x0 → Rep w m I x y → Rep w mc I' x0 y
  | _, x0, y, .same e, h => by
    subst e
    exact Rep.ext ⟨Nat.le_refl _, fun _ _ => rfl, fun _ _ => rfl, fun b hb => hI b (.inl hb), fun _ _ => rfl⟩ x0 y ((ren_rep hN x0 y).1 h)
  | _, _, _, .any, _ => by simp only [Rep]
  | _, _, y, .ms (sz := sz) (l := l) (off := off) (n := n) hl hle he, h => by
    simp only [Rep] at h ⊢
    obtain ⟨hlt, ⟨h1, rfl, rfl, rfl⟩ | ⟨b, cap, o, h1, rfl, h2, h3, h4⟩⟩ := h
    · refine ⟨none, 0, rfl, Nat.le_refl _, ?_, .inl ⟨rfl, rfl, rfl⟩⟩
      have := congrArg List.length he
      simp [renL_length] at this
      simp [← this]
    · have hlen := congrArg List.length he
      rw [List.length_take, List.length_drop, renL_length] at hlen
      refine ⟨_, cap, rfl, h2, by omega, .inr ⟨_, rfl, ?_⟩⟩
      by_cases hz : n = 0
      · exact .inl hz
      · right
        obtain ⟨h5, h6⟩ := lent_cells hs hl h1
        refine ⟨rfl, hI _ h5, ?_⟩
        rw [h4 (by omega)]
        have h7 := RepC.take (n * sz) (RepC.drop off h6)
        rw [he, Nat.zero_add] at h7
        exact RepC.same ⟨Nat.le_refl _, fun _ _ => rfl, fun _ _ => rfl, fun b hb => hI b (.inl hb), fun _ _ => rfl⟩ ((renC_rep hN _ _ _).1 h7)
  | _, _, y, .ptr (off := off) hl he, h => by
    simp only [Rep] at h ⊢
    obtain ⟨hlt, b, h1, rfl⟩ := h
    obtain ⟨h5, h6⟩ := lent_cells hs hl h1
    refine ⟨b, off, rfl, hI _ h5, ?_⟩
    have h7 := RepC.drop off h6
    rw [he, Nat.zero_add] at h7
    exact RepC.same ⟨Nat.le_refl _, fun _ _ => rfl, fun _ _ => rfl, fun b hb => hI b (.inl hb), fun _ _ => rfl⟩ ((renC_rep hN _ _ _).1 h7)
  | _, _, y, .pe (b0 := b0) (sz := sz) (i := i) (j := j) hl he, h => by
    simp only [Rep] at h ⊢
    obtain ⟨hlt, b, h1, rfl⟩ := h
    obtain ⟨h5, h6⟩ := lent_cells hs hl h1
    refine ⟨b, _, rfl, hI _ h5, ?_⟩
    have h7 := RepC.drop (b0 + i * sz + j) h6
    rw [he, Nat.zero_add] at h7
    exact RepC.same ⟨Nat.le_refl _, fun _ _ => rfl, fun _ _ => rfl, fun b hb => hI b (.inl hb), fun _ _ => rfl⟩ ((renC_rep hN _ _ _).1 h7)
  | _, _, y, .vx (sz := sz) (n := n) (cs' := cs') e, h => by
    subst e
    have h := Rep.ext (w' := w) (m' := mc) (I' := I') ⟨Nat.le_refl _, fun _ _ => rfl, fun _ _ => rfl, fun b hb => hI b (.inl hb), fun _ _ => rfl⟩ _ y ((ren_rep hN (.vx sz n cs') y).1 h)
    simp only [Rep] at h ⊢
    obtain ⟨a, e, h1, h2⟩ := h
    refine ⟨a, n, e, Nat.le_refl _, h1, ?_⟩
    rcases h2 with h2 | h2
    · exact .inl ⟨h2.1, h2.2, h2.2⟩
    · exact .inr h2
  | _, _, y, .nil, h => by
    simp only [Rep] at h ⊢
    exact ⟨none, 0, h, Nat.le_refl _, by simp, .inl (by simp)⟩
  | _, _, y, .nilx, h => by
    simp only [Rep] at h ⊢
    exact ⟨none, h, by simp, .inl (by simp)⟩
  | _, _, y, .agg hl, h => by
    simp only [Rep] at h ⊢
    obtain ⟨ys, e, h1, h2⟩ := h
    exact ⟨ys, e, hl.rep hs hN hI h1, h2⟩
  | _, _, y, .tup hl, h => by
    simp only [Rep] at h ⊢
    obtain ⟨ys, e, h1⟩ := h
    exact ⟨ys, e, hl.rep hs hN hI h1⟩
  | _, _, y, .fn hf hl, h => by
    simp only [Rep] at h ⊢
    obtain ⟨us, ys, e, h1, h2⟩ := h
    exact ⟨us, ys, e, hf.rep hs hN hI h1, hl.rep hs hN hI h2⟩
theorem LendL.rep (hs : St C m I H w) {B : List Nat} (hN : Names m ρ mc) (hI : ∀ b, I b ∨ Lent m B b → I' b) : ∀ {xs xs0 : List AV} {ys : List Value}, LendL H B ρ xs xs0 → RepL w m I xs ys → RepL w mc I' xs0 ys
  | _, _, ys, .nil, h => by simpa only [RepL] using h
  | _, _, ys, .cons h1 h2, h => by
    simp only [RepL] at h ⊢
    obtain ⟨y, zs, e, h3, h4⟩ := h
    exact ⟨y, zs, e, h1.rep hs hN hI h3, h2.rep hs hN hI h4⟩
end

/-- Frozen own slices are seen as values. -/
theorem Conv.see {k : Nat} {xs xs' : List AV} (h : LendL H [] id xs xs') : Conv k xs H xs' H := fun C m I w ys _ hs hr =>
  ⟨m, I, hs, h.rep hs (mc := m) (I' := I) ⟨fun _ _ => rfl, fun _ _ => rfl, fun _ h => h, fun _ h => h⟩ (fun b hb => hb.elim id (fun ⟨l, hl, _⟩ => by simp at hl)) hr⟩

/-- a nil slice becomes an own one -/
inductive FitN (sz l : Nat) : List AV → List AV → Prop
  | nil : FitN sz l [] []
  | any {x : AV} {xs ys : List AV} : FitN sz l xs ys → FitN sz l (x :: xs) (.any :: ys)
  | same {x : AV} {xs ys : List AV} : FitN sz l xs ys → FitN sz l (x :: xs) (x :: ys)
  | own {xs ys : List AV} : FitN sz l xs ys → FitN sz l (.v (.slice none 0 0) :: xs) (.ms sz l 0 0 :: ys)

theorem FitN.rep {sz l : Nat} (hl : l < m.n) (hb : m.blk l = none) : ∀ {xs xs' : List AV} {ys : List Value}, FitN sz l xs xs' → RepL w m I xs ys → RepL w m I xs' ys
  | _, _, _, .nil, h => h
  | _, _, ys, .any hf, h => by
    simp only [RepL] at h ⊢
    obtain ⟨y, zs, e, _, h2⟩ := h
    exact ⟨y, zs, e, by simp only [Rep], hf.rep hl hb h2⟩
  | _, _, ys, .same hf, h => by
    simp only [RepL] at h ⊢
    obtain ⟨y, zs, e, h1, h2⟩ := h
    exact ⟨y, zs, e, h1, hf.rep hl hb h2⟩
  | _, _, ys, .own hf, h => by
    simp only [RepL] at h ⊢
    obtain ⟨y, zs, e, h1, h2⟩ := h
    simp only [Rep] at h1
    exact ⟨y, zs, e, by simp only [Rep]; exact ⟨hl, .inl (by simp [hb, h1])⟩, hf.rep hl hb h2⟩

theorem Conv.own {k sz : Nat} {xs xs' : List AV} (t : Nat) (h : FitN sz H.length xs xs') : Conv k xs H xs' (H ++ [.cells t []]) := by
  intro C m I w ys hk hs hr
  obtain ⟨h1, h2⟩ := hs.push (w' := w) (bo := none) (s := 0) (B := .cells t []) (Nat.le_refl _) ⟨rfl, rfl⟩ (fun _ _ => rfl) (fun b hb => by cases hb) (fun _ => by simp only [BlkRep]; exact .inl ⟨Mu.push_new.1, by simp, Mu.push_new.2⟩)
  refine ⟨_, I, h1, FitN.rep (by simp [Mu.push, hs.n]) (by rw [← hs.n]; exact Mu.push_new.1) h (RepL.ext h2 _ _ hr)⟩

/-! ### a call within greater memory -/
theorem nm_eq : ∀ {rl : List Nat} {N l : Nat}, rl.length ≤ l → nm rl N l = N + (l - rl.length)
  | [], N, l, _ => by simp [nm]
  | x :: rl, N, 0, h => by simp at h
  | x :: rl, N, l + 1, h => by simp only [nm, List.length_cons]; rw [nm_eq (by simpa using h)]; omega

/-- the callee's own memory in the caller's -/
def mergeH (ρ : Nat → Nat) : List ABlk → List Nat → List ABlk → List ABlk
  | H, [], G => H ++ G.map (·.ren ρ)
  | H, l :: rl, b :: G => mergeH ρ (H.set l (b.ren ρ)) rl G
  | H, _ :: _, [] => H

theorem mergeH_get : ∀ {H : List ABlk} {rl : List Nat} {G : List ABlk} {j : Nat} {b : ABlk} {N : Nat}, H.length = N → rl.length ≤ G.length → (mergeH ρ H rl G)[j]? = some b →
    (∃ i b0, G[i]? = some b0 ∧ b = b0.ren ρ ∧ j = nm rl N i) ∨ (j < N ∧ j ∉ rl ∧ H[j]? = some b)
  | H, [], G, j, b, N, hN, _, h => by
    simp only [mergeH, List.getElem?_append, List.getElem?_map] at h
    split at h
    · right; exact ⟨by omega, by simp, h⟩
    · left
      obtain ⟨b0, h1, h2⟩ := Option.map_eq_some_iff.1 h
      exact ⟨j - H.length, b0, h1, h2.symm, by simp [nm]; omega⟩
  | H, l :: rl, b0 :: G, j, b, N, hN, hl, h => by
    simp only [mergeH] at h
    rcases mergeH_get (N := N) (by simpa using hN) (by simpa using hl) h with ⟨i, b1, h1, h2, h3⟩ | ⟨h1, h2, h3⟩
    · exact .inl ⟨i + 1, b1, by simpa using h1, h2, by simpa [nm] using h3⟩
    · by_cases e : l = j
      · subst e
        rw [List.getElem?_set_self (by omega)] at h3
        cases h3
        exact .inl ⟨0, b0, rfl, rfl, rfl⟩
      · rw [List.getElem?_set_ne e] at h3
        exact .inr ⟨h1, by simp; exact ⟨fun h => e h.symm, h2⟩, h3⟩
  | H, _ :: _, [], j, b, N, hN, hl, h => by simp at hl

theorem mergeH_length : ∀ {H : List ABlk} {rl : List Nat} {G : List ABlk}, rl.length ≤ G.length → (mergeH ρ H rl G).length = H.length + (G.length - rl.length)
  | H, [], G, _ => by simp [mergeH]
  | H, l :: rl, b :: G, h => by
    simp only [mergeH]
    rw [mergeH_length (by simpa using h)]
    simp
  | H, _ :: _, [], h => by simp at h

theorem Spec.frame {f : Nat} {args0 : List AV} {H0 : List ABlk} {K : AV → List ABlk → Prop} (h : Spec P f args0 H0 K) {args : List AV} (rl B : List Nat) (hn : rl.Nodup) (hp : Picks (nm rl H.length) H rl H0)
    (hB : ∀ l ∈ B, l ∉ rl) (hBl : ∀ l ∈ B, ∃ t cs, H[l]? = some (.cells t cs)) (ha : LendL H B (nm rl H.length) args args0) (hP : B = [] ∨ ∀ r H', K r H' → r.plain ∧ ∀ b ∈ H', b.plain) :
    Spec P f args H fun r H' => ∃ r0 H0', K r0 H0' ∧ r = r0.ren (nm rl H.length) ∧ H' = mergeH (nm rl H.length) H rl H0' := by
  intro C m I w vs hs hr
  have hlen := hp.length
  have hlt : ∀ l, l < rl.length → nm rl H.length l < H.length := by
    intro l hl
    obtain ⟨b, hb⟩ : ∃ b, H0[l]? = some b := ⟨H0[l]'(by omega), List.getElem?_eq_getElem (by omega)⟩
    obtain ⟨x, h1, h2, _⟩ := hp.get hb
    rw [nm_lt (N := H.length) hl] at h1
    cases h1; exact h2
  generalize hρ : nm rl H.length = ρ at *
  let mc : Mu := { n := rl.length, blk := fun l => m.blk (ρ l), size := fun l => m.size (ρ l) }
  have hN : Names m ρ mc := ⟨fun _ _ => rfl, fun _ _ => rfl, fun l hl => by rw [hs.n]; exact hlt l hl, fun l hl => by rw [hs.n, ← hρ]; exact nm_out hl⟩
  have hnm : ∀ l, l < rl.length → rl[l]? = some (ρ l) := fun l hl => by rw [← hρ]; exact nm_lt hl
  have hlv : ∀ l b, H0[l]? = some b → b.live → l < rl.length ∧ Live H (ρ l) := by
    intro l b hb hv
    have hl : l < rl.length := by have := (List.getElem?_eq_some_iff.1 hb).1; omega
    obtain ⟨x, h1, h2, h3⟩ := hp.get hb
    rw [hnm l hl] at h1
    cases h1
    rcases h3 with h3 | h3
    · exact ⟨hl, _, h3, ABlk.ren_live.2 hv⟩
    · rw [h3] at hv; exact hv.elim
  have hBlive : ∀ l ∈ B, Live H l := fun l hl => let ⟨t, cs, h⟩ := hBl l hl; ⟨_, h, trivial⟩
  let Ib : Nat → Prop := fun b => I b ∨ Lent m B b
  have hIbO : ∀ l x, Live H0 l → mc.blk l = some x → ¬ Ib x := by
    rintro l x ⟨b, hb, hv⟩ hx (hi | ⟨l', hl', hx'⟩)
    · exact (hs.live_lt (hlv l b hb hv).2 hx).2 hi
    · have := hs.dist _ _ x (hlv l b hb hv).2 (hBlive l' hl') hx hx'
      have h2 := hnm l (hlv l b hb hv).1
      rw [this] at h2
      exact hB l' hl' (List.mem_of_getElem? h2)
  have hIlt : ∀ b, Ib b → b < w.heap.size := by
    rintro b (hb | ⟨l, hl, hb⟩)
    · exact hs.immlt b hb
    · exact (hs.live_lt (hBlive l hl) hb).1
  let C0 : Ctx := Ctx.mk w (fun b => ∃ l, Live H0 l ∧ mc.blk l = some b) Ib mc
    (fun b hb => hb.elim fun l hl => hl.1.elim fun b' hb' => (hs.live_lt (hlv l b' hb'.1 hb'.2).2 hl.2).1) hIlt (fun b hb ho => ho.elim fun l hl => hIbO l b hl.1 hl.2 hb) []
  have hIext : Ext w m I w m Ib := ⟨Nat.le_refl _, fun _ _ => rfl, fun _ _ => rfl, fun _ h => .inl h, fun _ _ => rfl⟩
  have hs0 : St C0 mc Ib H0 w := by
    refine ⟨by simp [mc, hlen], ?_, ?_, fun _ _ _ => rfl, Nat.le_refl _, fun l b hl hb => .inl ⟨l, hl, hb⟩, fun _ h => h, fun _ h => .inl h, hIlt, Nat.le_refl _, fun _ _ => rfl, fun _ _ => rfl, rfl, rfl⟩
    · intro l b hb
      have hl : l < rl.length := by have := (List.getElem?_eq_some_iff.1 hb).1; omega
      obtain ⟨x, h1, h2, h3⟩ := hp.get hb
      rw [hnm l hl] at h1
      cases h1
      rcases h3 with h3 | h3
      · refine (blk_ren hN hl b).1 ((hs.blks _ _ h3).ext hIext (by rw [hs.n]; exact h2) (fun x hx hv => ⟨rfl, ?_⟩))
        exact hIbO l x ⟨b, hb, ABlk.ren_live.1 hv⟩ hx
      · rw [h3]; trivial
    · rintro l l' x ⟨b, hb, hv⟩ ⟨b', hb', hv'⟩ hx hx'
      obtain ⟨h1, h2⟩ := hlv l b hb hv
      obtain ⟨h3, h4⟩ := hlv l' b' hb' hv'
      have he := hs.dist _ _ x h2 h4 hx hx'
      have e1 := hnm l h1
      have e2 := hnm l' h3
      rw [he, ← e2] at e1
      exact (List.getElem?_inj h1 hn).1 e1
  have hr0 : RepL w mc Ib args0 vs := ha.rep hs hN (fun b hb => hb) hr
  refine (h C0 mc Ib w vs hs0 hr0).mono ?_
  rintro e w' ⟨r, v, H', m', I', he, hK, hrv, hs', hext⟩
  have hn' : rl.length ≤ m'.n := hs'.m0n
  have hHl : rl.length ≤ H'.length := by rw [← hs'.n]; exact hn'
  let m2 : Mu := { n := m.n + (m'.n - rl.length), blk := fun l => if l < m.n then m.blk l else m'.blk (l - m.n + rl.length), size := fun l => if l < m.n then m.size l else m'.size (l - m.n + rl.length) }
  have hout : ∀ l, rl.length ≤ l → ρ l = m.n + (l - rl.length) := by
    intro l hl
    rw [← hρ, hs.n]; exact nm_eq hl
  have hN2 : Names m2 ρ m' := by
    refine ⟨?_, ?_, ?_, ?_⟩
    · intro l hl
      by_cases h1 : l < rl.length
      · have h2 := hN.lt l h1
        simp only [m2, if_pos h2]
        exact hs'.m0b l h1
      · have e := hout l (by omega)
        simp only [m2, e, if_neg (show ¬ m.n + (l - rl.length) < m.n by omega)]
        congr 1; omega
    · intro l hl
      by_cases h1 : l < rl.length
      · have h2 := hN.lt l h1
        simp only [m2, if_pos h2]
        exact hs'.m0s l h1
      · have e := hout l (by omega)
        simp only [m2, e, if_neg (show ¬ m.n + (l - rl.length) < m.n by omega)]
        congr 1; omega
    · intro l hl
      by_cases h1 : l < rl.length
      · have h2 := hN.lt l h1; simp only [m2]; omega
      · rw [hout l (by omega)]; simp only [m2]; omega
    · intro l hl
      rw [hout l (by omega)]; simp only [m2]; omega
  let I2 : Nat → Prop := fun b => I' b ∧ ¬ Lent m B b
  have hI2 : ∀ b, I b → I2 b := by
    intro b hb
    refine ⟨hext.imm b (.inl hb), ?_⟩
    rintro ⟨l, hl, hx⟩
    exact (hs.live_lt (hBlive l hl) hx).2 hb
  have hext2 : Ext w m I w' m2 I2 := by
    refine ⟨by simp only [m2]; omega, fun l hl => by simp only [m2, if_pos hl], fun l hl => by simp only [m2, if_pos hl], hI2, fun b hb => hext.same b (.inl hb)⟩
  have hI2e : B = [] → I2 = I' := fun hz => funext fun b => propext ⟨fun h => h.1, fun h => ⟨h, by subst hz; rintro ⟨l, hl, _⟩; simp at hl⟩⟩
  have hfix : ∀ b0, b0 ∈ H' → ∀ l, BlkRep w' m' I' l b0 → BlkRep w' m' I2 l b0 := by
    intro b0 hb0 l hb
    rcases hP with hP | hP
    · rw [hI2e hP]; exact hb
    · exact plain_blk ((hP _ _ hK).2 b0 hb0) (fun x hx => hx.1) hb
  have hrv2 : Rep w' m2 I2 (r.ren ρ) v := by
    refine (ren_rep hN2 r v).2 ?_
    rcases hP with hP | hP
    · rw [hI2e hP]; exact hrv
    · exact plain_rep _ _ (hP _ _ hK).1 hrv
  have hget : ∀ j b, (mergeH ρ H rl H')[j]? = some b → (∃ i b0, H'[i]? = some b0 ∧ b = b0.ren ρ ∧ j = ρ i) ∨ (j < m.n ∧ j ∉ rl ∧ H[j]? = some b) := by
    intro j b hb
    have := mergeH_get (N := H.length) rfl hHl hb
    rw [hρ, ← hs.n] at this
    exact this
  have hlive : ∀ j, Live (mergeH ρ H rl H') j → (∃ i, Live H' i ∧ j = ρ i ∧ i < m'.n ∧ m2.blk j = m'.blk i) ∨ (j < m.n ∧ j ∉ rl ∧ Live H j ∧ m2.blk j = m.blk j) := by
    rintro j ⟨b, hb, hv⟩
    rcases hget j b hb with ⟨i, b0, h1, rfl, rfl⟩ | ⟨h1, h2, h3⟩
    · have hi : i < m'.n := by rw [hs'.n]; exact (List.getElem?_eq_some_iff.1 h1).1
      exact .inl ⟨i, ⟨b0, h1, ABlk.ren_live.1 hv⟩, rfl, hi, (hN2.blk i hi).symm⟩
    · exact .inr ⟨h1, h2, ⟨b, h3, hv⟩, hext2.blk j h1⟩
  have hO : ∀ x, C0.O x → ∃ l, l ∈ rl ∧ Live H l ∧ m.blk l = some x := by
    rintro x ⟨l, ⟨b, hb, hv⟩, hx⟩
    obtain ⟨h1, h2⟩ := hlv l b hb hv
    exact ⟨ρ l, List.mem_of_getElem? (hnm l h1), h2, hx⟩
  have hcall : ∀ j x, j ∉ rl → Live H j → m.blk j = some x → x < w.heap.size ∧ ¬ I x ∧ ¬ C0.O x := by
    intro j x hj hl hx
    obtain ⟨h1, h2⟩ := hs.live_lt hl hx
    refine ⟨h1, h2, fun ho => ?_⟩
    obtain ⟨l, h3, h4, h5⟩ := hO x ho
    have := hs.dist _ _ x hl h4 hx h5
    rw [this] at hj; exact hj h3
  have hmix : ∀ i j x, Live H' i → m'.blk i = some x → j ∉ rl → Live H j → m.blk j = some x → False := by
    intro i j x h1 h2 h3 h4 h5
    obtain ⟨h6, h7, h8⟩ := hcall j x h3 h4 h5
    rcases hs'.own i x h1 h2 with h9 | h9
    · exact h8 h9
    · have : w.heap.size ≤ x := h9
      omega
  have hI2b : ∀ b, I2 b → I b ∨ C0.O b ∨ w.heap.size ≤ b := by
    rintro b ⟨h1, h2⟩
    rcases hs'.imm b h1 with h3 | h3 | h3
    · rcases h3 with h3 | h3
      · exact .inl h3
      · exact absurd h3 h2
    · exact .inr (.inl h3)
    · exact .inr (.inr h3)
  refine ⟨r.ren ρ, v, mergeH ρ H rl H', m2, I2, he, ⟨r, H', hK, rfl, rfl⟩, hrv2, ⟨?_, ?_, ?_, ?_, Nat.le_trans hs.size hs'.size, ?_, fun b hb => hI2 b (hs.imm0 b hb), ?_, fun b hb => hs'.immlt b hb.1, Nat.le_trans hs.m0n hext2.n, ?_, ?_, hs'.side.1.trans hs.side.1, hs'.side.2.trans hs.side.2⟩, hext2⟩
  · rw [mergeH_length hHl]; simp only [m2]; rw [hs.n, hs'.n]
  · intro j b hb
    rcases hget j b hb with ⟨i, b0, h1, rfl, rfl⟩ | ⟨h1, h2, h3⟩
    · have hi : i < m'.n := by rw [hs'.n]; exact (List.getElem?_eq_some_iff.1 h1).1
      exact (blk_ren hN2 hi b0).2 (hfix b0 (List.mem_of_getElem? h1) i (hs'.blks i b0 h1))
    · refine (hs.blks j b h3).ext hext2 h1 (fun x hx hv => ?_)
      obtain ⟨h4, h5, h6⟩ := hcall j x h2 ⟨b, h3, hv⟩ hx
      refine ⟨hs'.old x h4 h6, fun hi => ?_⟩
      rcases hI2b x hi with h7 | h7 | h7
      · exact h5 h7
      · exact h6 h7
      · omega
  · intro j j' x hj hj' hx hx'
    rcases hlive j hj with ⟨i, h1, rfl, h2, h3⟩ | ⟨h1, h2, h3, h4⟩ <;> rcases hlive j' hj' with ⟨i', g1, rfl, g2, g3⟩ | ⟨g1, g2, g3, g4⟩
    · rw [h3] at hx; rw [g3] at hx'
      rw [hs'.dist i i' x h1 g1 hx hx']
    · rw [h3] at hx; rw [g4] at hx'
      exact (hmix i j' x h1 hx g2 g3 hx').elim
    · rw [h4] at hx; rw [g3] at hx'
      exact (hmix i' j x g1 hx' h2 h3 hx).elim
    · rw [h4] at hx; rw [g4] at hx'
      exact hs.dist j j' x h3 g3 hx hx'
  · intro b h1 h2
    have h3 : b < w.heap.size := Nat.lt_of_lt_of_le h1 hs.size
    have h4 : ¬ C0.O b := by
      intro ho
      obtain ⟨l, _, h5, h6⟩ := hO b ho
      rcases hs.own l b h5 h6 with h7 | h7
      · exact h2 h7
      · omega
    exact (hs'.old b h3 h4).trans (hs.old b h1 h2)
  · intro j x hj hx
    rcases hlive j hj with ⟨i, h1, rfl, h2, h3⟩ | ⟨h1, h2, h3, h4⟩
    · rw [h3] at hx
      rcases hs'.own i x h1 hx with h5 | h5
      · obtain ⟨l, _, h6, h7⟩ := hO x h5
        exact hs.own l x h6 h7
      · exact .inr (Nat.le_trans hs.size h5)
    · rw [h4] at hx; exact hs.own j x h3 hx
  · intro b hb
    rcases hI2b b hb with h1 | h1 | h1
    · exact hs.imm b h1
    · obtain ⟨l, _, h6, h7⟩ := hO b h1
      exact .inr (hs.own l b h6 h7)
    · exact .inr (.inr (Nat.le_trans hs.size h1))
  · intro l hl
    rw [hext2.blk l (Nat.lt_of_lt_of_le hl hs.m0n)]; exact hs.m0b l hl
  · intro l hl
    rw [hext2.size l (Nat.lt_of_lt_of_le hl hs.m0n)]; exact hs.m0s l hl

end
end Go.Aw

/-
  Aw, part 18: calls, for use.
-/
set_option linter.unusedSimpArgs false
set_option linter.unusedVariables false
namespace Go.Aw
open Go

section
variable {P : Program} {T : Nat → TI} {H : List ABlk}

theorem ACall.of {f : Nat} {args args0 : List AV} {H0 : List ABlk} {K K0 : AV → List ABlk → Prop} (hc : callOk P f = true) (h : Spec P f args0 H0 K0) (rl B : List Nat) (hn : rl.Nodup) (hp : Picks (nm rl H.length) H rl H0)
    (hB : ∀ l ∈ B, l ∉ rl) (hBl : ∀ l ∈ B, ∃ t cs, H[l]? = some (.cells t cs)) (ha : LendL H B (nm rl H.length) args args0) (hP : B = [] ∨ ∀ r H', K0 r H' → r.plain ∧ ∀ b ∈ H', b.plain)
    (k : ∀ r H', K0 r H' → K (r.ren (nm rl H.length)) (mergeH (nm rl H.length) H rl H')) : ACall P f args H K :=
  ACall.iff.2 ⟨hc, (h.frame rl B hn hp hB hBl ha hP).mono fun r H' ⟨r0, H0', h1, e1, e2⟩ => by rw [e1, e2]; exact k r0 H0' h1⟩

/-- What a function makes of these arguments, with no memory of its own ahead of it or behind it. -/
def Fun (P : Program) (f : Nat) (args : List AV) (r : AV) : Prop := Spec P f args [] fun r' H' => r' = r ∧ H' = []

/-- A call of a function whose answer is a value. -/
theorem ACall.fun {f : Nat} {args args0 : List AV} {r : AV} {K : AV → List ABlk → Prop} (hc : callOk P f = true) (h : Fun P f args0 r) (B : List Nat)
    (hBl : ∀ l ∈ B, ∃ t cs, H[l]? = some (.cells t cs)) (ha : LendL H B (nm [] H.length) args args0) (hP : B = [] ∨ r.plain) (hr : r.ren (nm [] H.length) = r) (k : K r H) : ACall P f args H K := by
  refine ACall.of hc h [] B List.nodup_nil .nil (by simp) hBl ha (hP.imp id fun h => ?_) ?_
  · rintro r' H' ⟨rfl, rfl⟩; exact ⟨h, by simp⟩
  · rintro r' H' ⟨rfl, rfl⟩
    simp only [mergeH, List.map_nil, List.append_nil]
    rw [hr]; exact k

/-- The same, nothing lent. -/
theorem ACall.val {f : Nat} {args : List AV} {r : AV} {K : AV → List ABlk → Prop} (hc : callOk P f = true) (h : Fun P f args r)
    (ha : renL (nm [] H.length) args = args) (hr : r.ren (nm [] H.length) = r) (k : K r H) : ACall P f args H K :=
  ACall.fun hc h [] (by simp) (by have := LendL.same (H := H) (B := []) (ρ := nm [] H.length) args; rw [ha] at this; exact this) (.inl rfl) hr k

/-- A call that is handed no memory of ours. -/
theorem ACall.spec {f : Nat} {args : List AV} {K K0 : AV → List ABlk → Prop} (hc : callOk P f = true) (h : Spec P f args [] K0) (ha : renL (nm [] H.length) args = args)
    (k : ∀ r H', K0 r H' → K (r.ren (nm [] H.length)) (H ++ H'.map (·.ren (nm [] H.length)))) : ACall P f args H K :=
  ACall.of hc h [] [] List.nodup_nil .nil (by simp) (by simp) (by have := LendL.same (H := H) (B := []) (ρ := nm [] H.length) args; rw [ha] at this; exact this) (.inl rfl) (fun r H' h' => by simpa only [mergeH] using k r H' h')

theorem AFin.val {x : AV} {K : AV → List ABlk → Prop} (hx : x.ren (nm [] H.length) = x) (h : K x []) : AFin 0 x H K :=
  AFin.to x [] (Conv.ren [] [x] (by simp) List.nodup_nil (by simp only [renL]; rw [hx]; exact Fit.refl _) .nil) h

theorem AUpd.to {xs cs : List AV} {o : Nat} {K : List AV → Prop} (xs' : List AV) (hl : o + cs.length ≤ xs.length) (h : spl xs o cs = xs') (k : K xs') : AUpd xs o cs K := AUpd.iff.2 ⟨hl, by rw [h]; exact k⟩

@[simp] theorem drp_zero (xs : List AV) : drp xs 0 = xs := rfl

/-- element i of cells that are one each -/
theorem AIdx.map1 {α : Type} {f : α → AV} {xs : List α} {i : Nat} {K : List AV → Prop} (h : i < xs.length) (k : K [f xs[i]]) : AIdx (xs.map f) 1 i K := by
  rw [AIdx.iff]
  refine ⟨by simp; omega, ?_⟩
  have : ((xs.map f).drop (i * 1)).take 1 = [f xs[i]] := by
    rw [Nat.mul_one, List.drop_eq_getElem_cons (by simpa using h)]
    simp
  rw [this]; exact k

theorem flat_elem {α : Type} {enc : α → List AV} {sz : Nat} (hs : ∀ x, (enc x).length = sz) : ∀ {xs : List α} {i : Nat} (h : i < xs.length), ((xs.flatMap enc).drop (i * sz)).take sz = enc xs[i]
  | x :: xs, 0, h => by
    rw [List.flatMap_cons, Nat.zero_mul, List.drop_zero, List.take_append_of_le_length (by rw [hs]; exact Nat.le_refl _), List.take_of_length_le (by rw [hs]; exact Nat.le_refl _)]; rfl
  | x :: xs, i + 1, h => by
    have e : (i + 1) * sz = (enc x).length + i * sz := by rw [hs, Nat.add_mul]; omega
    rw [List.flatMap_cons, e, ← List.drop_drop, List.drop_left]
    exact flat_elem hs (by simpa using h)

theorem flat_length {α : Type} {enc : α → List AV} {sz : Nat} (hs : ∀ x, (enc x).length = sz) (xs : List α) : (xs.flatMap enc).length = xs.length * sz := by
  induction xs with
  | nil => simp
  | cons x xs ih => simp [ih, hs, Nat.add_mul, Nat.add_comm]

/-- element i of cells of sz each -/
theorem AIdx.flat {α : Type} {enc : α → List AV} {sz : Nat} (hs : ∀ x, (enc x).length = sz) {xs : List α} {i : Nat} {K : List AV → Prop} (h : i < xs.length) (k : K (enc xs[i])) : AIdx (xs.flatMap enc) sz i K := by
  rw [AIdx.iff, flat_elem hs h, flat_length hs]
  refine ⟨?_, k⟩
  have := Nat.mul_le_mul_right sz (show i + 1 ≤ xs.length from h)
  rw [Nat.add_mul] at this; omega

theorem wrap_i64 (n : Int) (h1 : -9223372036854775808 ≤ n) (h2 : n ≤ 9223372036854775807) : IntKind.wrap .i64 n = n := by
  simp only [IntKind.wrap, IntKind.bits, IntKind.signed, Bool.true_and]
  simp only [show ((2 : Int) ^ 64) = 18446744073709551616 from rfl, show ((2 : Int) ^ (64 - 1)) = 9223372036854775808 from rfl]
  split <;> rename_i h <;> simp only [ge_iff_le, decide_eq_true_eq] at h <;> omega

end
end Go.Aw

/-
  Aw, part 19: what a law is given, opened; and the law's end.
-/
set_option linter.unusedSimpArgs false
set_option linter.unusedVariables false
namespace Go.Aw
open Go Go.ChangeShapes Go.WideShapes Go.RowKit

def mu0 : Mu := { n := 0, blk := fun _ => none, size := fun _ => 0 }
abbrev Old (W : World) : Nat → Prop := fun b => b < W.heap.size

section
variable {P : Program} {W : World}

/-- What is read of type t is one of these, and lies there so. -/
def Opens (P : Program) (t : Nat) {α : Type} (enc : α → List AV) (wf : α → Prop) : Prop :=
  ∀ (H : Type) (en : TypeId × Value → H) (W : World) (n : Nat) (cs : List Value) (x : DataW H × List MemPlace), DataW.trod en P W 0 (fun _ => true) true n t cs = some x →
    ∃ a, wf a ∧ RepL W mu0 (Old W) (enc a) cs ∧ ∀ u ∈ cs, u.oneCell' = true

theorem Opens.map {t : Nat} {α β : Type} {enc : α → List AV} {wf : α → Prop} (h : Opens P t enc wf) (enc' : β → List AV) (wf' : β → Prop) (g : α → β) (he : ∀ a, wf a → enc' (g a) = enc a) (hw : ∀ a, wf a → wf' (g a)) : Opens P t enc' wf' := by
  intro H en W n cs x hx
  obtain ⟨a, h1, h2, h3⟩ := h H en W n cs x hx
  exact ⟨g a, hw a h1, by rw [he a h1]; exact h2, h3⟩

theorem opens_int {t : Nat} {k : IntKind} (ht : P.underlying t = some (.int k)) : Opens P t (fun n : Int => [.v (.int k n)]) (fun n => (Lit.int k n).wf = true) := by
  intro H en W n cs x hx
  obtain ⟨i, rfl, _, hw⟩ := DataW.trod_int ht hx
  exact ⟨i, hw, by simp [RepL, Rep], by simp [Value.oneCell']⟩

theorem opens_string {t : Nat} (ht : P.underlying t = some .string) : Opens P t (fun s : ByteArray => [.v (.string s)]) (fun s => s.size ≤ maxLen) := by
  intro H en W n cs x hx
  obtain ⟨s, rfl, _, hw⟩ := DataW.trod_string ht hx
  exact ⟨s, hw, by simp [RepL, Rep], by simp [Value.oneCell']⟩

/-- the fields from one place on -/
def OpensF (P : Program) (fs : List Field) (off tot : Nat) {α : Type} (enc : α → List AV) (wf : α → Prop) : Prop :=
  ∀ (H : Type) (en : TypeId × Value → H) (W : World) (n : Nat) (cs : List Value), cs.length = tot →
    (∀ f ∈ fs, ∃ x, DataW.trod en P W 0 (fun _ => true) true n f.type ((cs.drop f.offset).take (P.cellsOf f.type)) = some x) →
    ∃ a, wf a ∧ RepL W mu0 (Old W) (enc a) (cs.drop off) ∧ ∀ u ∈ cs.drop off, u.oneCell' = true

theorem opensF_nil {tot : Nat} : OpensF P [] tot tot (fun _ : Unit => []) (fun _ => True) := by
  intro H en W n cs hl _
  have : cs.drop tot = [] := by rw [← hl]; simp
  exact ⟨(), trivial, by rw [this]; simp [RepL], by rw [this]; simp⟩

theorem opensF_cons {f : Field} {fs : List Field} {off tot sz : Nat} {α β : Type} {enc : α → List AV} {wf : α → Prop} {enc' : β → List AV} {wf' : β → Prop} (ho : f.offset = off) (hz : P.cellsOf f.type = sz)
    (h : Opens P f.type enc wf) (h' : OpensF P fs (off + sz) tot enc' wf') : OpensF P (f :: fs) off tot (fun x : α × β => enc x.1 ++ enc' x.2) (fun x => wf x.1 ∧ wf' x.2) := by
  intro H en W n cs hl hf
  obtain ⟨x, hx⟩ := hf f (by simp)
  obtain ⟨a, a1, a2, a3⟩ := h H en W n _ x hx
  obtain ⟨b, b1, b2, b3⟩ := h' H en W n cs hl (fun g hg => hf g (by simp [hg]))
  rw [ho, hz] at a2 a3
  have e : cs.drop off = (cs.drop off).take sz ++ cs.drop (off + sz) := by
    rw [← List.drop_drop, List.take_append_drop]
  refine ⟨(a, b), ⟨a1, b1⟩, by rw [e]; exact RepL.append a2 b2, ?_⟩
  intro u hu
  rw [e] at hu
  rcases List.mem_append.1 hu with hu | hu
  · exact a3 u hu
  · exact b3 u hu

theorem opens_struct {t : Nat} {fs : Array Field} {tot : Nat} {α : Type} {enc : α → List AV} {wf : α → Prop} (ht : P.underlying t = some (.struct fs)) (htot : P.cellsOf t = tot) (h : OpensF P fs.toList 0 tot enc wf) : Opens P t enc wf := by
  intro H en W n cs x hx
  obtain ⟨xs, n', _, _, hl, hxl, hf⟩ := DataW.trod_struct ht hx
  obtain ⟨a, a1, a2, a3⟩ := h H en W n' cs (hl.trans htot) (fun f hf' => by
    obtain ⟨i, hi⟩ := List.mem_iff_getElem?.1 hf'
    have hi' : fs[i]? = some f := by simpa using hi
    have h1 := hf i f hi'
    have : i < xs.length := by rw [hxl]; exact (Array.getElem?_eq_some_iff.1 hi').1
    rw [List.getElem?_eq_getElem this] at h1
    exact ⟨_, h1⟩)
  exact ⟨a, a1, by simpa using a2, by simpa using a3⟩

/-- the same of an argument -/
def OpenV (P : Program) (t : Nat) {α : Type} (val : α → AV) (wf : α → Prop) : Prop :=
  ∀ (H : Type) (en : TypeId × Value → H) (W : World) (base : Nat) (v : Value) (d : DataW H) (ps : List MemPlace), Value.okWide P W .any base t v → DataW.Trod en P W 0 (fun _ => true) true t v d ps → ∃ a, wf a ∧ Rep W mu0 (Old W) (val a) v

theorem openV_struct {t : Nat} {fs : Array Field} {α : Type} {enc : α → List AV} {wf : α → Prop} (ht : P.underlying t = some (.struct fs)) (h : Opens P t enc wf) : OpenV P t (fun a => .agg (enc a)) wf := by
  intro H en W base v d ps hok ⟨n, hn⟩
  obtain ⟨a, a1, a2, a3⟩ := h H en W n _ _ hn
  obtain ⟨cs, rfl, _⟩ := okWide_struct ht hok
  refine ⟨a, a1, ?_⟩
  simp only [Rep]
  exact ⟨cs.toList, by simp, a2, a3⟩

/-- all arguments -/
def OpenA (P : Program) (ts : List Nat) {α : Type} (vals : α → List AV) (wf : α → Prop) : Prop :=
  ∀ (H : Type) (en : TypeId × Value → H) (W : World) (base : Nat) (vs : List Value) (ds : List (DataW H)) (ps : List MemPlace), (∀ (j : Nat) t v, ts[j]? = some t → vs[j]? = some v → Value.okWide P W .any base t v) →
    DataW.TrodAll en P W 0 (fun _ => true) true ts vs ds ps → ∃ a, wf a ∧ RepL W mu0 (Old W) (vals a) vs

theorem openA_nil : OpenA P [] (fun _ : Unit => []) (fun _ => True) := by
  intro H en W base vs ds ps _ h
  obtain ⟨rfl, _⟩ := trodAll_nil h
  exact ⟨(), trivial, by simp [RepL]⟩

theorem openA_cons {t : Nat} {ts : List Nat} {α β : Type} {val : α → AV} {wf : α → Prop} {vals : β → List AV} {wf' : β → Prop} (h : OpenV P t val wf) (h' : OpenA P ts vals wf') :
    OpenA P (t :: ts) (fun x : α × β => val x.1 :: vals x.2) (fun x => wf x.1 ∧ wf' x.2) := by
  intro H en W base vs ds ps hok hA
  obtain ⟨v0, vs0, d0, ds0, p0, q0, rfl, rfl, rfl, h0, r0⟩ := trodAll_cons hA
  obtain ⟨a, a1, a2⟩ := h H en W base v0 d0 p0 (hok 0 t v0 rfl rfl) h0
  obtain ⟨b, b1, b2⟩ := h' H en W base vs0 ds0 q0 (fun j t' v h1 h2 => hok (j + 1) t' v (by simpa using h1) (by simpa using h2)) r0
  exact ⟨(a, b), ⟨a1, b1⟩, by simp only [RepL]; exact ⟨_, _, rfl, a2, b2⟩⟩

/-! ### the end of a law -/
theorem start_st (W : World) : St (Ctx.mk W (fun _ => False) (Old W) mu0 (fun _ h => h.elim) (fun _ h => h) (fun _ _ h => h) []) mu0 (Old W) [] W :=
  ⟨rfl, by simp, by rintro l l' x ⟨b, h, _⟩; simp at h, fun _ _ _ => rfl, Nat.le_refl _, by rintro l b ⟨x, h, _⟩; simp at h, fun _ h => h, fun _ h => .inl h, fun _ h => h, Nat.le_refl _, fun _ _ => rfl, fun _ _ => rfl, rfl, rfl⟩

/-- The law returns true, and nothing that was there has turned. -/
theorem law_calls {f : Nat} {args : List AV} {vs : List Value} (h : Spec P f args [] fun r _ => r = .v (.bool true)) (hr : RepL W mu0 (Old W) args vs) :
    Calls P f ⟨vs⟩ W fun e W' => e = .returned (.bool true) ∧ (W'.os = W.os ∧ W'.output = W.output) ∧ W.heap.size ≤ W'.heap.size ∧ ∀ b, b < W.heap.size → W'.heap[b]? = W.heap[b]? := by
  refine (h _ mu0 (Old W) W vs (start_st W) hr).mono ?_
  rintro e W' ⟨r, v, H', m', I', rfl, rfl, hv, hs, _⟩
  simp only [Rep] at hv
  subst hv
  exact ⟨rfl, hs.side, hs.size, fun b hb => hs.old b hb (fun h => h)⟩

theorem trodAll_stays {H : Type} {en : TypeId × Value → H} {W' : World} {sp : Nat → Bool} (hl : laidOutB P = true) (hb : ∀ b, b < W.heap.size → W'.heap[b]? = W.heap[b]?) : ∀ {ts : List TypeId} {vs : List Value} {ds : List (DataW H)} {ps : List MemPlace},
    (ts.all fun t => P.readableRec t && decide (t < P.types.size)) = true → DataW.TrodAll en P W 0 (fun _ => true) true ts vs ds ps → (∀ p ∈ ps, p.block < W.heap.size ∧ sp p.block = true) → DataW.TrodAll en P W' 0 sp true ts vs ds ps
  | [], [], [], _, _, h, _ => h
  | t :: ts, v :: vs, d :: ds, _, ht, ⟨p, q, h1, h2, e⟩, hs => by
    simp only [List.all_cons, Bool.and_eq_true, decide_eq_true_eq] at ht
    refine ⟨p, q, WideElems.Trod_stays hl ht.1.1 ht.1.2 h1 (fun x hx => ?_) (fun x hx => (hs x (by rw [e]; exact List.mem_append_left _ hx)).2), trodAll_stays hl hb (by simpa using ht.2) h2 (fun x hx => hs x (by rw [e]; exact List.mem_append_right _ hx)), e⟩
    have hx := (hs x (by rw [e]; exact List.mem_append_left _ hx)).1
    cases x with
    | cell b off => simp only [World.sameAt, World.cell?]; rw [hb b hx]
    | map b => exact hb b hx

theorem law_post {f : Func} {s : ChangeSpec} {H : Type} {en : TypeId × Value → H} {W' : World} {args : Array Value} {ds gs : List (DataW H)} {before : List MemPlace} {apart fresh handsOn again : Bool} (hl : laidOutB P = true)
    (hts : (f.params.toList.all fun t => P.readableRec t && decide (t < P.types.size)) = true) {t0 : Nat} (hres : f.resultTypes = #[t0]) (ht0 : P.underlying t0 = some .bool) (hvars : s.vars = [])
    (hW : DataW.Whole en P f.params.toList s.vars apart W args.toList ds gs before) (hfn : s.fn H (ds ++ gs) = { results := [.lit (.bool true)], args := ds })
    (hside : W'.os = W.os ∧ W'.output = W.output) (hsz : W.heap.size ≤ W'.heap.size) (hb : ∀ b, b < W.heap.size → W'.heap[b]? = W.heap[b]?) :
    s.post en P f apart fresh handsOn again W args (.bool true) W' := by
  have hW' := hW
  have hlt : ∀ p ∈ before, p.block < W.heap.size := fun p hp => hW'.lt p hp
  obtain ⟨p, q, hA, hV, rfl, hfz, hnd⟩ := hW
  rw [hvars] at hV
  obtain ⟨rfl, rfl⟩ := trodVars_none hV
  simp only [List.append_nil] at hfz hnd hlt hfn hW'
  have hargs : ∀ sp : Nat → Bool, (∀ x ∈ p, sp x.block = true) → DataW.TrodAll en P W' 0 sp true f.params.toList args.toList ds p := fun sp hsp =>
    trodAll_stays hl hb hts hA (fun x hx => ⟨hlt x hx, hsp x hx⟩)
  have hr : (Value.bool true).resultList 1 = [.bool true] := rfl
  have hresl : ∀ (b : Nat) (sp : Nat → Bool) (hd : Bool), DataW.TrodAll en P W' b sp hd f.resultTypes.toList ((Value.bool true).resultList f.resultTypes.size) [.lit (.bool true)] [] := by
    intro b sp hd
    rw [hres]
    exact trodAll_cons_mk (shut_bool ht0 _) trodAll_mk0
  have hk : W.keptBut W' (· ∈ p) := by
    refine ⟨hside.1, hside.2, fun i hi => ?_⟩
    rw [hb i hi]
    cases h : W.heap[i]? with
    | none => rfl
    | some o => cases o <;> simp
  have hold : ∀ x ∈ p, (fun b => decide (b < W.heap.size)) x.block = true := fun x hx => by simpa using hlt x hx
  have hfz' : ∀ b off, MemPlace.cell b off ∈ p → W'.frozen? ⟨b, off, none⟩ = W.frozen? ⟨b, off, none⟩ := by
    intro b off hx
    have := hlt _ hx
    unfold World.frozen?
    simp only [hb b this]
  refine ⟨ds, [], p, [], p, [], by simpa using hW', by rw [List.append_nil, hfn]; exact hresl _ _ _, by rw [List.append_nil, hfn]; exact hargs _ hold, by rw [hvars, List.append_nil, hfn]; exact rfl, World.keptBut_mono (fun x hx => ⟨hx, .inr (by simpa using hx)⟩) hk, fun _ => ?_⟩
  refine ⟨?_, _, [], ([] ++ p) ++ [], ⟨[] ++ p, [], trodAll_append (hargs _ (fun _ _ => rfl)) (hresl _ _ _), by rw [hvars]; exact rfl, rfl, ?_, ?_⟩, ?_⟩
  · exact ok_one hres rfl (okWide_bool_mk ht0 true)
  · intro b off hp
    have hp : MemPlace.cell b off ∈ p := by simpa using hp
    rw [hfz' b off hp]
    exact hfz b off hp
  · intro ha
    simpa using hnd ha
  · intro x hx _
    simpa using hx

/-- A law's row asks just this. -/
theorem law_contract {f : Nat} {fn : Func} {s : ChangeSpec} {α : Type} {vals : α → List AV} {wf : α → Prop} {apart fresh handsOn again : Bool} (hl : laidOutB P = true)
    (hts : (fn.params.toList.all fun t => P.readableRec t && decide (t < P.types.size)) = true) {t0 : Nat} (hres : fn.resultTypes = #[t0]) (ht0 : P.underlying t0 = some .bool) (hvars : s.vars = [])
    (hopen : OpenA P fn.params.toList vals wf) (hspec : ∀ a, wf a → Spec P f (vals a) [] fun r _ => r = .v (.bool true))
    (hfn : ∀ (H : Type) (ds : List (DataW H)), ds.length = fn.params.toList.length → s.fn H ds = { results := [.lit (.bool true)], args := ds })
    {H : Type} {en : TypeId × Value → H} {W : World} {base : Nat} {args : Array Value} {ds gs : List (DataW H)} {before : List MemPlace}
    (hval : ∀ (j : Nat) t v, fn.params[j]? = some t → args[j]? = some v → Value.okWide P W .any base t v) (hW : DataW.Whole en P fn.params.toList s.vars apart W args.toList ds gs before) :
    Calls P f args W fun e W' => ∃ v, e = .returned v ∧ s.post en P fn apart fresh handsOn again W args v W' := by
  have hW' := hW
  obtain ⟨p, q, hA, hV, rfl, hfz, hnd⟩ := hW
  rw [hvars] at hV
  obtain ⟨rfl, rfl⟩ := trodVars_none hV
  obtain ⟨a, a1, a2⟩ := hopen H en W base args.toList ds p (fun j t v h1 h2 => hval j t v (by simpa using h1) (by simpa using h2)) hA
  have := law_calls (hspec a a1) a2
  refine Calls.mono (by simpa using this) fun e W' h => ?_
  obtain ⟨he, h1, h2, h3⟩ := h
  refine ⟨_, he, law_post hl hts hres ht0 hvars hW' ?_ h1 h2 h3⟩
  rw [List.append_nil]
  exact hfn H ds (trodAll_length hA).2

end
end Go.Aw

namespace Go.Aw
open Go

def u32 (x : BitVec 32) : AV := .v (.int .u32 x.toNat)
def u8 (x : BitVec 8) : AV := .v (.int .u8 x.toNat)

theorem wrap_u8 (n : Nat) : IntKind.wrap .u8 (n : Int) = (n % 256 : Nat) := by
  simp [IntKind.wrap, IntKind.bits, IntKind.signed]
end Go.Aw

