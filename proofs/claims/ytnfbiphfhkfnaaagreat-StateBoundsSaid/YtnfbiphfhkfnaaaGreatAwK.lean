/-
  The statement StateBounds: of a state that may be, of no line more is authorised, received or paid back than was shipped and paid, without any condition.
-/
import Derived.Test.YtnfbiphfhkfnaaaGreatAwJ
import Derived.Test.YtnfbiphfhkfnaaaGreatAwG
import Derived.Test.YtnfbiphfhkfnaaaGreatAwE
set_option linter.unusedSimpArgs false
set_option linter.unusedVariables false
/-
  Aw, part 44: closed calls are computed: drawn regions, code, functions.
-/
set_option linter.unusedSimpArgs false
set_option linter.unusedVariables false
namespace Go.Aw
open Go

structure S3 where
  kn : List (Nat × Bool)
  E : ET
  H : List ABlk

noncomputable def eqKn : List (Nat × Bool) → List (Nat × Bool) → Bool
  | [], y => match y with | [] => true | _ => false
  | x :: xs, y => match y with | y :: ys => Nat.beq x.1 y.1 && (x.2 == y.2) && eqKn xs ys | _ => false
theorem eqKn_s : ∀ (x y : List (Nat × Bool)), eqKn x y = true → x = y
  | [], y, h => by cases y <;> simp only [eqKn] at h <;> first | rfl | cases h
  | x :: xs, y, h => by
    cases y <;> simp only [eqKn, Bool.and_eq_true, beq_iff_eq] at h <;> first | (cases h; done) | rw [eqKn_s _ _ h.2, Prod.ext (Nat.eq_of_beq_eq_true h.1.1) h.1.2]

def szC : ET → Option Nat
  | .leaf _ => some 1
  | .node n l r => match szC l with
    | some a => match szC r with
      | some b => cond (Nat.beq n a) (some (a + b)) none
      | none => none
    | none => none
theorem szC_s : ∀ {t : ET} {n : Nat}, szC t = some n → t.wf ∧ t.toL.length = n
  | .leaf x, n, h => by cases h; exact ⟨trivial, rfl⟩
  | .node m l r, n, h => by
    unfold szC at h
    cases hl : szC l <;> simp only [hl] at h <;> try (cases h; done)
    cases hr : szC r <;> simp only [hr] at h <;> try (cases h; done)
    rename_i a b
    obtain ⟨h1, h2⟩ := szC_s hl
    obtain ⟨h3, h4⟩ := szC_s hr
    cases hb : Nat.beq m a <;> simp only [hb, cond] at h <;> cases h
    have := Nat.eq_of_beq_eq_true hb
    exact ⟨⟨by omega, h1, h3⟩, by rw [ET.toL, List.length_append]; omega⟩

section
variable {P : Program} {T : Nat → TI} {X : Xt} {call : CallC}

/-- a load of what stays -/
noncomputable def immC (T : Nat → TI) (ops : Array Oper) (o : Oper) (kn : List (Nat × Bool)) (E : ET) (H : List ABlk) {R : Type} (K : List (Nat × Bool) → ET → List ABlk → Option R) : Option R :=
  match o.op with
  | .load t x => reqC (match o.guard with | none => true | some g => match kno kn g.1 with | some b => b == g.2 | none => false)
      (evC E x fun q => reqC (immB q H) (loadAtC T H t q fun v => putC E o.dst v fun E => knPutC ops o.dst kn fun kn => K kn E H))
  | _ => none
theorem immC_s {R : Type} {ops : Array Oper} {o : Oper} {kn : List (Nat × Bool)} {E : ET} (hw : E.wf) {H : List ABlk} {K : List (Nat × Bool) → ET → List ABlk → Option R} {K' : List (Nat × Bool) → List AV → List ABlk → Prop} {r : R}
    (h : immC T ops o kn E H K = some r) (hk : ∀ kn (E : ET) H, E.wf → K kn E H = some r → K' kn E.toL H) :
    ∃ t x, o.op = .load t x ∧ (o.guard = none ∨ ∃ g, o.guard = some g ∧ kno kn g.1 = some g.2) ∧ evK E.toL x fun q => ifK (immB q H) (loadAtK T H t q fun v => putK E.toL o.dst v fun E => knPut ops o.dst kn fun kn => K' kn E H) := by
  unfold immC at h
  cases ho : o.op <;> simp only [ho] at h <;> try (cases h; done)
  rename_i t x
  obtain ⟨h1, h⟩ := reqC_s h
  refine ⟨t, x, rfl, ?_, evC_s hw h fun q h => ?_⟩
  · cases hg : o.guard <;> simp only [hg] at h1
    · exact .inl rfl
    · rename_i g
      cases hn : kno kn g.1 <;> simp only [hn] at h1 <;> try (cases h1; done)
      rw [beq_iff_eq] at h1
      exact .inr ⟨g, rfl, by rw [hn, h1]⟩
  · obtain ⟨h2, h⟩ := reqC_s h
    rw [ifK_iff]
    exact ⟨h2, loadAtC_s h fun v h => putC_s hw h fun E hw h => knPutC_s h fun kn h => hk _ _ _ hw h⟩

noncomputable def plC (P : Program) (T : Nat → TI) (X : Xt) (call : CallC) (ops : Array Oper) : Pl → (R : Type) → List (Nat × Bool) → ET → List ABlk → (List (Nat × Bool) → ET → List ABlk → Option R) → Option R
  | .nil, _, kn, E, H, K => K kn E H
  | .one i p, R, kn, E, H, K => match ops[i]? with
    | some o => opC P T X call ops o kn E H fun kn E H => plC P T X call ops p R kn E H K
    | none => none
  | .imm i p, R, kn, E, H, K => match ops[i]? with
    | some o => immC T ops o kn E H fun kn E H => plC P T X call ops p R kn E H K
    | none => none
  | .fork a p b q r, R, kn, E, H, K =>
    match (match ops[a]? with | some o => opC P T X call ops o kn E H fun kn E H => plC P T X call ops p S3 kn E H fun kn E H => some ⟨kn, E, H⟩ | none => none) with
    | none => none
    | some s => match (match ops[b]? with | some o => opC P T X call ops o kn E H fun kn E H => plC P T X call ops q S3 kn E H fun kn E H => some ⟨kn, E, H⟩ | none => none) with
      | none => none
      | some t => reqC (eqKn t.kn s.kn && eqET t.E s.E && eqH t.H s.H && (szC s.E).isSome) (plC P T X call ops r R s.kn s.E s.H K)

theorem plC_s (hT : TOk P T) (hX : XtOk P T X) (hc : CallOk P call) {ops : Array Oper} : ∀ {p : Pl} {R : Type} {kn : List (Nat × Bool)} {E : ET} (hw : E.wf) {H : List ABlk} {K : List (Nat × Bool) → ET → List ABlk → Option R} {J : List (Nat × Bool) → List AV → List ABlk → Prop} {r : R},
    plC P T X call ops p R kn E H K = some r → (∀ kn (E : ET) H, E.wf → K kn E H = some r → J kn E.toL H) → AF P T ops p kn J E.toL H
  | .nil, R, kn, E, hw, H, K, J, r, h, hk => AF.nil (hk _ _ _ hw h)
  | .one i p, R, kn, E, hw, H, K, J, r, h, hk => by
    unfold plC at h
    cases ho : ops[i]? <;> simp only [ho] at h <;> try (cases h; done)
    exact AF.one hT ho (opC_s hX hc hw h fun kn E H hw h => plC_s hT hX hc hw h hk)
  | .imm i p, R, kn, E, hw, H, K, J, r, h, hk => by
    unfold plC at h
    cases ho : ops[i]? <;> simp only [ho] at h <;> try (cases h; done)
    obtain ⟨t, x, h1, h2, h3⟩ := immC_s (K' := fun kn E H => AF P T ops p kn J E H) hw h fun kn E H hw h => plC_s hT hX hc hw h hk
    rcases h2 with h2 | ⟨g, h2, h4⟩
    · exact AF.imm hT ho h1 h2 h3
    · exact AF.immG hT ho h1 h2 h4 h3
  | .fork a p b q r', R, kn, E, hw, H, K, J, r, h, hk => by
    unfold plC at h
    split at h <;> try (cases h; done)
    rename_i s h1
    split at h <;> try (cases h; done)
    rename_i t h2
    obtain ⟨h3, h⟩ := reqC_s h
    simp only [Bool.and_eq_true] at h3
    have e1 := eqKn_s _ _ h3.1.1.1
    have e2 := eqET_s _ _ h3.1.1.2
    have e3 := eqH_s _ _ h3.1.2
    obtain ⟨n, hn⟩ := Option.isSome_iff_exists.1 h3.2
    have hws := (szC_s hn).1
    cases hoa : ops[a]? <;> simp only [hoa] at h1 <;> try (cases h1; done)
    cases hob : ops[b]? <;> simp only [hob] at h2 <;> try (cases h2; done)
    refine AF.meet s.kn s.E.toL s.H (AH.of hT hoa (opC_s hX hc hw h1 fun kn E H hw h => plC_s hT hX hc hw h fun kn E H hw h => ?_))
      (AH.of hT hob (opC_s hX hc hw h2 fun kn E H hw h => plC_s hT hX hc hw h fun kn E H hw h => ?_)) (plC_s hT hX hc hws h hk)
    · cases h; exact ⟨rfl, rfl, rfl⟩
    · cases h; exact ⟨e1, by rw [← e2], e3⟩

/-! ### a region in all of its orders -/
inductive Od where
  | done
  | one (i : Nat) (r : Od)
  | imm (i : Nat) (r : Od)
  | alt (i : Nat) (r s : Od)
  | no

/-- what may come first -/
def Od.heads : Od → List Nat
  | .alt i _ s => i :: s.heads
  | _ => []

mutual
def odOk (ops : Array Oper) (d : List Nat) (f : Nat) : Od → Bool
  | .done => Region.ready .any ops (unl ops d) == []
  | .one i r => match f with
    | f + 1 => oneOk ops (unl ops d) i && odOk ops (i :: d) f r
    | 0 => false
  | .imm i r => match f with
    | f + 1 => immOk ops (unl ops d) i && odOk ops (i :: d) f r
    | 0 => false
  | .alt i r s => match f with
    | f + 1 => (Region.ready .any ops (unl ops d) == i :: s.heads) && odOk ops (i :: d) f r && odOks ops d f s
    | 0 => false
  | .no => false
def odOks (ops : Array Oper) (d : List Nat) (f : Nat) : Od → Bool
  | .alt i r s => odOk ops (i :: d) f r && odOks ops d f s
  | .no => true
  | _ => false
end

mutual
noncomputable def odC (P : Program) (T : Nat → TI) (X : Xt) (call : CallC) (ops : Array Oper) : Od → List (Nat × Bool) → ET → List ABlk → Option S3
  | .done, kn, E, H => some ⟨[], E, H⟩
  | .one i p, kn, E, H => match ops[i]? with
    | some o => opC P T X call ops o kn E H fun kn E H => odC P T X call ops p kn E H
    | none => none
  | .imm i p, kn, E, H => match ops[i]? with
    | some o => cond o.guard.isNone (immC T ops o kn E H fun kn E H => odC P T X call ops p kn E H) none
    | none => none
  | .alt i p q, kn, E, H => match ops[i]? with
    | some o => match opC P T X call ops o kn E H fun kn E H => odC P T X call ops p kn E H with
      | some s => cond (odsC P T X call ops q s kn E H) (some s) none
      | none => none
    | none => none
  | .no, kn, E, H => none
noncomputable def odsC (P : Program) (T : Nat → TI) (X : Xt) (call : CallC) (ops : Array Oper) : Od → S3 → List (Nat × Bool) → ET → List ABlk → Bool
  | .alt i p q, s, kn, E, H => match ops[i]? with
    | some o => match opC P T X call ops o kn E H fun kn E H => odC P T X call ops p kn E H with
      | some t => eqET t.E s.E && eqH t.H s.H && odsC P T X call ops q s kn E H
      | none => false
    | none => false
  | .no, s, kn, E, H => true
  | _, _, _, _, _ => false
end

mutual
theorem odC_s (hT : TOk P T) (hX : XtOk P T X) (hc : CallOk P call) {ops : Array Oper} : ∀ (p : Od) {d : List Nat} {f : Nat} {kn : List (Nat × Bool)} {E : ET} (hw : E.wf) {H : List ABlk} {J : List AV → List ABlk → Prop} {s : S3},
    odOk ops d f p = true → odC P T X call ops p kn E H = some s → J s.E.toL s.H → AG P T ops d f kn J E.toL H
  | .done, d, f, kn, E, hw, H, J, s, ho, h, hk => by
    simp only [odC] at h; cases h
    exact AG.done (by simpa [odOk] using ho) hk
  | .one i p, d, f, kn, E, hw, H, J, s, ho, h, hk => by
    cases f <;> simp only [odOk, Bool.and_eq_true] at ho <;> try (cases ho; done)
    simp only [odC] at h
    cases hi : ops[i]? <;> simp only [hi] at h <;> try (cases h; done)
    exact AG.one hT i hi ho.1 (opC_s hX hc hw h fun kn E H hw h => odC_s hT hX hc p hw ho.2 h hk)
  | .imm i p, d, f, kn, E, hw, H, J, s, ho, h, hk => by
    cases f <;> simp only [odOk, Bool.and_eq_true] at ho <;> try (cases ho; done)
    simp only [odC] at h
    cases hi : ops[i]? <;> simp only [hi] at h <;> try (cases h; done)
    rename_i o
    cases hg : o.guard.isNone <;> simp only [hg, cond] at h <;> try (cases h; done)
    obtain ⟨t, x, h1, h2, h3⟩ := immC_s (K' := fun kn E H => AG P T ops (i :: d) _ kn J E H) hw h fun kn E H hw h => odC_s hT hX hc p hw ho.2 h hk
    exact AG.imm hT i hi h1 (by simpa using hg) ho.1 h3
  | .alt i p q, d, f, kn, E, hw, H, J, s, ho, h, hk => by
    cases f <;> simp only [odOk, Bool.and_eq_true] at ho <;> try (cases ho; done)
    simp only [odC] at h
    cases hi : ops[i]? <;> simp only [hi] at h <;> try (cases h; done)
    split at h <;> try (cases h; done)
    rename_i s' h1
    cases hq : odsC P T X call ops q s' kn E H <;> simp only [hq, cond] at h <;> cases h
    exact AG.alt i q.heads ho.1.1 (AGs.cons hT hi (opC_s hX hc hw h1 fun kn E H hw h => odC_s hT hX hc p hw ho.1.2 h hk) (odsC_s hT hX hc q hw ho.2 hq hk))
  | .no, d, f, kn, E, hw, H, J, s, ho, h, hk => by simp only [odOk] at ho; cases ho
theorem odsC_s (hT : TOk P T) (hX : XtOk P T X) (hc : CallOk P call) {ops : Array Oper} : ∀ (p : Od) {d : List Nat} {f : Nat} {kn : List (Nat × Bool)} {E : ET} (hw : E.wf) {H : List ABlk} {J : List AV → List ABlk → Prop} {s : S3},
    odOks ops d f p = true → odsC P T X call ops p s kn E H = true → J s.E.toL s.H → AGs P T ops p.heads d f kn J E.toL H
  | .alt i p q, d, f, kn, E, hw, H, J, s, ho, h, hk => by
    simp only [odOks, Bool.and_eq_true] at ho
    simp only [odsC] at h
    cases hi : ops[i]? <;> simp only [hi] at h <;> try (cases h; done)
    split at h <;> try (cases h; done)
    rename_i t h1
    simp only [Bool.and_eq_true] at h
    have e2 := eqET_s _ _ h.1.1
    have e3 := eqH_s _ _ h.1.2
    exact AGs.cons hT hi (opC_s hX hc hw h1 fun kn E H hw h => odC_s hT hX hc p hw ho.1 h (by rw [e2, e3]; exact hk)) (odsC_s hT hX hc q hw ho.2 h.2 hk)
  | .no, d, f, kn, E, hw, H, J, s, ho, h, hk => AGs.nil
  | .done, d, f, kn, E, hw, H, J, s, ho, h, hk => by simp only [odOks] at ho; cases ho
  | .one i p, d, f, kn, E, hw, H, J, s, ho, h, hk => by simp only [odOks] at ho; cases ho
  | .imm i p, d, f, kn, E, hw, H, J, s, ho, h, hk => by simp only [odOks] at ho; cases ho
end

/-! ### code -/
inductive Rp where
  | pl (p : Pl)
  | od (p : Od)

def plr : List (Nat × Rp) → Nat → Option Rp
  | [], _ => none
  | x :: r, i => cond (Nat.beq x.1 i) (some x.2) (plr r i)
def plk : List (Nat × List (Nat × Rp)) → Nat → Nat → Option Rp
  | [], _, _ => none
  | x :: r, f, i => cond (Nat.beq x.1 f) (plr x.2 i) (plk r f i)

noncomputable def codeC (P : Program) (T : Nat → TI) (X : Xt) (call : CallC) (pl : Nat → Option Rp) (R : Type) (n : Nat) : Code → ET → List ABlk → (Exit → ET → List ABlk → Option R) → Option R :=
  @Nat.rec (fun _ => Code → ET → List ABlk → (Exit → ET → List ABlk → Option R) → Option R) (fun _ _ _ _ => none) (fun _ g c E H K => match c with
    | .skip => K .normal E H
    | .region id ops draw => match draw with
      | false => opsC P T X call ops ops.toList [] E H fun E H => K .normal E H
      | true => match pl id with
        | some p => match p with
          | .pl p => reqC (planOk ops p [] && Region.noSelect ops && Nat.ble (planLen p) ops.size) (plC P T X call ops p R [] E H fun _ E H => K .normal E H)
          | .od p => reqC (odOk ops [] ops.size p && Region.noSelect ops) (match odC P T X call ops p [] E H with | some s => reqC (szC s.E).isSome (K .normal s.E s.H) | none => none)
        | none => none
    | .seq x y => g x E H fun e E H => match e with
      | .normal => g y E H K
      | e => K e E H
    | .cond c x y => evC E c fun v => match v with
      | .v v => match v with
        | .bool t => cond t (g x E H K) (g y E H K)
        | _ => none
      | _ => none
    | .block id c => g c E H fun e E H => match e with
      | .exit i => cond (Nat.beq i id) (K .normal E H) (K (.exit i) E H)
      | e => K e E H
    | .loop c => g c E H fun e E H => match e with
      | .normal => g (.loop c) E H K
      | e => K e E H
    | .exit i => K (.exit i) E H
    | .ret => K .ret E H
    | .label _ => K .normal E H
    | .scope c => g c E H fun e E H => match e with
      | .goto _ => none
      | e => K e E H
    | _ => none) n

theorem codeC_s (hT : TOk P T) (hm : P.follows .mixedOrders = true) (hX : XtOk P T X) (hc : CallOk P call) {pl : Nat → Option Rp} {R : Type} {k : Nat} : ∀ (n : Nat),
    (∀ (c : Code) {E : ET} (hw : E.wf) {H : List ABlk} {K : Exit → ET → List ABlk → Option R} {Q : Exit → List AV → List ABlk → Prop} {r : R}, codeC P T X call pl R n c E H K = some r → (∀ e (E : ET) H, E.wf → K e E H = some r → Q e E.toL H) → AW P T k c Q E.toL H) ∧
    (∀ (c : Code) {E : ET} (hw : E.wf) {H : List ABlk} {K : Exit → ET → List ABlk → Option R} {Q : Exit → List AV → List ABlk → Prop} {r : R}, codeC P T X call pl R n (.loop c) E H K = some r → (∀ e (E : ET) H, E.wf → K e E H = some r → Q e E.toL H) → ALp P k c Q E.toL H)
  | 0 => ⟨fun c {E} hw {H K Q r} h hk => (by cases h), fun c {E} hw {H K Q r} h hk => by cases h⟩
  | n + 1 => by
    obtain ⟨ih1, ih2⟩ := codeC_s hT hm hX hc (pl := pl) (R := R) (k := k) n
    have hloop : ∀ (c : Code) {E : ET} (hw : E.wf) {H : List ABlk} {K : Exit → ET → List ABlk → Option R} {Q : Exit → List AV → List ABlk → Prop} {r : R}, codeC P T X call pl R (n + 1) (.loop c) E H K = some r → (∀ e (E : ET) H, E.wf → K e E H = some r → Q e E.toL H) → ALp P k c Q E.toL H := by
      intro c E hw H K Q r h hk
      have h : codeC P T X call pl R n c E H (fun e E H => match e with
        | .normal => codeC P T X call pl R n (.loop c) E H K
        | e => K e E H) = some r := h
      refine ALp.step (T := T) (ih1 c hw h fun e E H hw h => ?_)
      cases e <;> first
        | exact ih2 c hw h hk
        | exact hk _ _ _ hw h
    refine ⟨fun c {E} hw {H K Q r} h hk => ?_, hloop⟩
    cases c with
    | skip => exact AW.skip (hk _ _ _ hw h)
    | region id ops draw =>
      cases draw with
      | false => exact AW.region (opsC_s hT hX hc hw h fun E H hw h => hk _ _ _ hw h)
      | true =>
        have h : (match pl id with
          | some p => match p with
            | .pl p => reqC (planOk ops p [] && Region.noSelect ops && Nat.ble (planLen p) ops.size) (plC P T X call ops p R [] E H fun _ E H => K .normal E H)
            | .od p => reqC (odOk ops [] ops.size p && Region.noSelect ops) (match odC P T X call ops p [] E H with | some s => reqC (szC s.E).isSome (K .normal s.E s.H) | none => none)
          | none => none) = some r := h
        cases hp : pl id <;> simp only [hp] at h <;> try (cases h; done)
        rename_i p
        cases p with
        | pl p =>
          obtain ⟨h1, h⟩ := reqC_s h
          exact AW.plan hm p h1 (plC_s hT hX hc hw h fun kn E H hw h => hk _ _ _ hw h)
        | od p =>
          obtain ⟨h1, h⟩ := reqC_s h
          simp only [Bool.and_eq_true] at h1
          split at h <;> try (cases h; done)
          rename_i s hs
          obtain ⟨h2, h⟩ := reqC_s h
          obtain ⟨m, hn⟩ := Option.isSome_iff_exists.1 h2
          exact AW.orders hm h1.2 ops.size rfl (odC_s hT hX hc p hw h1.1 hs (hk _ _ _ (szC_s hn).1 h))
    | seq x y =>
      have h : codeC P T X call pl R n x E H (fun e E H => match e with
        | .normal => codeC P T X call pl R n y E H K
        | e => K e E H) = some r := h
      refine AW.seq (ih1 x hw h fun e E H hw h => ?_)
      cases e <;> first
        | exact ih1 y hw h hk
        | exact hk _ _ _ hw h
    | cond c x y =>
      have h : (evC E c fun v => match v with
        | .v v => match v with
          | .bool t => cond t (codeC P T X call pl R n x E H K) (codeC P T X call pl R n y E H K)
          | _ => none
        | _ => none) = some r := h
      refine AW.cond (evC_s hw h fun v h => ?_)
      cases v <;> simp only at h ⊢ <;> try (cases h; done)
      rename_i v
      cases v <;> simp only at h ⊢ <;> try (cases h; done)
      rename_i t
      cases t <;> simp only [_root_.cond] at h
      · exact ACond.no rfl (ih1 y hw h hk)
      · exact ACond.yes rfl (ih1 x hw h hk)
    | block id c =>
      have h : codeC P T X call pl R n c E H (fun e E H => match e with
        | .exit i => cond (Nat.beq i id) (K .normal E H) (K (.exit i) E H)
        | e => K e E H) = some r := h
      refine AW.block (ih1 c hw h fun e E H hw h => ?_)
      cases e <;> simp only at h ⊢ <;> first
        | exact hk _ _ _ hw h
        | skip
      rename_i i
      cases hb : Nat.beq i id <;> simp only [hb, _root_.cond] at h ⊢ <;> exact hk _ _ _ hw h
    | loop c => exact AW.loop (ALoop.un (hloop c hw h hk))
    | exit i => exact AW.exit (hk _ _ _ hw h)
    | ret => exact AW.ret (hk _ _ _ hw h)
    | label l => exact AW.label (hk _ _ _ hw h)
    | scope c =>
      have h : codeC P T X call pl R n c E H (fun e E H => match e with
        | .goto _ => none
        | e => K e E H) = some r := h
      refine AW.scope (ih1 c hw h fun e E H hw h => ?_)
      cases e <;> simp only at h ⊢ <;> first
        | (cases h; done)
        | exact hk _ _ _ hw h
    | _ => cases h

/-! ### a function -/
noncomputable def setsC {R : Type} (vs : List AV) : Nat → ET → (ET → Option R) → Option R :=
  @List.rec AV (fun _ => Nat → ET → (ET → Option R) → Option R) (fun _ E K => K E) (fun v _ g i E K => E.setC i v fun E => g (Nat.succ i) E K) vs
def setsL : List AV → Nat → List AV → List AV
  | [], _, E => E
  | v :: vs, i, E => setsL vs (i + 1) (E.set i v)
theorem setsC_s {R : Type} : ∀ {vs : List AV} {i : Nat} {E : ET} (hw : E.wf) {K : ET → Option R} {r : R}, setsC vs i E K = some r → ∃ E' : ET, K E' = some r ∧ E'.wf ∧ E'.toL = setsL vs i E.toL
  | [], i, E, hw, K, r, h => ⟨E, h, hw, rfl⟩
  | v :: vs, i, E, hw, K, r, h => by
    have h : E.setC i v (fun E => setsC vs (i + 1) E K) = some r := h
    obtain ⟨E1, h1, h2, h3⟩ := ET.setC_s _ _ _ _ _ hw h
    obtain ⟨E2, h4, h5, h6⟩ := setsC_s h2 h1
    exact ⟨E2, h4, h5, by rw [h6, h3]; rfl⟩
theorem setsL_eq : ∀ (vs A B : List AV), vs.length ≤ B.length → setsL vs A.length (A ++ B) = A ++ vs ++ B.drop vs.length
  | [], A, B, _ => by simp [setsL]
  | v :: vs, A, [], h => by simp at h
  | v :: vs, A, b :: B, h => by
    have e : (A ++ b :: B).set A.length v = (A ++ [v]) ++ B := by simp
    rw [setsL, e, show A.length + 1 = (A ++ [v]).length by simp, setsL_eq vs (A ++ [v]) B (by simpa using h)]
    simp
theorem pad_sets {vs : List AV} {n : Nat} (h : vs.length ≤ n) : setsL vs 0 (List.replicate n .any) = pad vs n := by
  have := setsL_eq vs [] (List.replicate n .any) (by simpa using h)
  simp only [List.length_nil, List.nil_append] at this
  rw [this, pad_eq]
  simp

noncomputable def resC {R : Type} (T : Nat → TI) (E : ET) (H : List ABlk) : List ResultVar → (List AV → Option R) → Option R
  | [], K => K []
  | r :: rs, K => match r with
    | .tmp t => resC T E H rs fun xs => K (E.get t :: xs)
    | .cell a t => loadAtC T H t (E.get a) fun x => resC T E H rs fun xs => K (x :: xs)
theorem resC_s {R : Type} {E : ET} (hw : E.wf) {H : List ABlk} : ∀ {rs : List ResultVar} {K : List AV → Option R} {K' : List AV → Prop} {r : R}, resC T E H rs K = some r → (∀ v, K v = some r → K' v) → resK T E.toL H rs K'
  | [], K, K', r, h, hk => hk _ h
  | q :: rs, K, K', r, h, hk => by
    unfold resC at h; unfold resK
    cases q <;> simp only [fv_eq] at h ⊢
    · rw [← ET.get_eq _ _ hw]
      exact resC_s hw h fun v h => hk _ h
    · rw [← ET.get_eq _ _ hw]
      exact loadAtC_s h fun x h => resC_s hw h fun v h => hk _ h

/-! ### what nobody names any more is given up -/
mutual
def below (k : Nat) : AV → Bool
  | .any => true
  | .v _ => true
  | .agg xs => belowL k xs
  | .tup xs => belowL k xs
  | .vs _ _ xs => belowL k xs
  | .vx _ _ xs => belowL k xs
  | .ip xs => belowL k xs
  | .ms _ l _ _ => Nat.blt l k
  | .ptr l _ => Nat.blt l k
  | .pe l _ _ _ _ => Nat.blt l k
  | .mp l => Nat.blt l k
  | .fn _ fs cs => belowL k fs && belowL k cs
def belowL (k : Nat) : List AV → Bool
  | [] => true
  | x :: xs => below k x && belowL k xs
end
theorem blt_lt {l k : Nat} (h : Nat.blt l k = true) : l < k := Nat.le_of_ble_eq_true h
mutual
theorem below_s {k : Nat} {ρ : Nat → Nat} (hρ : ∀ l, l < k → ρ l = l) : ∀ x : AV, below k x = true → x.ren ρ = x
  | .any, _ => rfl
  | .v _, _ => rfl
  | .agg xs, h => by simp only [below] at h; simp only [AV.ren, belowL_s hρ xs h]
  | .tup xs, h => by simp only [below] at h; simp only [AV.ren, belowL_s hρ xs h]
  | .vs _ _ xs, h => by simp only [below] at h; simp only [AV.ren, belowL_s hρ xs h]
  | .vx _ _ xs, h => by simp only [below] at h; simp only [AV.ren, belowL_s hρ xs h]
  | .ip xs, h => by simp only [below] at h; simp only [AV.ren, belowL_s hρ xs h]
  | .ms _ l _ _, h => by simp only [below] at h; simp only [AV.ren, hρ l (blt_lt h)]
  | .ptr l _, h => by simp only [below] at h; simp only [AV.ren, hρ l (blt_lt h)]
  | .pe l _ _ _ _, h => by simp only [below] at h; simp only [AV.ren, hρ l (blt_lt h)]
  | .mp l, h => by simp only [below] at h; simp only [AV.ren, hρ l (blt_lt h)]
  | .fn _ fs cs, h => by simp only [below, Bool.and_eq_true] at h; simp only [AV.ren, belowL_s hρ fs h.1, belowL_s hρ cs h.2]
theorem belowL_s {k : Nat} {ρ : Nat → Nat} (hρ : ∀ l, l < k → ρ l = l) : ∀ xs : List AV, belowL k xs = true → renL ρ xs = xs
  | [], _ => rfl
  | x :: xs, h => by simp only [belowL, Bool.and_eq_true] at h; simp only [renL, below_s hρ x h.1, belowL_s hρ xs h.2]
end
def belowE (k : Nat) : List (AV × AV) → Bool
  | [] => true
  | p :: r => below k p.1 && below k p.2 && belowE k r
theorem belowE_s {k : Nat} {ρ : Nat → Nat} (hρ : ∀ l, l < k → ρ l = l) : ∀ es : List (AV × AV), belowE k es = true → (es.map fun x => (x.1.ren ρ, x.2.ren ρ)) = es
  | [], _ => rfl
  | p :: r, h => by
    simp only [belowE, Bool.and_eq_true] at h
    simp only [List.map_cons, below_s hρ _ h.1.1, below_s hρ _ h.1.2, belowE_s hρ r h.2]
def belowB (k : Nat) : ABlk → Bool
  | .dead => true
  | .cells _ xs => belowL k xs
  | .ice _ xs => belowL k xs
  | .map es _ _ => belowE k es
  | .obj _ => true
  | _ => false
theorem belowB_s {k : Nat} {ρ : Nat → Nat} (hρ : ∀ l, l < k → ρ l = l) (b : ABlk) (h : belowB k b = true) : b.ren ρ = b := by
  cases b <;> simp only [belowB] at h <;> try (cases h; done)
  · rfl
  · simp only [ABlk.ren, belowL_s hρ _ h]
  · simp only [ABlk.ren, belowL_s hρ _ h]
  · simp only [ABlk.ren, belowE_s hρ _ h]
  · rfl
def belowH (k : Nat) : Nat → List ABlk → Bool
  | 0, _ => true
  | _ + 1, [] => false
  | n + 1, b :: H => belowB k b && belowH k n H
theorem belowH_s {k : Nat} : ∀ {n : Nat} {H : List ABlk}, belowH k n H = true → n ≤ H.length ∧ ∀ i b, i < n → H[i]? = some b → belowB k b = true
  | 0, H, h => ⟨Nat.zero_le _, fun i b hi => by omega⟩
  | n + 1, [], h => by cases h
  | n + 1, c :: H, h => by
    simp only [belowH, Bool.and_eq_true] at h
    obtain ⟨h1, h2⟩ := belowH_s h.2
    refine ⟨by simp; exact h1, fun i b hi hb => ?_⟩
    cases i with
    | zero => simp at hb; rw [← hb]; exact h.1
    | succ i => exact h2 i b (by omega) (by simpa using hb)
theorem nm_range (k N l : Nat) (h : l < k) : nm (List.range k) N l = l := by
  have := nm_lt (rl := List.range k) (N := N) (l := l) (by simpa using h)
  rw [List.getElem?_range h] at this
  exact (Option.some.inj this).symm
theorem picks_id {H : List ABlk} {ρ : Nat → Nat} : ∀ {n i : Nat}, (∀ j b, i ≤ j → j < i + n → H[j]? = some b → b.ren ρ = b) → i + n ≤ H.length → Picks ρ H ((List.range n).map (i + ·)) ((H.drop i).take n)
  | 0, i, _, _ => by simpa using Picks.nil
  | n + 1, i, h, hl => by
    have hi : i < H.length := by omega
    rw [List.range_succ_eq_map, List.map_cons, List.map_map, List.drop_eq_getElem_cons hi, List.take_succ_cons]
    refine .same (by rw [h i H[i] (Nat.le_refl _) (by omega) (List.getElem?_eq_getElem hi)]; exact List.getElem?_eq_getElem hi) ?_
    have := picks_id (ρ := ρ) (n := n) (i := i + 1) (fun j b h1 h2 hb => h j b (by omega) (by omega) hb) (by omega)
    have e : ((fun x => i + x) ∘ Nat.succ) = fun x => i + 1 + x := by funext x; simp only [Function.comp, Nat.succ_eq_add_one]; omega
    rw [Nat.add_zero, e]
    exact this
theorem Conv.trim {k : Nat} {x : AV} {H : List ABlk} (hx : below k x = true) (hH : belowH k k H = true) : Conv k [x] H [x] (H.take k) := by
  obtain ⟨h1, h2⟩ := belowH_s hH
  have hρ : ∀ N l, l < k → nm (List.range k) N l = l := fun N l hl => nm_range k N l hl
  refine Conv.ren (List.range k) [x] (fun i hi => List.getElem?_range hi) List.nodup_range ?_ ?_
  · intros; simp only [renL, below_s (hρ _) x hx]; exact Fit.refl _
  · have := picks_id (H := H) (ρ := nm (List.range k) H.length) (n := k) (i := 0) (fun j b _ hj hb => belowB_s (hρ _) b (h2 j b (by omega) hb)) (by omega)
    simpa using this
noncomputable def takeH {R : Type} (H : List ABlk) (n : Nat) (K : List ABlk → Option R) : Option R :=
  @Nat.rec (fun _ => List ABlk → (List ABlk → Option R) → Option R) (fun _ K => K []) (fun _ g xs K => @List.casesOn ABlk (fun _ => Option R) xs none (fun x xs => g xs fun ys => K (x :: ys))) n H K
theorem takeH_s {R : Type} : ∀ {n : Nat} {xs : List ABlk} {K : List ABlk → Option R} {r : R}, takeH xs n K = some r → n ≤ xs.length ∧ K (xs.take n) = some r
  | 0, xs, K, r, h => ⟨Nat.zero_le _, by rw [List.take_zero]; exact h⟩
  | n + 1, [], K, r, h => by cases h
  | n + 1, x :: xs, K, r, h => by
    have := takeH_s (n := n) (xs := xs) (K := fun ys => K (x :: ys)) h
    exact ⟨by simp; exact this.1, by simpa using this.2⟩
noncomputable def endC {R : Type} (gc : Bool) (k : Nat) (x : AV) (H : List ABlk) (K : AV → List ABlk → Option R) : Option R :=
  cond gc (cond (below k x && belowH k k H) (takeH H k fun H => K x H) (K x H)) (K x H)
theorem endC_s {R : Type} {gc : Bool} {k : Nat} {x : AV} {H : List ABlk} {K : AV → List ABlk → Option R} {r : R} (h : endC gc k x H K = some r) : AFin k x H fun v H' => K v H' = some r := by
  unfold endC at h
  cases gc with
  | false => exact AFin.mk h
  | true =>
    cases hb : (below k x && belowH k k H) <;> simp only [hb, cond] at h
    · exact AFin.mk h
    · simp only [Bool.and_eq_true] at hb
      obtain ⟨_, h⟩ := takeH_s h
      exact AFin.to x (H.take k) (Conv.trim hb.1 hb.2) h

noncomputable def funC (P : Program) (T : Nat → TI) (X : Xt) (pl : Nat → Nat → Option Rp) (N : Nat) (n : Nat) : CallC :=
  @Nat.rec (fun _ => CallC) (fun _ _ _ _ _ => none) (fun _ g R f args H K => match X.ext f with
    | true => xC (X.call f args H) K
    | false => match P.funcs[f]? with
      | some fn => match fn.body with
        | some c => reqC (Nat.ble 1 fn.ntmps && Nat.ble fn.ntmps 4096 && Nat.ble args.length fn.ntmps) <| lenC H fun k => setsC args 0 (anyT 12 fn.ntmps) fun E =>
            codeC P T X g (pl f) R N c E H fun e E H => match e with
              | .normal => resC T E H fn.results.toList fun xs => match xs with | [] => endC (X.gc f) k (.tup []) H K | x :: r => match r with | [] => endC (X.gc f) k x H K | y :: r => endC (X.gc f) k (.tup (x :: y :: r)) H K
              | .ret => resC T E H fn.results.toList fun xs => match xs with | [] => endC (X.gc f) k (.tup []) H K | x :: r => match r with | [] => endC (X.gc f) k x H K | y :: r => endC (X.gc f) k (.tup (x :: y :: r)) H K
              | _ => none
        | none => none
      | none => none) n

theorem funC_s (hT : TOk P T) (hm : P.follows .mixedOrders = true) (hX : XtOk P T X) {pl : Nat → Nat → Option Rp} {N : Nat} : ∀ n, CallOk P (funC P T X pl N n)
  | 0 => fun R g args H K r h => by cases h
  | n + 1 => fun R f args H K r h => by
    have hc := funC_s hT hm hX (pl := pl) (N := N) n
    have h : (match X.ext f with
      | true => xC (X.call f args H) K
      | false => match P.funcs[f]? with
        | some fn => match fn.body with
          | some c => reqC (Nat.ble 1 fn.ntmps && Nat.ble fn.ntmps 4096 && Nat.ble args.length fn.ntmps) <| lenC H fun k => setsC args 0 (anyT 12 fn.ntmps) fun E =>
              codeC P T X (funC P T X pl N n) (pl f) R N c E H fun e E H => match e with
                | .normal => resC T E H fn.results.toList fun xs => match xs with | [] => endC (X.gc f) k (.tup []) H K | x :: r => match r with | [] => endC (X.gc f) k x H K | y :: r => endC (X.gc f) k (.tup (x :: y :: r)) H K
                | .ret => resC T E H fn.results.toList fun xs => match xs with | [] => endC (X.gc f) k (.tup []) H K | x :: r => match r with | [] => endC (X.gc f) k x H K | y :: r => endC (X.gc f) k (.tup (x :: y :: r)) H K
                | _ => none
          | none => none
        | none => none) = some r := h
    split at h
    · obtain ⟨v, H', h1, h2⟩ := xC_s h
      exact (hX.call _ _ _ _ _ h1).mono fun r' H'' ⟨e1, e2⟩ => by rw [e1, e2]; exact h2
    · split at h <;> try (cases h; done)
      rename_i fn hf
      split at h <;> try (cases h; done)
      rename_i c hb
      obtain ⟨h1, h⟩ := reqC_s h
      simp only [Bool.and_eq_true] at h1
      have h2 := Nat.le_of_ble_eq_true h1.1.1
      have h3 := Nat.le_of_ble_eq_true h1.1.2
      have h4 := Nat.le_of_ble_eq_true h1.2
      obtain ⟨w1, w2⟩ := anyT_s 12 fn.ntmps h2 h3
      rw [lenC_eq] at h
      obtain ⟨E, h5, h6, h7⟩ := setsC_s w1 h
      refine spec_of hT hf hb ?_
      rw [w2, pad_sets h4] at h7
      rw [← h7]
      refine (codeC_s hT hm hX hc N).1 c h6 h5 fun e E H hw h => ?_
      have hres : ∀ k, (resC T E H fn.results.toList fun xs => match xs with | [] => endC (X.gc f) k (.tup []) H K | x :: r => match r with | [] => endC (X.gc f) k x H K | y :: r => endC (X.gc f) k (.tup (x :: y :: r)) H K) = some r → resultK T fn.results.toList E.toL H (fun x H' => AFin k x H' fun v H' => K v H' = some r) := by
        intro k h
        unfold resultK
        refine resC_s hw h fun xs h => ?_
        cases xs with
        | nil => exact endC_s h
        | cons x xs => cases xs <;> exact endC_s h
      cases e <;> first
        | exact hres _ h
        | (cases h; done)

theorem Spec.run (hT : TOk P T) (hm : P.follows .mixedOrders = true) (hX : XtOk P T X) (pl : Nat → Nat → Option Rp) (N n : Nat) {f : Nat} {args : List AV} {H H' : List ABlk} {v : AV}
    (h : (match funC P T X pl N n Bool f args H (fun x H2 => some (eqAV x v && eqH H2 H')) with | some b => b | none => false) = true) : Spec P f args H (fun r H2 => r = v ∧ H2 = H') := by
  split at h <;> try (cases h; done)
  rename_i b hb
  refine (funC_s hT hm hX n _ _ _ _ _ _ hb).mono fun r H h1 => ?_
  simp only [Option.some.injEq] at h1
  rw [← h1] at h
  simp only [Bool.and_eq_true] at h
  exact ⟨eqAV_s _ _ h.1, eqH_s _ _ h.2⟩
end
end Go.Aw

/-
  Aw, part 45: closed calls are computed: maps.
-/
set_option linter.unusedSimpArgs false
set_option linter.unusedVariables false
namespace Go.Aw
open Go Go.Maps

/-- keys as they lie -/
def vAV : Value → AV
  | .agg ys => .agg (ys.toList.map fun v => .v v)
  | v => .v v
theorem repL_vs {w : World} {m : Mu} {I : Nat → Prop} : ∀ {xs ys : List Value}, RepL w m I (xs.map fun v => AV.v v) ys → ys = xs
  | [], ys, h => by simpa [RepL] using h
  | x :: xs, ys, h => by
    simp only [List.map_cons, RepL, Rep] at h
    obtain ⟨y, zs, rfl, rfl, h2⟩ := h
    rw [repL_vs h2]
theorem vAV_rep (w : World) (m : Mu) (I : Nat → Prop) (a y : Value) (h : Rep w m I (vAV a) y) : y = a := by
  unfold vAV at h
  split at h
  · simp only [Rep] at h
    obtain ⟨ys, rfl, h1, _⟩ := h
    rw [repL_vs h1]
  · simpa only [Rep] using h
theorem vKE {P : Program} {kt : Nat} (h : Keyed P kt) : KEnc P kt id vAV (fun v => ∃ l, keyOf P kt v = some l) where
  keyed := h
  lit := fun a h => h
  inj := fun a b h => h
  rep := vAV_rep

/-- a key read back -/
noncomputable def keyC (x : AV) : Option Value :=
  match x with
  | .v v => match v with
    | .agg _ => none
    | v => some v
  | .agg xs => match valsOf xs with
    | some vs => some (.agg ⟨vs⟩)
    | none => none
  | _ => none
theorem valsOf_eq : ∀ {xs : List AV} {vs : List Value}, valsOf xs = some vs → xs = vs.map fun v => AV.v v
  | [], vs, h => by simp only [valsOf, Option.some.injEq] at h; subst h; rfl
  | x :: xs, vs, h => by
    cases x <;> simp only [valsOf] at h <;> try (cases h; done)
    split at h
    · rename_i r hr
      cases h
      rw [valsOf_eq hr]; rfl
    · cases h
theorem keyC_s {x : AV} {v : Value} (h : keyC x = some v) : x = vAV v := by
  unfold keyC at h
  cases x <;> simp only at h <;> try (cases h; done)
  · rename_i a
    cases a <;> simp only [Option.some.injEq] at h <;> first
      | (cases h; done)
      | (subst h; rfl)
  · rename_i xs
    split at h
    · rename_i vs hvs
      cases h
      rw [valsOf_eq hvs]; rfl
    · cases h

noncomputable def unkC : List (AV × AV) → Option (List (Value × AV))
  | [] => some []
  | p :: r => match keyC p.1 with
    | some k => match unkC r with
      | some q => some ((k, p.2) :: q)
      | none => none
    | none => none
theorem unkC_s : ∀ {es : List (AV × AV)} {L : List (Value × AV)}, unkC es = some L → es = em vAV id L
  | [], L, h => by simp only [unkC, Option.some.injEq] at h; subst h; rfl
  | p :: r, L, h => by
    simp only [unkC] at h
    split at h <;> try (cases h; done)
    rename_i k hk
    split at h <;> try (cases h; done)
    rename_i q hq
    cases h
    rw [unkC_s hq]
    simp only [em, List.map_cons, id, ← keyC_s hk]

/-! ### keys held against each other -/
noncomputable def veqS : Value → Value → Option Bool
  | .int k a, .int k' b => some (decide (k = k') && decide (a = b))
  | .bool a, .bool b => some (a == b)
  | .string a, .string b => some (eqU a.data.toList b.data.toList)
  | _, _ => none
theorem veqS_s {a b : Value} {t : Bool} (h : veqS a b = some t) : t = true ↔ a = b := by
  unfold veqS at h
  split at h <;> try (cases h; done)
  · simp only [Option.some.injEq] at h; subst h; simp
  · simp only [Option.some.injEq] at h; subst h; simp
  · simp only [Option.some.injEq] at h; subst h
    rw [eqU_eq, beq_iff_eq]
    constructor
    · intro e; rw [ByteArray.ext (Array.ext' e)]
    · intro e; cases e; rfl
noncomputable def veqL : List Value → List Value → Option Bool
  | [], y => match y with | [] => some true | _ :: _ => some false
  | a :: xs, y => match y with
    | [] => some false
    | b :: ys => match veqS a b with
      | some true => veqL xs ys
      | some false => some false
      | none => none
theorem veqL_s : ∀ {xs ys : List Value} {t : Bool}, veqL xs ys = some t → (t = true ↔ xs = ys)
  | [], [], t, h => by simp only [veqL, Option.some.injEq] at h; subst h; simp
  | [], y :: ys, t, h => by simp only [veqL, Option.some.injEq] at h; subst h; simp
  | x :: xs, [], t, h => by simp only [veqL, Option.some.injEq] at h; subst h; simp
  | x :: xs, y :: ys, t, h => by
    simp only [veqL] at h
    split at h <;> try (cases h; done)
    · rename_i hs
      have h1 := (veqS_s hs).1 rfl
      have h2 := veqL_s h
      rw [h2, h1]; simp
    · rename_i hs
      cases h
      have h1 : ¬ x = y := fun e => by have := (veqS_s hs).2 e; cases this
      simp [h1]
noncomputable def veq : Value → Value → Option Bool
  | .agg a, y => match y with | .agg b => veqL a.toList b.toList | _ => none
  | x, y => veqS x y
theorem veq_s {a b : Value} {t : Bool} (h : veq a b = some t) : t = true ↔ a = b := by
  unfold veq at h
  split at h
  · split at h <;> try (cases h; done)
    rw [veqL_s h]
    constructor
    · intro e; rw [Array.ext' e]
    · intro e; cases e; rfl
  · exact veqS_s h

/-- the places of a key -/
noncomputable def fnd (a : Value) : List (Value × AV) → Nat → Option (List (Nat × AV))
  | [], _ => some []
  | p :: r, i => match veq p.1 a with
    | some true => match fnd a r (Nat.succ i) with
      | some q => some ((i, p.2) :: q)
      | none => none
    | some false => fnd a r (Nat.succ i)
    | none => none
theorem fnd_s {a : Value} : ∀ {L : List (Value × AV)} {i : Nat} {q : List (Nat × AV)}, fnd a L i = some q → (∀ j b, L[j]? = some (a, b) → (i + j, b) ∈ q) ∧ (∀ p ∈ L, p.1 = a → q ≠ []) ∧ ∀ x ∈ q, ∃ j, x.1 = i + j ∧ L[j]? = some (a, x.2)
  | [], i, q, h => by simp only [fnd, Option.some.injEq] at h; subst h; simp
  | p :: r, i, q, h => by
    simp only [fnd] at h
    split at h <;> try (cases h; done)
    · rename_i hv
      have e := (veq_s hv).1 rfl
      split at h <;> try (cases h; done)
      rename_i q' hq
      cases h
      obtain ⟨h1, h2, h3⟩ := fnd_s hq
      refine ⟨fun j b hj => ?_, fun p' _ _ => by simp, fun x hx => ?_⟩
      · cases j with
        | zero => simp at hj; rw [hj]; simp
        | succ j =>
          have := h1 j b (by simpa using hj)
          rw [show i + (j + 1) = i.succ + j by omega]
          exact List.mem_cons_of_mem _ this
      · rcases List.mem_cons.1 hx with rfl | hx
        · exact ⟨0, rfl, by simp; exact Prod.ext e rfl⟩
        · obtain ⟨j, e1, e2⟩ := h3 x hx
          exact ⟨j + 1, by omega, by simpa using e2⟩
    · rename_i hv
      have e : ¬ p.1 = a := fun e => by have := (veq_s hv).2 e; cases this
      obtain ⟨h1, h2, h3⟩ := fnd_s h
      refine ⟨fun j b hj => ?_, fun p' hp hpa => ?_, fun x hx => ?_⟩
      · cases j with
        | zero => simp at hj; rw [hj] at e; exact absurd rfl e
        | succ j =>
          have := h1 j b (by simpa using hj)
          rw [show i + (j + 1) = i.succ + j by omega]
          exact this
      · rcases List.mem_cons.1 hp with rfl | hp
        · exact absurd hpa e
        · exact h2 p' hp hpa
      · obtain ⟨j, e1, e2⟩ := h3 x hx
        exact ⟨j + 1, by omega, by simpa using e2⟩

/-! ### operations -/
noncomputable def evV (E : ET) : Operand → Option AV
  | .tmp i => some (E.get i)
  | .const v => some (.v v)
  | .global _ => none
  | .func f => some (.fn f [] [])
theorem evV_s {E : ET} (hw : E.wf) {o : Operand} {x : AV} (h : evV E o = some x) : ev E.toL o = x := by
  cases o <;> simp only [evV] at h <;> cases h
  · rw [ET.get_eq _ _ hw]; rfl
  · rfl
  · rfl

noncomputable def setLC {R α : Type} (xs : List α) (i : Nat) (x : α) (K : List α → Option R) : Option R :=
  @Nat.rec (fun _ => List α → (List α → Option R) → Option R) (fun H K => @List.casesOn α (fun _ => Option R) H none (fun _ H => K (x :: H)))
    (fun _ g H K => @List.casesOn α (fun _ => Option R) H none (fun c H => g H fun H => K (c :: H))) i xs K
theorem setLC_s {R α : Type} : ∀ {l : Nat} {H : List α} {b : α} {K : List α → Option R} {r : R}, setLC H l b K = some r → l < H.length ∧ K (H.set l b) = some r
  | 0, [], b, K, r, h => by cases h
  | 0, c :: H, b, K, r, h => ⟨by simp, h⟩
  | l + 1, [], b, K, r, h => by cases h
  | l + 1, c :: H, b, K, r, h => by
    have := setLC_s (l := l) (H := H) (b := b) (K := fun H => K (c :: H)) h
    exact ⟨by simp; exact this.1, by simpa using this.2⟩
noncomputable def delC {R α : Type} (xs : List α) (i : Nat) (K : List α → Option R) : Option R :=
  @Nat.rec (fun _ => List α → (List α → Option R) → Option R) (fun H K => @List.casesOn α (fun _ => Option R) H none (fun _ H => K H))
    (fun _ g H K => @List.casesOn α (fun _ => Option R) H none (fun c H => g H fun H => K (c :: H))) i xs K
theorem delC_s {R α : Type} : ∀ {l : Nat} {H : List α} {K : List α → Option R} {r : R}, delC H l K = some r → l < H.length ∧ K (H.eraseIdx l) = some r
  | 0, [], K, r, h => by cases h
  | 0, c :: H, K, r, h => ⟨by simp, h⟩
  | l + 1, [], K, r, h => by cases h
  | l + 1, c :: H, K, r, h => by
    have := delC_s (l := l) (H := H) (K := fun H => K (c :: H)) h
    exact ⟨by simp; exact this.1, by simpa using this.2⟩

noncomputable def kOk (P : Program) (dk : Nat → Bool) (kt : Nat) : Bool :=
  match P.underlying kt with
  | some (.int _) => true
  | some .bool => true
  | some .string => true
  | _ => dk kt
theorem kOk_s {P : Program} {dk : Nat → Bool} (hdk : ∀ kt, dk kt = true → Keyed P kt) {kt : Nat} (h : kOk P dk kt = true) : Keyed P kt := by
  unfold kOk at h
  split at h
  · exact int_keyed (by assumption)
  · exact bool_keyed (by assumption)
  · exact string_keyed (by assumption)
  · exact hdk _ h

noncomputable def keyK (P : Program) (dk : Nat → Bool) (kt : Nat) (x : Option AV) : Option Value :=
  match x with
  | some x => match keyC x with
    | some a => cond (kOk P dk kt && (keyOf P kt a).isSome) (some a) none
    | none => none
  | none => none
theorem keyK_s {P : Program} {dk : Nat → Bool} (hdk : ∀ kt, dk kt = true → Keyed P kt) {kt : Nat} {x : Option AV} {a : Value} (h : keyK P dk kt x = some a) : x = some (vAV a) ∧ Keyed P kt ∧ ∃ l, keyOf P kt a = some l := by
  unfold keyK at h
  split at h <;> try (cases h; done)
  split at h <;> try (cases h; done)
  rename_i x a' ha
  cases hb : (kOk P dk kt && (keyOf P kt a').isSome) <;> simp only [hb, cond] at h <;> cases h
  simp only [Bool.and_eq_true] at hb
  exact ⟨by rw [keyC_s ha], kOk_s hdk hb.1, Option.isSome_iff_exists.1 hb.2⟩

noncomputable def oksC (P : Program) (kt : Nat) : List (Value × AV) → Bool
  | [] => true
  | p :: r => (keyOf P kt p.1).isSome && oksC P kt r
theorem oksC_s {P : Program} {kt : Nat} : ∀ {L : List (Value × AV)}, oksC P kt L = true → ∀ p ∈ L, ∃ l, keyOf P kt p.1 = some l
  | [], h, p, hp => by cases hp
  | q :: r, h, p, hp => by
    simp only [oksC, Bool.and_eq_true] at h
    rcases List.mem_cons.1 hp with rfl | hp
    · exact Option.isSome_iff_exists.1 h.1
    · exact oksC_s h.2 p hp

/-- where a key lies in a map -/
structure Fd where
  l : Nat
  L : List (Value × AV)
  es : List (AV × AV)
  bs : List Nat
  clk : Nat
  at_ : Option (Nat × AV)
noncomputable def fdC (P : Program) (kt : Nat) (H : List ABlk) (m : Option AV) (a : Value) : Option Fd :=
  match m with
  | some m => match m with
    | .mp l => blkC H l fun b => match b with
      | .map es bs clk => match unkC es with
        | some L => reqC (oksC P kt L) (match fnd a L 0 with
          | some q => match q with
            | [] => some ⟨l, L, es, bs, clk, none⟩
            | x :: q => match q with
              | [] => some ⟨l, L, es, bs, clk, some x⟩
              | _ :: _ => none
          | none => none)
        | none => none
      | _ => none
    | _ => none
  | none => none
theorem fdC_s {P : Program} {kt : Nat} {H : List ABlk} {m : Option AV} {a : Value} {F : Fd} (h : fdC P kt H m a = some F) : m = some (.mp F.l) ∧ H[F.l]? = some (.map (em vAV id F.L) F.bs F.clk) ∧ F.es = em vAV id F.L ∧ (∀ p ∈ F.L, ∃ l, keyOf P kt p.1 = some l) ∧
    ((F.at_ = none ∧ ∀ p ∈ F.L, p.1 ≠ a) ∨ ∃ j b, F.at_ = some (j, b) ∧ F.L[j]? = some (a, b) ∧ (∃ p ∈ F.L, p.1 = a) ∧ ∀ j' b', F.L[j']? = some (a, b') → j' = j ∧ b' = b) := by
  unfold fdC at h
  split at h <;> try (cases h; done)
  split at h <;> try (cases h; done)
  rename_i l
  obtain ⟨b, h1, h⟩ := blkC_s h
  split at h <;> try (cases h; done)
  rename_i es bs clk
  split at h <;> try (cases h; done)
  rename_i L hL
  obtain ⟨h2, h⟩ := reqC_s h
  split at h <;> try (cases h; done)
  rename_i q hq
  obtain ⟨f1, f2, f3⟩ := fnd_s hq
  have hes := unkC_s hL
  rw [hes] at h1
  cases q with
  | nil =>
    simp only at h
    cases h
    exact ⟨rfl, h1, hes, oksC_s h2, .inl ⟨rfl, fun p hp e => f2 p hp e rfl⟩⟩
  | cons x q =>
    cases q with
    | cons y q => simp only at h; cases h
    | nil =>
      simp only at h
      cases h
      obtain ⟨j, b⟩ := x
      obtain ⟨j0, e1, e2⟩ := f3 (j, b) (by simp)
      simp only [Nat.zero_add] at e1 e2
      subst e1
      refine ⟨rfl, h1, hes, oksC_s h2, .inr ⟨j, b, rfl, e2, ⟨_, List.mem_of_getElem? e2, rfl⟩, fun j' b' hj => ?_⟩⟩
      have := f1 j' b' hj
      simp only [Nat.zero_add, List.mem_singleton, Prod.mk.injEq] at this
      exact this

/-- the place of a stamp -/
noncomputable def stC (s : Nat) : List Nat → Nat → Option Nat
  | [], _ => none
  | b :: r, i => cond (Nat.beq b s) (some i) (stC s r (Nat.succ i))
theorem stC_s {s : Nat} : ∀ {l : List Nat} {i j : Nat}, stC s l i = some j → ∃ k, j = i + k ∧ l[k]? = some s
  | [], i, j, h => by cases h
  | b :: r, i, j, h => by
    simp only [stC] at h
    cases hb : Nat.beq b s <;> simp only [hb, cond] at h
    · obtain ⟨k, e1, e2⟩ := stC_s h
      exact ⟨k + 1, by omega, by simpa using e2⟩
    · cases h
      exact ⟨0, rfl, by simp [Nat.eq_of_beq_eq_true hb]⟩

noncomputable def mapX (P : Program) (T : Nat → TI) (dk : Nat → Bool) (op : Op) (E : ET) (H : List ABlk) : Option (AV × List ABlk) :=
  match op with
  | .makeMap t r => match r with
    | none => newC H (.map [] [] 0) fun l H => some (.mp l, H)
    | some _ => none
  | .lookup t mo ko c => match P.underlying t with
    | some (.map kt et) => okC T et <| match keyK P dk kt (evV E ko) with
      | some a => match evV E mo with
        | some (.v (.map none)) => some (lookRes c (T et).zero false, H)
        | m => match fdC P kt H m a with
          | some F => match F.at_ with
            | none => some (lookRes c (T et).zero false, H)
            | some x => some (lookRes c x.2 true, H)
          | none => none
      | none => none
    | _ => none
  | .mapUpdate t mo ko xo => match P.underlying t with
    | some (.map kt et) => match keyK P dk kt (evV E ko) with
      | some a => match evV E xo with
        | some v => match fdC P kt H (evV E mo) a with
          | some F => match F.at_ with
            | none => appC F.es [(vAV a, v)] fun es => appC F.bs [F.clk] fun bs => fN (Nat.succ F.clk) fun ck => setHC H F.l (.map es bs ck) fun H => some (.any, H)
            | some x => setLC F.es x.1 (vAV a, v) fun es => setHC H F.l (.map es F.bs F.clk) fun H => some (.any, H)
          | none => none
        | none => none
      | none => none
    | _ => none
  | .mapEntry t mo ko => match P.underlying t with
    | some (.map kt et) => okC T et <| match keyK P dk kt (evV E ko) with
      | some a => match fdC P kt H (evV E mo) a with
        | some F => match F.at_ with
          | none => appC F.es [(vAV a, (T et).zero)] fun es => appC F.bs [F.clk] fun bs => fN (Nat.succ F.clk) fun ck => setHC H F.l (.map es bs ck) fun H => some (.tup [(T et).zero, .v (.int .i64 (Int.ofNat F.clk))], H)
          | some x => match F.bs[x.1]? with
            | some s => some (.tup [x.2, .v (.int .i64 (Int.ofNat s))], H)
            | none => none
        | none => none
      | none => none
    | _ => none
  | .entryStore t mo so xo => match P.underlying t with
    | some (.map kt et) => cond (kOk P dk kt) (match evV E mo with
      | some (.mp l) => match evV E so with
        | some (.v (.int .i64 (.ofNat s))) => match evV E xo with
          | some v => blkC H l fun b => match b with
            | .map es bs clk => match unkC es with
              | some L => match stC s bs 0 with
                | some j => match L[j]? with
                  | some p => setLC es j (vAV p.1, v) fun es => setHC H l (.map es bs clk) fun H => some (.any, H)
                  | none => none
                | none => none
              | none => none
            | _ => none
          | none => none
        | _ => none
      | _ => none) none
    | _ => none
  | .call c => match c.callee with
    | .builtin b => match b with
      | .delete => match c.args.toList with
        | [mo, ko] => match c.argTypes.toList with
          | [t, kt'] => match P.underlying t with
            | some (.map kt et) => reqC (Nat.beq kt kt') <| match keyK P dk kt (evV E ko) with
              | some a => match fdC P kt H (evV E mo) a with
                | some F => match F.at_ with
                  | none => some (.any, H)
                  | some x => delC F.es x.1 fun es => delC F.bs x.1 fun bs => setHC H F.l (.map es bs F.clk) fun H => some (.any, H)
                | none => none
              | none => none
            | _ => none
          | _ => none
        | _ => none
      | _ => none
    | _ => none
  | _ => none

theorem em_set {L : List (Value × AV)} {j : Nat} {a : Value} {b : AV} : em vAV id (L.set j (a, b)) = (em vAV id L).set j (vAV a, b) := by simp only [em, List.map_set]; rfl
theorem em_app {L : List (Value × AV)} {a : Value} {b : AV} : em vAV id (L ++ [(a, b)]) = em vAV id L ++ [(vAV a, b)] := by simp [em]
theorem em_del {L : List (Value × AV)} {j : Nat} : em vAV id (L.eraseIdx j) = (em vAV id L).eraseIdx j := erase_map _ _ _

set_option maxHeartbeats 1000000 in
theorem mapX_s {P : Program} {T : Nat → TI} (hT : TOk P T) {dk : Nat → Bool} (hdk : ∀ kt, dk kt = true → Keyed P kt) (op : Op) (E : ET) (H : List ABlk) (r : AV) (H' : List ABlk) (K : AV → List ABlk → Prop) (hw : E.wf) (h : mapX P T dk op E H = some (r, H')) (hk : K r H') : AOp P op E.toL H K := by
  unfold mapX at h
  cases op <;> simp only at h <;> try (cases h; done)
  case makeMap t q =>
    cases q <;> simp only at h <;> try (cases h; done)
    rw [newC_eq] at h
    cases h
    exact AOp.makeMap hk
  case lookup t mo ko c =>
    split at h <;> try (cases h; done)
    rename_i kt et ht
    obtain ⟨h1, h⟩ := okC_inv h
    split at h <;> try (cases h; done)
    rename_i a ha
    obtain ⟨h2, h3, h4⟩ := keyK_s hdk ha
    have h5 := evV_s hw h2
    split at h
    · rename_i hm
      cases h
      exact AOp.lookupNil hT (vKE h3) ht h1 (evV_s hw hm) h5 h4 hk
    · split at h <;> try (cases h; done)
      rename_i F hF
      obtain ⟨g1, g2, g3, g4, g5⟩ := fdC_s hF
      have g1 := evV_s hw g1
      rcases g5 with ⟨e1, e2⟩ | ⟨j, b, e1, e2, ⟨p, e3, e5⟩, e4⟩
      · rw [e1] at h
        cases h
        exact AOp.lookup hT (vKE h3) ht h1 g1 h5 g2 g4 h4 (fun _ => hk) (fun j b hj => absurd rfl (e2 _ (List.mem_of_getElem? hj)))
      · rw [e1] at h
        cases h
        exact AOp.lookup hT (vKE h3) ht h1 g1 h5 g2 g4 h4 (fun h => absurd e5 (h p e3)) (fun j' b' hj => by obtain ⟨_, rfl⟩ := e4 j' b' hj; exact hk)
  case mapUpdate t mo ko xo =>
    split at h <;> try (cases h; done)
    rename_i kt et ht
    split at h <;> try (cases h; done)
    rename_i a ha
    obtain ⟨h2, h3, h4⟩ := keyK_s hdk ha
    have h5 := evV_s hw h2
    split at h <;> try (cases h; done)
    rename_i v hv
    have h6 := evV_s hw hv
    split at h <;> try (cases h; done)
    rename_i F hF
    obtain ⟨g1, g2, g3, g4, g5⟩ := fdC_s hF
    have g1 := evV_s hw g1
    rcases g5 with ⟨e1, e2⟩ | ⟨j, b, e1, e2, ⟨p, e3, e5⟩, e4⟩
    · rw [e1] at h
      simp only [appC_eq, fN_eq] at h
      obtain ⟨_, h⟩ := setHC_s h
      cases h
      exact AOp.mapUpdate (eb := id) (b' := v) (vKE h3) ht g1 h5 h6 g2 g4 h4 (fun _ => by rw [em_app, ← g3]; exact hk) (fun j b hj => absurd rfl (e2 _ (List.mem_of_getElem? hj)))
    · rw [e1] at h
      simp only at h
      obtain ⟨_, h⟩ := setLC_s h
      obtain ⟨_, h⟩ := setHC_s h
      cases h
      exact AOp.mapUpdate (eb := id) (b' := v) (vKE h3) ht g1 h5 h6 g2 g4 h4 (fun h => absurd e5 (h p e3)) (fun j' b' hj => by obtain ⟨rfl, rfl⟩ := e4 j' b' hj; rw [em_set, ← g3]; exact hk)
  case mapEntry t mo ko =>
    split at h <;> try (cases h; done)
    rename_i kt et ht
    obtain ⟨h1, h⟩ := okC_inv h
    split at h <;> try (cases h; done)
    rename_i a ha
    obtain ⟨h2, h3, h4⟩ := keyK_s hdk ha
    have h5 := evV_s hw h2
    split at h <;> try (cases h; done)
    rename_i F hF
    obtain ⟨g1, g2, g3, g4, g5⟩ := fdC_s hF
    have g1 := evV_s hw g1
    rcases g5 with ⟨e1, e2⟩ | ⟨j, b, e1, e2, ⟨p, e3, e5⟩, e4⟩
    · rw [e1] at h
      simp only [appC_eq, fN_eq] at h
      obtain ⟨_, h⟩ := setHC_s h
      cases h
      exact AOp.mapEntry (eb := id) (z := (T et).zero) hT (vKE h3) ht h1 rfl g1 h5 g2 g4 h4 (fun _ _ => by rw [em_app, ← g3]; exact hk) (fun j b s hj => absurd rfl (e2 _ (List.mem_of_getElem? hj)))
    · rw [e1] at h
      simp only at h
      split at h <;> try (cases h; done)
      rename_i s hs
      cases h
      exact AOp.mapEntry (eb := id) (z := (T et).zero) hT (vKE h3) ht h1 rfl g1 h5 g2 g4 h4 (fun h => absurd e5 (h p e3)) (fun j' b' s' hj hs' => by obtain ⟨rfl, rfl⟩ := e4 j' b' hj; rw [hs] at hs'; cases hs'; exact hk)
  case entryStore t mo so xo =>
    split at h <;> try (cases h; done)
    rename_i kt et ht
    cases hkk : kOk P dk kt <;> simp only [hkk, cond] at h <;> try (cases h; done)
    have h3 := kOk_s hdk hkk
    split at h <;> try (cases h; done)
    rename_i l hl
    split at h <;> try (cases h; done)
    rename_i s hs
    split at h <;> try (cases h; done)
    rename_i v hv
    obtain ⟨b, h1, h⟩ := blkC_s h
    split at h <;> try (cases h; done)
    rename_i es bs clk
    split at h <;> try (cases h; done)
    rename_i L hL
    split at h <;> try (cases h; done)
    rename_i j hj
    split at h <;> try (cases h; done)
    rename_i p hp
    obtain ⟨_, h⟩ := setLC_s h
    obtain ⟨_, h⟩ := setHC_s h
    cases h
    obtain ⟨k, e1, e2⟩ := stC_s hj
    rw [Nat.zero_add] at e1
    subst e1
    have hes := unkC_s hL
    rw [hes] at h1
    exact AOp.entryStore (eb := id) (b' := v) (vKE h3) (evV_s hw hl) (evV_s hw hs) (evV_s hw hv) h1 hp e2 (by rw [em_set, ← hes]; exact hk)
  case call c =>
    obtain ⟨callee, args, ts⟩ := c
    split at h <;> try (cases h; done)
    rename_i b hcal
    simp only at hcal
    subst hcal
    split at h <;> try (cases h; done)
    split at h <;> try (cases h; done)
    rename_i mo ko hargs
    split at h <;> try (cases h; done)
    rename_i t kt' hts
    split at h <;> try (cases h; done)
    rename_i kt et ht
    replace h := reqC_s h
    obtain ⟨hkt, h⟩ := h
    replace hkt := Nat.eq_of_beq_eq_true hkt
    subst hkt
    split at h <;> try (cases h; done)
    rename_i a ha
    obtain ⟨h2, h3, h4⟩ := keyK_s hdk ha
    have h5 := evV_s hw h2
    split at h <;> try (cases h; done)
    rename_i F hF
    obtain ⟨g1, g2, g3, g4, g5⟩ := fdC_s hF
    have g1 := evV_s hw g1
    have ea : args = #[mo, ko] := Array.ext' hargs
    have et' : ts = #[t, kt] := Array.ext' hts
    rcases g5 with ⟨e1, e2⟩ | ⟨j, b, e1, e2, ⟨p, e3, e5⟩, e4⟩
    · rw [e1] at h
      cases h
      exact AOp.delete (eb := id) (vKE h3) ht ea et' g1 h5 g2 g4 h4 (fun _ => hk) (fun j b hj => absurd rfl (e2 _ (List.mem_of_getElem? hj)))
    · rw [e1] at h
      simp only at h
      obtain ⟨_, h⟩ := delC_s h
      obtain ⟨_, h⟩ := delC_s h
      obtain ⟨_, h⟩ := setHC_s h
      cases h
      exact AOp.delete (eb := id) (vKE h3) ht ea et' g1 h5 g2 g4 h4 (fun h => absurd e5 (h p e3)) (fun j' b' hj => by obtain ⟨rfl, rfl⟩ := e4 j' b' hj; rw [em_del, ← g3]; exact hk)

noncomputable def mapXt (P : Program) (T : Nat → TI) (dk gc : Nat → Bool) : Xt := ⟨fun _ => false, gc, fun _ _ _ => none, mapX P T dk⟩
theorem mapXt_ok {P : Program} {T : Nat → TI} (hT : TOk P T) {dk gc : Nat → Bool} (hdk : ∀ kt, dk kt = true → Keyed P kt) : XtOk P T (mapXt P T dk gc) :=
  ⟨fun _ _ _ _ _ h => (by cases h), fun op E H r H' K hw h hk => mapX_s hT hdk op E H r H' K hw h hk⟩
end Go.Aw

