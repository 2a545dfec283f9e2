/-
  The statement AuditMoney: what was paid back is from nothing to what was paid, units that are left and that are done are all, and no more units are there than were shipped, without any condition.
-/
import Derived.Test.YtgpnhbekepoebaaGreatQ02
import Derived.Test.YtgpnhbekepoebaaGreatQ00
import Derived.Test.YtgpnhbekepoebaaGreatAwE
import Derived.Test.YtgpnhbekepoebaaGreatQ07
import Derived.Test.YtgpnhbekepoebaaGreatQ06
set_option linter.unusedSimpArgs false
set_option linter.unusedVariables false
/-
  Aw, part 44: closed calls are computed: drawn regions, code, functions.
-/
set_option linter.unusedSimpArgs false
set_option linter.unusedVariables false
namespace Go.Aw
open Go

structure S3 where
  kn : List (Nat × Bool)
  E : ET
  H : List ABlk

noncomputable def eqKn : List (Nat × Bool) → List (Nat × Bool) → Bool
  | [], y => match y with | [] => true | _ => false
  | x :: xs, y => match y with | y :: ys => Nat.beq x.1 y.1 && (x.2 == y.2) && eqKn xs ys | _ => false
theorem eqKn_s : ∀ (x y : List (Nat × Bool)), eqKn x y = true → x = y
  | [], y, h => by cases y <;> simp only [eqKn] at h <;> first | rfl | cases h
  | x :: xs, y, h => by
    cases y <;> simp only [eqKn, Bool.and_eq_true, beq_iff_eq] at h <;> first | (cases h; done) | rw [eqKn_s _ _ h.2, Prod.ext (Nat.eq_of_beq_eq_true h.1.1) h.1.2]

def szC : ET → Option Nat
  | .leaf _ => some 1
  | .node n l r => match szC l with
    | some a => match szC r with
      | some b => cond (Nat.beq n a) (some (a + b)) none
      | none => none
    | none => none
theorem szC_s : ∀ {t : ET} {n : Nat}, szC t = some n → t.wf ∧ t.toL.length = n
  | .leaf x, n, h => by cases h; exact ⟨trivial, rfl⟩
  | .node m l r, n, h => by
    unfold szC at h
    cases hl : szC l <;> simp only [hl] at h <;> try (cases h; done)
    cases hr : szC r <;> simp only [hr] at h <;> try (cases h; done)
    rename_i a b
    obtain ⟨h1, h2⟩ := szC_s hl
    obtain ⟨h3, h4⟩ := szC_s hr
    cases hb : Nat.beq m a <;> simp only [hb, cond] at h <;> cases h
    have := Nat.eq_of_beq_eq_true hb
    exact ⟨⟨by omega, h1, h3⟩, by rw [ET.toL, List.length_append]; omega⟩

section
variable {P : Program} {T : Nat → TI} {X : Xt} {call : CallC}

/-- a load of what stays -/
noncomputable def immC (T : Nat → TI) (ops : Array Oper) (o : Oper) (kn : List (Nat × Bool)) (E : ET) (H : List ABlk) {R : Type} (K : List (Nat × Bool) → ET → List ABlk → Option R) : Option R :=
  match o.op with
  | .load t x => reqC (match o.guard with | none => true | some g => match kno kn g.1 with | some b => b == g.2 | none => false)
      (evC E x fun q => reqC (immB q H) (loadAtC T H t q fun v => putC E o.dst v fun E => knPutC ops o.dst kn fun kn => K kn E H))
  | _ => none
theorem immC_s {R : Type} {ops : Array Oper} {o : Oper} {kn : List (Nat × Bool)} {E : ET} (hw : E.wf) {H : List ABlk} {K : List (Nat × Bool) → ET → List ABlk → Option R} {K' : List (Nat × Bool) → List AV → List ABlk → Prop} {r : R}
    (h : immC T ops o kn E H K = some r) (hk : ∀ kn (E : ET) H, E.wf → K kn E H = some r → K' kn E.toL H) :
    ∃ t x, o.op = .load t x ∧ (o.guard = none ∨ ∃ g, o.guard = some g ∧ kno kn g.1 = some g.2) ∧ evK E.toL x fun q => ifK (immB q H) (loadAtK T H t q fun v => putK E.toL o.dst v fun E => knPut ops o.dst kn fun kn => K' kn E H) := by
  unfold immC at h
  cases ho : o.op <;> simp only [ho] at h <;> try (cases h; done)
  rename_i t x
  obtain ⟨h1, h⟩ := reqC_s h
  refine ⟨t, x, rfl, ?_, evC_s hw h fun q h => ?_⟩
  · cases hg : o.guard <;> simp only [hg] at h1
    · exact .inl rfl
    · rename_i g
      cases hn : kno kn g.1 <;> simp only [hn] at h1 <;> try (cases h1; done)
      rw [beq_iff_eq] at h1
      exact .inr ⟨g, rfl, by rw [hn, h1]⟩
  · obtain ⟨h2, h⟩ := reqC_s h
    rw [ifK_iff]
    exact ⟨h2, loadAtC_s h fun v h => putC_s hw h fun E hw h => knPutC_s h fun kn h => hk _ _ _ hw h⟩

noncomputable def plC (P : Program) (T : Nat → TI) (X : Xt) (call : CallC) (ops : Array Oper) : Pl → (R : Type) → List (Nat × Bool) → ET → List ABlk → (List (Nat × Bool) → ET → List ABlk → Option R) → Option R
  | .nil, _, kn, E, H, K => K kn E H
  | .one i p, R, kn, E, H, K => match ops[i]? with
    | some o => opC P T X call ops o kn E H fun kn E H => plC P T X call ops p R kn E H K
    | none => none
  | .imm i p, R, kn, E, H, K => match ops[i]? with
    | some o => immC T ops o kn E H fun kn E H => plC P T X call ops p R kn E H K
    | none => none
  | .fork a p b q r, R, kn, E, H, K =>
    match (match ops[a]? with | some o => opC P T X call ops o kn E H fun kn E H => plC P T X call ops p S3 kn E H fun kn E H => some ⟨kn, E, H⟩ | none => none) with
    | none => none
    | some s => match (match ops[b]? with | some o => opC P T X call ops o kn E H fun kn E H => plC P T X call ops q S3 kn E H fun kn E H => some ⟨kn, E, H⟩ | none => none) with
      | none => none
      | some t => reqC (eqKn t.kn s.kn && eqET t.E s.E && eqH t.H s.H && (szC s.E).isSome) (plC P T X call ops r R s.kn s.E s.H K)

theorem plC_s (hT : TOk P T) (hX : XtOk P T X) (hc : CallOk P call) {ops : Array Oper} : ∀ {p : Pl} {R : Type} {kn : List (Nat × Bool)} {E : ET} (hw : E.wf) {H : List ABlk} {K : List (Nat × Bool) → ET → List ABlk → Option R} {J : List (Nat × Bool) → List AV → List ABlk → Prop} {r : R},
    plC P T X call ops p R kn E H K = some r → (∀ kn (E : ET) H, E.wf → K kn E H = some r → J kn E.toL H) → AF P T ops p kn J E.toL H
  | .nil, R, kn, E, hw, H, K, J, r, h, hk => AF.nil (hk _ _ _ hw h)
  | .one i p, R, kn, E, hw, H, K, J, r, h, hk => by
    unfold plC at h
    cases ho : ops[i]? <;> simp only [ho] at h <;> try (cases h; done)
    exact AF.one hT ho (opC_s hX hc hw h fun kn E H hw h => plC_s hT hX hc hw h hk)
  | .imm i p, R, kn, E, hw, H, K, J, r, h, hk => by
    unfold plC at h
    cases ho : ops[i]? <;> simp only [ho] at h <;> try (cases h; done)
    obtain ⟨t, x, h1, h2, h3⟩ := immC_s (K' := fun kn E H => AF P T ops p kn J E H) hw h fun kn E H hw h => plC_s hT hX hc hw h hk
    rcases h2 with h2 | ⟨g, h2, h4⟩
    · exact AF.imm hT ho h1 h2 h3
    · exact AF.immG hT ho h1 h2 h4 h3
  | .fork a p b q r', R, kn, E, hw, H, K, J, r, h, hk => by
    unfold plC at h
    split at h <;> try (cases h; done)
    rename_i s h1
    split at h <;> try (cases h; done)
    rename_i t h2
    obtain ⟨h3, h⟩ := reqC_s h
    simp only [Bool.and_eq_true] at h3
    have e1 := eqKn_s _ _ h3.1.1.1
    have e2 := eqET_s _ _ h3.1.1.2
    have e3 := eqH_s _ _ h3.1.2
    obtain ⟨n, hn⟩ := Option.isSome_iff_exists.1 h3.2
    have hws := (szC_s hn).1
    cases hoa : ops[a]? <;> simp only [hoa] at h1 <;> try (cases h1; done)
    cases hob : ops[b]? <;> simp only [hob] at h2 <;> try (cases h2; done)
    refine AF.meet s.kn s.E.toL s.H (AH.of hT hoa (opC_s hX hc hw h1 fun kn E H hw h => plC_s hT hX hc hw h fun kn E H hw h => ?_))
      (AH.of hT hob (opC_s hX hc hw h2 fun kn E H hw h => plC_s hT hX hc hw h fun kn E H hw h => ?_)) (plC_s hT hX hc hws h hk)
    · cases h; exact ⟨rfl, rfl, rfl⟩
    · cases h; exact ⟨e1, by rw [← e2], e3⟩

/-! ### a region in all of its orders -/
inductive Od where
  | done
  | one (i : Nat) (r : Od)
  | imm (i : Nat) (r : Od)
  | alt (i : Nat) (r s : Od)
  | no

/-- what may come first -/
def Od.heads : Od → List Nat
  | .alt i _ s => i :: s.heads
  | _ => []

mutual
def odOk (ops : Array Oper) (d : List Nat) (f : Nat) : Od → Bool
  | .done => Region.ready .any ops (unl ops d) == []
  | .one i r => match f with
    | f + 1 => oneOk ops (unl ops d) i && odOk ops (i :: d) f r
    | 0 => false
  | .imm i r => match f with
    | f + 1 => immOk ops (unl ops d) i && odOk ops (i :: d) f r
    | 0 => false
  | .alt i r s => match f with
    | f + 1 => (Region.ready .any ops (unl ops d) == i :: s.heads) && odOk ops (i :: d) f r && odOks ops d f s
    | 0 => false
  | .no => false
def odOks (ops : Array Oper) (d : List Nat) (f : Nat) : Od → Bool
  | .alt i r s => odOk ops (i :: d) f r && odOks ops d f s
  | .no => true
  | _ => false
end

mutual
noncomputable def odC (P : Program) (T : Nat → TI) (X : Xt) (call : CallC) (ops : Array Oper) : Od → List (Nat × Bool) → ET → List ABlk → Option S3
  | .done, kn, E, H => some ⟨[], E, H⟩
  | .one i p, kn, E, H => match ops[i]? with
    | some o => opC P T X call ops o kn E H fun kn E H => odC P T X call ops p kn E H
    | none => none
  | .imm i p, kn, E, H => match ops[i]? with
    | some o => cond o.guard.isNone (immC T ops o kn E H fun kn E H => odC P T X call ops p kn E H) none
    | none => none
  | .alt i p q, kn, E, H => match ops[i]? with
    | some o => match opC P T X call ops o kn E H fun kn E H => odC P T X call ops p kn E H with
      | some s => cond (odsC P T X call ops q s kn E H) (some s) none
      | none => none
    | none => none
  | .no, kn, E, H => none
noncomputable def odsC (P : Program) (T : Nat → TI) (X : Xt) (call : CallC) (ops : Array Oper) : Od → S3 → List (Nat × Bool) → ET → List ABlk → Bool
  | .alt i p q, s, kn, E, H => match ops[i]? with
    | some o => match opC P T X call ops o kn E H fun kn E H => odC P T X call ops p kn E H with
      | some t => eqET t.E s.E && eqH t.H s.H && odsC P T X call ops q s kn E H
      | none => false
    | none => false
  | .no, s, kn, E, H => true
  | _, _, _, _, _ => false
end

mutual
theorem odC_s (hT : TOk P T) (hX : XtOk P T X) (hc : CallOk P call) {ops : Array Oper} : ∀ (p : Od) {d : List Nat} {f : Nat} {kn : List (Nat × Bool)} {E : ET} (hw : E.wf) {H : List ABlk} {J : List AV → List ABlk → Prop} {s : S3},
    odOk ops d f p = true → odC P T X call ops p kn E H = some s → J s.E.toL s.H → AG P T ops d f kn J E.toL H
  | .done, d, f, kn, E, hw, H, J, s, ho, h, hk => by
    simp only [odC] at h; cases h
    exact AG.done (by simpa [odOk] using ho) hk
  | .one i p, d, f, kn, E, hw, H, J, s, ho, h, hk => by
    cases f <;> simp only [odOk, Bool.and_eq_true] at ho <;> try (cases ho; done)
    simp only [odC] at h
    cases hi : ops[i]? <;> simp only [hi] at h <;> try (cases h; done)
    exact AG.one hT i hi ho.1 (opC_s hX hc hw h fun kn E H hw h => odC_s hT hX hc p hw ho.2 h hk)
  | .imm i p, d, f, kn, E, hw, H, J, s, ho, h, hk => by
    cases f <;> simp only [odOk, Bool.and_eq_true] at ho <;> try (cases ho; done)
    simp only [odC] at h
    cases hi : ops[i]? <;> simp only [hi] at h <;> try (cases h; done)
    rename_i o
    cases hg : o.guard.isNone <;> simp only [hg, cond] at h <;> try (cases h; done)
    obtain ⟨t, x, h1, h2, h3⟩ := immC_s (K' := fun kn E H => AG P T ops (i :: d) _ kn J E H) hw h fun kn E H hw h => odC_s hT hX hc p hw ho.2 h hk
    exact AG.imm hT i hi h1 (by simpa using hg) ho.1 h3
  | .alt i p q, d, f, kn, E, hw, H, J, s, ho, h, hk => by
    cases f <;> simp only [odOk, Bool.and_eq_true] at ho <;> try (cases ho; done)
    simp only [odC] at h
    cases hi : ops[i]? <;> simp only [hi] at h <;> try (cases h; done)
    split at h <;> try (cases h; done)
    rename_i s' h1
    cases hq : odsC P T X call ops q s' kn E H <;> simp only [hq, cond] at h <;> cases h
    exact AG.alt i q.heads ho.1.1 (AGs.cons hT hi (opC_s hX hc hw h1 fun kn E H hw h => odC_s hT hX hc p hw ho.1.2 h hk) (odsC_s hT hX hc q hw ho.2 hq hk))
  | .no, d, f, kn, E, hw, H, J, s, ho, h, hk => by simp only [odOk] at ho; cases ho
theorem odsC_s (hT : TOk P T) (hX : XtOk P T X) (hc : CallOk P call) {ops : Array Oper} : ∀ (p : Od) {d : List Nat} {f : Nat} {kn : List (Nat × Bool)} {E : ET} (hw : E.wf) {H : List ABlk} {J : List AV → List ABlk → Prop} {s : S3},
    odOks ops d f p = true → odsC P T X call ops p s kn E H = true → J s.E.toL s.H → AGs P T ops p.heads d f kn J E.toL H
  | .alt i p q, d, f, kn, E, hw, H, J, s, ho, h, hk => by
    simp only [odOks, Bool.and_eq_true] at ho
    simp only [odsC] at h
    cases hi : ops[i]? <;> simp only [hi] at h <;> try (cases h; done)
    split at h <;> try (cases h; done)
    rename_i t h1
    simp only [Bool.and_eq_true] at h
    have e2 := eqET_s _ _ h.1.1
    have e3 := eqH_s _ _ h.1.2
    exact AGs.cons hT hi (opC_s hX hc hw h1 fun kn E H hw h => odC_s hT hX hc p hw ho.1 h (by rw [e2, e3]; exact hk)) (odsC_s hT hX hc q hw ho.2 h.2 hk)
  | .no, d, f, kn, E, hw, H, J, s, ho, h, hk => AGs.nil
  | .done, d, f, kn, E, hw, H, J, s, ho, h, hk => by simp only [odOks] at ho; cases ho
  | .one i p, d, f, kn, E, hw, H, J, s, ho, h, hk => by simp only [odOks] at ho; cases ho
  | .imm i p, d, f, kn, E, hw, H, J, s, ho, h, hk => by simp only [odOks] at ho; cases ho
end

/-! ### code -/
inductive Rp where
  | pl (p : Pl)
  | od (p : Od)

def plr : List (Nat × Rp) → Nat → Option Rp
  | [], _ => none
  | x :: r, i => cond (Nat.beq x.1 i) (some x.2) (plr r i)
def plk : List (Nat × List (Nat × Rp)) → Nat → Nat → Option Rp
  | [], _, _ => none
  | x :: r, f, i => cond (Nat.beq x.1 f) (plr x.2 i) (plk r f i)

noncomputable def codeC (P : Program) (T : Nat → TI) (X : Xt) (call : CallC) (pl : Nat → Option Rp) (R : Type) (n : Nat) : Code → ET → List ABlk → (Exit → ET → List ABlk → Option R) → Option R :=
  @Nat.rec (fun _ => Code → ET → List ABlk → (Exit → ET → List ABlk → Option R) → Option R) (fun _ _ _ _ => none) (fun _ g c E H K => match c with
    | .skip => K .normal E H
    | .region id ops draw => match draw with
      | false => opsC P T X call ops ops.toList [] E H fun E H => K .normal E H
      | true => match pl id with
        | some p => match p with
          | .pl p => reqC (planOk ops p [] && Region.noSelect ops && Nat.ble (planLen p) ops.size) (plC P T X call ops p R [] E H fun _ E H => K .normal E H)
          | .od p => reqC (odOk ops [] ops.size p && Region.noSelect ops) (match odC P T X call ops p [] E H with | some s => reqC (szC s.E).isSome (K .normal s.E s.H) | none => none)
        | none => none
    | .seq x y => g x E H fun e E H => match e with
      | .normal => g y E H K
      | e => K e E H
    | .cond c x y => evC E c fun v => match v with
      | .v v => match v with
        | .bool t => cond t (g x E H K) (g y E H K)
        | _ => none
      | _ => none
    | .block id c => g c E H fun e E H => match e with
      | .exit i => cond (Nat.beq i id) (K .normal E H) (K (.exit i) E H)
      | e => K e E H
    | .loop c => g c E H fun e E H => match e with
      | .normal => g (.loop c) E H K
      | e => K e E H
    | .exit i => K (.exit i) E H
    | .ret => K .ret E H
    | .label _ => K .normal E H
    | .scope c => g c E H fun e E H => match e with
      | .goto _ => none
      | e => K e E H
    | _ => none) n

theorem codeC_s (hT : TOk P T) (hm : P.follows .mixedOrders = true) (hX : XtOk P T X) (hc : CallOk P call) {pl : Nat → Option Rp} {R : Type} {k : Nat} : ∀ (n : Nat),
    (∀ (c : Code) {E : ET} (hw : E.wf) {H : List ABlk} {K : Exit → ET → List ABlk → Option R} {Q : Exit → List AV → List ABlk → Prop} {r : R}, codeC P T X call pl R n c E H K = some r → (∀ e (E : ET) H, E.wf → K e E H = some r → Q e E.toL H) → AW P T k c Q E.toL H) ∧
    (∀ (c : Code) {E : ET} (hw : E.wf) {H : List ABlk} {K : Exit → ET → List ABlk → Option R} {Q : Exit → List AV → List ABlk → Prop} {r : R}, codeC P T X call pl R n (.loop c) E H K = some r → (∀ e (E : ET) H, E.wf → K e E H = some r → Q e E.toL H) → ALp P k c Q E.toL H)
  | 0 => ⟨fun c {E} hw {H K Q r} h hk => (by cases h), fun c {E} hw {H K Q r} h hk => by cases h⟩
  | n + 1 => by
    obtain ⟨ih1, ih2⟩ := codeC_s hT hm hX hc (pl := pl) (R := R) (k := k) n
    have hloop : ∀ (c : Code) {E : ET} (hw : E.wf) {H : List ABlk} {K : Exit → ET → List ABlk → Option R} {Q : Exit → List AV → List ABlk → Prop} {r : R}, codeC P T X call pl R (n + 1) (.loop c) E H K = some r → (∀ e (E : ET) H, E.wf → K e E H = some r → Q e E.toL H) → ALp P k c Q E.toL H := by
      intro c E hw H K Q r h hk
      have h : codeC P T X call pl R n c E H (fun e E H => match e with
        | .normal => codeC P T X call pl R n (.loop c) E H K
        | e => K e E H) = some r := h
      refine ALp.step (T := T) (ih1 c hw h fun e E H hw h => ?_)
      cases e <;> first
        | exact ih2 c hw h hk
        | exact hk _ _ _ hw h
    refine ⟨fun c {E} hw {H K Q r} h hk => ?_, hloop⟩
    cases c with
    | skip => exact AW.skip (hk _ _ _ hw h)
    | region id ops draw =>
      cases draw with
      | false => exact AW.region (opsC_s hT hX hc hw h fun E H hw h => hk _ _ _ hw h)
      | true =>
        have h : (match pl id with
          | some p => match p with
            | .pl p => reqC (planOk ops p [] && Region.noSelect ops && Nat.ble (planLen p) ops.size) (plC P T X call ops p R [] E H fun _ E H => K .normal E H)
            | .od p => reqC (odOk ops [] ops.size p && Region.noSelect ops) (match odC P T X call ops p [] E H with | some s => reqC (szC s.E).isSome (K .normal s.E s.H) | none => none)
          | none => none) = some r := h
        cases hp : pl id <;> simp only [hp] at h <;> try (cases h; done)
        rename_i p
        cases p with
        | pl p =>
          obtain ⟨h1, h⟩ := reqC_s h
          exact AW.plan hm p h1 (plC_s hT hX hc hw h fun kn E H hw h => hk _ _ _ hw h)
        | od p =>
          obtain ⟨h1, h⟩ := reqC_s h
          simp only [Bool.and_eq_true] at h1
          split at h <;> try (cases h; done)
          rename_i s hs
          obtain ⟨h2, h⟩ := reqC_s h
          obtain ⟨m, hn⟩ := Option.isSome_iff_exists.1 h2
          exact AW.orders hm h1.2 ops.size rfl (odC_s hT hX hc p hw h1.1 hs (hk _ _ _ (szC_s hn).1 h))
    | seq x y =>
      have h : codeC P T X call pl R n x E H (fun e E H => match e with
        | .normal => codeC P T X call pl R n y E H K
        | e => K e E H) = some r := h
      refine AW.seq (ih1 x hw h fun e E H hw h => ?_)
      cases e <;> first
        | exact ih1 y hw h hk
        | exact hk _ _ _ hw h
    | cond c x y =>
      have h : (evC E c fun v => match v with
        | .v v => match v with
          | .bool t => cond t (codeC P T X call pl R n x E H K) (codeC P T X call pl R n y E H K)
          | _ => none
        | _ => none) = some r := h
      refine AW.cond (evC_s hw h fun v h => ?_)
      cases v <;> simp only at h ⊢ <;> try (cases h; done)
      rename_i v
      cases v <;> simp only at h ⊢ <;> try (cases h; done)
      rename_i t
      cases t <;> simp only [_root_.cond] at h
      · exact ACond.no rfl (ih1 y hw h hk)
      · exact ACond.yes rfl (ih1 x hw h hk)
    | block id c =>
      have h : codeC P T X call pl R n c E H (fun e E H => match e with
        | .exit i => cond (Nat.beq i id) (K .normal E H) (K (.exit i) E H)
        | e => K e E H) = some r := h
      refine AW.block (ih1 c hw h fun e E H hw h => ?_)
      cases e <;> simp only at h ⊢ <;> first
        | exact hk _ _ _ hw h
        | skip
      rename_i i
      cases hb : Nat.beq i id <;> simp only [hb, _root_.cond] at h ⊢ <;> exact hk _ _ _ hw h
    | loop c => exact AW.loop (ALoop.un (hloop c hw h hk))
    | exit i => exact AW.exit (hk _ _ _ hw h)
    | ret => exact AW.ret (hk _ _ _ hw h)
    | label l => exact AW.label (hk _ _ _ hw h)
    | scope c =>
      have h : codeC P T X call pl R n c E H (fun e E H => match e with
        | .goto _ => none
        | e => K e E H) = some r := h
      refine AW.scope (ih1 c hw h fun e E H hw h => ?_)
      cases e <;> simp only at h ⊢ <;> first
        | (cases h; done)
        | exact hk _ _ _ hw h
    | _ => cases h

/-! ### a function -/
noncomputable def setsC {R : Type} (vs : List AV) : Nat → ET → (ET → Option R) → Option R :=
  @List.rec AV (fun _ => Nat → ET → (ET → Option R) → Option R) (fun _ E K => K E) (fun v _ g i E K => E.setC i v fun E => g (Nat.succ i) E K) vs
def setsL : List AV → Nat → List AV → List AV
  | [], _, E => E
  | v :: vs, i, E => setsL vs (i + 1) (E.set i v)
theorem setsC_s {R : Type} : ∀ {vs : List AV} {i : Nat} {E : ET} (hw : E.wf) {K : ET → Option R} {r : R}, setsC vs i E K = some r → ∃ E' : ET, K E' = some r ∧ E'.wf ∧ E'.toL = setsL vs i E.toL
  | [], i, E, hw, K, r, h => ⟨E, h, hw, rfl⟩
  | v :: vs, i, E, hw, K, r, h => by
    have h : E.setC i v (fun E => setsC vs (i + 1) E K) = some r := h
    obtain ⟨E1, h1, h2, h3⟩ := ET.setC_s _ _ _ _ _ hw h
    obtain ⟨E2, h4, h5, h6⟩ := setsC_s h2 h1
    exact ⟨E2, h4, h5, by rw [h6, h3]; rfl⟩
theorem setsL_eq : ∀ (vs A B : List AV), vs.length ≤ B.length → setsL vs A.length (A ++ B) = A ++ vs ++ B.drop vs.length
  | [], A, B, _ => by simp [setsL]
  | v :: vs, A, [], h => by simp at h
  | v :: vs, A, b :: B, h => by
    have e : (A ++ b :: B).set A.length v = (A ++ [v]) ++ B := by simp
    rw [setsL, e, show A.length + 1 = (A ++ [v]).length by simp, setsL_eq vs (A ++ [v]) B (by simpa using h)]
    simp
theorem pad_sets {vs : List AV} {n : Nat} (h : vs.length ≤ n) : setsL vs 0 (List.replicate n .any) = pad vs n := by
  have := setsL_eq vs [] (List.replicate n .any) (by simpa using h)
  simp only [List.length_nil, List.nil_append] at this
  rw [this, pad_eq]
  simp

noncomputable def resC {R : Type} (T : Nat → TI) (E : ET) (H : List ABlk) : List ResultVar → (List AV → Option R) → Option R
  | [], K => K []
  | r :: rs, K => match r with
    | .tmp t => resC T E H rs fun xs => K (E.get t :: xs)
    | .cell a t => loadAtC T H t (E.get a) fun x => resC T E H rs fun xs => K (x :: xs)
theorem resC_s {R : Type} {E : ET} (hw : E.wf) {H : List ABlk} : ∀ {rs : List ResultVar} {K : List AV → Option R} {K' : List AV → Prop} {r : R}, resC T E H rs K = some r → (∀ v, K v = some r → K' v) → resK T E.toL H rs K'
  | [], K, K', r, h, hk => hk _ h
  | q :: rs, K, K', r, h, hk => by
    unfold resC at h; unfold resK
    cases q <;> simp only [fv_eq] at h ⊢
    · rw [← ET.get_eq _ _ hw]
      exact resC_s hw h fun v h => hk _ h
    · rw [← ET.get_eq _ _ hw]
      exact loadAtC_s h fun x h => resC_s hw h fun v h => hk _ h

/-! ### what nobody names any more is given up -/
mutual
def below (k : Nat) : AV → Bool
  | .any => true
  | .v _ => true
  | .agg xs => belowL k xs
  | .tup xs => belowL k xs
  | .vs _ _ xs => belowL k xs
  | .vx _ _ xs => belowL k xs
  | .ip xs => belowL k xs
  | .ms _ l _ _ => Nat.blt l k
  | .ptr l _ => Nat.blt l k
  | .pe l _ _ _ _ => Nat.blt l k
  | .mp l => Nat.blt l k
  | .fn _ fs cs => belowL k fs && belowL k cs
def belowL (k : Nat) : List AV → Bool
  | [] => true
  | x :: xs => below k x && belowL k xs
end
theorem blt_lt {l k : Nat} (h : Nat.blt l k = true) : l < k := Nat.le_of_ble_eq_true h
mutual
theorem below_s {k : Nat} {ρ : Nat → Nat} (hρ : ∀ l, l < k → ρ l = l) : ∀ x : AV, below k x = true → x.ren ρ = x
  | .any, _ => rfl
  | .v _, _ => rfl
  | .agg xs, h => by simp only [below] at h; simp only [AV.ren, belowL_s hρ xs h]
  | .tup xs, h => by simp only [below] at h; simp only [AV.ren, belowL_s hρ xs h]
  | .vs _ _ xs, h => by simp only [below] at h; simp only [AV.ren, belowL_s hρ xs h]
  | .vx _ _ xs, h => by simp only [below] at h; simp only [AV.ren, belowL_s hρ xs h]
  | .ip xs, h => by simp only [below] at h; simp only [AV.ren, belowL_s hρ xs h]
  | .ms _ l _ _, h => by simp only [below] at h; simp only [AV.ren, hρ l (blt_lt h)]
  | .ptr l _, h => by simp only [below] at h; simp only [AV.ren, hρ l (blt_lt h)]
  | .pe l _ _ _ _, h => by simp only [below] at h; simp only [AV.ren, hρ l (blt_lt h)]
  | .mp l, h => by simp only [below] at h; simp only [AV.ren, hρ l (blt_lt h)]
  | .fn _ fs cs, h => by simp only [below, Bool.and_eq_true] at h; simp only [AV.ren, belowL_s hρ fs h.1, belowL_s hρ cs h.2]
theorem belowL_s {k : Nat} {ρ : Nat → Nat} (hρ : ∀ l, l < k → ρ l = l) : ∀ xs : List AV, belowL k xs = true → renL ρ xs = xs
  | [], _ => rfl
  | x :: xs, h => by simp only [belowL, Bool.and_eq_true] at h; simp only [renL, below_s hρ x h.1, belowL_s hρ xs h.2]
end
def belowE (k : Nat) : List (AV × AV) → Bool
  | [] => true
  | p :: r => below k p.1 && below k p.2 && belowE k r
theorem belowE_s {k : Nat} {ρ : Nat → Nat} (hρ : ∀ l, l < k → ρ l = l) : ∀ es : List (AV × AV), belowE k es = true → (es.map fun x => (x.1.ren ρ, x.2.ren ρ)) = es
  | [], _ => rfl
  | p :: r, h => by
    simp only [belowE, Bool.and_eq_true] at h
    simp only [List.map_cons, below_s hρ _ h.1.1, below_s hρ _ h.1.2, belowE_s hρ r h.2]
def belowB (k : Nat) : ABlk → Bool
  | .dead => true
  | .cells _ xs => belowL k xs
  | .ice _ xs => belowL k xs
  | .map es _ _ => belowE k es
  | .obj _ => true
  | _ => false
theorem belowB_s {k : Nat} {ρ : Nat → Nat} (hρ : ∀ l, l < k → ρ l = l) (b : ABlk) (h : belowB k b = true) : b.ren ρ = b := by
  cases b <;> simp only [belowB] at h <;> try (cases h; done)
  · rfl
  · simp only [ABlk.ren, belowL_s hρ _ h]
  · simp only [ABlk.ren, belowL_s hρ _ h]
  · simp only [ABlk.ren, belowE_s hρ _ h]
  · rfl
def belowH (k : Nat) : Nat → List ABlk → Bool
  | 0, _ => true
  | _ + 1, [] => false
  | n + 1, b :: H => belowB k b && belowH k n H
theorem belowH_s {k : Nat} : ∀ {n : Nat} {H : List ABlk}, belowH k n H = true → n ≤ H.length ∧ ∀ i b, i < n → H[i]? = some b → belowB k b = true
  | 0, H, h => ⟨Nat.zero_le _, fun i b hi => by omega⟩
  | n + 1, [], h => by cases h
  | n + 1, c :: H, h => by
    simp only [belowH, Bool.and_eq_true] at h
    obtain ⟨h1, h2⟩ := belowH_s h.2
    refine ⟨by simp; exact h1, fun i b hi hb => ?_⟩
    cases i with
    | zero => simp at hb; rw [← hb]; exact h.1
    | succ i => exact h2 i b (by omega) (by simpa using hb)
theorem nm_range (k N l : Nat) (h : l < k) : nm (List.range k) N l = l := by
  have := nm_lt (rl := List.range k) (N := N) (l := l) (by simpa using h)
  rw [List.getElem?_range h] at this
  exact (Option.some.inj this).symm
theorem picks_id {H : List ABlk} {ρ : Nat → Nat} : ∀ {n i : Nat}, (∀ j b, i ≤ j → j < i + n → H[j]? = some b → b.ren ρ = b) → i + n ≤ H.length → Picks ρ H ((List.range n).map (i + ·)) ((H.drop i).take n)
  | 0, i, _, _ => by simpa using Picks.nil
  | n + 1, i, h, hl => by
    have hi : i < H.length := by omega
    rw [List.range_succ_eq_map, List.map_cons, List.map_map, List.drop_eq_getElem_cons hi, List.take_succ_cons]
    refine .same (by rw [h i H[i] (Nat.le_refl _) (by omega) (List.getElem?_eq_getElem hi)]; exact List.getElem?_eq_getElem hi) ?_
    have := picks_id (ρ := ρ) (n := n) (i := i + 1) (fun j b h1 h2 hb => h j b (by omega) (by omega) hb) (by omega)
    have e : ((fun x => i + x) ∘ Nat.succ) = fun x => i + 1 + x := by funext x; simp only [Function.comp, Nat.succ_eq_add_one]; omega
    rw [Nat.add_zero, e]
    exact this
theorem Conv.trim {k : Nat} {x : AV} {H : List ABlk} (hx : below k x = true) (hH : belowH k k H = true) : Conv k [x] H [x] (H.take k) := by
  obtain ⟨h1, h2⟩ := belowH_s hH
  have hρ : ∀ N l, l < k → nm (List.range k) N l = l := fun N l hl => nm_range k N l hl
  refine Conv.ren (List.range k) [x] (fun i hi => List.getElem?_range hi) List.nodup_range ?_ ?_
  · intros; simp only [renL, below_s (hρ _) x hx]; exact Fit.refl _
  · have := picks_id (H := H) (ρ := nm (List.range k) H.length) (n := k) (i := 0) (fun j b _ hj hb => belowB_s (hρ _) b (h2 j b (by omega) hb)) (by omega)
    simpa using this
noncomputable def takeH {R : Type} (H : List ABlk) (n : Nat) (K : List ABlk → Option R) : Option R :=
  @Nat.rec (fun _ => List ABlk → (List ABlk → Option R) → Option R) (fun _ K => K []) (fun _ g xs K => @List.casesOn ABlk (fun _ => Option R) xs none (fun x xs => g xs fun ys => K (x :: ys))) n H K
theorem takeH_s {R : Type} : ∀ {n : Nat} {xs : List ABlk} {K : List ABlk → Option R} {r : R}, takeH xs n K = some r → n ≤ xs.length ∧ K (xs.take n) = some r
  | 0, xs, K, r, h => ⟨Nat.zero_le _, by rw [List.take_zero]; exact h⟩
  | n + 1, [], K, r, h => by cases h
  | n + 1, x :: xs, K, r, h => by
    have := takeH_s (n := n) (xs := xs) (K := fun ys => K (x :: ys)) h
    exact ⟨by simp; exact this.1, by simpa using this.2⟩
noncomputable def endC {R : Type} (gc : Bool) (k : Nat) (x : AV) (H : List ABlk) (K : AV → List ABlk → Option R) : Option R :=
  cond gc (cond (below k x && belowH k k H) (takeH H k fun H => K x H) (K x H)) (K x H)
theorem endC_s {R : Type} {gc : Bool} {k : Nat} {x : AV} {H : List ABlk} {K : AV → List ABlk → Option R} {r : R} (h : endC gc k x H K = some r) : AFin k x H fun v H' => K v H' = some r := by
  unfold endC at h
  cases gc with
  | false => exact AFin.mk h
  | true =>
    cases hb : (below k x && belowH k k H) <;> simp only [hb, cond] at h
    · exact AFin.mk h
    · simp only [Bool.and_eq_true] at hb
      obtain ⟨_, h⟩ := takeH_s h
      exact AFin.to x (H.take k) (Conv.trim hb.1 hb.2) h

noncomputable def funC (P : Program) (T : Nat → TI) (X : Xt) (pl : Nat → Nat → Option Rp) (N : Nat) (n : Nat) : CallC :=
  @Nat.rec (fun _ => CallC) (fun _ _ _ _ _ => none) (fun _ g R f args H K => match X.ext f with
    | true => xC (X.call f args H) K
    | false => match P.funcs[f]? with
      | some fn => match fn.body with
        | some c => reqC (Nat.ble 1 fn.ntmps && Nat.ble fn.ntmps 4096 && Nat.ble args.length fn.ntmps) <| lenC H fun k => setsC args 0 (anyT 12 fn.ntmps) fun E =>
            codeC P T X g (pl f) R N c E H fun e E H => match e with
              | .normal => resC T E H fn.results.toList fun xs => match xs with | [] => endC (X.gc f) k (.tup []) H K | x :: r => match r with | [] => endC (X.gc f) k x H K | y :: r => endC (X.gc f) k (.tup (x :: y :: r)) H K
              | .ret => resC T E H fn.results.toList fun xs => match xs with | [] => endC (X.gc f) k (.tup []) H K | x :: r => match r with | [] => endC (X.gc f) k x H K | y :: r => endC (X.gc f) k (.tup (x :: y :: r)) H K
              | _ => none
        | none => none
      | none => none) n

theorem funC_s (hT : TOk P T) (hm : P.follows .mixedOrders = true) (hX : XtOk P T X) {pl : Nat → Nat → Option Rp} {N : Nat} : ∀ n, CallOk P (funC P T X pl N n)
  | 0 => fun R g args H K r h => by cases h
  | n + 1 => fun R f args H K r h => by
    have hc := funC_s hT hm hX (pl := pl) (N := N) n
    have h : (match X.ext f with
      | true => xC (X.call f args H) K
      | false => match P.funcs[f]? with
        | some fn => match fn.body with
          | some c => reqC (Nat.ble 1 fn.ntmps && Nat.ble fn.ntmps 4096 && Nat.ble args.length fn.ntmps) <| lenC H fun k => setsC args 0 (anyT 12 fn.ntmps) fun E =>
              codeC P T X (funC P T X pl N n) (pl f) R N c E H fun e E H => match e with
                | .normal => resC T E H fn.results.toList fun xs => match xs with | [] => endC (X.gc f) k (.tup []) H K | x :: r => match r with | [] => endC (X.gc f) k x H K | y :: r => endC (X.gc f) k (.tup (x :: y :: r)) H K
                | .ret => resC T E H fn.results.toList fun xs => match xs with | [] => endC (X.gc f) k (.tup []) H K | x :: r => match r with | [] => endC (X.gc f) k x H K | y :: r => endC (X.gc f) k (.tup (x :: y :: r)) H K
                | _ => none
          | none => none
        | none => none) = some r := h
    split at h
    · obtain ⟨v, H', h1, h2⟩ := xC_s h
      exact (hX.call _ _ _ _ _ h1).mono fun r' H'' ⟨e1, e2⟩ => by rw [e1, e2]; exact h2
    · split at h <;> try (cases h; done)
      rename_i fn hf
      split at h <;> try (cases h; done)
      rename_i c hb
      obtain ⟨h1, h⟩ := reqC_s h
      simp only [Bool.and_eq_true] at h1
      have h2 := Nat.le_of_ble_eq_true h1.1.1
      have h3 := Nat.le_of_ble_eq_true h1.1.2
      have h4 := Nat.le_of_ble_eq_true h1.2
      obtain ⟨w1, w2⟩ := anyT_s 12 fn.ntmps h2 h3
      rw [lenC_eq] at h
      obtain ⟨E, h5, h6, h7⟩ := setsC_s w1 h
      refine spec_of hT hf hb ?_
      rw [w2, pad_sets h4] at h7
      rw [← h7]
      refine (codeC_s hT hm hX hc N).1 c h6 h5 fun e E H hw h => ?_
      have hres : ∀ k, (resC T E H fn.results.toList fun xs => match xs with | [] => endC (X.gc f) k (.tup []) H K | x :: r => match r with | [] => endC (X.gc f) k x H K | y :: r => endC (X.gc f) k (.tup (x :: y :: r)) H K) = some r → resultK T fn.results.toList E.toL H (fun x H' => AFin k x H' fun v H' => K v H' = some r) := by
        intro k h
        unfold resultK
        refine resC_s hw h fun xs h => ?_
        cases xs with
        | nil => exact endC_s h
        | cons x xs => cases xs <;> exact endC_s h
      cases e <;> first
        | exact hres _ h
        | (cases h; done)

theorem Spec.run (hT : TOk P T) (hm : P.follows .mixedOrders = true) (hX : XtOk P T X) (pl : Nat → Nat → Option Rp) (N n : Nat) {f : Nat} {args : List AV} {H H' : List ABlk} {v : AV}
    (h : (match funC P T X pl N n Bool f args H (fun x H2 => some (eqAV x v && eqH H2 H')) with | some b => b | none => false) = true) : Spec P f args H (fun r H2 => r = v ∧ H2 = H') := by
  split at h <;> try (cases h; done)
  rename_i b hb
  refine (funC_s hT hm hX n _ _ _ _ _ _ hb).mono fun r H h1 => ?_
  simp only [Option.some.injEq] at h1
  rw [← h1] at h
  simp only [Bool.and_eq_true] at h
  exact ⟨eqAV_s _ _ h.1, eqH_s _ _ h.2⟩
end
end Go.Aw

/-
  Aw, part 45: closed calls are computed: maps.
-/
set_option linter.unusedSimpArgs false
set_option linter.unusedVariables false
namespace Go.Aw
open Go Go.Maps

/-- keys as they lie -/
def vAV : Value → AV
  | .agg ys => .agg (ys.toList.map fun v => .v v)
  | v => .v v
theorem repL_vs {w : World} {m : Mu} {I : Nat → Prop} : ∀ {xs ys : List Value}, RepL w m I (xs.map fun v => AV.v v) ys → ys = xs
  | [], ys, h => by simpa [RepL] using h
  | x :: xs, ys, h => by
    simp only [List.map_cons, RepL, Rep] at h
    obtain ⟨y, zs, rfl, rfl, h2⟩ := h
    rw [repL_vs h2]
theorem vAV_rep (w : World) (m : Mu) (I : Nat → Prop) (a y : Value) (h : Rep w m I (vAV a) y) : y = a := by
  unfold vAV at h
  split at h
  · simp only [Rep] at h
    obtain ⟨ys, rfl, h1, _⟩ := h
    rw [repL_vs h1]
  · simpa only [Rep] using h
theorem vKE {P : Program} {kt : Nat} (h : Keyed P kt) : KEnc P kt id vAV (fun v => ∃ l, keyOf P kt v = some l) where
  keyed := h
  lit := fun a h => h
  inj := fun a b h => h
  rep := vAV_rep

/-- a key read back -/
noncomputable def keyC (x : AV) : Option Value :=
  match x with
  | .v v => match v with
    | .agg _ => none
    | v => some v
  | .agg xs => match valsOf xs with
    | some vs => some (.agg ⟨vs⟩)
    | none => none
  | _ => none
theorem valsOf_eq : ∀ {xs : List AV} {vs : List Value}, valsOf xs = some vs → xs = vs.map fun v => AV.v v
  | [], vs, h => by simp only [valsOf, Option.some.injEq] at h; subst h; rfl
  | x :: xs, vs, h => by
    cases x <;> simp only [valsOf] at h <;> try (cases h; done)
    split at h
    · rename_i r hr
      cases h
      rw [valsOf_eq hr]; rfl
    · cases h
theorem keyC_s {x : AV} {v : Value} (h : keyC x = some v) : x = vAV v := by
  unfold keyC at h
  cases x <;> simp only at h <;> try (cases h; done)
  · rename_i a
    cases a <;> simp only [Option.some.injEq] at h <;> first
      | (cases h; done)
      | (subst h; rfl)
  · rename_i xs
    split at h
    · rename_i vs hvs
      cases h
      rw [valsOf_eq hvs]; rfl
    · cases h

noncomputable def unkC : List (AV × AV) → Option (List (Value × AV))
  | [] => some []
  | p :: r => match keyC p.1 with
    | some k => match unkC r with
      | some q => some ((k, p.2) :: q)
      | none => none
    | none => none
theorem unkC_s : ∀ {es : List (AV × AV)} {L : List (Value × AV)}, unkC es = some L → es = em vAV id L
  | [], L, h => by simp only [unkC, Option.some.injEq] at h; subst h; rfl
  | p :: r, L, h => by
    simp only [unkC] at h
    split at h <;> try (cases h; done)
    rename_i k hk
    split at h <;> try (cases h; done)
    rename_i q hq
    cases h
    rw [unkC_s hq]
    simp only [em, List.map_cons, id, ← keyC_s hk]

/-! ### keys held against each other -/
noncomputable def veqS : Value → Value → Option Bool
  | .int k a, .int k' b => some (decide (k = k') && decide (a = b))
  | .bool a, .bool b => some (a == b)
  | .string a, .string b => some (eqU a.data.toList b.data.toList)
  | _, _ => none
theorem veqS_s {a b : Value} {t : Bool} (h : veqS a b = some t) : t = true ↔ a = b := by
  unfold veqS at h
  split at h <;> try (cases h; done)
  · simp only [Option.some.injEq] at h; subst h; simp
  · simp only [Option.some.injEq] at h; subst h; simp
  · simp only [Option.some.injEq] at h; subst h
    rw [eqU_eq, beq_iff_eq]
    constructor
    · intro e; rw [ByteArray.ext (Array.ext' e)]
    · intro e; cases e; rfl
noncomputable def veqL : List Value → List Value → Option Bool
  | [], y => match y with | [] => some true | _ :: _ => some false
  | a :: xs, y => match y with
    | [] => some false
    | b :: ys => match veqS a b with
      | some true => veqL xs ys
      | some false => some false
      | none => none
theorem veqL_s : ∀ {xs ys : List Value} {t : Bool}, veqL xs ys = some t → (t = true ↔ xs = ys)
  | [], [], t, h => by simp only [veqL, Option.some.injEq] at h; subst h; simp
  | [], y :: ys, t, h => by simp only [veqL, Option.some.injEq] at h; subst h; simp
  | x :: xs, [], t, h => by simp only [veqL, Option.some.injEq] at h; subst h; simp
  | x :: xs, y :: ys, t, h => by
    simp only [veqL] at h
    split at h <;> try (cases h; done)
    · rename_i hs
      have h1 := (veqS_s hs).1 rfl
      have h2 := veqL_s h
      rw [h2, h1]; simp
    · rename_i hs
      cases h
      have h1 : ¬ x = y := fun e => by have := (veqS_s hs).2 e; cases this
      simp [h1]
noncomputable def veq : Value → Value → Option Bool
  | .agg a, y => match y with | .agg b => veqL a.toList b.toList | _ => none
  | x, y => veqS x y
theorem veq_s {a b : Value} {t : Bool} (h : veq a b = some t) : t = true ↔ a = b := by
  unfold veq at h
  split at h
  · split at h <;> try (cases h; done)
    rw [veqL_s h]
    constructor
    · intro e; rw [Array.ext' e]
    · intro e; cases e; rfl
  · exact veqS_s h

/-- the places of a key -/
noncomputable def fnd (a : Value) : List (Value × AV) → Nat → Option (List (Nat × AV))
  | [], _ => some []
  | p :: r, i => match veq p.1 a with
    | some true => match fnd a r (Nat.succ i) with
      | some q => some ((i, p.2) :: q)
      | none => none
    | some false => fnd a r (Nat.succ i)
    | none => none
theorem fnd_s {a : Value} : ∀ {L : List (Value × AV)} {i : Nat} {q : List (Nat × AV)}, fnd a L i = some q → (∀ j b, L[j]? = some (a, b) → (i + j, b) ∈ q) ∧ (∀ p ∈ L, p.1 = a → q ≠ []) ∧ ∀ x ∈ q, ∃ j, x.1 = i + j ∧ L[j]? = some (a, x.2)
  | [], i, q, h => by simp only [fnd, Option.some.injEq] at h; subst h; simp
  | p :: r, i, q, h => by
    simp only [fnd] at h
    split at h <;> try (cases h; done)
    · rename_i hv
      have e := (veq_s hv).1 rfl
      split at h <;> try (cases h; done)
      rename_i q' hq
      cases h
      obtain ⟨h1, h2, h3⟩ := fnd_s hq
      refine ⟨fun j b hj => ?_, fun p' _ _ => by simp, fun x hx => ?_⟩
      · cases j with
        | zero => simp at hj; rw [hj]; simp
        | succ j =>
          have := h1 j b (by simpa using hj)
          rw [show i + (j + 1) = i.succ + j by omega]
          exact List.mem_cons_of_mem _ this
      · rcases List.mem_cons.1 hx with rfl | hx
        · exact ⟨0, rfl, by simp; exact Prod.ext e rfl⟩
        · obtain ⟨j, e1, e2⟩ := h3 x hx
          exact ⟨j + 1, by omega, by simpa using e2⟩
    · rename_i hv
      have e : ¬ p.1 = a := fun e => by have := (veq_s hv).2 e; cases this
      obtain ⟨h1, h2, h3⟩ := fnd_s h
      refine ⟨fun j b hj => ?_, fun p' hp hpa => ?_, fun x hx => ?_⟩
      · cases j with
        | zero => simp at hj; rw [hj] at e; exact absurd rfl e
        | succ j =>
          have := h1 j b (by simpa using hj)
          rw [show i + (j + 1) = i.succ + j by omega]
          exact this
      · rcases List.mem_cons.1 hp with rfl | hp
        · exact absurd hpa e
        · exact h2 p' hp hpa
      · obtain ⟨j, e1, e2⟩ := h3 x hx
        exact ⟨j + 1, by omega, by simpa using e2⟩

/-! ### operations -/
noncomputable def evV (E : ET) : Operand → Option AV
  | .tmp i => some (E.get i)
  | .const v => some (.v v)
  | .global _ => none
  | .func f => some (.fn f [] [])
theorem evV_s {E : ET} (hw : E.wf) {o : Operand} {x : AV} (h : evV E o = some x) : ev E.toL o = x := by
  cases o <;> simp only [evV] at h <;> cases h
  · rw [ET.get_eq _ _ hw]; rfl
  · rfl
  · rfl

noncomputable def setLC {R α : Type} (xs : List α) (i : Nat) (x : α) (K : List α → Option R) : Option R :=
  @Nat.rec (fun _ => List α → (List α → Option R) → Option R) (fun H K => @List.casesOn α (fun _ => Option R) H none (fun _ H => K (x :: H)))
    (fun _ g H K => @List.casesOn α (fun _ => Option R) H none (fun c H => g H fun H => K (c :: H))) i xs K
theorem setLC_s {R α : Type} : ∀ {l : Nat} {H : List α} {b : α} {K : List α → Option R} {r : R}, setLC H l b K = some r → l < H.length ∧ K (H.set l b) = some r
  | 0, [], b, K, r, h => by cases h
  | 0, c :: H, b, K, r, h => ⟨by simp, h⟩
  | l + 1, [], b, K, r, h => by cases h
  | l + 1, c :: H, b, K, r, h => by
    have := setLC_s (l := l) (H := H) (b := b) (K := fun H => K (c :: H)) h
    exact ⟨by simp; exact this.1, by simpa using this.2⟩
noncomputable def delC {R α : Type} (xs : List α) (i : Nat) (K : List α → Option R) : Option R :=
  @Nat.rec (fun _ => List α → (List α → Option R) → Option R) (fun H K => @List.casesOn α (fun _ => Option R) H none (fun _ H => K H))
    (fun _ g H K => @List.casesOn α (fun _ => Option R) H none (fun c H => g H fun H => K (c :: H))) i xs K
theorem delC_s {R α : Type} : ∀ {l : Nat} {H : List α} {K : List α → Option R} {r : R}, delC H l K = some r → l < H.length ∧ K (H.eraseIdx l) = some r
  | 0, [], K, r, h => by cases h
  | 0, c :: H, K, r, h => ⟨by simp, h⟩
  | l + 1, [], K, r, h => by cases h
  | l + 1, c :: H, K, r, h => by
    have := delC_s (l := l) (H := H) (K := fun H => K (c :: H)) h
    exact ⟨by simp; exact this.1, by simpa using this.2⟩

noncomputable def kOk (P : Program) (dk : Nat → Bool) (kt : Nat) : Bool :=
  match P.underlying kt with
  | some (.int _) => true
  | some .bool => true
  | some .string => true
  | _ => dk kt
theorem kOk_s {P : Program} {dk : Nat → Bool} (hdk : ∀ kt, dk kt = true → Keyed P kt) {kt : Nat} (h : kOk P dk kt = true) : Keyed P kt := by
  unfold kOk at h
  split at h
  · exact int_keyed (by assumption)
  · exact bool_keyed (by assumption)
  · exact string_keyed (by assumption)
  · exact hdk _ h

noncomputable def keyK (P : Program) (dk : Nat → Bool) (kt : Nat) (x : Option AV) : Option Value :=
  match x with
  | some x => match keyC x with
    | some a => cond (kOk P dk kt && (keyOf P kt a).isSome) (some a) none
    | none => none
  | none => none
theorem keyK_s {P : Program} {dk : Nat → Bool} (hdk : ∀ kt, dk kt = true → Keyed P kt) {kt : Nat} {x : Option AV} {a : Value} (h : keyK P dk kt x = some a) : x = some (vAV a) ∧ Keyed P kt ∧ ∃ l, keyOf P kt a = some l := by
  unfold keyK at h
  split at h <;> try (cases h; done)
  split at h <;> try (cases h; done)
  rename_i x a' ha
  cases hb : (kOk P dk kt && (keyOf P kt a').isSome) <;> simp only [hb, cond] at h <;> cases h
  simp only [Bool.and_eq_true] at hb
  exact ⟨by rw [keyC_s ha], kOk_s hdk hb.1, Option.isSome_iff_exists.1 hb.2⟩

noncomputable def oksC (P : Program) (kt : Nat) : List (Value × AV) → Bool
  | [] => true
  | p :: r => (keyOf P kt p.1).isSome && oksC P kt r
theorem oksC_s {P : Program} {kt : Nat} : ∀ {L : List (Value × AV)}, oksC P kt L = true → ∀ p ∈ L, ∃ l, keyOf P kt p.1 = some l
  | [], h, p, hp => by cases hp
  | q :: r, h, p, hp => by
    simp only [oksC, Bool.and_eq_true] at h
    rcases List.mem_cons.1 hp with rfl | hp
    · exact Option.isSome_iff_exists.1 h.1
    · exact oksC_s h.2 p hp

/-- where a key lies in a map -/
structure Fd where
  l : Nat
  L : List (Value × AV)
  es : List (AV × AV)
  bs : List Nat
  clk : Nat
  at_ : Option (Nat × AV)
noncomputable def fdC (P : Program) (kt : Nat) (H : List ABlk) (m : Option AV) (a : Value) : Option Fd :=
  match m with
  | some m => match m with
    | .mp l => blkC H l fun b => match b with
      | .map es bs clk => match unkC es with
        | some L => reqC (oksC P kt L) (match fnd a L 0 with
          | some q => match q with
            | [] => some ⟨l, L, es, bs, clk, none⟩
            | x :: q => match q with
              | [] => some ⟨l, L, es, bs, clk, some x⟩
              | _ :: _ => none
          | none => none)
        | none => none
      | _ => none
    | _ => none
  | none => none
theorem fdC_s {P : Program} {kt : Nat} {H : List ABlk} {m : Option AV} {a : Value} {F : Fd} (h : fdC P kt H m a = some F) : m = some (.mp F.l) ∧ H[F.l]? = some (.map (em vAV id F.L) F.bs F.clk) ∧ F.es = em vAV id F.L ∧ (∀ p ∈ F.L, ∃ l, keyOf P kt p.1 = some l) ∧
    ((F.at_ = none ∧ ∀ p ∈ F.L, p.1 ≠ a) ∨ ∃ j b, F.at_ = some (j, b) ∧ F.L[j]? = some (a, b) ∧ (∃ p ∈ F.L, p.1 = a) ∧ ∀ j' b', F.L[j']? = some (a, b') → j' = j ∧ b' = b) := by
  unfold fdC at h
  split at h <;> try (cases h; done)
  split at h <;> try (cases h; done)
  rename_i l
  obtain ⟨b, h1, h⟩ := blkC_s h
  split at h <;> try (cases h; done)
  rename_i es bs clk
  split at h <;> try (cases h; done)
  rename_i L hL
  obtain ⟨h2, h⟩ := reqC_s h
  split at h <;> try (cases h; done)
  rename_i q hq
  obtain ⟨f1, f2, f3⟩ := fnd_s hq
  have hes := unkC_s hL
  rw [hes] at h1
  cases q with
  | nil =>
    simp only at h
    cases h
    exact ⟨rfl, h1, hes, oksC_s h2, .inl ⟨rfl, fun p hp e => f2 p hp e rfl⟩⟩
  | cons x q =>
    cases q with
    | cons y q => simp only at h; cases h
    | nil =>
      simp only at h
      cases h
      obtain ⟨j, b⟩ := x
      obtain ⟨j0, e1, e2⟩ := f3 (j, b) (by simp)
      simp only [Nat.zero_add] at e1 e2
      subst e1
      refine ⟨rfl, h1, hes, oksC_s h2, .inr ⟨j, b, rfl, e2, ⟨_, List.mem_of_getElem? e2, rfl⟩, fun j' b' hj => ?_⟩⟩
      have := f1 j' b' hj
      simp only [Nat.zero_add, List.mem_singleton, Prod.mk.injEq] at this
      exact this

/-- the place of a stamp -/
noncomputable def stC (s : Nat) : List Nat → Nat → Option Nat
  | [], _ => none
  | b :: r, i => cond (Nat.beq b s) (some i) (stC s r (Nat.succ i))
theorem stC_s {s : Nat} : ∀ {l : List Nat} {i j : Nat}, stC s l i = some j → ∃ k, j = i + k ∧ l[k]? = some s
  | [], i, j, h => by cases h
  | b :: r, i, j, h => by
    simp only [stC] at h
    cases hb : Nat.beq b s <;> simp only [hb, cond] at h
    · obtain ⟨k, e1, e2⟩ := stC_s h
      exact ⟨k + 1, by omega, by simpa using e2⟩
    · cases h
      exact ⟨0, rfl, by simp [Nat.eq_of_beq_eq_true hb]⟩

noncomputable def mapX (P : Program) (T : Nat → TI) (dk : Nat → Bool) (op : Op) (E : ET) (H : List ABlk) : Option (AV × List ABlk) :=
  match op with
  | .makeMap t r => match r with
    | none => newC H (.map [] [] 0) fun l H => some (.mp l, H)
    | some _ => none
  | .lookup t mo ko c => match P.underlying t with
    | some (.map kt et) => okC T et <| match keyK P dk kt (evV E ko) with
      | some a => match evV E mo with
        | some (.v (.map none)) => some (lookRes c (T et).zero false, H)
        | m => match fdC P kt H m a with
          | some F => match F.at_ with
            | none => some (lookRes c (T et).zero false, H)
            | some x => some (lookRes c x.2 true, H)
          | none => none
      | none => none
    | _ => none
  | .mapUpdate t mo ko xo => match P.underlying t with
    | some (.map kt et) => match keyK P dk kt (evV E ko) with
      | some a => match evV E xo with
        | some v => match fdC P kt H (evV E mo) a with
          | some F => match F.at_ with
            | none => appC F.es [(vAV a, v)] fun es => appC F.bs [F.clk] fun bs => fN (Nat.succ F.clk) fun ck => setHC H F.l (.map es bs ck) fun H => some (.any, H)
            | some x => setLC F.es x.1 (vAV a, v) fun es => setHC H F.l (.map es F.bs F.clk) fun H => some (.any, H)
          | none => none
        | none => none
      | none => none
    | _ => none
  | .mapEntry t mo ko => match P.underlying t with
    | some (.map kt et) => okC T et <| match keyK P dk kt (evV E ko) with
      | some a => match fdC P kt H (evV E mo) a with
        | some F => match F.at_ with
          | none => appC F.es [(vAV a, (T et).zero)] fun es => appC F.bs [F.clk] fun bs => fN (Nat.succ F.clk) fun ck => setHC H F.l (.map es bs ck) fun H => some (.tup [(T et).zero, .v (.int .i64 (Int.ofNat F.clk))], H)
          | some x => match F.bs[x.1]? with
            | some s => some (.tup [x.2, .v (.int .i64 (Int.ofNat s))], H)
            | none => none
        | none => none
      | none => none
    | _ => none
  | .entryStore t mo so xo => match P.underlying t with
    | some (.map kt et) => cond (kOk P dk kt) (match evV E mo with
      | some (.mp l) => match evV E so with
        | some (.v (.int .i64 (.ofNat s))) => match evV E xo with
          | some v => blkC H l fun b => match b with
            | .map es bs clk => match unkC es with
              | some L => match stC s bs 0 with
                | some j => match L[j]? with
                  | some p => setLC es j (vAV p.1, v) fun es => setHC H l (.map es bs clk) fun H => some (.any, H)
                  | none => none
                | none => none
              | none => none
            | _ => none
          | none => none
        | _ => none
      | _ => none) none
    | _ => none
  | .call c => match c.callee with
    | .builtin b => match b with
      | .delete => match c.args.toList with
        | [mo, ko] => match c.argTypes.toList with
          | [t, kt'] => match P.underlying t with
            | some (.map kt et) => reqC (Nat.beq kt kt') <| match keyK P dk kt (evV E ko) with
              | some a => match fdC P kt H (evV E mo) a with
                | some F => match F.at_ with
                  | none => some (.any, H)
                  | some x => delC F.es x.1 fun es => delC F.bs x.1 fun bs => setHC H F.l (.map es bs F.clk) fun H => some (.any, H)
                | none => none
              | none => none
            | _ => none
          | _ => none
        | _ => none
      | _ => none
    | _ => none
  | _ => none

theorem em_set {L : List (Value × AV)} {j : Nat} {a : Value} {b : AV} : em vAV id (L.set j (a, b)) = (em vAV id L).set j (vAV a, b) := by simp only [em, List.map_set]; rfl
theorem em_app {L : List (Value × AV)} {a : Value} {b : AV} : em vAV id (L ++ [(a, b)]) = em vAV id L ++ [(vAV a, b)] := by simp [em]
theorem em_del {L : List (Value × AV)} {j : Nat} : em vAV id (L.eraseIdx j) = (em vAV id L).eraseIdx j := erase_map _ _ _

set_option maxHeartbeats 1000000 in
theorem mapX_s {P : Program} {T : Nat → TI} (hT : TOk P T) {dk : Nat → Bool} (hdk : ∀ kt, dk kt = true → Keyed P kt) (op : Op) (E : ET) (H : List ABlk) (r : AV) (H' : List ABlk) (K : AV → List ABlk → Prop) (hw : E.wf) (h : mapX P T dk op E H = some (r, H')) (hk : K r H') : AOp P op E.toL H K := by
  unfold mapX at h
  cases op <;> simp only at h <;> try (cases h; done)
  case makeMap t q =>
    cases q <;> simp only at h <;> try (cases h; done)
    rw [newC_eq] at h
    cases h
    exact AOp.makeMap hk
  case lookup t mo ko c =>
    split at h <;> try (cases h; done)
    rename_i kt et ht
    obtain ⟨h1, h⟩ := okC_inv h
    split at h <;> try (cases h; done)
    rename_i a ha
    obtain ⟨h2, h3, h4⟩ := keyK_s hdk ha
    have h5 := evV_s hw h2
    split at h
    · rename_i hm
      cases h
      exact AOp.lookupNil hT (vKE h3) ht h1 (evV_s hw hm) h5 h4 hk
    · split at h <;> try (cases h; done)
      rename_i F hF
      obtain ⟨g1, g2, g3, g4, g5⟩ := fdC_s hF
      have g1 := evV_s hw g1
      rcases g5 with ⟨e1, e2⟩ | ⟨j, b, e1, e2, ⟨p, e3, e5⟩, e4⟩
      · rw [e1] at h
        cases h
        exact AOp.lookup hT (vKE h3) ht h1 g1 h5 g2 g4 h4 (fun _ => hk) (fun j b hj => absurd rfl (e2 _ (List.mem_of_getElem? hj)))
      · rw [e1] at h
        cases h
        exact AOp.lookup hT (vKE h3) ht h1 g1 h5 g2 g4 h4 (fun h => absurd e5 (h p e3)) (fun j' b' hj => by obtain ⟨_, rfl⟩ := e4 j' b' hj; exact hk)
  case mapUpdate t mo ko xo =>
    split at h <;> try (cases h; done)
    rename_i kt et ht
    split at h <;> try (cases h; done)
    rename_i a ha
    obtain ⟨h2, h3, h4⟩ := keyK_s hdk ha
    have h5 := evV_s hw h2
    split at h <;> try (cases h; done)
    rename_i v hv
    have h6 := evV_s hw hv
    split at h <;> try (cases h; done)
    rename_i F hF
    obtain ⟨g1, g2, g3, g4, g5⟩ := fdC_s hF
    have g1 := evV_s hw g1
    rcases g5 with ⟨e1, e2⟩ | ⟨j, b, e1, e2, ⟨p, e3, e5⟩, e4⟩
    · rw [e1] at h
      simp only [appC_eq, fN_eq] at h
      obtain ⟨_, h⟩ := setHC_s h
      cases h
      exact AOp.mapUpdate (eb := id) (b' := v) (vKE h3) ht g1 h5 h6 g2 g4 h4 (fun _ => by rw [em_app, ← g3]; exact hk) (fun j b hj => absurd rfl (e2 _ (List.mem_of_getElem? hj)))
    · rw [e1] at h
      simp only at h
      obtain ⟨_, h⟩ := setLC_s h
      obtain ⟨_, h⟩ := setHC_s h
      cases h
      exact AOp.mapUpdate (eb := id) (b' := v) (vKE h3) ht g1 h5 h6 g2 g4 h4 (fun h => absurd e5 (h p e3)) (fun j' b' hj => by obtain ⟨rfl, rfl⟩ := e4 j' b' hj; rw [em_set, ← g3]; exact hk)
  case mapEntry t mo ko =>
    split at h <;> try (cases h; done)
    rename_i kt et ht
    obtain ⟨h1, h⟩ := okC_inv h
    split at h <;> try (cases h; done)
    rename_i a ha
    obtain ⟨h2, h3, h4⟩ := keyK_s hdk ha
    have h5 := evV_s hw h2
    split at h <;> try (cases h; done)
    rename_i F hF
    obtain ⟨g1, g2, g3, g4, g5⟩ := fdC_s hF
    have g1 := evV_s hw g1
    rcases g5 with ⟨e1, e2⟩ | ⟨j, b, e1, e2, ⟨p, e3, e5⟩, e4⟩
    · rw [e1] at h
      simp only [appC_eq, fN_eq] at h
      obtain ⟨_, h⟩ := setHC_s h
      cases h
      exact AOp.mapEntry (eb := id) (z := (T et).zero) hT (vKE h3) ht h1 rfl g1 h5 g2 g4 h4 (fun _ _ => by rw [em_app, ← g3]; exact hk) (fun j b s hj => absurd rfl (e2 _ (List.mem_of_getElem? hj)))
    · rw [e1] at h
      simp only at h
      split at h <;> try (cases h; done)
      rename_i s hs
      cases h
      exact AOp.mapEntry (eb := id) (z := (T et).zero) hT (vKE h3) ht h1 rfl g1 h5 g2 g4 h4 (fun h => absurd e5 (h p e3)) (fun j' b' s' hj hs' => by obtain ⟨rfl, rfl⟩ := e4 j' b' hj; rw [hs] at hs'; cases hs'; exact hk)
  case entryStore t mo so xo =>
    split at h <;> try (cases h; done)
    rename_i kt et ht
    cases hkk : kOk P dk kt <;> simp only [hkk, cond] at h <;> try (cases h; done)
    have h3 := kOk_s hdk hkk
    split at h <;> try (cases h; done)
    rename_i l hl
    split at h <;> try (cases h; done)
    rename_i s hs
    split at h <;> try (cases h; done)
    rename_i v hv
    obtain ⟨b, h1, h⟩ := blkC_s h
    split at h <;> try (cases h; done)
    rename_i es bs clk
    split at h <;> try (cases h; done)
    rename_i L hL
    split at h <;> try (cases h; done)
    rename_i j hj
    split at h <;> try (cases h; done)
    rename_i p hp
    obtain ⟨_, h⟩ := setLC_s h
    obtain ⟨_, h⟩ := setHC_s h
    cases h
    obtain ⟨k, e1, e2⟩ := stC_s hj
    rw [Nat.zero_add] at e1
    subst e1
    have hes := unkC_s hL
    rw [hes] at h1
    exact AOp.entryStore (eb := id) (b' := v) (vKE h3) (evV_s hw hl) (evV_s hw hs) (evV_s hw hv) h1 hp e2 (by rw [em_set, ← hes]; exact hk)
  case call c =>
    obtain ⟨callee, args, ts⟩ := c
    split at h <;> try (cases h; done)
    rename_i b hcal
    simp only at hcal
    subst hcal
    split at h <;> try (cases h; done)
    split at h <;> try (cases h; done)
    rename_i mo ko hargs
    split at h <;> try (cases h; done)
    rename_i t kt' hts
    split at h <;> try (cases h; done)
    rename_i kt et ht
    replace h := reqC_s h
    obtain ⟨hkt, h⟩ := h
    replace hkt := Nat.eq_of_beq_eq_true hkt
    subst hkt
    split at h <;> try (cases h; done)
    rename_i a ha
    obtain ⟨h2, h3, h4⟩ := keyK_s hdk ha
    have h5 := evV_s hw h2
    split at h <;> try (cases h; done)
    rename_i F hF
    obtain ⟨g1, g2, g3, g4, g5⟩ := fdC_s hF
    have g1 := evV_s hw g1
    have ea : args = #[mo, ko] := Array.ext' hargs
    have et' : ts = #[t, kt] := Array.ext' hts
    rcases g5 with ⟨e1, e2⟩ | ⟨j, b, e1, e2, ⟨p, e3, e5⟩, e4⟩
    · rw [e1] at h
      cases h
      exact AOp.delete (eb := id) (vKE h3) ht ea et' g1 h5 g2 g4 h4 (fun _ => hk) (fun j b hj => absurd rfl (e2 _ (List.mem_of_getElem? hj)))
    · rw [e1] at h
      simp only at h
      obtain ⟨_, h⟩ := delC_s h
      obtain ⟨_, h⟩ := delC_s h
      obtain ⟨_, h⟩ := setHC_s h
      cases h
      exact AOp.delete (eb := id) (vKE h3) ht ea et' g1 h5 g2 g4 h4 (fun h => absurd e5 (h p e3)) (fun j' b' hj => by obtain ⟨rfl, rfl⟩ := e4 j' b' hj; rw [em_del, ← g3]; exact hk)

noncomputable def mapXt (P : Program) (T : Nat → TI) (dk gc : Nat → Bool) : Xt := ⟨fun _ => false, gc, fun _ _ _ => none, mapX P T dk⟩
theorem mapXt_ok {P : Program} {T : Nat → TI} (hT : TOk P T) {dk gc : Nat → Bool} (hdk : ∀ kt, dk kt = true → Keyed P kt) : XtOk P T (mapXt P T dk gc) :=
  ⟨fun _ _ _ _ _ h => (by cases h), fun op E H r H' K hw h hk => mapX_s hT hdk op E H r H' K hw h hk⟩
end Go.Aw

/-
  Aw, part 46: closed calls are computed: strings.Builder.
-/
set_option linter.unusedSimpArgs false
set_option linter.unusedVariables false
namespace Go.Aw
open Go Go.Proofs Go.Shelf Go.RowKit

section
variable {P : Program} {ρ : Ren}
end

/-- the builder's functions at this cut: String, copyCheck; its type, a byte's type -/
structure Bd where
  fS : Nat
  fC : Nat
  tb : Nat
  t5 : Nat
structure BdOk (P : Program) (B : Bd) : Prop where
  str : ∀ {H0 : List ABlk} {l0 l1 : Nat} {a : AV} (l : List UInt8), l ≠ [] → l.length ≤ 9223372036854775807 → H0[l0]? = some (.cells B.tb [a, .ms 1 l1 0 l.length]) → H0[l1]? = some (.cells B.t5 (l.map byteC)) →
    Spec P B.fS [.ptr l0 0] H0 fun r H => r = .v (.string ⟨l.toArray⟩) ∧ H = H0.set l1 .dead
  chk : ∀ {H0 : List ABlk} {l0 : Nat} {x : AV} (ao : AV), (ao = .ptr l0 0 ∨ ao = .v (.pointer none)) → H0[l0]? = some (.cells B.tb [ao, x]) →
    Spec P B.fC [.ptr l0 0] H0 fun r H => r = .tup [] ∧ H = H0.set l0 (.cells B.tb [.ptr l0 0, x])

end Go.Aw

/-
  Aw, part 55: values taken weaker: a slice whose room is known for one whose room is not, a nil one for an empty one.
-/
set_option linter.unusedSimpArgs false
set_option linter.unusedVariables false
namespace Go.Aw
open Go

mutual
inductive Wk : AV → AV → Prop
  | same {x : AV} : Wk x x
  | nil {sz : Nat} : Wk (.v (.slice none 0 0)) (.vs sz 0 [])
  | vx {sz n : Nat} {xs xs' : List AV} : WkL xs xs' → Wk (.vx sz n xs) (.vs sz n xs')
  | agg {xs xs' : List AV} : WkL xs xs' → Wk (.agg xs) (.agg xs')
inductive WkL : List AV → List AV → Prop
  | nil : WkL [] []
  | cons {x x' : AV} {xs xs' : List AV} : Wk x x' → WkL xs xs' → WkL (x :: xs) (x' :: xs')
end

theorem WkL.len : ∀ {xs xs' : List AV}, WkL xs xs' → xs'.length = xs.length
  | _, _, .nil => rfl
  | _, _, .cons _ h => by simp [h.len]

section
variable {w : World} {m : Mu} {I : Nat → Prop}
mutual
theorem Wk.rep : ∀ {x x' : AV} {y : Value}, Wk x x' → Rep w m I x y → Rep w m I x' y
  | _, _, y, .same, h => h
  | _, _, y, .nil, h => by
    simp only [Rep] at h ⊢
    exact ⟨none, 0, h, Nat.le_refl _, by simp, .inl (by simp)⟩
  | _, _, y, .vx (sz := sz) (n := n) hl, h => by
    simp only [Rep] at h ⊢
    obtain ⟨a, e, h1, h2⟩ := h
    refine ⟨a, n, e, Nat.le_refl _, by rw [hl.len]; exact h1, ?_⟩
    rcases h2 with ⟨h2, h3⟩ | ⟨A, ha, h2⟩
    · exact .inl ⟨h2, h3, h3⟩
    · refine .inr ⟨A, ha, ?_⟩
      rcases h2 with h2 | ⟨h2, h3, h4⟩
      · exact .inl h2
      · exact .inr ⟨h2, h3, hl.repC h4⟩
  | _, _, y, .agg hl, h => by
    simp only [Rep] at h ⊢
    obtain ⟨ys, e, h1, h2⟩ := h
    exact ⟨ys, e, hl.rep h1, h2⟩
theorem WkL.rep : ∀ {xs xs' : List AV} {ys : List Value}, WkL xs xs' → RepL w m I xs ys → RepL w m I xs' ys
  | _, _, ys, .nil, h => h
  | _, _, ys, .cons hx hl, h => by
    simp only [RepL] at h ⊢
    obtain ⟨y, zs, e, h1, h2⟩ := h
    exact ⟨y, zs, e, hx.rep h1, hl.rep h2⟩
theorem WkL.repC : ∀ {xs xs' : List AV} {b off : Nat}, WkL xs xs' → RepC w m I xs b off → RepC w m I xs' b off
  | _, _, b, off, .nil, h => h
  | _, _, b, off, .cons hx hl, h => by
    simp only [RepC] at h ⊢
    obtain ⟨⟨y, h1, h2, h3⟩, h4⟩ := h
    exact ⟨⟨y, h1, h2, hx.rep h3⟩, hl.repC h4⟩
end
end
section
variable {P : Program} {H : List ABlk}
theorem Spec.wk {f : Nat} {args args' : List AV} {K : AV → List ABlk → Prop} (h : Spec P f args' H K) (hw : WkL args args') : Spec P f args H K :=
  fun C m I w vs hs hr => h C m I w vs hs (hw.rep hr)
/-- a function of values, among own blocks -/
theorem Fun.any {f : Nat} {args : List AV} {r : AV} (hc : callOk P f = true) (h : Fun P f args r) (ha : ∀ ρ, renL ρ args = args) (hr : ∀ ρ, r.ren ρ = r) : Spec P f args H (fun r' H' => r' = r ∧ H' = H) :=
  (ACall.iff.1 (ACall.val (K := fun r' H' => r' = r ∧ H' = H) hc h (ha _) (hr _) ⟨rfl, rfl⟩)).2
end
end Go.Aw

set_option linter.unusedSimpArgs false
set_option linter.unusedVariables false
set_option maxHeartbeats 4000000
set_option maxRecDepth 30000
namespace Go.Aw.U1
open Go Go.Proofs

/-! a state read out of a closed value -/
theorem WkL.app : ∀ {a a' b b' : List AV}, WkL a a' → WkL b b' → WkL (a ++ b) (a' ++ b')
  | _, _, _, _, .nil, h => h
  | _, _, _, _, .cons hx hl, h => .cons hx (WkL.app hl h)
def deI : AV → Option Int
  | .v (.int .i64 n) => some n
  | _ => none
def deS : AV → Option ByteArray
  | .v (.string s) => some s
  | _ => none
def deB : AV → Option Bool
  | .v (.bool b) => some b
  | _ => none
theorem deI_s {x : AV} {n : Int} (h : deI x = some n) : Go.Aw.Wk x (nV n) := by
  unfold deI at h; split at h <;> cases h; exact .same
theorem deS_s {x : AV} {n : ByteArray} (h : deS x = some n) : Go.Aw.Wk x (sV n) := by
  unfold deS at h; split at h <;> cases h; exact .same
theorem deB_s {x : AV} {n : Bool} (h : deB x = some n) : Go.Aw.Wk x (bV n) := by
  unfold deB at h; split at h <;> cases h; exact .same
section
variable {α : Type}
def deRow (w : Nat) (d : List AV → Option α) : Nat → List AV → Option (List α)
  | 0, xs => match xs with
    | [] => some []
    | _ => none
  | n + 1, xs => match d (xs.take w) with
    | some a => match deRow w d n (xs.drop w) with
      | some l => some (a :: l)
      | none => none
    | none => none
theorem deRow_s {w : Nat} {d : List AV → Option α} {enc : α → List AV} (hd : ∀ xs a, d xs = some a → WkL xs (enc a)) : ∀ {n : Nat} {xs : List AV} {l : List α}, deRow w d n xs = some l → WkL xs (l.flatMap enc) ∧ l.length = n
  | 0, xs, l, h => by
    unfold deRow at h
    split at h <;> cases h
    exact ⟨.nil, rfl⟩
  | n + 1, xs, l, h => by
    unfold deRow at h
    split at h
    · rename_i a ha
      split at h
      · rename_i l' hl
        cases h
        obtain ⟨h1, h2⟩ := deRow_s hd hl
        refine ⟨?_, by rw [List.length_cons, h2]⟩
        rw [List.flatMap_cons, ← List.take_append_drop w xs]
        exact WkL.app (hd _ _ ha) h1
      · cases h
    · cases h
def deL (w : Nat) (d : List AV → Option α) : AV → Option (List α)
  | .v (.slice none 0 0) => some []
  | .vx sz n xs => cond (Nat.beq sz w) (deRow w d n xs) none
  | _ => none
theorem deL_s {w : Nat} {d : List AV → Option α} {enc : α → List AV} (hd : ∀ xs a, d xs = some a → WkL xs (enc a)) {x : AV} {l : List α} (h : deL w d x = some l) : Go.Aw.Wk x (.vs w l.length (l.flatMap enc)) := by
  unfold deL at h
  split at h
  · cases h; exact .nil
  · cases hb : Nat.beq _ w <;> rw [hb] at h
    · cases h
    · have h := deRow_s hd h
      rw [Nat.eq_of_beq_eq_true hb, h.2]
      exact .vx h.1
  · cases h
end
def deI1 : List AV → Option Int
  | [x] => deI x
  | _ => none
def deS1 : List AV → Option ByteArray
  | [x] => deS x
  | _ => none
theorem deI1_s (xs : List AV) (a : Int) (h : deI1 xs = some a) : WkL xs (iC a) := by
  unfold deI1 at h; split at h
  · exact .cons (deI_s h) .nil
  · cases h
theorem deS1_s (xs : List AV) (a : ByteArray) (h : deS1 xs = some a) : WkL xs (sC a) := by
  unfold deS1 at h; split at h
  · exact .cons (deS_s h) .nil
  · cases h
def deIt (xs : List AV) : Option It :=
  match xs with
  | [x0, x1, x2, x3] =>
    match deI x0 with
    | none => none
    | some y0 =>
    match deI x1 with
    | none => none
    | some y1 =>
    match deI x2 with
    | none => none
    | some y2 =>
    match deI x3 with
    | none => none
    | some y3 =>
    some ⟨y0, y1, y2, y3⟩
  | _ => none
theorem deIt_s (xs : List AV) (a : It) (h : deIt xs = some a) : WkL xs (itC a) := by
  unfold deIt at h
  split at h
  · split at h
    · cases h
    rename_i y0 h0
    split at h
    · cases h
    rename_i y1 h1
    split at h
    · cases h
    rename_i y2 h2
    split at h
    · cases h
    rename_i y3 h3
    cases h
    exact .cons (deI_s h0) (.cons (deI_s h1) (.cons (deI_s h2) (.cons (deI_s h3) (.nil))))
  · cases h
def deLn (xs : List AV) : Option Ln :=
  match xs with
  | [x0, x1, x2, x3, x4] =>
    match deI x0 with
    | none => none
    | some y0 =>
    match deI x1 with
    | none => none
    | some y1 =>
    match deI x2 with
    | none => none
    | some y2 =>
    match deI x3 with
    | none => none
    | some y3 =>
    match deL 1 deS1 x4 with
    | none => none
    | some y4 =>
    some ⟨y0, y1, y2, y3, y4⟩
  | _ => none
theorem deLn_s (xs : List AV) (a : Ln) (h : deLn xs = some a) : WkL xs (lnC a) := by
  unfold deLn at h
  split at h
  · split at h
    · cases h
    rename_i y0 h0
    split at h
    · cases h
    rename_i y1 h1
    split at h
    · cases h
    rename_i y2 h2
    split at h
    · cases h
    rename_i y3 h3
    split at h
    · cases h
    rename_i y4 h4
    cases h
    exact .cons (deI_s h0) (.cons (deI_s h1) (.cons (deI_s h2) (.cons (deI_s h3) (.cons (deL_s deS1_s h4) (.nil)))))
  · cases h
def deOd (xs : List AV) : Option Od :=
  match xs with
  | [x0, x1, x2] =>
    match deI x0 with
    | none => none
    | some y0 =>
    match deI x1 with
    | none => none
    | some y1 =>
    match deL 5 deLn x2 with
    | none => none
    | some y2 =>
    some ⟨y0, y1, y2⟩
  | _ => none
theorem deOd_s (xs : List AV) (a : Od) (h : deOd xs = some a) : WkL xs (odC a) := by
  unfold deOd at h
  split at h
  · split at h
    · cases h
    rename_i y0 h0
    split at h
    · cases h
    rename_i y1 h1
    split at h
    · cases h
    rename_i y2 h2
    cases h
    exact .cons (deI_s h0) (.cons (deI_s h1) (.cons (deL_s deLn_s h2) (.nil)))
  · cases h
def deWn (xs : List AV) : Option Wn :=
  match xs with
  | [x0, x1, x2] =>
    match deI x0 with
    | none => none
    | some y0 =>
    match deI x1 with
    | none => none
    | some y1 =>
    match deI x2 with
    | none => none
    | some y2 =>
    some ⟨y0, y1, y2⟩
  | _ => none
theorem deWn_s (xs : List AV) (a : Wn) (h : deWn xs = some a) : WkL xs (wnC a) := by
  unfold deWn at h
  split at h
  · split at h
    · cases h
    rename_i y0 h0
    split at h
    · cases h
    rename_i y1 h1
    split at h
    · cases h
    rename_i y2 h2
    cases h
    exact .cons (deI_s h0) (.cons (deI_s h1) (.cons (deI_s h2) (.nil)))
  · cases h
def deRm (xs : List AV) : Option Rm :=
  match xs with
  | [x0, x1, x2, x3, x4] =>
    match deI x0 with
    | none => none
    | some y0 =>
    match deI x1 with
    | none => none
    | some y1 =>
    match deI x2 with
    | none => none
    | some y2 =>
    match deI x3 with
    | none => none
    | some y3 =>
    match deL 3 deWn x4 with
    | none => none
    | some y4 =>
    some ⟨y0, y1, y2, y3, y4⟩
  | _ => none
theorem deRm_s (xs : List AV) (a : Rm) (h : deRm xs = some a) : WkL xs (rmC a) := by
  unfold deRm at h
  split at h
  · split at h
    · cases h
    rename_i y0 h0
    split at h
    · cases h
    rename_i y1 h1
    split at h
    · cases h
    rename_i y2 h2
    split at h
    · cases h
    rename_i y3 h3
    split at h
    · cases h
    rename_i y4 h4
    cases h
    exact .cons (deI_s h0) (.cons (deI_s h1) (.cons (deI_s h2) (.cons (deI_s h3) (.cons (deL_s deWn_s h4) (.nil)))))
  · cases h
def deUn (xs : List AV) : Option Un :=
  match xs with
  | [x0, x1, x2, x3, x4, x5, x6, x7, x8, x9] =>
    match deS x0 with
    | none => none
    | some y0 =>
    match deI x1 with
    | none => none
    | some y1 =>
    match deI x2 with
    | none => none
    | some y2 =>
    match deI x3 with
    | none => none
    | some y3 =>
    match deI x4 with
    | none => none
    | some y4 =>
    match deI x5 with
    | none => none
    | some y5 =>
    match deI x6 with
    | none => none
    | some y6 =>
    match deI x7 with
    | none => none
    | some y7 =>
    match deI x8 with
    | none => none
    | some y8 =>
    match deI x9 with
    | none => none
    | some y9 =>
    some ⟨y0, y1, y2, y3, y4, y5, y6, y7, y8, y9⟩
  | _ => none
theorem deUn_s (xs : List AV) (a : Un) (h : deUn xs = some a) : WkL xs (unC a) := by
  unfold deUn at h
  split at h
  · split at h
    · cases h
    rename_i y0 h0
    split at h
    · cases h
    rename_i y1 h1
    split at h
    · cases h
    rename_i y2 h2
    split at h
    · cases h
    rename_i y3 h3
    split at h
    · cases h
    rename_i y4 h4
    split at h
    · cases h
    rename_i y5 h5
    split at h
    · cases h
    rename_i y6 h6
    split at h
    · cases h
    rename_i y7 h7
    split at h
    · cases h
    rename_i y8 h8
    split at h
    · cases h
    rename_i y9 h9
    cases h
    exact .cons (deS_s h0) (.cons (deI_s h1) (.cons (deI_s h2) (.cons (deI_s h3) (.cons (deI_s h4) (.cons (deI_s h5) (.cons (deI_s h6) (.cons (deI_s h7) (.cons (deI_s h8) (.cons (deI_s h9) (.nil))))))))))
  · cases h
def deWk (xs : List AV) : Option Wk :=
  match xs with
  | [x0, x1, x2, x3, x4] =>
    match deI x0 with
    | none => none
    | some y0 =>
    match deS x1 with
    | none => none
    | some y1 =>
    match deI x2 with
    | none => none
    | some y2 =>
    match deI x3 with
    | none => none
    | some y3 =>
    match deI x4 with
    | none => none
    | some y4 =>
    some ⟨y0, y1, y2, y3, y4⟩
  | _ => none
theorem deWk_s (xs : List AV) (a : Wk) (h : deWk xs = some a) : WkL xs (wkC a) := by
  unfold deWk at h
  split at h
  · split at h
    · cases h
    rename_i y0 h0
    split at h
    · cases h
    rename_i y1 h1
    split at h
    · cases h
    rename_i y2 h2
    split at h
    · cases h
    rename_i y3 h3
    split at h
    · cases h
    rename_i y4 h4
    cases h
    exact .cons (deI_s h0) (.cons (deS_s h1) (.cons (deI_s h2) (.cons (deI_s h3) (.cons (deI_s h4) (.nil)))))
  · cases h
def deCl (xs : List AV) : Option Cl :=
  match xs with
  | [x0, x1, x2, x3] =>
    match deI x0 with
    | none => none
    | some y0 =>
    match deI x1 with
    | none => none
    | some y1 =>
    match deI x2 with
    | none => none
    | some y2 =>
    match deL 1 deS1 x3 with
    | none => none
    | some y3 =>
    some ⟨y0, y1, y2, y3⟩
  | _ => none
theorem deCl_s (xs : List AV) (a : Cl) (h : deCl xs = some a) : WkL xs (clC a) := by
  unfold deCl at h
  split at h
  · split at h
    · cases h
    rename_i y0 h0
    split at h
    · cases h
    rename_i y1 h1
    split at h
    · cases h
    rename_i y2 h2
    split at h
    · cases h
    rename_i y3 h3
    cases h
    exact .cons (deI_s h0) (.cons (deI_s h1) (.cons (deI_s h2) (.cons (deL_s deS1_s h3) (.nil))))
  · cases h
def deMo (xs : List AV) : Option Mo :=
  match xs with
  | [x0, x1, x2, x3, x4] =>
    match deI x0 with
    | none => none
    | some y0 =>
    match deI x1 with
    | none => none
    | some y1 =>
    match deL 1 deS1 x2 with
    | none => none
    | some y2 =>
    match deL 1 deI1 x3 with
    | none => none
    | some y3 =>
    match deB x4 with
    | none => none
    | some y4 =>
    some ⟨y0, y1, y2, y3, y4⟩
  | _ => none
theorem deMo_s (xs : List AV) (a : Mo) (h : deMo xs = some a) : WkL xs (moC a) := by
  unfold deMo at h
  split at h
  · split at h
    · cases h
    rename_i y0 h0
    split at h
    · cases h
    rename_i y1 h1
    split at h
    · cases h
    rename_i y2 h2
    split at h
    · cases h
    rename_i y3 h3
    split at h
    · cases h
    rename_i y4 h4
    cases h
    exact .cons (deI_s h0) (.cons (deI_s h1) (.cons (deL_s deS1_s h2) (.cons (deL_s deI1_s h3) (.cons (deB_s h4) (.nil)))))
  · cases h
def deMv (xs : List AV) : Option Mv :=
  match xs with
  | [x0, x1, x2] =>
    match deB x0 with
    | none => none
    | some y0 =>
    match deI x1 with
    | none => none
    | some y1 =>
    match deI x2 with
    | none => none
    | some y2 =>
    some ⟨y0, y1, y2⟩
  | _ => none
theorem deMv_s (xs : List AV) (a : Mv) (h : deMv xs = some a) : WkL xs (mvC a) := by
  unfold deMv at h
  split at h
  · split at h
    · cases h
    rename_i y0 h0
    split at h
    · cases h
    rename_i y1 h1
    split at h
    · cases h
    rename_i y2 h2
    cases h
    exact .cons (deB_s h0) (.cons (deI_s h1) (.cons (deI_s h2) (.nil)))
  · cases h
def deRo (xs : List AV) : Option Ro :=
  match xs with
  | [x0, x1, x2, x3, x4] =>
    match deI x0 with
    | none => none
    | some y0 =>
    match deI x1 with
    | none => none
    | some y1 =>
    match deI x2 with
    | none => none
    | some y2 =>
    match deI x3 with
    | none => none
    | some y3 =>
    match deI x4 with
    | none => none
    | some y4 =>
    some ⟨y0, y1, y2, y3, y4⟩
  | _ => none
theorem deRo_s (xs : List AV) (a : Ro) (h : deRo xs = some a) : WkL xs (roC a) := by
  unfold deRo at h
  split at h
  · split at h
    · cases h
    rename_i y0 h0
    split at h
    · cases h
    rename_i y1 h1
    split at h
    · cases h
    rename_i y2 h2
    split at h
    · cases h
    rename_i y3 h3
    split at h
    · cases h
    rename_i y4 h4
    cases h
    exact .cons (deI_s h0) (.cons (deI_s h1) (.cons (deI_s h2) (.cons (deI_s h3) (.cons (deI_s h4) (.nil)))))
  · cases h
def deDn (xs : List AV) : Option Dn :=
  match xs with
  | [x0, x1, x2] =>
    match deI x0 with
    | none => none
    | some y0 =>
    match deS x1 with
    | none => none
    | some y1 =>
    match deS x2 with
    | none => none
    | some y2 =>
    some ⟨y0, y1, y2⟩
  | _ => none
theorem deDn_s (xs : List AV) (a : Dn) (h : deDn xs = some a) : WkL xs (dnC a) := by
  unfold deDn at h
  split at h
  · split at h
    · cases h
    rename_i y0 h0
    split at h
    · cases h
    rename_i y1 h1
    split at h
    · cases h
    rename_i y2 h2
    cases h
    exact .cons (deI_s h0) (.cons (deS_s h1) (.cons (deS_s h2) (.nil)))
  · cases h
def deSta (xs : List AV) : Option Sta :=
  match xs with
  | [x0, x1, x2, x3, x4, x5, x6, x7, x8, x9, x10, x11, x12, x13, x14, x15, x16, x17] =>
    match deI x0 with
    | none => none
    | some y0 =>
    match deI x1 with
    | none => none
    | some y1 =>
    match deI x2 with
    | none => none
    | some y2 =>
    match deI x3 with
    | none => none
    | some y3 =>
    match deI x4 with
    | none => none
    | some y4 =>
    match deL 4 deIt x5 with
    | none => none
    | some y5 =>
    match deL 3 deOd x6 with
    | none => none
    | some y6 =>
    match deL 5 deRm x7 with
    | none => none
    | some y7 =>
    match deL 10 deUn x8 with
    | none => none
    | some y8 =>
    match deL 5 deWk x9 with
    | none => none
    | some y9 =>
    match deL 4 deCl x10 with
    | none => none
    | some y10 =>
    match deL 5 deMo x11 with
    | none => none
    | some y11 =>
    match deL 3 deMv x12 with
    | none => none
    | some y12 =>
    match deL 1 deI1 x13 with
    | none => none
    | some y13 =>
    match deL 1 deI1 x14 with
    | none => none
    | some y14 =>
    match deL 1 deI1 x15 with
    | none => none
    | some y15 =>
    match deL 5 deRo x16 with
    | none => none
    | some y16 =>
    match deL 3 deDn x17 with
    | none => none
    | some y17 =>
    some ⟨y0, y1, y2, y3, y4, y5, y6, y7, y8, y9, y10, y11, y12, ⟨y13, y14, y15, y16⟩, y17⟩
  | _ => none
theorem deSta_s (xs : List AV) (a : Sta) (h : deSta xs = some a) : WkL xs (stC a) := by
  unfold deSta at h
  split at h
  · split at h
    · cases h
    rename_i y0 h0
    split at h
    · cases h
    rename_i y1 h1
    split at h
    · cases h
    rename_i y2 h2
    split at h
    · cases h
    rename_i y3 h3
    split at h
    · cases h
    rename_i y4 h4
    split at h
    · cases h
    rename_i y5 h5
    split at h
    · cases h
    rename_i y6 h6
    split at h
    · cases h
    rename_i y7 h7
    split at h
    · cases h
    rename_i y8 h8
    split at h
    · cases h
    rename_i y9 h9
    split at h
    · cases h
    rename_i y10 h10
    split at h
    · cases h
    rename_i y11 h11
    split at h
    · cases h
    rename_i y12 h12
    split at h
    · cases h
    rename_i y13 h13
    split at h
    · cases h
    rename_i y14 h14
    split at h
    · cases h
    rename_i y15 h15
    split at h
    · cases h
    rename_i y16 h16
    split at h
    · cases h
    rename_i y17 h17
    cases h
    exact .cons (deI_s h0) (.cons (deI_s h1) (.cons (deI_s h2) (.cons (deI_s h3) (.cons (deI_s h4) (.cons (deL_s deIt_s h5) (.cons (deL_s deOd_s h6) (.cons (deL_s deRm_s h7) (.cons (deL_s deUn_s h8) (.cons (deL_s deWk_s h9) (.cons (deL_s deCl_s h10) (.cons (deL_s deMo_s h11) (.cons (deL_s deMv_s h12) (.cons (deL_s deI1_s h13) (.cons (deL_s deI1_s h14) (.cons (deL_s deI1_s h15) (.cons (deL_s deRo_s h16) (.cons (deL_s deDn_s h17) (.nil))))))))))))))))))
  · cases h

/-! bounds, by computing -/
def sOkB (s : ByteArray) : Bool := decide (s.size ≤ 9223372036854775807)
def ssOkB (l : List ByteArray) : Bool := decide (l.length ≤ 1000000) && l.all sOkB
def nOkB (n : Int) : Bool := decide (-9223372036854775808 ≤ n) && decide (n ≤ 9223372036854775807)
theorem ssOkB_s {l : List ByteArray} (h : ssOkB l = true) : ssOk l ∧ l.length ≤ 1000000 := by
  simp only [ssOkB, sOkB, Bool.and_eq_true, List.all_eq_true, decide_eq_true_eq] at h
  exact ⟨⟨by omega, h.2⟩, h.1⟩
def staOkB (s : Sta) : Bool :=
  decide (s.items.length ≤ 1000000) && decide (s.orders.length ≤ 1000000) && s.orders.all (fun o => decide (o.ls.length ≤ 1000000) && o.ls.all (fun l => ssOkB l.ss)) &&
  decide (s.rmas.length ≤ 1000000) && s.rmas.all (fun r => decide (r.ws.length ≤ 1000000) && nOkB r.id && r.ws.all (fun w => nOkB w.line)) && decide (s.units.length ≤ 1000000) && s.units.all (fun u => sOkB u.s) &&
  decide (s.works.length ≤ 1000000) && s.works.all (fun u => sOkB u.s) && decide (s.claims.length ≤ 1000000) && s.claims.all (fun u => ssOkB u.ss) && decide (s.memos.length ≤ 1000000) && s.memos.all (fun u => ssOkB u.ss && decide (u.am.length ≤ 1000000)) &&
  decide (s.moves.length ≤ 300) && decide (s.rules.asks.length ≤ 1000000) && decide (s.rules.cuts.length ≤ 1000000) && decide (s.rules.fees.length ≤ 1000000) && decide (s.rules.rows.length ≤ 1000000) && decide (s.keys.length ≤ 1000000)
theorem staOkB_s {s : Sta} (h : staOkB s = true) : StaOk s ∧ idsOk s := by
  simp only [staOkB, Bool.and_eq_true, decide_eq_true_eq, List.all_eq_true, sOkB, nOkB] at h
  obtain ⟨⟨⟨⟨⟨⟨⟨⟨⟨⟨⟨⟨⟨⟨⟨⟨⟨⟨h1, h2⟩, h3⟩, h4⟩, h5⟩, h6⟩, h7⟩, h8⟩, h9⟩, h10⟩, h11⟩, h12⟩, h13⟩, h14⟩, h15⟩, h16⟩, h17⟩, h18⟩, h19⟩ := h
  refine ⟨⟨h1, ⟨h2, fun o ho => ⟨(h3 o ho).1, fun l hl => ssOkB_s ((h3 o ho).2 l hl)⟩⟩, ⟨h4, fun r hr => ?_⟩, ⟨h6, h7⟩, ⟨h8, h9⟩, ⟨h10, fun c hc => (ssOkB_s (h11 c hc)).1⟩, ⟨h12, fun m hm => ⟨(ssOkB_s (h13 m hm).1).1, ?_⟩⟩, h14, h15, h16, h17, h18, h19⟩, fun r hr => ?_⟩
  · have := (h5 r hr).1.1
    show r.ws.length ≤ 9223372036854775807
    omega
  · have := (h13 m hm).2
    omega
  · obtain ⟨⟨_, g1, g2⟩, g3⟩ := h5 r hr
    exact ⟨nOk_of g1 g2, fun w hw => nOk_of (g3 w hw).1 (g3 w hw).2⟩
/-- what Check answers to a closed state -/
noncomputable def ckA (x : AV) : Option AV :=
  match x with
  | .agg xs => match deSta xs with
    | some s => cond (staOkB s) (some (nV (cond (chkS s) 0 40))) none
    | none => none
  | _ => none
theorem okCk : callOk P 16 = true := by kernel_rfl
theorem ckA_s {x r : AV} {H : List ABlk} (h : ckA x = some r) : Spec P 16 [x] H (fun r' H' => r' = r ∧ H' = H) := by
  unfold ckA at h
  split at h
  · rename_i xs
    split at h
    · rename_i s hs
      cases hb : staOkB s <;> rw [hb] at h
      · cases h
      · cases h
        have hk := staOkB_s hb
        have hf := Fun.any (H := H) okCk (f16x s hk.1 hk.2) (fun ρ => by simp only [renL, AV.ren, stC_ren]) (fun _ => rfl)
        have := hf.wk (.cons (.agg (deSta_s xs s hs)) .nil)
        cases hc : chkS s <;> rw [hc] at this <;> exact this
    · cases h
  · cases h
end Go.Aw.U1

set_option linter.unusedSimpArgs false
set_option linter.unusedVariables false
set_option maxHeartbeats 4000000
set_option maxRecDepth 30000
namespace Go.Aw.U1
open Go Go.Proofs

/-! all that is held: there is a list of it -/
theorem hdLt_tr (a b c : UR.Hd) (h1 : (!UR.hdLt b a) = true) (h2 : (!UR.hdLt c b) = true) : (!UR.hdLt c a) = true := by
  obtain ⟨p, i, n⟩ := a; obtain ⟨p', i', n'⟩ := b; obtain ⟨p'', i'', n''⟩ := c
  simp only [UR.hdLt, Bool.not_eq_true', decide_eq_false_iff_not] at h1 h2 ⊢
  cases p <;> cases p' <;> cases p'' <;> simp at h1 h2 ⊢ <;> omega
theorem hdLt_tot (a b : UR.Hd) : (!UR.hdLt b a || !UR.hdLt a b) = true := by
  obtain ⟨p, i, n⟩ := a; obtain ⟨p', i', n'⟩ := b
  simp only [UR.hdLt, Bool.or_eq_true, Bool.not_eq_true', decide_eq_false_iff_not]
  cases p <;> cases p' <;> simp <;> omega
def keysM : List UR.Mv → List UR.Hd → (Bool → Int → Int) → List UR.Hd
  | [], d, _ => d
  | m :: l, d, f => keysM l (if d.any (fun x => decide (x.1 = m.p) && decide (x.2.1 = m.i)) then d else d ++ [(m.p, m.i, f m.p m.i)]) f
theorem keysM_spec (f : Bool → Int → Int) : ∀ (l : List UR.Mv) (d : List UR.Hd), (d.Pairwise fun x y => (x.1, x.2.1) ≠ (y.1, y.2.1)) → (∀ x ∈ d, x.2.2 = f x.1 x.2.1) →
    ((keysM l d f).Pairwise fun x y => (x.1, x.2.1) ≠ (y.1, y.2.1)) ∧ ∀ x, x ∈ keysM l d f ↔ (x ∈ d ∨ ∃ m ∈ l, m.p = x.1 ∧ m.i = x.2.1) ∧ x.2.2 = f x.1 x.2.1
  | [], d, h, hf => ⟨h, fun x => ⟨fun hx => ⟨.inl hx, hf x hx⟩, fun hx => hx.1.elim id (fun ⟨m, hm, _⟩ => by simp at hm)⟩⟩
  | m :: l, d, h, hf => by
    rw [keysM]
    split
    · rename_i ha
      obtain ⟨y, hy, hy2⟩ := List.any_eq_true.1 ha
      simp only [Bool.and_eq_true, decide_eq_true_eq] at hy2
      obtain ⟨g1, g2⟩ := keysM_spec f l d h hf
      refine ⟨g1, fun x => (g2 x).trans (and_congr_left fun hx => ?_)⟩
      constructor
      · rintro (h1 | ⟨m', hm', h2⟩)
        · exact .inl h1
        · exact .inr ⟨m', by simp [hm'], h2⟩
      · rintro (h1 | ⟨m', hm', h2⟩)
        · exact .inl h1
        · rcases List.mem_cons.1 hm' with rfl | hm'
          · refine .inl ?_
            have e : x = y := Prod.ext (by rw [hy2.1, h2.1]) (Prod.ext (by rw [hy2.2, h2.2]) (by rw [hx, hf y hy, hy2.1, hy2.2, h2.1, h2.2]))
            rw [e]; exact hy
          · exact .inr ⟨m', hm', h2⟩
    · rename_i ha
      have hn : ∀ y ∈ d, ¬ (y.1 = m.p ∧ y.2.1 = m.i) := fun y hy hc => ha (List.any_eq_true.2 ⟨y, hy, by simp [hc]⟩)
      obtain ⟨g1, g2⟩ := keysM_spec f l (d ++ [(m.p, m.i, f m.p m.i)]) (by
        rw [List.pairwise_append]
        refine ⟨h, by simp, fun y hy z hz => ?_⟩
        simp only [List.mem_singleton] at hz
        subst hz
        intro e
        simp only [Prod.mk.injEq] at e
        exact hn y hy e) (fun x hx => by
        rcases List.mem_append.1 hx with hx | hx
        · exact hf x hx
        · simp only [List.mem_singleton] at hx; subst hx; rfl)
      refine ⟨g1, fun x => (g2 x).trans (and_congr_left fun hx => ?_)⟩
      constructor
      · rintro (h1 | ⟨m', hm', h2⟩)
        · rcases List.mem_append.1 h1 with h1 | h1
          · exact .inl h1
          · simp only [List.mem_singleton] at h1
            exact .inr ⟨m, by simp, by rw [h1], by rw [h1]⟩
        · exact .inr ⟨m', by simp [hm'], h2⟩
      · rintro (h1 | ⟨m', hm', h2⟩)
        · exact .inl (by simp [h1])
        · rcases List.mem_cons.1 hm' with rfl | hm'
          · refine .inl (List.mem_append.2 (.inr ?_))
            simp only [List.mem_singleton]
            exact Prod.ext h2.1.symm (Prod.ext h2.2.symm (by rw [hx, h2.1, h2.2]))
          · exact .inr ⟨m', hm', h2⟩
theorem all_ex (l : List UR.Mv) : ∃ d, UR.AllOf l d := by
  obtain ⟨h1, h2⟩ := keysM_spec (UR.sumOf l) l [] .nil (by simp)
  have hp := List.mergeSort_perm (keysM l [] (UR.sumOf l)) (fun x y => !UR.hdLt y x)
  have hs := List.pairwise_mergeSort (le := fun x y => !UR.hdLt y x) hdLt_tr hdLt_tot (keysM l [] (UR.sumOf l))
  refine ⟨(keysM l [] (UR.sumOf l)).mergeSort (fun x y => !UR.hdLt y x), ⟨?_, fun x => ?_⟩⟩
  · have hn := h1.perm hp.symm (fun {x y} h => fun e => h e.symm)
    refine (hs.and hn).imp ?_
    rintro ⟨p, i, n⟩ ⟨p', i', n'⟩ ⟨g1, g2⟩
    simp only [UR.hdLt, Bool.not_eq_true', decide_eq_false_iff_not, ne_eq, Prod.mk.injEq, not_and, decide_eq_true_eq] at g1 g2 ⊢
    cases p <;> cases p' <;> simp at g1 g2 ⊢ <;> omega
  · rw [hp.mem_iff, h2 x]
    simp
theorem chk_ok {s : Sta} (h : chkS s = true) : CheckOk s := by
  obtain ⟨d, hd⟩ := all_ex (mvL s)
  exact chkS_ok hd h
end Go.Aw.U1

set_option linter.unusedSimpArgs false
set_option linter.unusedVariables false
set_option maxHeartbeats 4000000
set_option maxRecDepth 30000
namespace Go.Aw.U1
open Go Go.Proofs

theorem bl_irr : ∀ a : List UInt8, Op.bytesLess a a = false
  | [] => rfl
  | a :: x => by simp [Op.bytesLess, bl_irr x]
theorem bl_trans : ∀ {a b c : List UInt8}, Op.bytesLess a b = true → Op.bytesLess b c = true → Op.bytesLess a c = true
  | _, [], _, h, _ => by simp [Op.bytesLess] at h
  | _, _ :: _, [], _, h => by simp [Op.bytesLess] at h
  | [], _ :: _, _ :: _, _, _ => rfl
  | a :: x, b :: y, c :: z, h1, h2 => by
    simp only [Op.bytesLess, Bool.or_eq_true, Bool.and_eq_true, decide_eq_true_eq, beq_iff_eq] at h1 h2 ⊢
    rcases h1 with h1 | ⟨rfl, h1⟩
    · rcases h2 with h2 | ⟨rfl, h2⟩
      · exact .inl (UInt8.lt_trans h1 h2)
      · exact .inl h1
    · rcases h2 with h2 | ⟨rfl, h2⟩
      · exact .inl h2
      · exact .inr ⟨rfl, bl_trans h1 h2⟩
theorem row_ris : ∀ {l : List ByteArray} {p : Option ByteArray}, rowT p l = 0 → (∀ a, p = some a → ∀ x ∈ l, Op.bytesLess a.toList x.toList = true) ∧ l.Pairwise (fun x y => Op.bytesLess x.toList y.toList = true)
  | [], p, _ => ⟨fun _ _ x hx => by simp at hx, .nil⟩
  | b :: l, p, h => by
    rw [rowT] at h
    split at h
    · split at h
      · rename_i h2
        obtain ⟨g1, g2⟩ := row_ris h
        have g1 := g1 b rfl
        refine ⟨fun a e x hx => ?_, .cons g1 g2⟩
        subst e
        rcases List.mem_cons.1 hx with rfl | hx
        · exact h2
        · exact bl_trans h2 (g1 x hx)
      · cases h
    · rename_i h0
      exact absurd h h0
theorem units_apart {s : Sta} (h : tablesB s = true) : s.units.Pairwise (fun u v => u.s.toList ≠ v.s.toList) := by
  simp only [tablesB, Bool.and_eq_true, decide_eq_true_eq] at h
  have := (row_ris h.2).2
  rw [serS, List.pairwise_map] at this
  exact this.imp fun {u v} e e' => by rw [e', bl_irr] at e; cases e
theorem sh_sum (q r : Nat) : ∀ n, ((List.range n).map fun i => q + if i < r then 1 else 0).sum = n * q + min n r
  | 0 => by simp
  | n + 1 => by
    rw [List.range_succ, List.map_append, List.sum_append, sh_sum q r n, Nat.succ_mul]
    simp only [List.map_cons, List.map_nil, List.sum_cons, List.sum_nil]
    split <;> omega
theorem shN_sum {t n : Nat} (h : 0 < n) : ((List.range n).map (shN t n)).sum = t := by
  have h1 := sh_sum (t / n) (t % n) n
  have h2 := Nat.mod_lt t h
  have h3 := Nat.div_add_mod t n
  rw [show (shN t n) = fun i => t / n + if i < t % n then 1 else 0 from rfl, h1]
  omega
theorem map_add (f g : Nat → Nat) : ∀ L : List Nat, (L.map fun i => f i + g i).sum = (L.map f).sum + (L.map g).sum
  | [] => rfl
  | a :: L => by simp only [List.map_cons, List.sum_cons, map_add f g L]; omega
/-- what one place of a line cost -/
def costN (l : Ln) (j : Nat) : Nat := shN l.net.toNat l.ss.length j + shN l.tax.toNat l.ss.length j
theorem cost_sum {l : Ln} (h : lineC l = 0) : ((List.range l.ss.length).map (costN l)).sum = l.net.toNat + l.tax.toNat := by
  have := lineC_ok h
  rw [show (costN l) = fun j => shN l.net.toNat l.ss.length j + shN l.tax.toNat l.ss.length j from rfl, map_add, shN_sum (by omega), shN_sum (by omega)]
theorem val_le {l : Ln} (h : lineC l = 0) {j : Nat} (hj : j < l.ss.length) {fees : List Int} {g a : Int} (hv : valF l j fees g = (a, 0)) : 0 ≤ a ∧ a ≤ (costN l j : Int) := by
  have hf : (fullF l j).1 ≤ (costN l j : Int) := by
    unfold fullF
    split
    · simp only [unitF, if_pos h, Int.toNat_natCast]
      rw [if_neg (by omega)]
      simp only [addT]
      have : (0 : Int) ≤ costN l j := Int.natCast_nonneg _
      repeat' split
      all_goals first | exact this | (dsimp only; simp only [costN]; omega)
    · exact Int.natCast_nonneg _
  have hb := full_bd l j
  unfold valF at hv
  split at hv
  · unfold gradeF at hv
    split at hv
    · split at hv
      · rename_i hfe hg
        simp only [Prod.mk.injEq] at hv
        have hlen : g.toNat < fees.length := by
          have := hfe
          simp only [UT.feeB, decide_eq_true_eq] at this
          omega
        have hgt := feeB_get hfe hlen
        have hle := halfN_le (a := (fullF l j).1.toNat) (b := (fees.getD g.toNat 0).toNat) ⟨by omega, by decide, by decide, by rw [List.getD_eq_getElem?_getD, List.getElem?_eq_getElem hlen]; simp only [Option.getD_some]; omega⟩
        omega
      · simp at hv
    · simp at hv
  · rename_i h2
    simp only [Prod.mk.injEq] at hv
    exact absurd hv.2 h2
end Go.Aw.U1

set_option linter.unusedSimpArgs false
set_option linter.unusedVariables false
set_option maxHeartbeats 4000000
set_option maxRecDepth 30000
namespace Go.Aw.U1
open Go Go.Proofs

def payF (l : Ln) : Int × Int := if lineC l = 0 then addT [l.net, l.tax] 0 else (0, lineC l)
theorem f109 (l : Ln) (hl : lnOk l) : Fun P 109 [lnA l] (numE (payF l)) := by
  refine spec_of hT (f := 109) (fn := Go.Proofs.Tryz.f109) (c := body Go.Proofs.Tryz.f109) (by kernel_rfl) (by kernel_rfl) ?_
  unfold payF
  conv => whnf
  repeat (first | refine go ?_ | (refine ACall.val (args := [lnA l]) (by kernel_rfl) (f118 l hl) (by (first | rfl | (simp only [renL, AV.ren, List.nil_append, List.cons_append, rens]; try rfl))) (by (first | rfl | (simp only [renL, AV.ren, List.nil_append, List.cons_append, rens]; try rfl))) ?_; conv => whnf))
  refine ACond.ndec (fun h1 => ?_) (fun h1 => ?_)
  · rw [if_neg h1]
    conv => whnf
    repeat refine ru ?_
    exact AFin.val rfl ⟨rfl, rfl⟩
  rw [if_pos h1]
  conv => whnf
  repeat (first | refine ru ?_ | (refine ACall.fun (args0 := [isV [l.net, l.tax]]) (by kernel_rfl) (f105 [l.net, l.tax] (by simp)) [] (by simp) (.cons (.vx rfl) .nil) (.inl rfl) rfl ?_; conv => whnf))
  exact AFin.val rfl ⟨rfl, rfl⟩
theorem pay_ok {l : Ln} (h : lineC l = 0) : payF l = (l.net + l.tax, 0) := by
  have hl := lineC_ok h
  simp only [payF, if_pos h, addT]
  rw [if_pos (inB_iff.2 ⟨by omega, by omega⟩), if_pos (inB_iff.2 ⟨by omega, by omega⟩), if_pos (inB_iff.2 ⟨by omega, by omega⟩), if_pos (inB_iff.2 ⟨by omega, by omega⟩)]
  rw [Int.zero_add]
end Go.Aw.U1

set_option linter.unusedSimpArgs false
set_option linter.unusedVariables false
set_option maxHeartbeats 4000000
set_option maxRecDepth 30000
namespace Go.Aw.U1
open Go Go.Proofs

theorem bs_ext {x y : ByteArray} (h : x.toList = y.toList) : x = y := by
  rw [ByteArray.toList_eq, ByteArray.toList_eq] at h
  cases x; cases y
  simp only [ByteArray.mk.injEq]
  exact Array.toList_inj.1 h
theorem find_ser {s : Sta} {x : ByteArray} {u : Un} (h : findU s x = some u) : u ∈ s.units ∧ u.s.toList = x.toList := by
  have := List.find?_some h
  exact ⟨List.mem_of_find?_eq_some h, by simpa using this⟩
/-- the place of a serial on its line -/
def plcF (s : Sta) (x : ByteArray) : Nat := ((findU s x).getD unZ).place.toNat
/-- what was paid back so far on a line -/
structure PayOk (s : Sta) (l : Ln) (g : ByteArray → Bool) (S : List ByteArray) (n : Int) : Prop where
  nd : (S.map (plcF s)).Nodup
  plc : ∀ x ∈ S, plcF s x < l.ss.length ∧ ∀ (h : plcF s x < l.ss.length), x.toList = l.ss[plcF s x].toList
  lo : 0 ≤ n
  hi : n ≤ ((S.map fun x => costN l (plcF s x)).sum : Nat)
  old : ∀ x ∈ S, g x = true
theorem upd_ge (g : ByteArray → Bool) (x : ByteArray) : ∀ y, g y = true → upd g x (g x || !false) y = true := fun y hy => by
  simp only [upd, Bool.not_false, Bool.or_true]
  split
  · rfl
  · exact hy
end Go.Aw.U1

set_option linter.unusedSimpArgs false
set_option linter.unusedVariables false
set_option maxHeartbeats 4000000
set_option maxRecDepth 30000
namespace Go.Aw.U1
open Go Go.Proofs

/-! what is paid back for an order, and how many units came -/
theorem sum_in {α : Type} [DecidableEq α] (f : α → Nat) : ∀ {L A : List α}, L.Nodup → (∀ x ∈ L, x ∈ A) → (L.map f).sum ≤ (A.map f).sum
  | [], _, _, _ => by simp
  | a :: L, A, hn, hs => by
    obtain ⟨h1, h2⟩ := List.nodup_cons.1 hn
    have hp := List.perm_cons_erase (hs a (by simp))
    have ih := sum_in f (L := L) (A := A.erase a) h2 (fun x hx => (List.mem_erase_of_ne (show x ≠ a from fun e => h1 (by rw [← e]; exact hx))).2 (hs x (by simp [hx])))
    rw [(hp.map f).sum_nat, List.map_cons, List.map_cons, List.sum_cons, List.sum_cons]
    omega
/-- the places of lines -/
def plcs : List Ln → Nat → List (Nat × Nat)
  | [], _ => []
  | l :: ls, k => (List.range l.ss.length).map (fun j => (k, j)) ++ plcs ls (k + 1)
theorem plcs_mem : ∀ {ls : List Ln} {k i j : Nat} (hi : i < ls.length), j < ls[i].ss.length → (k + i, j) ∈ plcs ls k
  | l :: ls, k, 0, j, _, hj => by
    rw [plcs, List.mem_append]
    exact .inl (List.mem_map.2 ⟨j, List.mem_range.2 hj, rfl⟩)
  | l :: ls, k, i + 1, j, hi, hj => by
    rw [plcs, List.mem_append]
    refine .inr ?_
    have := plcs_mem (ls := ls) (k := k + 1) (i := i) (j := j) (by simpa using hi) (by simpa using hj)
    rwa [show k + 1 + i = k + (i + 1) by omega] at this
theorem plcs_len : ∀ (ls : List Ln) (k : Nat), (plcs ls k).length = (ls.flatMap (·.ss)).length
  | [], _ => rfl
  | l :: ls, k => by rw [plcs, List.length_append, List.flatMap_cons, List.length_append, plcs_len ls]; simp
/-- what lines cost -/
def paidT : List Ln → Int
  | [] => 0
  | l :: ls => l.net + l.tax + paidT ls
theorem plcs_sum {F : Nat × Nat → Nat} : ∀ {ls : List Ln} {k : Nat}, (∀ l ∈ ls, lineC l = 0) → (∀ i (hi : i < ls.length) j, F (k + i, j) = costN ls[i] j) → (((plcs ls k).map F).sum : Int) = paidT ls
  | [], _, _, _ => rfl
  | l :: ls, k, h, hF => by
    have hl := h l (by simp)
    have h0 : ∀ j, F (k, j) = costN l j := fun j => by have := hF 0 (by simp) j; simpa using this
    have ih := plcs_sum (F := F) (ls := ls) (k := k + 1) (fun x hx => h x (by simp [hx])) (fun i hi j => by
      have := hF (i + 1) (by simpa using hi) j
      rw [show k + (i + 1) = k + 1 + i by omega] at this
      simpa using this)
    have hc := cost_sum hl
    have hlc := lineC_ok hl
    rw [plcs, List.map_append, List.sum_append, List.map_map, paidT, ← ih]
    have e : (List.range l.ss.length).map (F ∘ fun j => (k, j)) = (List.range l.ss.length).map (costN l) := List.map_congr_left fun j _ => h0 j
    rw [e, hc]
    omega
/-- the place of a serial in its order -/
def pl2F (s : Sta) (x : ByteArray) : Nat × Nat := (((findU s x).getD unZ).line.toNat, ((findU s x).getD unZ).place.toNat)
def cost2 (o : Od) (p : Nat × Nat) : Nat := costN ((o.ls[p.1]?).getD ⟨0, 0, 0, 0, []⟩) p.2
/-- what was paid back so far for an order -/
structure PayO (s : Sta) (o : Od) (g : ByteArray → Bool) (S : List ByteArray) (n : Int) : Prop where
  nd : (S.map (pl2F s)).Nodup
  plc : ∀ x ∈ S, ∃ u k j, findU s x = some u ∧ At s u o k j
  lo : 0 ≤ n
  hi : n ≤ ((S.map fun x => cost2 o (pl2F s x)).sum : Nat)
  old : ∀ x ∈ S, g x = true
theorem PayO.nil {s : Sta} {o : Od} {g : ByteArray → Bool} : PayO s o g [] 0 := ⟨by simp, by simp, by simp, by simp, by simp⟩
theorem pl2_at {s : Sta} {o : Od} {x : ByteArray} {u : Un} {k j : Nat} (hu : findU s x = some u) (hat : At s u o k j) : pl2F s x = (k, j) := by
  have e1 := hat.place
  have e2 := hat.line
  simp only [pl2F, hu, Option.getD_some, Prod.mk.injEq]
  omega
theorem PayO.le {s : Sta} {o : Od} {g : ByteArray → Bool} {S : List ByteArray} {n : Int} (h : PayO s o g S n) (hl : ∀ l ∈ o.ls, lineC l = 0) : n ≤ paidT o.ls := by
  have h1 := sum_in (cost2 o) h.nd (A := plcs o.ls 0) (fun p hp => by
    obtain ⟨x, hx, rfl⟩ := List.mem_map.1 hp
    obtain ⟨u, k, j, hu, hat⟩ := h.plc x hx
    rw [pl2_at hu hat]
    have := plcs_mem (ls := o.ls) (k := 0) (i := k) (j := j) hat.klt hat.jlt
    rwa [Nat.zero_add] at this)
  have h2 := plcs_sum (F := cost2 o) (ls := o.ls) (k := 0) hl (fun i hi j => by simp only [cost2, Nat.zero_add, List.getElem?_eq_getElem hi, Option.getD_some])
  rw [List.map_map] at h1
  have h3 := h.hi
  have h4 : (S.map fun x => cost2 o (pl2F s x)) = S.map (cost2 o ∘ pl2F s) := rfl
  rw [h4] at h3
  omega
theorem PayO.skip {s : Sta} {o : Od} {g g' : ByteArray → Bool} {S : List ByteArray} {n : Int} (h : PayO s o g S n) (hg : ∀ x, g x = true → g' x = true) : PayO s o g' S n := ⟨h.nd, h.plc, h.lo, h.hi, fun x hx => hg x (h.old x hx)⟩
theorem PayO.add {s : Sta} {o : Od} {k j : Nat} {u : Un} {g : ByteArray → Bool} {S : List ByteArray} {n a : Int} {x : ByteArray} (h : PayO s o g S n) (hx : g x = false) (hu : findU s x = some u) (hat : At s u o k j)
    (hl : lineC (o.ls[k]'hat.klt) = 0) {fees : List Int} (hv : valF (o.ls[k]'hat.klt) u.place fees u.grade = (a, 0)) : PayO s o (upd g x (g x || !false)) (S ++ [x]) (n + a) := by
  have e1 := hat.place
  have e2 := hat.jlt
  have hp := pl2_at hu hat
  have hs : x.toList = (o.ls[k]'hat.klt).ss[j].toList := by rw [← (find_ser hu).2, hat.serial]
  rw [e1] at hv
  have hval := val_le hl e2 hv
  refine ⟨?_, fun y hy => ?_, by have := h.lo; omega, ?_, fun y hy => ?_⟩
  · rw [List.map_append, List.map_cons, List.map_nil, List.nodup_append]
    refine ⟨h.nd, by simp, fun b hb c hc => ?_⟩
    obtain ⟨y, hy, rfl⟩ := List.mem_map.1 hb
    simp only [List.mem_singleton] at hc
    intro e
    obtain ⟨u', k', j', hu', hat'⟩ := h.plc y hy
    rw [hc, hp, pl2_at hu' hat'] at e
    simp only [Prod.mk.injEq] at e
    obtain ⟨rfl, rfl⟩ := e
    have h2 : y.toList = x.toList := by rw [hs, ← (find_ser hu').2, hat'.serial]
    have h3 := h.old y hy
    rw [bs_ext h2, hx] at h3
    cases h3
  · rcases List.mem_append.1 hy with hy | hy
    · exact h.plc y hy
    · simp only [List.mem_singleton] at hy
      subst hy
      exact ⟨u, k, j, hu, hat⟩
  · rw [List.map_append, List.sum_append, List.map_cons, List.map_nil, List.sum_cons, List.sum_nil, hp]
    have := h.hi
    have hc : cost2 o (k, j) = costN (o.ls[k]'hat.klt) j := by simp only [cost2, List.getElem?_eq_getElem hat.klt, Option.getD_some]
    omega
  · rcases List.mem_append.1 hy with hy | hy
    · exact upd_ge g x y (h.old y hy)
    · simp only [List.mem_singleton] at hy
      subst hy
      simp [upd]
/-- all that was shipped -/
def shipN (os : List Od) : List (Int × Nat × Nat) := os.flatMap fun o => (plcs o.ls 0).map fun p => (o.id, p)
theorem units_le {s : Sta} (hb : Base s) : s.units.length ≤ (shipN s.orders).length := by
  have hnd : (s.units.map fun u => (u.order, u.line.toNat, u.place.toNat)).Nodup := by
    rw [List.Nodup, List.pairwise_map]
    refine (units_apart hb.tab).imp_of_mem fun {u v} hu hv hne he => hne ?_
    obtain ⟨o, k, j, h1⟩ := came_at hb.tab (hb.came u hu)
    obtain ⟨o', k', j', h2⟩ := came_at hb.tab (hb.came v hv)
    simp only [Prod.mk.injEq] at he
    obtain ⟨e1, e2, e3⟩ := he
    have a1 := h1.line
    have a2 := h2.line
    have a3 := h1.place
    have a4 := h2.place
    have hfo := h1.find
    rw [e1, h2.find] at hfo
    obtain rfl := Option.some.inj hfo
    obtain rfl : k = k' := by omega
    obtain rfl : j = j' := by omega
    rw [h1.serial, h2.serial]
  have := nodup_le hnd (l' := shipN s.orders) (fun x hx => by
    obtain ⟨u, hu, rfl⟩ := List.mem_map.1 hx
    obtain ⟨o, k, j, h⟩ := came_at hb.tab (hb.came u hu)
    have e1 := h.line
    have e2 := h.place
    have h3 := plcs_mem (ls := o.ls) (k := 0) (i := k) (j := j) h.klt h.jlt
    rw [Nat.zero_add] at h3
    refine List.mem_flatMap.2 ⟨o, h.mem, List.mem_map.2 ⟨(k, j), h3, ?_⟩⟩
    simp only [Prod.mk.injEq]
    exact ⟨h.id, by omega, by omega⟩)
  simpa using this
theorem shipN_len : ∀ os : List Od, (shipN os).length = (os.map fun o => (o.ls.flatMap (·.ss)).length).sum
  | [] => rfl
  | o :: os => by
    have := shipN_len os
    rw [shipN] at this ⊢
    rw [List.flatMap_cons, List.length_append, List.map_cons, List.sum_cons, this, List.length_map, plcs_len]
end Go.Aw.U1

