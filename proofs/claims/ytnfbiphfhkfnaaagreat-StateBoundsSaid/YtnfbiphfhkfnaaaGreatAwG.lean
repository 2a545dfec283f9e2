/-
  The statement StateBounds: of a state that may be, of no line more is authorised, received or paid back than was shipped and paid, without any condition.
-/
import Derived.Test.YtnfbiphfhkfnaaaGreatAwF
import Derived.Sort.Row
import Derived.OpenShut
import Derived.Scope
set_option linter.unusedSimpArgs false
set_option linter.unusedVariables false
/-
  Aw, part 29: a region in all of its orders.
-/
set_option linter.unusedSimpArgs false
set_option linter.unusedVariables false
namespace Go.Aw
open Go

section
variable {P : Program} {T : Nat → TI} {H : List ABlk}

/-- the operations d are done, f are left -/
structure AG (P : Program) (T : Nat → TI) (ops : Array Oper) (d : List Nat) (f : Nat) (kn : List (Nat × Bool)) (J : List AV → List ABlk → Prop) (E : List AV) (H : List ABlk) : Prop where
  run : ∀ (C : Ctx) (R : Exit → Act → World → Prop), (∀ c a w, ¬ R (.panic c) a w) → Region.noSelect ops = true → (∀ E H a w, J E H → Rel C E H a w → R .normal a w) → ∀ (S : World → Prop) (m : Mu) (I : Nat → Prop) (a : Act) (w : World),
    At C S ops kn E H m I a w → wpAnyH P .any ops R S f (unl ops d) a w

theorem AG.done {ops : Array Oper} {d : List Nat} {f : Nat} {kn : List (Nat × Bool)} {J : List AV → List ABlk → Prop} {E : List AV} (h1 : (Region.ready .any ops (unl ops d) == []) = true) (h : J E H) : AG P T ops d f kn J E H :=
  ⟨fun C R hp hs hR S m I a w hA => wpAnyH_done (by simpa using h1) (hR E H a w h ⟨m, I, hA.st, hA.rep, hA.dfr⟩) f⟩

theorem AG.one (hT : TOk P T) {ops : Array Oper} {d : List Nat} {f : Nat} {kn : List (Nat × Bool)} {J : List AV → List ABlk → Prop} {E : List AV} (i : Nat) {o : Oper} (hoi : ops[i]? = some o) (h1 : oneOk ops (unl ops d) i = true)
    (h : opK P T ops o kn E H fun kn E H => AG P T ops (i :: d) f kn J E H) : AG P T ops d (f + 1) kn J E H :=
  ⟨fun C R hp hs hR S m I a w hA => take_one hT hoi h hp hs hA h1 (fun kn E H m I a w g1 g2 => g1.run C R hp hs hR S m I a w g2)⟩

theorem AG.imm (hT : TOk P T) {ops : Array Oper} {d : List Nat} {f : Nat} {kn : List (Nat × Bool)} {J : List AV → List ABlk → Prop} {E : List AV} (i : Nat) {o : Oper} {t : Nat} {x : Operand} (hoi : ops[i]? = some o) (hop : o.op = .load t x) (hg : o.guard = none) (h1 : immOk ops (unl ops d) i = true)
    (h : evK E x fun q => ifK (immB q H) (loadAtK T H t q fun v => putK E o.dst v fun E => knPut ops o.dst kn fun kn => AG P T ops (i :: d) f kn J E H)) : AG P T ops d (f + 1) kn J E H :=
  ⟨fun C R hp hs hR S m I a w hA => take_imm hT hoi hop hg h hp hs hA h1 (fun kn E H m I a w S g1 g2 => g1.run C R hp hs hR S m I a w g2)⟩

/-- each of these may come now -/
structure AGs (P : Program) (T : Nat → TI) (ops : Array Oper) (l : List Nat) (d : List Nat) (f : Nat) (kn : List (Nat × Bool)) (J : List AV → List ABlk → Prop) (E : List AV) (H : List ABlk) : Prop where
  run : ∀ i ∈ l, ∀ (C : Ctx) (R : Exit → Act → World → Prop), (∀ c a w, ¬ R (.panic c) a w) → Region.noSelect ops = true → (∀ E H a w, J E H → Rel C E H a w → R .normal a w) → ∀ (S : World → Prop) (m : Mu) (I : Nat → Prop) (a : Act) (w : World),
    At C S ops kn E H m I a w → wpOp P ops R i (fun a' w' => S w' ∧ wpAnyH P .any ops R S f ((unl ops d).setIfInBounds i true) a' w') a w

theorem AGs.nil {ops : Array Oper} {d : List Nat} {f : Nat} {kn : List (Nat × Bool)} {J : List AV → List ABlk → Prop} {E : List AV} : AGs P T ops [] d f kn J E H := ⟨fun i hi => by cases hi⟩
theorem AGs.cons (hT : TOk P T) {ops : Array Oper} {i : Nat} {l : List Nat} {d : List Nat} {f : Nat} {kn : List (Nat × Bool)} {J : List AV → List ABlk → Prop} {E : List AV} {o : Oper} (hoi : ops[i]? = some o)
    (h : opK P T ops o kn E H fun kn E H => AG P T ops (i :: d) f kn J E H) (hl : AGs P T ops l d f kn J E H) : AGs P T ops (i :: l) d f kn J E H :=
  ⟨fun j hj C R hp hs hR S m I a w hA => by
    rcases List.mem_cons.1 hj with rfl | hj
    · obtain ⟨kn', E', hkn', hE', hst⟩ := opK_step hA.rep hA.kn h
      have := step_opH (Q := R) (R := fun a' w' => S w' ∧ wpAnyH P .any ops R S f ((unl ops d).setIfInBounds j true) a' w') hT hA.st hE' hA.dfr hkn' hst (fun kn E H m I a w g1 g2 g3 g4 g5 g6 => by
        have hA' : At C S ops kn E H m I a w := ⟨g2, g3, g4, g5, fun w' hw' => hA.s w' (hw'.ext g6)⟩
        exact ⟨hA'.now, g1.run C R hp hs hR S m I a w hA'⟩)
      unfold wpOp
      rw [hoi]
      exact this
    · exact hl.run j hj C R hp hs hR S m I a w hA⟩

theorem AG.alt {ops : Array Oper} {d : List Nat} {f : Nat} {kn : List (Nat × Bool)} {J : List AV → List ABlk → Prop} {E : List AV} (i : Nat) (l : List Nat) (h1 : (Region.ready .any ops (unl ops d) == i :: l) = true) (h : AGs P T ops (i :: l) d f kn J E H) : AG P T ops d (f + 1) kn J E H :=
  ⟨fun C R hp hs hR S m I a w hA => wpAnyH_all (by simpa using h1) (by simp) (fun k hk => h.run k (by simpa using hk) C R hp hs hR S m I a w hA)⟩

theorem AW.orders (hm : P.follows .mixedOrders = true) {k id : Nat} {ops : Array Oper} {Q : Exit → List AV → List ABlk → Prop} {E : List AV} (hs : Region.noSelect ops = true) (n : Nat) (hn : ops.size = n) (h : AG P T ops [] n [] (Q .normal) E H) : AW P T k (.region id ops true) Q E H :=
  ⟨fun C a w hC ⟨m, I, hst, hE, hd⟩ => by
    subst hn
    obtain ⟨hs', he⟩ := hst.world (w' := { w with drawn := w.drawn + 1 }) rfl ⟨rfl, rfl⟩
    refine wp_region_any hm ?_
    have := h.run C (QR C Q) (fun c a w hc => hc) hs (fun E H a w hq hr => ⟨E, H, hq, hr⟩) (fun _ => True) m I a _ ⟨hs', RepL.ext he _ _ hE, hd, (fun _ hx => by cases hx), fun _ _ => trivial⟩
    exact wpAny_of_held _ _ _ _ this⟩
end
end Go.Aw

/-
  Aw, part 30: maps that are cleared, entries that are taken out.
-/
set_option linter.unusedSimpArgs false
set_option linter.unusedVariables false
namespace Go.Aw
open Go Go.Maps

section
variable {P : Program} {T : Nat → TI} {C : Ctx} {m : Mu} {I : Nat → Prop} {H : List ABlk} {w : World}
variable {α β : Type} {kv : α → Value} {ek : α → AV} {ok : α → Prop} {eb : β → AV} {L : List (α × β)} {kt et t : Nat}

theorem erase_map {γ δ : Type} (f : γ → δ) : ∀ (l : List γ) (j : Nat), (l.eraseIdx j).map f = (l.map f).eraseIdx j
  | [], _ => by simp
  | _ :: _, 0 => by simp
  | x :: l, j + 1 => by simp [erase_map f l j]

theorem rep_erase {bs : List Nat} {clk : Nat} {ents : List MapEntry} (hr : MapRep w m I (em ek eb L) bs clk ents) (j : Nat) :
    MapRep w m I (em ek eb (L.eraseIdx j)) (bs.eraseIdx j) clk (ents.eraseIdx j) := by
  obtain ⟨r1, r2, r3, r4, r5⟩ := hr
  have hsp : ∀ {xs : List AV} {ys : List Value} (j : Nat), RepL w m I xs ys → RepL w m I (xs.eraseIdx j) (ys.eraseIdx j) := by
    intro xs
    induction xs with
    | nil => intro ys j h; simp only [RepL] at h; subst h; simp [RepL]
    | cons x xs ih =>
      intro ys j h
      simp only [RepL] at h
      obtain ⟨y, zs, rfl, h1, h2⟩ := h
      cases j with
      | zero => simpa using h2
      | succ j => simp only [List.eraseIdx_cons_succ, RepL]; exact ⟨y, _, rfl, h1, ih j h2⟩
  have em1 : ∀ (f : AV × AV → AV) , (em ek eb (L.eraseIdx j)).map f = ((em ek eb L).map f).eraseIdx j := by
    intro f
    simp only [em, erase_map]
  refine ⟨?_, ?_, ?_, ?_, ?_⟩
  · rw [em1, erase_map]; exact hsp j r1
  · rw [em1, erase_map]; exact hsp j r2
  · rw [erase_map, r3]
  · exact r4.sublist (List.eraseIdx_sublist _ _)
  · exact fun s hs => r5 s ((List.eraseIdx_sublist _ _).subset hs)

theorem AOp.delete {E : List AV} {K : AV → List ABlk → Prop} {mo ko : Operand} {l : Nat} {bs : List Nat} {clk : Nat} {a : α} {args : Array Operand} {ts : Array Nat}
    (hK : KEnc P kt kv ek ok) (ht : P.underlying t = some (.map kt et)) (hag : args = #[mo, ko]) (hts : ts = #[t, kt]) (hm : ev E mo = .mp l) (hk : ev E ko = ek a) (hH : H[l]? = some (.map (em ek eb L) bs clk)) (hL : ∀ p ∈ L, ok p.1) (ha : ok a)
    (h0 : (∀ p ∈ L, p.1 ≠ a) → K .any H) (h1 : ∀ (j : Nat) b, L[j]? = some (a, b) → K .any (H.set l (.map (em ek eb (L.eraseIdx j)) (bs.eraseIdx j) clk))) : AOp P (.call ⟨.builtin .delete, args, ts⟩) E H K := by
  subst hag; subst hts
  rw [AOp.iff]
  intro C m I w a' dst type pos after guard Q hs hE
  obtain ⟨b, ents, hb, hnI, hw, hr⟩ := hs.map_at hH
  have em1 := ev_rep (o := mo) hE
  have ek1 := ev_rep (o := ko) hE
  rw [hm] at em1; rw [hk] at ek1
  have e1 := hs.mp_val hb em1
  have e2 := hK.rep _ _ _ _ _ ek1
  obtain ⟨lx, hlx⟩ := hK.lit a ha
  have hchk := fun em => hK.keyed.check w em hlx
  rcases find_em hK hr hL ha w with ⟨f1, f2⟩ | ⟨j, bv, e, f1, f2, f3, f4, f5⟩
  · obtain ⟨hs', he⟩ := hs.putMap hH hb hw hr
    have hset : H.set l (.map (em ek eb L) bs clk) = H := set_same hH
    rw [hset] at hs'
    refine wp_val_of (s := Builtin.delete_ #[t, kt] type ((#[mo, ko] : Array Operand).map a'.eval)) (v := .tuple #[]) (h0 f2) (by simp [Rep]) hs' he ?_ rfl
    rw [show (#[mo, ko] : Array Operand).map a'.eval = #[a'.eval mo, a'.eval ko] by simp, e1, e2]
    simp [Builtin.delete_, run_underlying ht, MapKept.run_getObj_map hw, hchk, f1, MapKept.run_setObj_map _ hw, Result.andThen]
  · obtain ⟨hs', he⟩ := hs.putMap hH hb hw (rep_erase hr j)
    refine wp_val_of (s := Builtin.delete_ #[t, kt] type ((#[mo, ko] : Array Operand).map a'.eval)) (v := .tuple #[]) (h1 j bv f2) (by simp [Rep]) hs' he ?_ rfl
    have hj : j < ents.length := (List.getElem?_eq_some_iff.1 f3).1
    rw [show (#[mo, ko] : Array Operand).map a'.eval = #[a'.eval mo, a'.eval ko] by simp, e1, e2]
    simp [Builtin.delete_, run_underlying ht, MapKept.run_getObj_map hw, hchk, f1, MapKept.run_setObj_map _ hw, Result.andThen, Array.eraseIdxIfInBounds, hj]
end
end Go.Aw

/-
  Aw, part 31: the library's sort of numbers, its copy of a map.
-/
set_option linter.unusedSimpArgs false
set_option linter.unusedVariables false
namespace Go.Aw
open Go Go.Maps Go.Proofs Go.Sort

section
variable {P : Program} {T : Nat → TI} {C : Ctx} {m : Mu} {I : Nat → Prop} {H : List ABlk} {w : World}

end
end Go.Aw

/-
  Aw, part 32: cells of a list's elements, one changed.
-/
set_option linter.unusedSimpArgs false
set_option linter.unusedVariables false
namespace Go.Aw
open Go

section
variable {α : Type} {enc : α → List AV} {sz : Nat}

theorem flat_spl (hs : ∀ x, (enc x).length = sz) : ∀ (xs : List α) (i : Nat) (h : i < xs.length) (x' : α), spl (xs.flatMap enc) (i * sz) (enc x') = (xs.set i x').flatMap enc
  | x :: xs, 0, h, x' => by
    unfold spl
    rw [Nat.zero_mul, Nat.zero_add, List.take_zero, List.nil_append, List.flatMap_cons, List.set_cons_zero, List.flatMap_cons, List.drop_left' (by rw [hs, hs])]
  | x :: xs, i + 1, h, x' => by
    have ih := flat_spl hs xs i (by simpa using h) x'
    unfold spl at ih ⊢
    have e : (i + 1) * sz = (enc x).length + i * sz := by rw [hs, Nat.add_mul]; omega
    rw [List.flatMap_cons, List.set_cons_succ, List.flatMap_cons, e, List.take_append, List.drop_append, List.take_of_length_le (by omega), List.drop_eq_nil_of_le (by omega), List.nil_append, ← ih]
    have a1 : (enc x).length + i * sz - (enc x).length = i * sz := by omega
    have a2 : (enc x).length + i * sz + (enc x').length - (enc x).length = i * sz + (enc x').length := by omega
    rw [a1, a2]
    simp only [List.append_assoc]

/-- element i is another one -/
theorem AUpd.flat (hs : ∀ x, (enc x).length = sz) {xs : List α} {o : Nat} {cs : List AV} {K : List AV → Prop} (i : Nat) (x' : α) (ho : o = i * sz) (h : i < xs.length) (hc : cs = enc x')
    (q : K ((xs.set i x').flatMap enc)) : AUpd (xs.flatMap enc) o cs K := by
  subst ho hc
  rw [AUpd.iff, flat_length hs, hs, flat_spl hs xs i h]
  have := Nat.mul_le_mul_right sz (show i + 1 ≤ xs.length from h)
  rw [Nat.add_mul] at this
  exact ⟨by omega, q⟩
/-- the first i of one list, the rest of another one -/
def mix {β : Type} (xs ys : List β) (i : Nat) : List β := xs.take i ++ ys.drop i
variable {β : Type} {xs ys : List β} {i : Nat}
theorem mix_zero : mix xs ys 0 = ys := by simp [mix]
theorem mix_all (h : xs.length = i) (hl : ys.length = i) : mix xs ys i = xs := by
  unfold mix; rw [List.take_of_length_le (by omega), List.drop_eq_nil_of_le (by omega), List.append_nil]
theorem mix_len (h : xs.length = ys.length) : (mix xs ys i).length = ys.length := by
  unfold mix; rw [List.length_append, List.length_take, List.length_drop]; omega
theorem mix_get (h : xs.length = ys.length) (hi : i < ys.length) : (mix xs ys i)[i]? = some ys[i] := by
  unfold mix
  rw [List.getElem?_append_right (by rw [List.length_take]; omega), List.length_take, Nat.min_eq_left (by omega), Nat.sub_self, List.getElem?_drop, Nat.add_zero, List.getElem?_eq_getElem hi]
theorem mix_set (h : xs.length = ys.length) (hi : i < ys.length) : (mix xs ys i).set i (xs[i]'(by omega)) = mix xs ys (i + 1) := by
  unfold mix
  rw [List.set_append_right _ _ (by rw [List.length_take]; omega), List.length_take, Nat.min_eq_left (by omega), Nat.sub_self, List.drop_eq_getElem_cons hi, List.set_cons_zero, List.take_add_one, List.getElem?_eq_getElem (show i < xs.length by omega), List.append_assoc]
  rfl
end
end Go.Aw

/-
  Aw, part 33: a block that code only reads is held still.
-/
set_option linter.unusedSimpArgs false
set_option linter.unusedVariables false
namespace Go.Aw
open Go

section
variable {P : Program} {T : Nat → TI} {H : List ABlk}

end
end Go.Aw

/-
  Aw, part 34: a load of what stays, under a guard that is known.
-/
set_option linter.unusedSimpArgs false
set_option linter.unusedVariables false
namespace Go.Aw
open Go

section
variable {P : Program} {T : Nat → TI} {C : Ctx} {m : Mu} {I : Nat → Prop} {H : List ABlk} {w : World}

theorem take_immG (hT : TOk P T) {ops : Array Oper} {i : Nat} {o : Oper} {t : Nat} {x : Operand} {g : Nat × Bool} (hoi : ops[i]? = some o) (hop : o.op = .load t x) (hg : o.guard = some g) {kn : List (Nat × Bool)} (hkn : kno kn g.1 = some g.2) {E : List AV} {K : List (Nat × Bool) → List AV → List ABlk → Prop}
    (hk : evK E x fun p => ifK (immB p H) (loadAtK T H t p fun v => putK E o.dst v fun E => knPut ops o.dst kn fun kn => K kn E H))
    {R : Exit → Act → World → Prop} (hp : ∀ c a w, ¬ R (.panic c) a w) (hs : Region.noSelect ops = true) {a : Act} {d : List Nat} {f : Nat} {S : World → Prop} (hA : At C S ops kn E H m I a w) (h1 : immOk ops (unl ops d) i = true)
    (hR : ∀ kn E H m I a w S, K kn E H → At C S ops kn E H m I a w → wpAnyH P .any ops R S f (unl ops (i :: d)) a w) : wpAnyH P .any ops R S (f + 1) (unl ops d) a w := by
  obtain ⟨p, hk, hpr⟩ := evK_sound hA.rep hk
  obtain ⟨him, hk⟩ := ifK_iff.1 hk
  obtain ⟨v, y, g1, g2, g3⟩ := loadAtK_imm (P := P) hT hA.st him hk hpr
  rw [putK_eq] at g1
  obtain ⟨kn', g4, g5⟩ := knPut_spec g1 hA.kn
  simp only [immOk, Bool.and_eq_true] at h1
  have hrun : ∀ w', KeepsI I w w' → (execOp a.eval o).run P w' = .ok (.value y) w' := by
    intro w' hw'
    obtain ⟨dst, op, type, pos, after, guard⟩ := o
    simp only at hop
    subst hop
    have : execOp a.eval ⟨dst, .load t x, type, pos, after, guard⟩ = (do let v ← Instr.loadAt t (a.eval x); pure (.value v)) := rfl
    rw [this, Sem.run_bind, g3 w' hw']; rfl
  have hwant : Region.wanted o (yielded ops a.tmps) = true := by
    have hy := hA.kn _ (kno_mem hkn)
    unfold Region.wanted
    rw [hg]
    simp only at hy
    simp [hy]
  refine held_mono (S := fun w' => S w' ∧ KeepsI I w w') (fun _ h => h.1) _ _ _ _ ?_
  refine wpAnyH_take (v := y) hoi hs h1.1 h1.2 (fun c a w hc => absurd hc (hp c _ w)) (.inl ⟨hwant, fun w' hw' => hrun w' hw'.2⟩) ⟨hA.now, fun _ _ => rfl⟩ ?_
  exact hR _ _ _ _ _ _ _ _ g4 ⟨hA.st, put_rep hA.rep g2, by rw [put_defers]; exact hA.dfr, g5 y, fun w' hw' => ⟨hA.s w' hw', hw'⟩⟩

theorem AF.immG (hT : TOk P T) {ops : Array Oper} {i : Nat} {o : Oper} {t : Nat} {x : Operand} {g : Nat × Bool} {p : Pl} {kn : List (Nat × Bool)} {J : List (Nat × Bool) → List AV → List ABlk → Prop} {E : List AV} (hoi : ops[i]? = some o) (hop : o.op = .load t x) (hg : o.guard = some g) (hkn : kno kn g.1 = some g.2)
    (h : evK E x fun q => ifK (immB q H) (loadAtK T H t q fun v => putK E o.dst v fun E => knPut ops o.dst kn fun kn => AF P T ops p kn J E H)) : AF P T ops (.imm i p) kn J E H :=
  ⟨fun C R hp hs S m I a w d fuel hA ho hR => by
    simp only [brOk, Bool.and_eq_true] at ho
    exact take_immG (f := fuel + planLen p) hT hoi hop hg hkn h hp hs hA ho.1 (fun kn E H m I a w S g1 g2 => g1.run C R hp hs S m I a w (i :: d) fuel g2 ho.2 hR)⟩
end
end Go.Aw

/-
  Aw, part 35: arrays as arguments.
-/
set_option linter.unusedSimpArgs false
set_option linter.unusedVariables false
namespace Go.Aw
open Go Go.ChangeShapes Go.WideShapes Go.RowKit

section
variable {P : Program}
end
end Go.Aw

/-
  Aw, part 36: labels that nobody jumps to.
-/
set_option linter.unusedSimpArgs false
set_option linter.unusedVariables false
namespace Go.Aw
open Go

section
variable {P : Program} {T : Nat → TI} {H : List ABlk} {k : Nat} {Q : Exit → List AV → List ABlk → Prop} {E : List AV}
theorem AW.label {l : Nat} (h : Q .normal E H) : AW P T k (.label l) Q E H := ⟨fun C a w hC hr => wp_label ⟨E, H, h, hr⟩⟩
theorem AW.scope {c : Code} (h : AW P T k c (fun e E H => match e with | .goto _ => False | e => Q e E H) E H) : AW P T k (.scope c) Q E H :=
  ⟨fun C a w hC hr => by
    refine wp_scope_straight (wp_mono (h.run C a w hC hr) (fun e a' w' hq => ?_))
    cases e with
    | goto l => obtain ⟨_, _, h1, _⟩ := hq; exact h1.elim
    | normal => exact hq
    | exit i => exact hq
    | ret => exact hq
    | panic c => exact hq.elim
    | outgrown => exact hq.elim⟩

/-- what lies in a block is taken for something else -/
theorem Conv.seeIn {xs xs' : List AV} {l t : Nat} (hl : H[l]? = some (.cells t xs)) (h : LendL H [] id xs xs') : Conv k E H E (H.set l (.cells t xs')) := fun C m I w ys _ hs hr => by
  refine ⟨m, I, (hs.put hl trivial rfl ⟨rfl, rfl⟩ (fun _ _ => rfl) (fun _ => ?_)).1, hr⟩
  have hrep : ∀ ys, RepL w m I xs ys → RepL w m I xs' ys := fun ys hr => h.rep hs (mc := m) (I' := I) ⟨fun _ _ => rfl, fun _ _ => rfl, fun _ h => h, fun _ h => h⟩ (fun b hb => hb.elim id (fun ⟨l, hl, _⟩ => by simp at hl)) hr
  have hB := hs.blks l _ hl
  simp only [BlkRep] at hB ⊢
  rcases hB with ⟨h1, h2, h3⟩ | ⟨b, zs, fr, h1, h2, h3, h4, h5, h6, y1, y2, e, h7⟩
  · refine .inl ⟨h1, ?_, h3⟩
    subst h2
    cases h
    rfl
  · exact .inr ⟨b, zs, fr, h1, h2, h3, h4, h5, h6, y1, y2, e, hrep y1 h7⟩
theorem FitN.it {sz n : Nat} : ∀ G : List AV, FitN sz n G G
  | [] => .nil
  | _ :: G => .same (FitN.it G)
theorem LendL.mid {B : List Nat} {x x' : AV} (h : Lend H B id x x') : ∀ (A G : List AV), LendL H B id (A ++ x :: G) (A ++ x' :: G)
  | [], G => .cons h (LendL.it G)
  | a :: A, G => .cons (Lend.it a) (LendL.mid h A G)
theorem FitN.mid {sz n : Nat} : ∀ (A G : List AV), FitN sz n (A ++ .v (.slice none 0 0) :: G) (A ++ .ms sz n 0 0 :: G)
  | [], G => .own (FitN.it G)
  | a :: A, G => .same (FitN.mid A G)
theorem AIdx.mid {A B : List AV} {v : AV} {i : Nat} {K : List AV → Prop} (hi : i = A.length) (q : K [v]) : AIdx (A ++ v :: B) 1 i K := by
  subst hi
  rw [AIdx.iff, Nat.mul_one, List.drop_left]
  refine ⟨by simp, q⟩
theorem AUpd.mid {A B : List AV} {v x : AV} {i : Nat} {K : List AV → Prop} (hi : i = A.length) (q : K (A ++ x :: B)) : AUpd (A ++ v :: B) i [x] K := by
  subst hi
  refine AUpd.to _ (by simp) ?_ q
  simp [spl]
end
end Go.Aw

/-
  Aw, part 37: equality of arrays of numbers.
-/
set_option linter.unusedSimpArgs false
set_option linter.unusedVariables false
namespace Go.Aw
open Go Go.Maps Go.WideShapes

section
variable {P : Program} {T : Nat → TI} {C : Ctx} {m : Mu} {I : Nat → Prop} {H : List ABlk} {w : World}

end
end Go.Aw

