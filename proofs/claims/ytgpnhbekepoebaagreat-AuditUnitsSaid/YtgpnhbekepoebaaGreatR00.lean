/-
  The statement AuditUnits: any unit may have come of any other one, or not, and any node is reached from any other one, or not, as the document says, without any condition.
-/
import Derived.Test.YtgpnhbekepoebaaGreatBwE
import Derived.Shelf.Strings.Builder1
import Derived.RangeFuncIn
import Derived.RangeFuncLeaves
import Derived.RangeFuncRecord
import Derived.Sort.Row
import Derived.OpenShut
import Derived.Scope
import Derived.Defers
import Derived.Laws.RangeString
import Derived.Laws.Cover4
import Derived.Test.YtgpnhbekepoebaaGreatProg
import Derived.KernelRfl
set_option linter.unusedSimpArgs false
set_option linter.unusedVariables false
/-
  Aw, part 26: strings.Builder.
-/
set_option linter.unusedSimpArgs false
set_option linter.unusedVariables false
namespace Go.Aw
open Go Go.Proofs Go.Shelf Go.RowKit

variable {P : Program} {ρ : Ren}

/-- a nil slice in an own cell becomes an own one -/
theorem Conv.ownIn {H : List ABlk} {k sz : Nat} {xs : List AV} (e : Nat) {l t : Nat} {cs cs' : List AV} (hl : H[l]? = some (.cells t cs)) (h : FitN sz H.length cs cs') : Conv k xs H xs ((H ++ [ABlk.cells e []]).set l (.cells t cs')) := by
  intro C m I w ys hk hs hr
  obtain ⟨h1, h2⟩ := hs.push (w' := w) (bo := none) (s := 0) (B := .cells e []) (Nat.le_refl _) ⟨rfl, rfl⟩ (fun _ _ => rfl) (fun b hb => by cases hb) (fun _ => by simp only [BlkRep]; exact .inl ⟨Mu.push_new.1, by simp, Mu.push_new.2⟩)
  have hlt : l < H.length := (List.getElem?_eq_some_iff.1 hl).1
  have hl' : (H ++ [ABlk.cells e []])[l]? = some (.cells t cs) := by rw [List.getElem?_append_left hlt]; exact hl
  obtain ⟨h3, h4⟩ := h1.put (w' := w) (B' := .cells t cs') hl' trivial rfl ⟨rfl, rfl⟩ (fun _ _ => rfl) (fun he => by
    have hB := h1.blks l _ hl'
    simp only [BlkRep] at hB ⊢
    rcases hB with ⟨g1, g2, g3⟩ | ⟨b, zs, fr, g1, g2, g3, g4, g5, g6, y1, y2, g7, g8⟩
    · subst g2
      cases h
      exact .inl ⟨g1, rfl, g3⟩
    · exact .inr ⟨b, zs, fr, g1, g2, g3, g4, g5, g6, y1, y2, g7, FitN.rep (by simp [Mu.push, hs.n]) (by rw [← hs.n]; exact Mu.push_new.1) h g8⟩)
  exact ⟨_, I, h3, RepL.ext h4 _ _ (RepL.ext h2 _ _ hr)⟩
/-- a call that is handed all own memory as it is -/
theorem ACall.all {H : List ABlk} {f : Nat} {args : List AV} {K K0 : AV → List ABlk → Prop} (hc : callOk P f = true) (h : Spec P f args H K0) (k : ∀ r H', K0 r H' → K r H') : ACall P f args H K := ACall.iff.2 ⟨hc, h.mono k⟩
end Go.Aw

/-
  Aw, part 27: a loop's round by round.
-/
set_option linter.unusedSimpArgs false
set_option linter.unusedVariables false
namespace Go.Aw
open Go

section
variable {P : Program} {T : Nat → TI} {H : List ABlk}

/-- a loop that stands ahead of a round -/
@[irreducible] def ALp (P : Program) (k : Nat) (c : Code) (Q : Exit → List AV → List ABlk → Prop) (E : List AV) (H : List ABlk) : Prop :=
  ∀ (C : Ctx) (a : Act) (w : World), C.m0.n ≤ k → Rel C E H a w → ∀ (b : Frame) (kk : List Item) (cs : List Frame), ∃ e a' w', QR C Q e a' w' ∧ Arrives P (lone (b.at a (.code c :: .inLoop c :: kk)) cs w) b kk cs e a' w'

theorem ALoop.un {k : Nat} {c : Code} {Q : Exit → List AV → List ABlk → Prop} {E : List AV} (h : ALp P k c Q E H) : ALoop P T k E H c Q := by
  unfold ALoop
  unfold ALp at h
  intro C a w hC hr b kk cs
  obtain ⟨e, a', w', hq, harr⟩ := h C a w hC hr b kk cs
  exact ⟨e, a', w', hq, .of_steps (.one step_loop) harr⟩

theorem ALp.step {k : Nat} {c : Code} {Q : Exit → List AV → List ABlk → Prop} {E : List AV} (h : AW P T k c (fun x E H => match x with | .normal => ALp P k c Q E H | x => Q x E H) E H) : ALp P k c Q E H := by
  unfold ALp
  intro C a w hC hr b kk cs
  obtain ⟨e, a₁, w₁, hq, harr⟩ := h.run C a w hC hr b (.inLoop c :: kk) cs
  cases e with
  | normal =>
    obtain ⟨E', H', h1, h2⟩ := hq
    unfold ALp at h1
    obtain ⟨e₂, a₂, w₂, hq₂, harr₂⟩ := h1 C a₁ w₁ hC h2 b kk cs
    exact ⟨e₂, a₂, w₂, hq₂, .of_steps (Steps.trans harr (.one step_inLoop)) harr₂⟩
  | exit id => exact ⟨.exit id, a₁, w₁, hq, .pass (x := .inLoop c) rfl (fun _ _ => .inl (by simp)) harr⟩
  | goto l => exact ⟨.goto l, a₁, w₁, hq, .pass (x := .inLoop c) rfl (fun _ _ => .inl (by simp)) harr⟩
  | ret => exact ⟨.ret, a₁, w₁, hq, .pass (x := .inLoop c) rfl (fun _ _ => .inl (by simp)) harr⟩
  | panic ch => exact hq.elim
  | outgrown => exact hq.elim
/-- cells are overwritten, by computing -/
theorem AUpd.sp {xs cs : List AV} {o : Nat} {K : List AV → Prop} (h : splK xs o cs K) : AUpd xs o cs K := AUpd.iff.2 (splK_spec _ _ _ _ h)
theorem AIdx.sp {xs : List AV} {sz i : Nat} {K : List AV → Prop} (hl : Nat.ble (i * sz + sz) xs.length = true) (h : K ((xs.drop (i * sz)).take sz)) : AIdx xs sz i K := AIdx.iff.2 ⟨Nat.le_of_ble_eq_true hl, h⟩
end
end Go.Aw

/-
  Aw, part 28: a range over a function.
-/
set_option linter.unusedSimpArgs false
set_option linter.unusedVariables false
namespace Go.Aw
open Go Go.RowKit

section
variable {P : Program} {T : Nat → TI} {C : Ctx} {m : Mu} {I : Nat → Prop} {H : List ABlk} {w : World}

/-- within a round, or not -/
def fen : Option Nat → Fence
  | none => Fence.wide
  | some l => Fence.wide.inRound l
/-! ### an order of operations, within a round or not -/
structure AOI (P : Program) (T : Nat → TI) (ro : Option Nat) (ops : Array Oper) (os : List Oper) (kn : List (Nat × Bool)) (Q : List AV → List ABlk → Prop) (E : List AV) (H : List ABlk) : Prop where
  run : ∀ (C : Ctx) (R : Exit → Act → World → Prop), (∀ E H a w, Q E H → Rel C E H a w → R .normal a w) → ¬ LetsOut R → ∀ (n : Nat) (is : List Nat) (m : Mu) (I : Nat → Prop) (a : Act) (w : World), is.map (fun i => ops[i]?) = os.map some →
    St C m I H w → RepL w m I E a.tmps.toList → a.defers = C.dfr → KnOk ops kn a → wpOpsIn (fen ro) n P ops R is a w

/-- code in a round, left off its end alone -/
structure ARd (P : Program) (T : Nat → TI) (b : Nat) (c : Code) (Q : List AV → List ABlk → Prop) (E : List AV) (H : List ABlk) : Prop where
  run : ∀ (C : Ctx) (n : Nat) (a : Act) (w : World), Rel C E H a w → c.wpIn (fen (some b)) n P (Exit.then (fun a w => ∃ E H, Q E H ∧ Rel C E H a w) (fun _ _ _ => False)) a w

def wpS (P : Program) : List Code → (Exit → Act → World → Prop) → Act → World → Prop
  | [], Q, a, w => Q .normal a w
  | c :: cs, Q, a, w => c.wpIn Fence.wide 1 P (Exit.then (wpS P cs Q) Q) a w

def RPost (C : Ctx) (K : AV → List ABlk → Prop) (e : Ending) (w' : World) : Prop := ∃ r v H' m' I', e = .returned v ∧ K r H' ∧ Rep w' m' I' r v ∧ St C m' I' H' w'

/-- codes to a function's end, one behind the other, in one of which something is ranged over -/
structure ARF (P : Program) (T : Nat → TI) (k : Nat) (fn : Func) (K : AV → List ABlk → Prop) (cs : List Code) (E : List AV) (H : List ABlk) : Prop where
  run : ∀ (C : Ctx) (R : Ending → World → Prop) (a : Act) (w : World), (∀ e w, RPost C K e w → R e w) → C.m0.n ≤ k → C.dfr = [] → Rel C E H a w → wpS P cs (bodyPostM Fence.wide 1 P fn R) a w

end
end Go.Aw

/-
  Aw, part 29: a region in all of its orders.
-/
set_option linter.unusedSimpArgs false
set_option linter.unusedVariables false
namespace Go.Aw
open Go

section
variable {P : Program} {T : Nat → TI} {H : List ABlk}

/-- the operations d are done, f are left -/
structure AG (P : Program) (T : Nat → TI) (ops : Array Oper) (d : List Nat) (f : Nat) (kn : List (Nat × Bool)) (J : List AV → List ABlk → Prop) (E : List AV) (H : List ABlk) : Prop where
  run : ∀ (C : Ctx) (R : Exit → Act → World → Prop), (∀ c a w, ¬ R (.panic c) a w) → Region.noSelect ops = true → (∀ E H a w, J E H → Rel C E H a w → R .normal a w) → ∀ (S : World → Prop) (m : Mu) (I : Nat → Prop) (a : Act) (w : World),
    At C S ops kn E H m I a w → wpAnyH P .any ops R S f (unl ops d) a w

theorem AG.done {ops : Array Oper} {d : List Nat} {f : Nat} {kn : List (Nat × Bool)} {J : List AV → List ABlk → Prop} {E : List AV} (h1 : (Region.ready .any ops (unl ops d) == []) = true) (h : J E H) : AG P T ops d f kn J E H :=
  ⟨fun C R hp hs hR S m I a w hA => wpAnyH_done (by simpa using h1) (hR E H a w h ⟨m, I, hA.st, hA.rep, hA.dfr⟩) f⟩

theorem AG.one (hT : TOk P T) {ops : Array Oper} {d : List Nat} {f : Nat} {kn : List (Nat × Bool)} {J : List AV → List ABlk → Prop} {E : List AV} (i : Nat) {o : Oper} (hoi : ops[i]? = some o) (h1 : oneOk ops (unl ops d) i = true)
    (h : opK P T ops o kn E H fun kn E H => AG P T ops (i :: d) f kn J E H) : AG P T ops d (f + 1) kn J E H :=
  ⟨fun C R hp hs hR S m I a w hA => take_one hT hoi h hp hs hA h1 (fun kn E H m I a w g1 g2 => g1.run C R hp hs hR S m I a w g2)⟩

theorem AG.imm (hT : TOk P T) {ops : Array Oper} {d : List Nat} {f : Nat} {kn : List (Nat × Bool)} {J : List AV → List ABlk → Prop} {E : List AV} (i : Nat) {o : Oper} {t : Nat} {x : Operand} (hoi : ops[i]? = some o) (hop : o.op = .load t x) (hg : o.guard = none) (h1 : immOk ops (unl ops d) i = true)
    (h : evK E x fun q => ifK (immB q H) (loadAtK T H t q fun v => putK E o.dst v fun E => knPut ops o.dst kn fun kn => AG P T ops (i :: d) f kn J E H)) : AG P T ops d (f + 1) kn J E H :=
  ⟨fun C R hp hs hR S m I a w hA => take_imm hT hoi hop hg h hp hs hA h1 (fun kn E H m I a w S g1 g2 => g1.run C R hp hs hR S m I a w g2)⟩

/-- each of these may come now -/
structure AGs (P : Program) (T : Nat → TI) (ops : Array Oper) (l : List Nat) (d : List Nat) (f : Nat) (kn : List (Nat × Bool)) (J : List AV → List ABlk → Prop) (E : List AV) (H : List ABlk) : Prop where
  run : ∀ i ∈ l, ∀ (C : Ctx) (R : Exit → Act → World → Prop), (∀ c a w, ¬ R (.panic c) a w) → Region.noSelect ops = true → (∀ E H a w, J E H → Rel C E H a w → R .normal a w) → ∀ (S : World → Prop) (m : Mu) (I : Nat → Prop) (a : Act) (w : World),
    At C S ops kn E H m I a w → wpOp P ops R i (fun a' w' => S w' ∧ wpAnyH P .any ops R S f ((unl ops d).setIfInBounds i true) a' w') a w

theorem AGs.nil {ops : Array Oper} {d : List Nat} {f : Nat} {kn : List (Nat × Bool)} {J : List AV → List ABlk → Prop} {E : List AV} : AGs P T ops [] d f kn J E H := ⟨fun i hi => by cases hi⟩
theorem AGs.cons (hT : TOk P T) {ops : Array Oper} {i : Nat} {l : List Nat} {d : List Nat} {f : Nat} {kn : List (Nat × Bool)} {J : List AV → List ABlk → Prop} {E : List AV} {o : Oper} (hoi : ops[i]? = some o)
    (h : opK P T ops o kn E H fun kn E H => AG P T ops (i :: d) f kn J E H) (hl : AGs P T ops l d f kn J E H) : AGs P T ops (i :: l) d f kn J E H :=
  ⟨fun j hj C R hp hs hR S m I a w hA => by
    rcases List.mem_cons.1 hj with rfl | hj
    · obtain ⟨kn', E', hkn', hE', hst⟩ := opK_step hA.rep hA.kn h
      have := step_opH (Q := R) (R := fun a' w' => S w' ∧ wpAnyH P .any ops R S f ((unl ops d).setIfInBounds j true) a' w') hT hA.st hE' hA.dfr hkn' hst (fun kn E H m I a w g1 g2 g3 g4 g5 g6 => by
        have hA' : At C S ops kn E H m I a w := ⟨g2, g3, g4, g5, fun w' hw' => hA.s w' (hw'.ext g6)⟩
        exact ⟨hA'.now, g1.run C R hp hs hR S m I a w hA'⟩)
      unfold wpOp
      rw [hoi]
      exact this
    · exact hl.run j hj C R hp hs hR S m I a w hA⟩

theorem AG.alt {ops : Array Oper} {d : List Nat} {f : Nat} {kn : List (Nat × Bool)} {J : List AV → List ABlk → Prop} {E : List AV} (i : Nat) (l : List Nat) (h1 : (Region.ready .any ops (unl ops d) == i :: l) = true) (h : AGs P T ops (i :: l) d f kn J E H) : AG P T ops d (f + 1) kn J E H :=
  ⟨fun C R hp hs hR S m I a w hA => wpAnyH_all (by simpa using h1) (by simp) (fun k hk => h.run k (by simpa using hk) C R hp hs hR S m I a w hA)⟩

theorem AW.orders (hm : P.follows .mixedOrders = true) {k id : Nat} {ops : Array Oper} {Q : Exit → List AV → List ABlk → Prop} {E : List AV} (hs : Region.noSelect ops = true) (n : Nat) (hn : ops.size = n) (h : AG P T ops [] n [] (Q .normal) E H) : AW P T k (.region id ops true) Q E H :=
  ⟨fun C a w hC ⟨m, I, hst, hE, hd⟩ => by
    subst hn
    obtain ⟨hs', he⟩ := hst.world (w' := { w with drawn := w.drawn + 1 }) rfl ⟨rfl, rfl⟩
    refine wp_region_any hm ?_
    have := h.run C (QR C Q) (fun c a w hc => hc) hs (fun E H a w hq hr => ⟨E, H, hq, hr⟩) (fun _ => True) m I a _ ⟨hs', RepL.ext he _ _ hE, hd, (fun _ hx => by cases hx), fun _ _ => trivial⟩
    exact wpAny_of_held _ _ _ _ this⟩
end
end Go.Aw

/-
  Aw, part 30: maps that are cleared, entries that are taken out.
-/
set_option linter.unusedSimpArgs false
set_option linter.unusedVariables false
namespace Go.Aw
open Go Go.Maps

section
variable {P : Program} {T : Nat → TI} {C : Ctx} {m : Mu} {I : Nat → Prop} {H : List ABlk} {w : World}
variable {α β : Type} {kv : α → Value} {ek : α → AV} {ok : α → Prop} {eb : β → AV} {L : List (α × β)} {kt et t : Nat}

theorem erase_map {γ δ : Type} (f : γ → δ) : ∀ (l : List γ) (j : Nat), (l.eraseIdx j).map f = (l.map f).eraseIdx j
  | [], _ => by simp
  | _ :: _, 0 => by simp
  | x :: l, j + 1 => by simp [erase_map f l j]

theorem rep_erase {bs : List Nat} {clk : Nat} {ents : List MapEntry} (hr : MapRep w m I (em ek eb L) bs clk ents) (j : Nat) :
    MapRep w m I (em ek eb (L.eraseIdx j)) (bs.eraseIdx j) clk (ents.eraseIdx j) := by
  obtain ⟨r1, r2, r3, r4, r5⟩ := hr
  have hsp : ∀ {xs : List AV} {ys : List Value} (j : Nat), RepL w m I xs ys → RepL w m I (xs.eraseIdx j) (ys.eraseIdx j) := by
    intro xs
    induction xs with
    | nil => intro ys j h; simp only [RepL] at h; subst h; simp [RepL]
    | cons x xs ih =>
      intro ys j h
      simp only [RepL] at h
      obtain ⟨y, zs, rfl, h1, h2⟩ := h
      cases j with
      | zero => simpa using h2
      | succ j => simp only [List.eraseIdx_cons_succ, RepL]; exact ⟨y, _, rfl, h1, ih j h2⟩
  have em1 : ∀ (f : AV × AV → AV) , (em ek eb (L.eraseIdx j)).map f = ((em ek eb L).map f).eraseIdx j := by
    intro f
    simp only [em, erase_map]
  refine ⟨?_, ?_, ?_, ?_, ?_⟩
  · rw [em1, erase_map]; exact hsp j r1
  · rw [em1, erase_map]; exact hsp j r2
  · rw [erase_map, r3]
  · exact r4.sublist (List.eraseIdx_sublist _ _)
  · exact fun s hs => r5 s ((List.eraseIdx_sublist _ _).subset hs)

theorem AOp.delete {E : List AV} {K : AV → List ABlk → Prop} {mo ko : Operand} {l : Nat} {bs : List Nat} {clk : Nat} {a : α} {args : Array Operand} {ts : Array Nat}
    (hK : KEnc P kt kv ek ok) (ht : P.underlying t = some (.map kt et)) (hag : args = #[mo, ko]) (hts : ts = #[t, kt]) (hm : ev E mo = .mp l) (hk : ev E ko = ek a) (hH : H[l]? = some (.map (em ek eb L) bs clk)) (hL : ∀ p ∈ L, ok p.1) (ha : ok a)
    (h0 : (∀ p ∈ L, p.1 ≠ a) → K .any H) (h1 : ∀ (j : Nat) b, L[j]? = some (a, b) → K .any (H.set l (.map (em ek eb (L.eraseIdx j)) (bs.eraseIdx j) clk))) : AOp P (.call ⟨.builtin .delete, args, ts⟩) E H K := by
  subst hag; subst hts
  rw [AOp.iff]
  intro C m I w a' dst type pos after guard Q hs hE
  obtain ⟨b, ents, hb, hnI, hw, hr⟩ := hs.map_at hH
  have em1 := ev_rep (o := mo) hE
  have ek1 := ev_rep (o := ko) hE
  rw [hm] at em1; rw [hk] at ek1
  have e1 := hs.mp_val hb em1
  have e2 := hK.rep _ _ _ _ _ ek1
  obtain ⟨lx, hlx⟩ := hK.lit a ha
  have hchk := fun em => hK.keyed.check w em hlx
  rcases find_em hK hr hL ha w with ⟨f1, f2⟩ | ⟨j, bv, e, f1, f2, f3, f4, f5⟩
  · obtain ⟨hs', he⟩ := hs.putMap hH hb hw hr
    have hset : H.set l (.map (em ek eb L) bs clk) = H := set_same hH
    rw [hset] at hs'
    refine wp_val_of (s := Builtin.delete_ #[t, kt] type ((#[mo, ko] : Array Operand).map a'.eval)) (v := .tuple #[]) (h0 f2) (by simp [Rep]) hs' he ?_ rfl
    rw [show (#[mo, ko] : Array Operand).map a'.eval = #[a'.eval mo, a'.eval ko] by simp, e1, e2]
    simp [Builtin.delete_, run_underlying ht, MapKept.run_getObj_map hw, hchk, f1, MapKept.run_setObj_map _ hw, Result.andThen]
  · obtain ⟨hs', he⟩ := hs.putMap hH hb hw (rep_erase hr j)
    refine wp_val_of (s := Builtin.delete_ #[t, kt] type ((#[mo, ko] : Array Operand).map a'.eval)) (v := .tuple #[]) (h1 j bv f2) (by simp [Rep]) hs' he ?_ rfl
    have hj : j < ents.length := (List.getElem?_eq_some_iff.1 f3).1
    rw [show (#[mo, ko] : Array Operand).map a'.eval = #[a'.eval mo, a'.eval ko] by simp, e1, e2]
    simp [Builtin.delete_, run_underlying ht, MapKept.run_getObj_map hw, hchk, f1, MapKept.run_setObj_map _ hw, Result.andThen, Array.eraseIdxIfInBounds, hj]
end
end Go.Aw

/-
  Aw, part 31: the library's sort of numbers, its copy of a map.
-/
set_option linter.unusedSimpArgs false
set_option linter.unusedVariables false
namespace Go.Aw
open Go Go.Maps Go.Proofs Go.Sort

section
variable {P : Program} {T : Nat → TI} {C : Ctx} {m : Mu} {I : Nat → Prop} {H : List ABlk} {w : World}

end
end Go.Aw

/-
  Aw, part 32: cells of a list's elements, one changed.
-/
set_option linter.unusedSimpArgs false
set_option linter.unusedVariables false
namespace Go.Aw
open Go

section
variable {α : Type} {enc : α → List AV} {sz : Nat}

theorem flat_spl (hs : ∀ x, (enc x).length = sz) : ∀ (xs : List α) (i : Nat) (h : i < xs.length) (x' : α), spl (xs.flatMap enc) (i * sz) (enc x') = (xs.set i x').flatMap enc
  | x :: xs, 0, h, x' => by
    unfold spl
    rw [Nat.zero_mul, Nat.zero_add, List.take_zero, List.nil_append, List.flatMap_cons, List.set_cons_zero, List.flatMap_cons, List.drop_left' (by rw [hs, hs])]
  | x :: xs, i + 1, h, x' => by
    have ih := flat_spl hs xs i (by simpa using h) x'
    unfold spl at ih ⊢
    have e : (i + 1) * sz = (enc x).length + i * sz := by rw [hs, Nat.add_mul]; omega
    rw [List.flatMap_cons, List.set_cons_succ, List.flatMap_cons, e, List.take_append, List.drop_append, List.take_of_length_le (by omega), List.drop_eq_nil_of_le (by omega), List.nil_append, ← ih]
    have a1 : (enc x).length + i * sz - (enc x).length = i * sz := by omega
    have a2 : (enc x).length + i * sz + (enc x').length - (enc x).length = i * sz + (enc x').length := by omega
    rw [a1, a2]
    simp only [List.append_assoc]

/-- element i is another one -/
theorem AUpd.flat (hs : ∀ x, (enc x).length = sz) {xs : List α} {o : Nat} {cs : List AV} {K : List AV → Prop} (i : Nat) (x' : α) (ho : o = i * sz) (h : i < xs.length) (hc : cs = enc x')
    (q : K ((xs.set i x').flatMap enc)) : AUpd (xs.flatMap enc) o cs K := by
  subst ho hc
  rw [AUpd.iff, flat_length hs, hs, flat_spl hs xs i h]
  have := Nat.mul_le_mul_right sz (show i + 1 ≤ xs.length from h)
  rw [Nat.add_mul] at this
  exact ⟨by omega, q⟩
/-- the first i of one list, the rest of another one -/
def mix {β : Type} (xs ys : List β) (i : Nat) : List β := xs.take i ++ ys.drop i
variable {β : Type} {xs ys : List β} {i : Nat}
theorem mix_zero : mix xs ys 0 = ys := by simp [mix]
theorem mix_all (h : xs.length = i) (hl : ys.length = i) : mix xs ys i = xs := by
  unfold mix; rw [List.take_of_length_le (by omega), List.drop_eq_nil_of_le (by omega), List.append_nil]
theorem mix_len (h : xs.length = ys.length) : (mix xs ys i).length = ys.length := by
  unfold mix; rw [List.length_append, List.length_take, List.length_drop]; omega
theorem mix_get (h : xs.length = ys.length) (hi : i < ys.length) : (mix xs ys i)[i]? = some ys[i] := by
  unfold mix
  rw [List.getElem?_append_right (by rw [List.length_take]; omega), List.length_take, Nat.min_eq_left (by omega), Nat.sub_self, List.getElem?_drop, Nat.add_zero, List.getElem?_eq_getElem hi]
theorem mix_set (h : xs.length = ys.length) (hi : i < ys.length) : (mix xs ys i).set i (xs[i]'(by omega)) = mix xs ys (i + 1) := by
  unfold mix
  rw [List.set_append_right _ _ (by rw [List.length_take]; omega), List.length_take, Nat.min_eq_left (by omega), Nat.sub_self, List.drop_eq_getElem_cons hi, List.set_cons_zero, List.take_add_one, List.getElem?_eq_getElem (show i < xs.length by omega), List.append_assoc]
  rfl
end
end Go.Aw

/-
  Aw, part 33: a block that code only reads is held still.
-/
set_option linter.unusedSimpArgs false
set_option linter.unusedVariables false
namespace Go.Aw
open Go

section
variable {P : Program} {T : Nat → TI} {H : List ABlk}

end
end Go.Aw

/-
  Aw, part 34: a load of what stays, under a guard that is known.
-/
set_option linter.unusedSimpArgs false
set_option linter.unusedVariables false
namespace Go.Aw
open Go

section
variable {P : Program} {T : Nat → TI} {C : Ctx} {m : Mu} {I : Nat → Prop} {H : List ABlk} {w : World}

theorem take_immG (hT : TOk P T) {ops : Array Oper} {i : Nat} {o : Oper} {t : Nat} {x : Operand} {g : Nat × Bool} (hoi : ops[i]? = some o) (hop : o.op = .load t x) (hg : o.guard = some g) {kn : List (Nat × Bool)} (hkn : kno kn g.1 = some g.2) {E : List AV} {K : List (Nat × Bool) → List AV → List ABlk → Prop}
    (hk : evK E x fun p => ifK (immB p H) (loadAtK T H t p fun v => putK E o.dst v fun E => knPut ops o.dst kn fun kn => K kn E H))
    {R : Exit → Act → World → Prop} (hp : ∀ c a w, ¬ R (.panic c) a w) (hs : Region.noSelect ops = true) {a : Act} {d : List Nat} {f : Nat} {S : World → Prop} (hA : At C S ops kn E H m I a w) (h1 : immOk ops (unl ops d) i = true)
    (hR : ∀ kn E H m I a w S, K kn E H → At C S ops kn E H m I a w → wpAnyH P .any ops R S f (unl ops (i :: d)) a w) : wpAnyH P .any ops R S (f + 1) (unl ops d) a w := by
  obtain ⟨p, hk, hpr⟩ := evK_sound hA.rep hk
  obtain ⟨him, hk⟩ := ifK_iff.1 hk
  obtain ⟨v, y, g1, g2, g3⟩ := loadAtK_imm (P := P) hT hA.st him hk hpr
  rw [putK_eq] at g1
  obtain ⟨kn', g4, g5⟩ := knPut_spec g1 hA.kn
  simp only [immOk, Bool.and_eq_true] at h1
  have hrun : ∀ w', KeepsI I w w' → (execOp a.eval o).run P w' = .ok (.value y) w' := by
    intro w' hw'
    obtain ⟨dst, op, type, pos, after, guard⟩ := o
    simp only at hop
    subst hop
    have : execOp a.eval ⟨dst, .load t x, type, pos, after, guard⟩ = (do let v ← Instr.loadAt t (a.eval x); pure (.value v)) := rfl
    rw [this, Sem.run_bind, g3 w' hw']; rfl
  have hwant : Region.wanted o (yielded ops a.tmps) = true := by
    have hy := hA.kn _ (kno_mem hkn)
    unfold Region.wanted
    rw [hg]
    simp only at hy
    simp [hy]
  refine held_mono (S := fun w' => S w' ∧ KeepsI I w w') (fun _ h => h.1) _ _ _ _ ?_
  refine wpAnyH_take (v := y) hoi hs h1.1 h1.2 (fun c a w hc => absurd hc (hp c _ w)) (.inl ⟨hwant, fun w' hw' => hrun w' hw'.2⟩) ⟨hA.now, fun _ _ => rfl⟩ ?_
  exact hR _ _ _ _ _ _ _ _ g4 ⟨hA.st, put_rep hA.rep g2, by rw [put_defers]; exact hA.dfr, g5 y, fun w' hw' => ⟨hA.s w' hw', hw'⟩⟩

theorem AF.immG (hT : TOk P T) {ops : Array Oper} {i : Nat} {o : Oper} {t : Nat} {x : Operand} {g : Nat × Bool} {p : Pl} {kn : List (Nat × Bool)} {J : List (Nat × Bool) → List AV → List ABlk → Prop} {E : List AV} (hoi : ops[i]? = some o) (hop : o.op = .load t x) (hg : o.guard = some g) (hkn : kno kn g.1 = some g.2)
    (h : evK E x fun q => ifK (immB q H) (loadAtK T H t q fun v => putK E o.dst v fun E => knPut ops o.dst kn fun kn => AF P T ops p kn J E H)) : AF P T ops (.imm i p) kn J E H :=
  ⟨fun C R hp hs S m I a w d fuel hA ho hR => by
    simp only [brOk, Bool.and_eq_true] at ho
    exact take_immG (f := fuel + planLen p) hT hoi hop hg hkn h hp hs hA ho.1 (fun kn E H m I a w S g1 g2 => g1.run C R hp hs S m I a w (i :: d) fuel g2 ho.2 hR)⟩
end
end Go.Aw

/-
  Aw, part 35: arrays as arguments.
-/
set_option linter.unusedSimpArgs false
set_option linter.unusedVariables false
namespace Go.Aw
open Go Go.ChangeShapes Go.WideShapes Go.RowKit

section
variable {P : Program}
end
end Go.Aw

/-
  Aw, part 36: labels that nobody jumps to.
-/
set_option linter.unusedSimpArgs false
set_option linter.unusedVariables false
namespace Go.Aw
open Go

section
variable {P : Program} {T : Nat → TI} {H : List ABlk} {k : Nat} {Q : Exit → List AV → List ABlk → Prop} {E : List AV}
theorem AW.label {l : Nat} (h : Q .normal E H) : AW P T k (.label l) Q E H := ⟨fun C a w hC hr => wp_label ⟨E, H, h, hr⟩⟩
theorem AW.scope {c : Code} (h : AW P T k c (fun e E H => match e with | .goto _ => False | e => Q e E H) E H) : AW P T k (.scope c) Q E H :=
  ⟨fun C a w hC hr => by
    refine wp_scope_straight (wp_mono (h.run C a w hC hr) (fun e a' w' hq => ?_))
    cases e with
    | goto l => obtain ⟨_, _, h1, _⟩ := hq; exact h1.elim
    | normal => exact hq
    | exit i => exact hq
    | ret => exact hq
    | panic c => exact hq.elim
    | outgrown => exact hq.elim⟩

/-- what lies in a block is taken for something else -/
theorem Conv.seeIn {xs xs' : List AV} {l t : Nat} (hl : H[l]? = some (.cells t xs)) (h : LendL H [] id xs xs') : Conv k E H E (H.set l (.cells t xs')) := fun C m I w ys _ hs hr => by
  refine ⟨m, I, (hs.put hl trivial rfl ⟨rfl, rfl⟩ (fun _ _ => rfl) (fun _ => ?_)).1, hr⟩
  have hrep : ∀ ys, RepL w m I xs ys → RepL w m I xs' ys := fun ys hr => h.rep hs (mc := m) (I' := I) ⟨fun _ _ => rfl, fun _ _ => rfl, fun _ h => h, fun _ h => h⟩ (fun b hb => hb.elim id (fun ⟨l, hl, _⟩ => by simp at hl)) hr
  have hB := hs.blks l _ hl
  simp only [BlkRep] at hB ⊢
  rcases hB with ⟨h1, h2, h3⟩ | ⟨b, zs, fr, h1, h2, h3, h4, h5, h6, y1, y2, e, h7⟩
  · refine .inl ⟨h1, ?_, h3⟩
    subst h2
    cases h
    rfl
  · exact .inr ⟨b, zs, fr, h1, h2, h3, h4, h5, h6, y1, y2, e, hrep y1 h7⟩
theorem FitN.it {sz n : Nat} : ∀ G : List AV, FitN sz n G G
  | [] => .nil
  | _ :: G => .same (FitN.it G)
theorem LendL.mid {B : List Nat} {x x' : AV} (h : Lend H B id x x') : ∀ (A G : List AV), LendL H B id (A ++ x :: G) (A ++ x' :: G)
  | [], G => .cons h (LendL.it G)
  | a :: A, G => .cons (Lend.it a) (LendL.mid h A G)
theorem FitN.mid {sz n : Nat} : ∀ (A G : List AV), FitN sz n (A ++ .v (.slice none 0 0) :: G) (A ++ .ms sz n 0 0 :: G)
  | [], G => .own (FitN.it G)
  | a :: A, G => .same (FitN.mid A G)
theorem AIdx.mid {A B : List AV} {v : AV} {i : Nat} {K : List AV → Prop} (hi : i = A.length) (q : K [v]) : AIdx (A ++ v :: B) 1 i K := by
  subst hi
  rw [AIdx.iff, Nat.mul_one, List.drop_left]
  refine ⟨by simp, q⟩
theorem AUpd.mid {A B : List AV} {v x : AV} {i : Nat} {K : List AV → Prop} (hi : i = A.length) (q : K (A ++ x :: B)) : AUpd (A ++ v :: B) i [x] K := by
  subst hi
  refine AUpd.to _ (by simp) ?_ q
  simp [spl]
end
end Go.Aw

/-
  Aw, part 37: equality of arrays of numbers.
-/
set_option linter.unusedSimpArgs false
set_option linter.unusedVariables false
namespace Go.Aw
open Go Go.Maps Go.WideShapes

section
variable {P : Program} {T : Nat → TI} {C : Ctx} {m : Mu} {I : Nat → Prop} {H : List ABlk} {w : World}

end
end Go.Aw

/-
  Aw, part 50: a deferred call.
-/
set_option linter.unusedSimpArgs false
set_option linter.unusedVariables false
namespace Go.Aw
open Go

section
variable {P : Program} {T : Nat → TI} {m : Mu} {I : Nat → Prop} {H : List ABlk} {w : World}

/-- what is handed back in the end -/
def RD (C : Ctx) (K : AV → List ABlk → Prop) (e : Ending) (w' : World) : Prop := ∃ r v H' m' I', e = .returned v ∧ K r H' ∧ Rep w' m' I' r v ∧ St C m' I' H' w'

/-- code of a function that may defer a call -/
structure AWD (P : Program) (T : Nat → TI) (fn : Func) (k : Nat) (K : AV → List ABlk → Prop) (c : Code) (E : List AV) (H : List ABlk) : Prop where
  run : ∀ (C : Ctx) (a : Act) (w : World), C.m0.n ≤ k → C.dfr = [] → Rel C E H a w → c.wp P (bodyPostD P fn (RD C K)) a w

end
end Go.Aw

/-
  Aw, part 51: a block that code only reads is held still, while other blocks change.
-/
set_option linter.unusedSimpArgs false
set_option linter.unusedVariables false
namespace Go.Aw
open Go

section
variable {P : Program} {T : Nat → TI} {H : List ABlk}

end
end Go.Aw

/-
  Aw, part 52: a range over a text.
-/
set_option linter.unusedSimpArgs false
set_option linter.unusedVariables false
namespace Go.Aw
open Go

/-- an iterator over a text, at a place -/
def sIt (s : ByteArray) (pos : Nat) : ABlk := .obj (· = .stringIter s pos)

section
variable {P : Program} {T : Nat → TI} {C : Ctx} {m : Mu} {I : Nat → Prop} {H : List ABlk} {w : World} {t : Nat}

theorem AOp.rangeS {E : List AV} {K : AV → List ABlk → Prop} {so : Operand} {s : ByteArray}
    (ht : P.underlying t = some .string) (hm : ev E so = .v (.string s)) (k : K (.ptr H.length 0) (H ++ [sIt s 0])) : AOp P (.range t so) E H K := by
  rw [AOp.iff]
  intro C m I w a dst type pos after guard Q hs hE
  have em1 := ev_rep (o := so) hE
  rw [hm] at em1
  simp only [Rep] at em1
  obtain ⟨hs', he⟩ := hs.push (w' := w.alloc (.stringIter s 0)) (bo := some w.heap.size) (s := 0) (B := sIt s 0) (by simp [sIt]) ⟨rfl, rfl⟩ (fun b hb => by show (w.heap.push _)[b]? = _; rw [Array.getElem?_push, if_neg (Nat.ne_of_lt hb)]) (fun b hb => by cases hb; exact Nat.le_refl _) (fun he => by
    simp only [sIt, BlkRep, Mu.push_new.1]
    exact ⟨w.heap.size, _, rfl, fun hi => by have := hs.immlt _ hi; omega, (by show (w.heap.push _)[w.heap.size]? = _; rw [Array.getElem?_push, if_pos rfl]), rfl⟩)
  refine wp_val_of (s := Instr.range t (a.eval so)) (v := .pointer (some ⟨w.heap.size, 0, none⟩)) k ?_ hs' he ?_ rfl
  · simp only [Rep]
    rw [← hs.n, Mu.push_new.1]
    exact ⟨by simp [Mu.push], _, rfl, rfl⟩
  rw [em1]
  rw [Go.run_range_string w t s ht]
  rfl

theorem AOp.nextS {E : List AV} {K : AV → List ABlk → Prop} {io : Operand} {li pos : Nat} {s : ByteArray}
    (hi : ev E io = .ptr li 0) (hI : H[li]? = some (sIt s pos))
    (h0 : ¬ pos < s.size → K (.tup [.v (.bool false)]) H)
    (h1 : pos < s.size → K (.tup [.v (.bool true), .v (.int .i64 pos), .v (.int .i32 (Utf8.decode s pos).1)]) (H.set li (sIt s (pos + (Utf8.decode s pos).2)))) : AOp P (.next io true) E H K := by
  rw [AOp.iff]
  intro C m I w a dst type pos' after guard Q hs hE
  have ei1 := ev_rep (o := io) hE
  rw [hi] at ei1
  simp only [Rep] at ei1
  obtain ⟨_, bi, hbi, e1⟩ := ei1
  have hBi := hs.blks li _ hI
  simp only [sIt, BlkRep] at hBi
  obtain ⟨bi', o, hbi', hnI', hwi, rfl⟩ := hBi
  rw [hbi] at hbi'; cases hbi'
  have hget : (getObj bi).run P w = .ok (.stringIter s pos) w := by simp [getObj, Sem.run, hwi]
  have hltb : bi < w.heap.size := (Array.getElem?_eq_some_iff.1 hwi).1
  by_cases hp : pos < s.size
  · obtain ⟨hs2, he2⟩ := hs.put (w' := { w with heap := w.heap.setIfInBounds bi (.stringIter s (pos + (Utf8.decode s pos).2)) }) (l := li) (B := sIt s pos) (B' := sIt s (pos + (Utf8.decode s pos).2)) hI trivial (by simp [sIt]) ⟨rfl, rfl⟩ (fun b' hb' => by
      show (w.heap.setIfInBounds bi _)[b']? = _
      rw [Array.getElem?_setIfInBounds_ne (fun e => hb' (by rw [← e]; exact hbi))]) (fun he => by
      simp only [sIt, BlkRep]
      refine ⟨bi, _, hbi, hnI', ?_, rfl⟩
      simp [hltb])
    refine wp_val_of (s := Instr.next (a.eval io) true type) (v := .tuple #[.bool true, goInt pos, .int .i32 (Utf8.decode s pos).1]) (h1 hp) ?_ hs2 he2 ?_ rfl
    · simp only [Rep, RepL]; exact ⟨_, rfl, _, _, rfl, rfl, _, _, rfl, rfl, _, _, rfl, rfl, rfl⟩
    · rw [e1]
      simp only [Instr.next, Sem.run_bind, hget, Result.andThen_ok, hp, if_true]
      simp [setObj, Sem.run, hwi]
  · refine wp_val_of (s := Instr.next (a.eval io) true type) (v := .tuple #[.bool false]) (h0 hp) ?_ hs (.refl _ _ _) ?_ rfl
    · simp only [Rep, RepL]; exact ⟨_, rfl, _, _, rfl, rfl, rfl⟩
    · rw [e1]
      simp only [Instr.next, Sem.run_bind, hget, Result.andThen_ok, hp, if_false]
      simp [Sem.run]

def rI (n : Int) : AV := .v (.int .i32 n)

theorem RepL.runes : ∀ {bs : List Int} {ys : List Value}, RepL w m I (bs.map rI) ys → ys = bs.map fun b => Value.int .i32 b
  | [], ys, h => by simpa [RepL] using h
  | b :: bs, ys, h => by
    simp only [List.map_cons, RepL] at h
    obtain ⟨y, zs, rfl, h1, h2⟩ := h
    simp only [rI, Rep] at h1
    subst h1
    simp [RepL.runes h2]

/-- a slice of runes becomes a text -/
theorem AOp.runes {E : List AV} {K : AV → List ABlk → Prop} {xo : Operand} {l src dst e : Nat} {ns : List Int} {t' : Nat}
    (hS : P.underlying src = some (.slice e)) (he : P.underlying e = some (.int .i32)) (hD : P.underlying dst = some .string)
    (hx : ev E xo = .ms 1 l 0 ns.length) (hH : H[l]? = some (.cells t' (ns.map rI))) (hk : K (.v (.string (runesBytes ns))) H) : AOp P (.convert src dst xo) E H K := by
  rw [AOp.iff]
  intro C m I w a d type pos after guard Q hs hE
  have hr := ev_rep (o := xo) hE
  rw [hx] at hr
  have hck : contentK H 1 (.ms 1 l 0 ns.length) fun n cs => n = ns.length ∧ cs = ns.map rI := by
    simp only [contentK, ifK_iff, blkK_iff, seeK_iff, ACut.iff]
    exact ⟨rfl, _, hH, t', _, .inl rfl, by simp, trivial, List.take_of_length_le (by simp)⟩
  obtain ⟨z, n, c, hX⟩ := contentK_slice hck (by simp) hr
  obtain ⟨n', xs, ys, ⟨rfl, rfl⟩, h1, h2, h3, h4, h5⟩ := contentK_sound (P := P) hs hck hr
  have hys := h1.runes
  subst hys
  rw [hX] at h4 h5
  have hl : n = ns.length := by simpa [Builtin.lenOf] using h4
  subst hl
  have hc := h5 w rfl ns.length (Nat.le_refl _)
  refine wp_mem (s := convert src dst (a.eval xo)) (Mem.ofv hs hk ?_) rfl
  rw [hX]
  cases z with
  | none =>
    simp [Builtin.firstCells] at hc
    subst hc
    rw [run_convert_runes_nil w src dst e _ _ hS he hD]
    rfl
  | some A =>
    rw [run_convert_runes_string w src dst e _ _ _ hS he hD]
    simp only [Builtin.firstCells, Nat.mul_one] at hc
    refine run_runesToString w A _ c ns ?_
    rw [hc, List.take_of_length_le (by simp)]
end
end Go.Aw

/-
  Aw, part 53: own memory that a call only reads is frozen ahead of it, and lent as values.
-/
set_option linter.unusedSimpArgs false
set_option linter.unusedVariables false
namespace Go.Aw
open Go

section
variable {P : Program} {H : List ABlk}

theorem ACall.ice {f : Nat} {args : List AV} {K : AV → List ABlk → Prop} {l t : Nat} {xs : List AV} (hl : H[l]? = some (.cells t xs)) (h : ACall P f args (H.set l (.ice t xs)) K) : ACall P f args H K := by
  rw [ACall.iff] at h ⊢
  refine ⟨h.1, fun C m I w vs hs hr => ?_⟩
  obtain ⟨hs1, he1⟩ := hs.freeze hl
  exact (h.2 C m _ w vs hs1 (RepL.ext he1 _ _ hr)).mono fun e w' ⟨r, v, H', m', I', h1, h2, h3, h4, h5⟩ => ⟨r, v, H', m', I', h1, h2, h3, h4, he1.trans h5⟩

theorem ACall.see {f : Nat} {args args' : List AV} {K : AV → List ABlk → Prop} (hs : LendL H [] id args args') (h : ACall P f args' H K) : ACall P f args H K := by
  rw [ACall.iff] at h ⊢
  refine ⟨h.1, fun C m I w vs hst hr => ?_⟩
  exact h.2 C m I w vs hst (hs.rep hst (mc := m) (I' := I) ⟨fun _ _ => rfl, fun _ _ => rfl, fun _ h => h, fun _ h => h⟩ (fun b hb => hb.elim id (fun ⟨l, hl, _⟩ => by simp at hl)) hr)

/-- a closure over one own cell: the cell is frozen, and told -/
theorem ACall.clo {f g : Nat} {K : AV → List ABlk → Prop} {a : AV} {l t : Nat} {xs : List AV} (hl : H[l]? = some (.cells t xs))
    (h : ACall P f [a, .fn g [] [.ip xs]] (H.set l (.ice t xs)) K) : ACall P f [a, .fn g [] [.ptr l 0]] H K := by
  refine ACall.ice hl (ACall.see (args' := [a, .fn g [] [.ip xs]]) (.cons (.it _) (.cons (.fn .nil (.cons (Lend.sip (t := t) ?_) .nil)) .nil)) h)
  rw [List.getElem?_set_self (List.getElem?_eq_some_iff.1 hl).1]
end
end Go.Aw

/-
  Aw, part 56: the walk's plain steps as one rule: it carries a state as far as no head has to be chosen.
-/
set_option linter.unusedSimpArgs false
set_option linter.unusedVariables false
namespace Go.Aw
open Go

/-- the plain steps -/
theorem go {Q G : Prop} (h : Q) (i : Q → G := by
    intro h
    conv => whnf
    first | refine AO.cons hT ?_ | refine AO.nil ?_ | refine AW.seq ?_ | refine AW.region ?_ | refine AW.cond ?_ | refine AW.block ?_ | refine AW.loop ?_ | refine AW.skip ?_ | refine AW.exit ?_ | refine AW.ret ?_ | refine AF.one hT rfl ?_ | refine AF.nil ?_ | refine AF.imm hT rfl rfl rfl ?_ | refine AH.of hT rfl ?_
    conv => whnf
    repeat ((first | refine AO.cons hT ?_ | refine AO.nil ?_ | refine AW.seq ?_ | refine AW.region ?_ | refine AW.cond ?_ | refine AW.block ?_ | refine AW.loop ?_ | refine AW.skip ?_ | refine AW.exit ?_ | refine AW.ret ?_ | refine AF.one hT rfl ?_ | refine AF.nil ?_ | refine AF.imm hT rfl rfl rfl ?_ | refine AH.of hT rfl ?_); conv => whnf)
    exact h) : G := i h

/-- the plain steps, and the heads that are closed -/
theorem ru {Q G : Prop} (h : Q) (i : Q → G := by
    intro h
    conv => whnf
    first | refine AO.cons hT ?_ | refine AO.nil ?_ | refine AW.seq ?_ | refine AW.region ?_ | refine AW.cond ?_ | refine AW.block ?_ | refine AW.loop ?_ | refine AW.skip ?_ | refine AW.exit ?_ | refine AW.ret ?_ | refine AF.one hT rfl ?_ | refine AF.nil ?_ | refine AF.imm hT rfl rfl rfl ?_ | refine AH.of hT rfl ?_ | refine ASplit.yes rfl ?_ | refine ACond.yes rfl ?_ | refine ASplit.no rfl ?_ | refine ACond.no rfl ?_ | refine ASplit.yes (by decide) ?_ | refine ACond.yes (by decide) ?_ | refine AReq.mk (by decide) ?_ | refine AIdx.iff.2 ⟨by decide, ?_⟩
    conv => whnf
    repeat ((first | refine AO.cons hT ?_ | refine AO.nil ?_ | refine AW.seq ?_ | refine AW.region ?_ | refine AW.cond ?_ | refine AW.block ?_ | refine AW.loop ?_ | refine AW.skip ?_ | refine AW.exit ?_ | refine AW.ret ?_ | refine AF.one hT rfl ?_ | refine AF.nil ?_ | refine AF.imm hT rfl rfl rfl ?_ | refine AH.of hT rfl ?_ | refine ASplit.yes rfl ?_ | refine ACond.yes rfl ?_ | refine ASplit.no rfl ?_ | refine ACond.no rfl ?_ | refine ASplit.yes (by decide) ?_ | refine ACond.yes (by decide) ?_ | refine AReq.mk (by decide) ?_ | refine AIdx.iff.2 ⟨by decide, ?_⟩); conv => whnf)
    exact h) : G := i h

end Go.Aw

/-
  Aw, part 54: a map as a function: what is told of it, put into it, deleted.
-/
set_option linter.unusedSimpArgs false
set_option linter.unusedVariables false
set_option linter.unusedSectionVars false
namespace Go.Aw
open Go

/-- entries that stand for a function -/
structure MapIs {α β : Type} (ok : α → Prop) (L : List (α × β)) (z : β) (g : α → β) : Prop where
  ok : ∀ p ∈ L, ok p.1
  nd : (L.map (·.1)).Nodup
  no : ∀ a, (∀ p ∈ L, p.1 ≠ a) → g a = z
  yes : ∀ a b, (a, b) ∈ L → g a = b

def upd {α β : Type} [DecidableEq α] (g : α → β) (a : α) (b : β) : α → β := fun x => if x = a then b else g x

section
variable {α β : Type} [DecidableEq α] {ok : α → Prop} {L : List (α × β)} {z : β} {g : α → β}
theorem MapIs.nil : MapIs ok ([] : List (α × β)) z (fun _ => z) := ⟨fun p h => by simp at h, List.nodup_nil, fun _ _ => rfl, fun _ _ h => by simp at h⟩
theorem MapIs.push (h : MapIs ok L z g) {a : α} {b : β} (hok : ok a) (ha : ∀ p ∈ L, p.1 ≠ a) : MapIs ok (L ++ [(a, b)]) z (upd g a b) where
  ok := fun p hp => (List.mem_append.1 hp).elim (h.ok p) (fun hp => by simp only [List.mem_singleton] at hp; subst hp; exact hok)
  nd := by
    rw [List.map_append, List.nodup_append]
    refine ⟨h.nd, by simp, ?_⟩
    intro x hx y hy
    simp only [List.map_cons, List.map_nil, List.mem_singleton] at hy
    obtain ⟨p, hp, rfl⟩ := List.mem_map.1 hx
    rw [hy]; exact ha p hp
  no := fun x hx => by
    have h1 : x ≠ a := fun e => hx (a, b) (by simp) e.symm
    rw [upd, if_neg h1]
    exact h.no x fun p hp => hx p (by simp [hp])
  yes := fun x y hxy => by
    rcases List.mem_append.1 hxy with h1 | h1
    · have : x ≠ a := ha _ h1
      rw [upd, if_neg this]; exact h.yes x y h1
    · simp only [List.mem_singleton, Prod.mk.injEq] at h1
      obtain ⟨rfl, rfl⟩ := h1
      rw [upd, if_pos rfl]
theorem MapIs.set (h : MapIs ok L z g) {a : α} {b b0 : β} {j : Nat} (hj : L[j]? = some (a, b0)) : MapIs ok (L.set j (a, b)) z (upd g a b) where
  ok := fun p hp => (List.mem_or_eq_of_mem_set hp).elim (h.ok p) (fun e => by rw [e]; exact h.ok (a, b0) (List.mem_of_getElem? hj))
  nd := by
    have : (L.set j (a, b)).map (·.1) = L.map (·.1) := by
      rw [List.map_set]
      apply List.ext_getElem?
      intro i
      rw [List.getElem?_set]
      split
      · rename_i e; subst e
        split
        · rw [List.getElem?_map, hj]; rfl
        · rename_i hl; rw [List.getElem?_eq_none (by omega)]
      · rfl
    rw [this]; exact h.nd
  no := fun x hx => by
    obtain ⟨hlt, _⟩ := List.getElem?_eq_some_iff.1 hj
    have h1 : x ≠ a := fun e => hx (a, b) (List.mem_iff_getElem?.2 ⟨j, by rw [List.getElem?_set_self hlt]⟩) e.symm
    rw [upd, if_neg h1]
    refine h.no x fun p hp => ?_
    obtain ⟨i, hi⟩ := List.getElem?_of_mem hp
    by_cases e : j = i
    · subst e; rw [hj] at hi; cases hi; exact fun e => h1 e.symm
    · exact hx p (List.mem_iff_getElem?.2 ⟨i, by rw [List.getElem?_set_ne e]; exact hi⟩)
  yes := fun x y hxy => by
    obtain ⟨hlt, _⟩ := List.getElem?_eq_some_iff.1 hj
    obtain ⟨i, hi⟩ := List.getElem?_of_mem hxy
    by_cases e : j = i
    · subst e
      rw [List.getElem?_set_self hlt] at hi
      cases hi
      rw [upd, if_pos rfl]
    · rw [List.getElem?_set_ne e] at hi
      have h1 : x ≠ a := by
        rintro rfl
        have h2 : (L.map (·.1))[j]? = some x := by rw [List.getElem?_map, hj]; rfl
        have h3 : (L.map (·.1))[i]? = some x := by rw [List.getElem?_map, hi]; rfl
        exact e (nodup_at h.nd h2 h3)
      rw [upd, if_neg h1]
      exact h.yes x y (List.mem_iff_getElem?.2 ⟨i, hi⟩)
theorem MapIs.del (h : MapIs ok L z g) {a : α} {b0 : β} {j : Nat} (hj : L[j]? = some (a, b0)) : MapIs ok (L.eraseIdx j) z (upd g a z) where
  ok := fun p hp => h.ok p ((List.eraseIdx_sublist _ _).subset hp)
  nd := h.nd.sublist ((List.eraseIdx_sublist _ _).map _)
  no := fun x hx => by
    by_cases e : x = a
    · rw [upd, if_pos e]
    · rw [upd, if_neg e]
      refine h.no x fun p hp e2 => ?_
      obtain ⟨i, hi⟩ := List.getElem?_of_mem hp
      have hij : i ≠ j := by rintro rfl; rw [hj] at hi; cases hi; exact e e2.symm
      refine hx p ?_ e2
      rw [List.mem_eraseIdx_iff_getElem?]
      exact ⟨i, hij, hi⟩
  yes := fun x y hxy => by
    rw [List.mem_eraseIdx_iff_getElem?] at hxy
    obtain ⟨i, hij, hi⟩ := hxy
    have h1 : x ≠ a := by
      rintro rfl
      have h2 : (L.map (·.1))[j]? = some x := by rw [List.getElem?_map, hj]; rfl
      have h3 : (L.map (·.1))[i]? = some x := by rw [List.getElem?_map, hi]; rfl
      exact hij (nodup_at h.nd h3 h2)
    rw [upd, if_neg h1]
    exact h.yes x y (List.mem_of_getElem? hi)
theorem MapIs.gone (h : MapIs ok L z g) {a : α} (ha : ∀ p ∈ L, p.1 ≠ a) : MapIs ok L z (upd g a z) where
  ok := h.ok
  nd := h.nd
  no := fun x hx => by
    by_cases e : x = a
    · rw [upd, if_pos e]
    · rw [upd, if_neg e]; exact h.no x hx
  yes := fun x y hxy => by
    rw [upd, if_neg (ha _ hxy)]; exact h.yes x y hxy
end

section
variable {P : Program} {T : Nat → TI} {H : List ABlk} {α β : Type} [DecidableEq α] {kv : α → Value} {ek : α → AV} {ok : α → Prop} {eb : β → AV} {L : List (α × β)} {z : β} {g : α → β} {kt et t : Nat}

theorem AOp.getM {E : List AV} {K : AV → List ABlk → Prop} {mo ko : Operand} {bs : List Nat} {clk : Nat} (l : Nat) (a : α)
    (hT : TOk P T) (hK : KEnc P kt kv ek ok) (ht : P.underlying t = some (.map kt et)) (hne : (T et).u ≠ .other) (hz : (T et).zero = eb z) (hI : MapIs ok L z g) (ha : ok a)
    (hm : ev E mo = .mp l) (hk : ev E ko = ek a) (hH : H[l]? = some (.map (em ek eb L) bs clk)) (k : K (eb (g a)) H) : AOp P (.lookup t mo ko false) E H K :=
  AOp.lookupV (g a) hT hK ht hne hz hm hk hH hI.ok ha (fun h0 => hI.no a h0) (fun j b hj => hI.yes a b (List.mem_of_getElem? hj)) k

theorem AOp.putM {E : List AV} {K : AV → List ABlk → Prop} {mo ko xo : Operand} {bs : List Nat} {clk : Nat} (l : Nat) (a : α) (b' : β)
    (hK : KEnc P kt kv ek ok) (ht : P.underlying t = some (.map kt et)) (hI : MapIs ok L z g) (ha : ok a)
    (hm : ev E mo = .mp l) (hk : ev E ko = ek a) (hx : ev E xo = eb b') (hH : H[l]? = some (.map (em ek eb L) bs clk))
    (k : ∀ L' bs' clk', MapIs ok L' z (upd g a b') → K .any (H.set l (.map (em ek eb L') bs' clk'))) : AOp P (.mapUpdate t mo ko xo) E H K :=
  AOp.mapUpdate hK ht hm hk hx hH hI.ok ha (fun h0 => k _ _ _ (hI.push ha h0)) (fun j b hj => k _ _ _ (hI.set hj))

theorem AOp.lenM {E : List AV} {K : AV → List ABlk → Prop} {mo : Operand} {es : List (AV × AV)} {bs : List Nat} {clk : Nat} {args : Array Operand} {ts : Array Nat} (l : Nat)
    (ht : P.underlying t = some (.map kt et)) (hag : args = #[mo]) (hts : ts = #[t]) (hm : ev E mo = .mp l) (hH : H[l]? = some (.map es bs clk))
    (k : K (.v (.int .i64 es.length)) H) : AOp P (.call ⟨.builtin .len, args, ts⟩) E H K := by
  subst hag; subst hts
  rw [AOp.iff]
  intro C m I w a' dst type pos after guard Q hs hE
  obtain ⟨b, ents, hb, hnI, hw, hr⟩ := hs.map_at hH
  have em1 := ev_rep (o := mo) hE
  rw [hm] at em1
  have e1 := hs.mp_val hb em1
  have hlen : ents.length = es.length := by have := hr.1.length; simpa using this
  refine wp_val_of (s := Builtin.len_ #[t] type ((#[mo] : Array Operand).map a'.eval)) k (v := .int .i64 es.length) (by simp only [Rep]) hs (.refl _ _ _) ?_ rfl
  rw [show (#[mo] : Array Operand).map a'.eval = #[a'.eval mo] by simp, e1]
  simp [Builtin.len_, run_underlying ht, MapKept.run_getObj_map hw, goInt, hlen]

end
end Go.Aw

/-
  Aw, part 57: maps as functions, exact: which keys are there.
-/
set_option linter.unusedSimpArgs false
set_option linter.unusedVariables false
set_option linter.unusedSectionVars false
namespace Go.Aw
open Go

section
variable {α β : Type} [DecidableEq α] {ok : α → Prop} {L : List (α × β)} {z : β} {g : α → β}
/-- no key is there with nothing -/
def Full (L : List (α × β)) (z : β) : Prop := ∀ p ∈ L, p.2 ≠ z
theorem Full.nil : Full ([] : List (α × β)) z := fun p hp => by simp at hp
theorem Full.push (h : Full L z) {a : α} {b : β} (hb : b ≠ z) : Full (L ++ [(a, b)]) z := fun p hp => (List.mem_append.1 hp).elim (h p) (fun hp => by simp only [List.mem_singleton] at hp; subst hp; exact hb)
theorem Full.set (h : Full L z) {a : α} {b : β} {j : Nat} (hb : b ≠ z) : Full (L.set j (a, b)) z := fun p hp => (List.mem_or_eq_of_mem_set hp).elim (h p) (fun e => by rw [e]; exact hb)
/-- nothing is there just when the function is nothing -/
theorem MapIs.zero (h : MapIs ok L z g) (hf : Full L z) : L = [] ↔ ∀ a, g a = z := by
  refine ⟨fun e a => h.no a (by rw [e]; simp), fun e => ?_⟩
  cases L with
  | nil => rfl
  | cons p L =>
    have h1 := h.yes p.1 p.2 (by simp)
    exact absurd (h1.symm.trans (e p.1)) (hf p (by simp))
end
section
variable {P : Program} {T : Nat → TI} {H : List ABlk} {α β : Type} [DecidableEq α] {kv : α → Value} {ek : α → AV} {ok : α → Prop} {eb : β → AV} {L : List (α × β)} {z : β} {g : α → β} {kt et t : Nat}
theorem AOp.delX {E : List AV} {K : AV → List ABlk → Prop} {mo ko : Operand} {bs : List Nat} {clk : Nat} {args : Array Operand} {ts : Array Nat} (l : Nat) (a : α)
    (hK : KEnc P kt kv ek ok) (ht : P.underlying t = some (.map kt et)) (hag : args = #[mo, ko]) (hts : ts = #[t, kt]) (hI : MapIs ok L z g) (ha : ok a)
    (hm : ev E mo = .mp l) (hk : ev E ko = ek a) (hH : H[l]? = some (.map (em ek eb L) bs clk))
    (k : ∀ L' bs' clk', L'.length ≤ L.length → MapIs ok L' z (upd g a z) → (∀ p ∈ L', p ∈ L ∧ p.1 ≠ a) → K .any (H.set l (.map (em ek eb L') bs' clk'))) : AOp P (.call ⟨.builtin .delete, args, ts⟩) E H K :=
  AOp.delete hK ht hag hts hm hk hH hI.ok ha (fun h0 => by have := k L bs clk (Nat.le_refl _) (hI.gone h0) (fun p hp => ⟨hp, h0 p hp⟩); rwa [set_same hH] at this)
    (fun j b hj => k _ _ _ (by rw [List.length_eraseIdx]; split <;> omega) (hI.del hj) (fun p hp => by
      refine ⟨(List.eraseIdx_sublist _ _).subset hp, ?_⟩
      rw [List.mem_eraseIdx_iff_getElem?] at hp
      obtain ⟨i, hij, hi⟩ := hp
      rintro rfl
      have h2 : (L.map (·.1))[j]? = some p.1 := by rw [List.getElem?_map, hj]; rfl
      have h3 : (L.map (·.1))[i]? = some p.1 := by rw [List.getElem?_map, hi]; rfl
      exact hij (nodup_at hI.nd h3 h2)))
theorem AOp.putX {E : List AV} {K : AV → List ABlk → Prop} {mo ko xo : Operand} {bs : List Nat} {clk : Nat} (l : Nat) (a : α) (b' : β)
    (hK : KEnc P kt kv ek ok) (ht : P.underlying t = some (.map kt et)) (hI : MapIs ok L z g) (ha : ok a)
    (hm : ev E mo = .mp l) (hk : ev E ko = ek a) (hx : ev E xo = eb b') (hH : H[l]? = some (.map (em ek eb L) bs clk))
    (k : ∀ L' bs' clk', MapIs ok L' z (upd g a b') → (Full L z → b' ≠ z → Full L' z) → K .any (H.set l (.map (em ek eb L') bs' clk'))) : AOp P (.mapUpdate t mo ko xo) E H K :=
  AOp.mapUpdate hK ht hm hk hx hH hI.ok ha (fun h0 => k _ _ _ (hI.push ha h0) (fun h hb => h.push hb)) (fun j b hj => k _ _ _ (hI.set hj) (fun h hb => h.set hb))
end
end Go.Aw

/-
  Aw, part 58: a map as a function that may have nothing: whether a key is there.
-/
set_option linter.unusedSimpArgs false
set_option linter.unusedVariables false
set_option linter.unusedSectionVars false
namespace Go.Aw
open Go

/-- entries that stand for a function that may have nothing -/
structure MapO {α β : Type} (ok : α → Prop) (L : List (α × β)) (h : α → Option β) : Prop where
  ok : ∀ p ∈ L, ok p.1
  nd : (L.map (·.1)).Nodup
  no : ∀ a, (∀ p ∈ L, p.1 ≠ a) → h a = none
  yes : ∀ a b, (a, b) ∈ L → h a = some b
section
variable {α β : Type} [DecidableEq α] {ok : α → Prop} {L : List (α × β)} {h : α → Option β}
end
section
variable {P : Program} {T : Nat → TI} {H : List ABlk} {α β : Type} [DecidableEq α] {kv : α → Value} {ek : α → AV} {ok : α → Prop} {eb : β → AV} {L : List (α × β)} {z : β} {h : α → Option β} {kt et t : Nat}
end
end Go.Aw

/-
  The types of this cut, in short.
-/
set_option linter.unusedSimpArgs false
set_option linter.unusedVariables false
namespace Go.Aw.U1
open Go

noncomputable def tbl : List (Nat × TI) := [(1, ⟨.fn, 1, 8, .v .nilFunc⟩),
  (2, ⟨.int .i64, 1, 8, .v (.int .i64 0)⟩),
  (3, ⟨.int .i64, 1, 8, .v (.int .i64 0)⟩),
  (4, ⟨.bool, 1, 1, .v (.bool false)⟩),
  (5, ⟨.int .u8, 1, 1, .v (.int .u8 0)⟩),
  (9, ⟨.str, 1, 16, .v (.string ⟨#[]⟩)⟩),
  (12, ⟨.int .u64, 1, 8, .v (.int .u64 0)⟩),
  (21, ⟨.int .i32, 1, 4, .v (.int .i32 0)⟩),
  (22, ⟨.struct [(0, false, 1), (1, false, 1), (2, false, 1), (3, false, 1), (4, false, 1), (5, false, 1), (6, false, 1), (7, false, 1), (8, false, 1), (9, false, 1)], 10, 88, .agg [.v (.string ⟨#[]⟩), .v (.int .i64 0), .v (.int .i64 0), .v (.int .i64 0), .v (.int .i64 0), .v (.int .i64 0), .v (.int .i64 0), .v (.int .i64 0), .v (.int .i64 0), .v (.int .i64 0)]⟩),
  (23, ⟨.struct [(0, false, 1), (1, false, 1), (2, false, 1), (3, false, 1), (4, false, 1), (5, false, 1), (6, false, 1), (7, false, 1), (8, false, 1), (9, false, 1)], 10, 88, .agg [.v (.string ⟨#[]⟩), .v (.int .i64 0), .v (.int .i64 0), .v (.int .i64 0), .v (.int .i64 0), .v (.int .i64 0), .v (.int .i64 0), .v (.int .i64 0), .v (.int .i64 0), .v (.int .i64 0)]⟩),
  (24, ⟨.fn, 1, 8, .v .nilFunc⟩),
  (25, ⟨.fn, 1, 8, .v .nilFunc⟩),
  (26, ⟨.fn, 1, 8, .v .nilFunc⟩),
  (27, ⟨.struct [(0, false, 1), (1, false, 1)], 2, 16, .agg [.v (.int .i64 0), .v (.int .i64 0)]⟩),
  (28, ⟨.struct [(0, false, 1), (1, false, 1)], 2, 16, .agg [.v (.int .i64 0), .v (.int .i64 0)]⟩),
  (29, ⟨.fn, 1, 8, .v .nilFunc⟩),
  (30, ⟨.slice 140, 1, 24, .v (.slice none 0 0)⟩),
  (31, ⟨.slice 119, 1, 24, .v (.slice none 0 0)⟩),
  (32, ⟨.slice 123, 1, 24, .v (.slice none 0 0)⟩),
  (33, ⟨.slice 23, 1, 24, .v (.slice none 0 0)⟩),
  (34, ⟨.slice 144, 1, 24, .v (.slice none 0 0)⟩),
  (35, ⟨.slice 125, 1, 24, .v (.slice none 0 0)⟩),
  (36, ⟨.slice 73, 1, 24, .v (.slice none 0 0)⟩),
  (37, ⟨.slice 95, 1, 24, .v (.slice none 0 0)⟩),
  (38, ⟨.slice 3, 1, 24, .v (.slice none 0 0)⟩),
  (39, ⟨.slice 164, 1, 24, .v (.slice none 0 0)⟩),
  (40, ⟨.struct [(0, false, 1), (1, false, 1), (2, false, 1), (3, false, 1)], 4, 96, .agg [.v (.slice none 0 0), .v (.slice none 0 0), .v (.slice none 0 0), .v (.slice none 0 0)]⟩),
  (41, ⟨.struct [(0, false, 1), (1, false, 1), (2, false, 1), (3, false, 1)], 4, 96, .agg [.v (.slice none 0 0), .v (.slice none 0 0), .v (.slice none 0 0), .v (.slice none 0 0)]⟩),
  (42, ⟨.slice 127, 1, 24, .v (.slice none 0 0)⟩),
  (43, ⟨.struct [(0, false, 1), (1, false, 1), (2, false, 1), (3, false, 1), (4, false, 1), (5, false, 1), (6, false, 1), (7, false, 1), (8, false, 1), (9, false, 1), (10, false, 1), (11, false, 1), (12, false, 1), (13, true, 4), (17, false, 1)], 18, 352, .agg [.v (.int .i64 0), .v (.int .i64 0), .v (.int .i64 0), .v (.int .i64 0), .v (.int .i64 0), .v (.slice none 0 0), .v (.slice none 0 0), .v (.slice none 0 0), .v (.slice none 0 0), .v (.slice none 0 0), .v (.slice none 0 0), .v (.slice none 0 0), .v (.slice none 0 0), .v (.slice none 0 0), .v (.slice none 0 0), .v (.slice none 0 0), .v (.slice none 0 0), .v (.slice none 0 0)]⟩),
  (44, ⟨.struct [(0, false, 1), (1, false, 1), (2, false, 1), (3, false, 1), (4, false, 1), (5, false, 1), (6, false, 1), (7, false, 1), (8, false, 1), (9, false, 1), (10, false, 1), (11, false, 1), (12, false, 1), (13, true, 4), (17, false, 1)], 18, 352, .agg [.v (.int .i64 0), .v (.int .i64 0), .v (.int .i64 0), .v (.int .i64 0), .v (.int .i64 0), .v (.slice none 0 0), .v (.slice none 0 0), .v (.slice none 0 0), .v (.slice none 0 0), .v (.slice none 0 0), .v (.slice none 0 0), .v (.slice none 0 0), .v (.slice none 0 0), .v (.slice none 0 0), .v (.slice none 0 0), .v (.slice none 0 0), .v (.slice none 0 0), .v (.slice none 0 0)]⟩),
  (45, ⟨.fn, 1, 8, .v .nilFunc⟩),
  (46, ⟨.struct [(0, false, 1), (1, false, 1), (2, false, 1), (3, false, 1), (4, false, 1), (5, false, 1), (6, false, 1), (7, false, 1)], 8, 64, .agg (List.replicate 8 (.v (.int .i64 0)))⟩),
  (47, ⟨.struct [(0, false, 1), (1, false, 1), (2, false, 1), (3, false, 1), (4, false, 1), (5, false, 1), (6, false, 1), (7, false, 1)], 8, 64, .agg (List.replicate 8 (.v (.int .i64 0)))⟩),
  (48, ⟨.int .i64, 1, 8, .v (.int .i64 0)⟩),
  (50, ⟨.fn, 1, 8, .v .nilFunc⟩),
  (51, ⟨.fn, 1, 8, .v .nilFunc⟩),
  (52, ⟨.arr 10 3, 10, 80, .agg (List.replicate 10 (.v (.int .i64 0)))⟩),
  (53, ⟨.fn, 1, 8, .v .nilFunc⟩),
  (55, ⟨.fn, 1, 8, .v .nilFunc⟩),
  (57, ⟨.fn, 1, 8, .v .nilFunc⟩),
  (58, ⟨.fn, 1, 8, .v .nilFunc⟩),
  (59, ⟨.slice 9, 1, 24, .v (.slice none 0 0)⟩),
  (60, ⟨.slice 121, 1, 24, .v (.slice none 0 0)⟩),
  (61, ⟨.slice 155, 1, 24, .v (.slice none 0 0)⟩),
  (62, ⟨.struct [(0, false, 1), (1, false, 1), (2, false, 1), (3, false, 1), (4, false, 1), (5, false, 1), (6, false, 1), (7, false, 1), (8, false, 1), (9, false, 1), (10, true, 4)], 14, 232, .agg [.v (.int .i64 0), .v (.int .i64 0), .v (.int .i64 0), .v (.int .i64 0), .v (.int .i64 0), .v (.int .i64 0), .v (.string ⟨#[]⟩), .v (.slice none 0 0), .v (.slice none 0 0), .v (.slice none 0 0), .v (.slice none 0 0), .v (.slice none 0 0), .v (.slice none 0 0), .v (.slice none 0 0)]⟩),
  (63, ⟨.struct [(0, false, 1), (1, false, 1), (2, false, 1), (3, false, 1), (4, false, 1), (5, false, 1), (6, false, 1), (7, false, 1), (8, false, 1), (9, false, 1), (10, true, 4)], 14, 232, .agg [.v (.int .i64 0), .v (.int .i64 0), .v (.int .i64 0), .v (.int .i64 0), .v (.int .i64 0), .v (.int .i64 0), .v (.string ⟨#[]⟩), .v (.slice none 0 0), .v (.slice none 0 0), .v (.slice none 0 0), .v (.slice none 0 0), .v (.slice none 0 0), .v (.slice none 0 0), .v (.slice none 0 0)]⟩),
  (64, ⟨.fn, 1, 8, .v .nilFunc⟩),
  (65, ⟨.fn, 1, 8, .v .nilFunc⟩),
  (66, ⟨.struct [(0, false, 1), (1, false, 1)], 2, 32, .agg [.v (.int .i64 0), .v (.slice none 0 0)]⟩),
  (67, ⟨.struct [(0, false, 1), (1, false, 1)], 2, 32, .agg [.v (.int .i64 0), .v (.slice none 0 0)]⟩),
  (68, ⟨.fn, 1, 8, .v .nilFunc⟩),
  (69, ⟨.fn, 1, 8, .v .nilFunc⟩),
  (70, ⟨.fn, 1, 8, .v .nilFunc⟩),
  (71, ⟨.fn, 1, 8, .v .nilFunc⟩),
  (72, ⟨.struct [(0, false, 1), (1, false, 1), (2, false, 1), (3, false, 1), (4, false, 1)], 5, 72, .agg [.v (.int .i64 0), .v (.int .i64 0), .v (.slice none 0 0), .v (.slice none 0 0), .v (.bool false)]⟩),
  (73, ⟨.struct [(0, false, 1), (1, false, 1), (2, false, 1), (3, false, 1), (4, false, 1)], 5, 72, .agg [.v (.int .i64 0), .v (.int .i64 0), .v (.slice none 0 0), .v (.slice none 0 0), .v (.bool false)]⟩),
  (75, ⟨.fn, 1, 8, .v .nilFunc⟩),
  (76, ⟨.fn, 1, 8, .v .nilFunc⟩),
  (77, ⟨.fn, 1, 8, .v .nilFunc⟩),
  (78, ⟨.fn, 1, 8, .v .nilFunc⟩),
  (80, ⟨.fn, 1, 8, .v .nilFunc⟩),
  (82, ⟨.fn, 1, 8, .v .nilFunc⟩),
  (83, ⟨.fn, 1, 8, .v .nilFunc⟩),
  (84, ⟨.fn, 1, 8, .v .nilFunc⟩),
  (85, ⟨.struct [(0, false, 1), (1, false, 1), (2, false, 1)], 3, 24, .agg [.v (.int .i64 0), .v (.bool false), .v (.int .i64 0)]⟩),
  (86, ⟨.struct [(0, false, 1), (1, false, 1), (2, false, 1)], 3, 24, .agg [.v (.int .i64 0), .v (.bool false), .v (.int .i64 0)]⟩),
  (88, ⟨.fn, 1, 8, .v .nilFunc⟩),
  (89, ⟨.struct [(0, false, 1), (1, false, 1), (2, false, 1)], 3, 24, .agg [.v (.int .i64 0), .v (.bool false), .v (.int .i64 0)]⟩),
  (91, ⟨.fn, 1, 8, .v .nilFunc⟩),
  (92, ⟨.fn, 1, 8, .v .nilFunc⟩),
  (93, ⟨.fn, 1, 8, .v .nilFunc⟩),
  (94, ⟨.struct [(0, false, 1), (1, false, 1), (2, false, 1)], 3, 24, .agg [.v (.bool false), .v (.int .i64 0), .v (.int .i64 0)]⟩),
  (95, ⟨.struct [(0, false, 1), (1, false, 1), (2, false, 1)], 3, 24, .agg [.v (.bool false), .v (.int .i64 0), .v (.int .i64 0)]⟩),
  (97, ⟨.fn, 1, 8, .v .nilFunc⟩),
  (98, ⟨.fn, 1, 8, .v .nilFunc⟩),
  (99, ⟨.fn, 1, 8, .v .nilFunc⟩),
  (100, ⟨.fn, 1, 8, .v .nilFunc⟩),
  (101, ⟨.fn, 1, 8, .v .nilFunc⟩),
  (102, ⟨.fn, 1, 8, .v .nilFunc⟩),
  (103, ⟨.slice 28, 1, 24, .v (.slice none 0 0)⟩),
  (104, ⟨.fn, 1, 8, .v .nilFunc⟩),
  (106, ⟨.fn, 1, 8, .v .nilFunc⟩),
  (107, ⟨.struct [(0, false, 1), (1, false, 1)], 2, 16, .agg [.v (.int .i64 0), .v (.int .i64 0)]⟩),
  (108, ⟨.struct [(0, false, 1), (1, false, 1)], 2, 16, .agg [.v (.int .i64 0), .v (.int .i64 0)]⟩),
  (109, ⟨.fn, 1, 8, .v .nilFunc⟩),
  (110, ⟨.fn, 1, 8, .v .nilFunc⟩),
  (111, ⟨.slice 116, 1, 24, .v (.slice none 0 0)⟩),
  (112, ⟨.fn, 1, 8, .v .nilFunc⟩),
  (113, ⟨.arr 2 3, 2, 16, .agg [.v (.int .i64 0), .v (.int .i64 0)]⟩),
  (114, ⟨.slice 113, 1, 24, .v (.slice none 0 0)⟩),
  (115, ⟨.struct [(0, false, 1), (1, false, 1), (2, false, 1), (3, false, 1), (4, false, 1), (5, false, 1)], 6, 48, .agg [.v (.int .i64 0), .v (.int .i64 0), .v (.int .i64 0), .v (.int .i64 0), .v (.int .i64 0), .v (.int .i64 0)]⟩),
  (116, ⟨.struct [(0, false, 1), (1, false, 1), (2, false, 1), (3, false, 1), (4, false, 1), (5, false, 1)], 6, 48, .agg [.v (.int .i64 0), .v (.int .i64 0), .v (.int .i64 0), .v (.int .i64 0), .v (.int .i64 0), .v (.int .i64 0)]⟩),
  (117, ⟨.fn, 1, 8, .v .nilFunc⟩),
  (118, ⟨.struct [(0, false, 1), (1, false, 1), (2, false, 1)], 3, 40, .agg [.v (.int .i64 0), .v (.int .i64 0), .v (.slice none 0 0)]⟩),
  (119, ⟨.struct [(0, false, 1), (1, false, 1), (2, false, 1)], 3, 40, .agg [.v (.int .i64 0), .v (.int .i64 0), .v (.slice none 0 0)]⟩),
  (120, ⟨.struct [(0, false, 1), (1, false, 1), (2, false, 1), (3, false, 1), (4, false, 1)], 5, 56, .agg [.v (.int .i64 0), .v (.int .i64 0), .v (.int .i64 0), .v (.int .i64 0), .v (.slice none 0 0)]⟩),
  (121, ⟨.struct [(0, false, 1), (1, false, 1), (2, false, 1), (3, false, 1), (4, false, 1)], 5, 56, .agg [.v (.int .i64 0), .v (.int .i64 0), .v (.int .i64 0), .v (.int .i64 0), .v (.slice none 0 0)]⟩),
  (122, ⟨.struct [(0, false, 1), (1, false, 1), (2, false, 1), (3, false, 1), (4, false, 1)], 5, 56, .agg [.v (.int .i64 0), .v (.int .i64 0), .v (.int .i64 0), .v (.int .i64 0), .v (.slice none 0 0)]⟩),
  (123, ⟨.struct [(0, false, 1), (1, false, 1), (2, false, 1), (3, false, 1), (4, false, 1)], 5, 56, .agg [.v (.int .i64 0), .v (.int .i64 0), .v (.int .i64 0), .v (.int .i64 0), .v (.slice none 0 0)]⟩),
  (124, ⟨.struct [(0, false, 1), (1, false, 1), (2, false, 1), (3, false, 1)], 4, 48, .agg [.v (.int .i64 0), .v (.int .i64 0), .v (.int .i64 0), .v (.slice none 0 0)]⟩),
  (125, ⟨.struct [(0, false, 1), (1, false, 1), (2, false, 1), (3, false, 1)], 4, 48, .agg [.v (.int .i64 0), .v (.int .i64 0), .v (.int .i64 0), .v (.slice none 0 0)]⟩),
  (126, ⟨.struct [(0, false, 1), (1, false, 1), (2, false, 1)], 3, 40, .agg [.v (.int .i64 0), .v (.string ⟨#[]⟩), .v (.string ⟨#[]⟩)]⟩),
  (127, ⟨.struct [(0, false, 1), (1, false, 1), (2, false, 1)], 3, 40, .agg [.v (.int .i64 0), .v (.string ⟨#[]⟩), .v (.string ⟨#[]⟩)]⟩),
  (128, ⟨.fn, 1, 8, .v .nilFunc⟩),
  (129, ⟨.slice 132, 1, 24, .v (.slice none 0 0)⟩),
  (131, ⟨.fn, 1, 8, .v .nilFunc⟩),
  (132, ⟨.struct [(0, false, 1), (1, false, 1), (2, false, 1)], 3, 24, .agg [.v (.bool false), .v (.int .i64 0), .v (.int .i64 0)]⟩),
  (133, ⟨.struct [(0, true, 18)], 18, 352, .agg [.v (.int .i64 0), .v (.int .i64 0), .v (.int .i64 0), .v (.int .i64 0), .v (.int .i64 0), .v (.slice none 0 0), .v (.slice none 0 0), .v (.slice none 0 0), .v (.slice none 0 0), .v (.slice none 0 0), .v (.slice none 0 0), .v (.slice none 0 0), .v (.slice none 0 0), .v (.slice none 0 0), .v (.slice none 0 0), .v (.slice none 0 0), .v (.slice none 0 0), .v (.slice none 0 0)]⟩),
  (134, ⟨.struct [(0, true, 18)], 18, 352, .agg [.v (.int .i64 0), .v (.int .i64 0), .v (.int .i64 0), .v (.int .i64 0), .v (.int .i64 0), .v (.slice none 0 0), .v (.slice none 0 0), .v (.slice none 0 0), .v (.slice none 0 0), .v (.slice none 0 0), .v (.slice none 0 0), .v (.slice none 0 0), .v (.slice none 0 0), .v (.slice none 0 0), .v (.slice none 0 0), .v (.slice none 0 0), .v (.slice none 0 0), .v (.slice none 0 0)]⟩),
  (135, ⟨.slice 24, 1, 24, .v (.slice none 0 0)⟩),
  (136, ⟨.fn, 1, 8, .v .nilFunc⟩),
  (137, ⟨.fn, 1, 8, .v .nilFunc⟩),
  (138, ⟨.fn, 1, 8, .v .nilFunc⟩),
  (139, ⟨.struct [(0, false, 1), (1, false, 1), (2, false, 1), (3, false, 1)], 4, 32, .agg [.v (.int .i64 0), .v (.int .i64 0), .v (.int .i64 0), .v (.int .i64 0)]⟩),
  (140, ⟨.struct [(0, false, 1), (1, false, 1), (2, false, 1), (3, false, 1)], 4, 32, .agg [.v (.int .i64 0), .v (.int .i64 0), .v (.int .i64 0), .v (.int .i64 0)]⟩),
  (141, ⟨.fn, 1, 8, .v .nilFunc⟩),
  (142, ⟨.fn, 1, 8, .v .nilFunc⟩),
  (143, ⟨.struct [(0, false, 1), (1, false, 1), (2, false, 1), (3, false, 1), (4, false, 1)], 5, 48, .agg [.v (.int .i64 0), .v (.string ⟨#[]⟩), .v (.int .i64 0), .v (.int .i64 0), .v (.int .i64 0)]⟩),
  (144, ⟨.struct [(0, false, 1), (1, false, 1), (2, false, 1), (3, false, 1), (4, false, 1)], 5, 48, .agg [.v (.int .i64 0), .v (.string ⟨#[]⟩), .v (.int .i64 0), .v (.int .i64 0), .v (.int .i64 0)]⟩),
  (145, ⟨.fn, 1, 8, .v .nilFunc⟩),
  (146, ⟨.fn, 1, 8, .v .nilFunc⟩),
  (147, ⟨.fn, 1, 8, .v .nilFunc⟩),
  (148, ⟨.fn, 1, 8, .v .nilFunc⟩),
  (149, ⟨.fn, 1, 8, .v .nilFunc⟩),
  (150, ⟨.fn, 1, 8, .v .nilFunc⟩),
  (151, ⟨.fn, 1, 8, .v .nilFunc⟩),
  (152, ⟨.fn, 1, 8, .v .nilFunc⟩),
  (153, ⟨.fn, 1, 8, .v .nilFunc⟩),
  (154, ⟨.struct [(0, false, 1), (1, false, 1), (2, false, 1)], 3, 24, .agg [.v (.int .i64 0), .v (.int .i64 0), .v (.int .i64 0)]⟩),
  (155, ⟨.struct [(0, false, 1), (1, false, 1), (2, false, 1)], 3, 24, .agg [.v (.int .i64 0), .v (.int .i64 0), .v (.int .i64 0)]⟩),
  (156, ⟨.fn, 1, 8, .v .nilFunc⟩),
  (157, ⟨.fn, 1, 8, .v .nilFunc⟩),
  (158, ⟨.fn, 1, 8, .v .nilFunc⟩),
  (159, ⟨.fn, 1, 8, .v .nilFunc⟩),
  (160, ⟨.fn, 1, 8, .v .nilFunc⟩),
  (161, ⟨.fn, 1, 8, .v .nilFunc⟩),
  (162, ⟨.fn, 1, 8, .v .nilFunc⟩),
  (163, ⟨.struct [(0, false, 1), (1, false, 1), (2, false, 1), (3, false, 1), (4, false, 1)], 5, 40, .agg [.v (.int .i64 0), .v (.int .i64 0), .v (.int .i64 0), .v (.int .i64 0), .v (.int .i64 0)]⟩),
  (164, ⟨.struct [(0, false, 1), (1, false, 1), (2, false, 1), (3, false, 1), (4, false, 1)], 5, 40, .agg [.v (.int .i64 0), .v (.int .i64 0), .v (.int .i64 0), .v (.int .i64 0), .v (.int .i64 0)]⟩),
  (165, ⟨.fn, 1, 8, .v .nilFunc⟩),
  (166, ⟨.fn, 1, 8, .v .nilFunc⟩),
  (167, ⟨.fn, 1, 8, .v .nilFunc⟩),
  (168, ⟨.struct [(0, true, 18)], 18, 352, .agg [.v (.int .i64 0), .v (.int .i64 0), .v (.int .i64 0), .v (.int .i64 0), .v (.int .i64 0), .v (.slice none 0 0), .v (.slice none 0 0), .v (.slice none 0 0), .v (.slice none 0 0), .v (.slice none 0 0), .v (.slice none 0 0), .v (.slice none 0 0), .v (.slice none 0 0), .v (.slice none 0 0), .v (.slice none 0 0), .v (.slice none 0 0), .v (.slice none 0 0), .v (.slice none 0 0)]⟩),
  (169, ⟨.fn, 1, 8, .v .nilFunc⟩),
  (171, ⟨.fn, 1, 8, .v .nilFunc⟩),
  (172, ⟨.fn, 1, 8, .v .nilFunc⟩),
  (173, ⟨.fn, 1, 8, .v .nilFunc⟩),
  (174, ⟨.fn, 1, 8, .v .nilFunc⟩),
  (175, ⟨.fn, 1, 8, .v .nilFunc⟩),
  (177, ⟨.fn, 1, 8, .v .nilFunc⟩),
  (178, ⟨.fn, 1, 8, .v .nilFunc⟩),
  (179, ⟨.fn, 1, 8, .v .nilFunc⟩),
  (181, ⟨.fn, 1, 8, .v .nilFunc⟩),
  (183, ⟨.fn, 1, 8, .v .nilFunc⟩),
  (184, ⟨.fn, 1, 8, .v .nilFunc⟩),
  (185, ⟨.fn, 1, 8, .v .nilFunc⟩),
  (187, ⟨.fn, 1, 8, .v .nilFunc⟩),
  (188, ⟨.fn, 1, 8, .v .nilFunc⟩),
  (189, ⟨.fn, 1, 8, .v .nilFunc⟩),
  (190, ⟨.fn, 1, 8, .v .nilFunc⟩),
  (192, ⟨.fn, 1, 8, .v .nilFunc⟩),
  (193, ⟨.fn, 1, 8, .v .nilFunc⟩),
  (194, ⟨.fn, 1, 8, .v .nilFunc⟩),
  (195, ⟨.fn, 1, 8, .v .nilFunc⟩),
  (196, ⟨.slice 199, 1, 24, .v (.slice none 0 0)⟩),
  (197, ⟨.fn, 1, 8, .v .nilFunc⟩),
  (198, ⟨.struct [(0, false, 1), (1, false, 1)], 2, 24, .agg [.v (.string ⟨#[]⟩), .v .nilFunc]⟩),
  (199, ⟨.struct [(0, false, 1), (1, false, 1)], 2, 24, .agg [.v (.string ⟨#[]⟩), .v .nilFunc]⟩),
  (200, ⟨.struct [(0, true, 10)], 10, 88, .agg [.v (.string ⟨#[]⟩), .v (.int .i64 0), .v (.int .i64 0), .v (.int .i64 0), .v (.int .i64 0), .v (.int .i64 0), .v (.int .i64 0), .v (.int .i64 0), .v (.int .i64 0), .v (.int .i64 0)]⟩),
  (201, ⟨.struct [(0, true, 10)], 10, 88, .agg [.v (.string ⟨#[]⟩), .v (.int .i64 0), .v (.int .i64 0), .v (.int .i64 0), .v (.int .i64 0), .v (.int .i64 0), .v (.int .i64 0), .v (.int .i64 0), .v (.int .i64 0), .v (.int .i64 0)]⟩),
  (202, ⟨.fn, 1, 8, .v .nilFunc⟩),
  (203, ⟨.fn, 1, 8, .v .nilFunc⟩),
  (204, ⟨.fn, 1, 8, .v .nilFunc⟩),
  (205, ⟨.fn, 1, 8, .v .nilFunc⟩),
  (206, ⟨.fn, 1, 8, .v .nilFunc⟩),
  (207, ⟨.fn, 1, 8, .v .nilFunc⟩),
  (208, ⟨.fn, 1, 8, .v .nilFunc⟩),
  (209, ⟨.map 213 3, 1, 8, .v (.map none)⟩),
  (211, ⟨.fn, 1, 8, .v .nilFunc⟩),
  (212, ⟨.struct [(0, false, 1), (1, false, 1)], 2, 16, .agg [.v (.bool false), .v (.int .i64 0)]⟩),
  (213, ⟨.struct [(0, false, 1), (1, false, 1)], 2, 16, .agg [.v (.bool false), .v (.int .i64 0)]⟩),
  (214, ⟨.fn, 1, 8, .v .nilFunc⟩),
  (215, ⟨.fn, 1, 8, .v .nilFunc⟩),
  (216, ⟨.fn, 1, 8, .v .nilFunc⟩),
  (217, ⟨.fn, 1, 8, .v .nilFunc⟩),
  (218, ⟨.fn, 1, 8, .v .nilFunc⟩),
  (219, ⟨.fn, 1, 8, .v .nilFunc⟩),
  (220, ⟨.fn, 1, 8, .v .nilFunc⟩),
  (221, ⟨.fn, 1, 8, .v .nilFunc⟩),
  (222, ⟨.fn, 1, 8, .v .nilFunc⟩),
  (223, ⟨.fn, 1, 8, .v .nilFunc⟩),
  (224, ⟨.fn, 1, 8, .v .nilFunc⟩),
  (225, ⟨.fn, 1, 8, .v .nilFunc⟩),
  (226, ⟨.fn, 1, 8, .v .nilFunc⟩),
  (227, ⟨.fn, 1, 8, .v .nilFunc⟩),
  (228, ⟨.fn, 1, 8, .v .nilFunc⟩),
  (229, ⟨.fn, 1, 8, .v .nilFunc⟩),
  (230, ⟨.map 3 4, 1, 8, .v (.map none)⟩),
  (231, ⟨.fn, 1, 8, .v .nilFunc⟩),
  (232, ⟨.fn, 1, 8, .v .nilFunc⟩),
  (233, ⟨.fn, 1, 8, .v .nilFunc⟩),
  (234, ⟨.map 9 4, 1, 8, .v (.map none)⟩),
  (235, ⟨.fn, 1, 8, .v .nilFunc⟩),
  (236, ⟨.fn, 1, 8, .v .nilFunc⟩),
  (237, ⟨.fn, 1, 8, .v .nilFunc⟩),
  (238, ⟨.map 113 3, 1, 8, .v (.map none)⟩),
  (239, ⟨.fn, 1, 8, .v .nilFunc⟩),
  (240, ⟨.fn, 1, 8, .v .nilFunc⟩),
  (241, ⟨.map 3 3, 1, 8, .v (.map none)⟩),
  (242, ⟨.fn, 1, 8, .v .nilFunc⟩),
  (243, ⟨.fn, 1, 8, .v .nilFunc⟩),
  (245, ⟨.fn, 1, 8, .v .nilFunc⟩),
  (246, ⟨.fn, 1, 8, .v .nilFunc⟩),
  (247, ⟨.fn, 1, 8, .v .nilFunc⟩),
  (248, ⟨.fn, 1, 8, .v .nilFunc⟩),
  (249, ⟨.fn, 1, 8, .v .nilFunc⟩),
  (250, ⟨.fn, 1, 8, .v .nilFunc⟩),
  (251, ⟨.fn, 1, 8, .v .nilFunc⟩),
  (252, ⟨.ptr 44, 1, 8, .v (.pointer none)⟩),
  (253, ⟨.fn, 1, 8, .v .nilFunc⟩),
  (254, ⟨.map 9 3, 1, 8, .v (.map none)⟩),
  (255, ⟨.fn, 1, 8, .v .nilFunc⟩),
  (256, ⟨.fn, 1, 8, .v .nilFunc⟩),
  (257, ⟨.fn, 1, 8, .v .nilFunc⟩),
  (258, ⟨.ptr 259, 1, 8, .v (.pointer none)⟩),
  (259, ⟨.struct [(0, true, 18)], 18, 352, .agg [.v (.int .i64 0), .v (.int .i64 0), .v (.int .i64 0), .v (.int .i64 0), .v (.int .i64 0), .v (.slice none 0 0), .v (.slice none 0 0), .v (.slice none 0 0), .v (.slice none 0 0), .v (.slice none 0 0), .v (.slice none 0 0), .v (.slice none 0 0), .v (.slice none 0 0), .v (.slice none 0 0), .v (.slice none 0 0), .v (.slice none 0 0), .v (.slice none 0 0), .v (.slice none 0 0)]⟩),
  (260, ⟨.fn, 1, 8, .v .nilFunc⟩),
  (261, ⟨.fn, 1, 8, .v .nilFunc⟩),
  (262, ⟨.fn, 1, 8, .v .nilFunc⟩),
  (263, ⟨.fn, 1, 8, .v .nilFunc⟩),
  (265, ⟨.fn, 1, 8, .v .nilFunc⟩),
  (266, ⟨.fn, 1, 8, .v .nilFunc⟩),
  (267, ⟨.fn, 1, 8, .v .nilFunc⟩),
  (268, ⟨.struct [(0, false, 1), (1, false, 1), (2, false, 1), (3, false, 1), (4, false, 1)], 5, 56, .agg [.v (.int .i64 0), .v (.int .i64 0), .v (.int .i64 0), .v (.int .i64 0), .v (.slice none 0 0)]⟩),
  (270, ⟨.fn, 1, 8, .v .nilFunc⟩),
  (271, ⟨.fn, 1, 8, .v .nilFunc⟩),
  (272, ⟨.fn, 1, 8, .v .nilFunc⟩),
  (273, ⟨.fn, 1, 8, .v .nilFunc⟩),
  (274, ⟨.fn, 1, 8, .v .nilFunc⟩),
  (275, ⟨.fn, 1, 8, .v .nilFunc⟩),
  (276, ⟨.fn, 1, 8, .v .nilFunc⟩),
  (277, ⟨.fn, 1, 8, .v .nilFunc⟩),
  (278, ⟨.fn, 1, 8, .v .nilFunc⟩),
  (279, ⟨.fn, 1, 8, .v .nilFunc⟩),
  (280, ⟨.fn, 1, 8, .v .nilFunc⟩),
  (281, ⟨.fn, 1, 8, .v .nilFunc⟩),
  (282, ⟨.fn, 1, 8, .v .nilFunc⟩),
  (284, ⟨.fn, 1, 8, .v .nilFunc⟩),
  (285, ⟨.fn, 1, 8, .v .nilFunc⟩),
  (286, ⟨.fn, 1, 8, .v .nilFunc⟩),
  (288, ⟨.fn, 1, 8, .v .nilFunc⟩),
  (289, ⟨.fn, 1, 8, .v .nilFunc⟩),
  (290, ⟨.fn, 1, 8, .v .nilFunc⟩),
  (291, ⟨.fn, 1, 8, .v .nilFunc⟩),
  (292, ⟨.int .u64, 1, 8, .v (.int .u64 0)⟩),
  (293, ⟨.fn, 1, 8, .v .nilFunc⟩),
  (294, ⟨.struct [(0, false, 1), (1, false, 1)], 2, 16, .agg [.v (.int .i64 0), .v (.int .i64 0)]⟩),
  (295, ⟨.struct [(0, false, 1), (1, false, 1)], 2, 16, .agg [.v (.int .i64 0), .v (.int .i64 0)]⟩),
  (296, ⟨.fn, 1, 8, .v .nilFunc⟩),
  (297, ⟨.fn, 1, 8, .v .nilFunc⟩),
  (298, ⟨.fn, 1, 8, .v .nilFunc⟩),
  (299, ⟨.fn, 1, 8, .v .nilFunc⟩),
  (300, ⟨.fn, 1, 8, .v .nilFunc⟩),
  (301, ⟨.fn, 1, 8, .v .nilFunc⟩),
  (302, ⟨.fn, 1, 8, .v .nilFunc⟩),
  (304, ⟨.fn, 1, 8, .v .nilFunc⟩),
  (305, ⟨.fn, 1, 8, .v .nilFunc⟩),
  (306, ⟨.ptr 312, 1, 8, .v (.pointer none)⟩),
  (307, ⟨.ptr 310, 1, 8, .v (.pointer none)⟩),
  (308, ⟨.slice 5, 1, 24, .v (.slice none 0 0)⟩),
  (309, ⟨.struct [(0, false, 1), (1, false, 1)], 2, 32, .agg [.v (.pointer none), .v (.slice none 0 0)]⟩),
  (310, ⟨.struct [(0, false, 1), (1, false, 1)], 2, 32, .agg [.v (.pointer none), .v (.slice none 0 0)]⟩),
  (311, ⟨.struct [(0, true, 2), (2, false, 1)], 3, 40, .agg [.v (.pointer none), .v (.slice none 0 0), .v (.int .i64 0)]⟩),
  (312, ⟨.struct [(0, true, 2), (2, false, 1)], 3, 40, .agg [.v (.pointer none), .v (.slice none 0 0), .v (.int .i64 0)]⟩),
  (313, ⟨.fn, 1, 8, .v .nilFunc⟩),
  (314, ⟨.fn, 1, 8, .v .nilFunc⟩),
  (315, ⟨.fn, 1, 8, .v .nilFunc⟩),
  (316, ⟨.ptr 382, 1, 8, .v (.pointer none)⟩),
  (317, ⟨.fn, 1, 8, .v .nilFunc⟩),
  (318, ⟨.struct [(0, false, 1)], 1, 8, .agg [.v (.pointer none)]⟩),
  (319, ⟨.struct [(0, false, 1)], 1, 8, .agg [.v (.pointer none)]⟩),
  (320, ⟨.fn, 1, 8, .v .nilFunc⟩),
  (321, ⟨.fn, 1, 8, .v .nilFunc⟩),
  (322, ⟨.ptr 63, 1, 8, .v (.pointer none)⟩),
  (324, ⟨.fn, 1, 8, .v .nilFunc⟩),
  (327, ⟨.fn, 1, 8, .v .nilFunc⟩),
  (328, ⟨.fn, 1, 8, .v .nilFunc⟩),
  (329, ⟨.fn, 1, 8, .v .nilFunc⟩),
  (330, ⟨.fn, 1, 8, .v .nilFunc⟩),
  (331, ⟨.fn, 1, 8, .v .nilFunc⟩),
  (332, ⟨.fn, 1, 8, .v .nilFunc⟩),
  (333, ⟨.fn, 1, 8, .v .nilFunc⟩),
  (334, ⟨.fn, 1, 8, .v .nilFunc⟩),
  (335, ⟨.fn, 1, 8, .v .nilFunc⟩),
  (336, ⟨.fn, 1, 8, .v .nilFunc⟩),
  (338, ⟨.fn, 1, 8, .v .nilFunc⟩),
  (339, ⟨.fn, 1, 8, .v .nilFunc⟩),
  (340, ⟨.fn, 1, 8, .v .nilFunc⟩),
  (341, ⟨.fn, 1, 8, .v .nilFunc⟩),
  (342, ⟨.fn, 1, 8, .v .nilFunc⟩),
  (343, ⟨.fn, 1, 8, .v .nilFunc⟩),
  (344, ⟨.fn, 1, 8, .v .nilFunc⟩),
  (345, ⟨.fn, 1, 8, .v .nilFunc⟩),
  (346, ⟨.fn, 1, 8, .v .nilFunc⟩),
  (347, ⟨.fn, 1, 8, .v .nilFunc⟩),
  (348, ⟨.fn, 1, 8, .v .nilFunc⟩),
  (349, ⟨.fn, 1, 8, .v .nilFunc⟩),
  (350, ⟨.slice 21, 1, 24, .v (.slice none 0 0)⟩),
  (351, ⟨.fn, 1, 8, .v .nilFunc⟩),
  (352, ⟨.fn, 1, 8, .v .nilFunc⟩),
  (353, ⟨.fn, 1, 8, .v .nilFunc⟩),
  (354, ⟨.int .i64, 1, 8, .v (.int .i64 0)⟩),
  (356, ⟨.fn, 1, 8, .v .nilFunc⟩),
  (357, ⟨.fn, 1, 8, .v .nilFunc⟩),
  (358, ⟨.fn, 1, 8, .v .nilFunc⟩),
  (359, ⟨.fn, 1, 8, .v .nilFunc⟩),
  (360, ⟨.fn, 1, 8, .v .nilFunc⟩),
  (361, ⟨.int .u32, 1, 4, .v (.int .u32 0)⟩),
  (362, ⟨.fn, 1, 8, .v .nilFunc⟩),
  (363, ⟨.int .u64, 1, 8, .v (.int .u64 0)⟩),
  (364, ⟨.fn, 1, 8, .v .nilFunc⟩),
  (366, ⟨.fn, 1, 8, .v .nilFunc⟩),
  (367, ⟨.fn, 1, 8, .v .nilFunc⟩),
  (368, ⟨.fn, 1, 8, .v .nilFunc⟩),
  (369, ⟨.fn, 1, 8, .v .nilFunc⟩),
  (370, ⟨.fn, 1, 8, .v .nilFunc⟩),
  (371, ⟨.fn, 1, 8, .v .nilFunc⟩),
  (372, ⟨.fn, 1, 8, .v .nilFunc⟩),
  (373, ⟨.slice 3, 1, 24, .v (.slice none 0 0)⟩),
  (374, ⟨.fn, 1, 8, .v .nilFunc⟩),
  (375, ⟨.fn, 1, 8, .v .nilFunc⟩),
  (376, ⟨.fn, 1, 8, .v .nilFunc⟩),
  (377, ⟨.fn, 1, 8, .v .nilFunc⟩),
  (378, ⟨.fn, 1, 8, .v .nilFunc⟩),
  (379, ⟨.fn, 1, 8, .v .nilFunc⟩),
  (380, ⟨.ptr 5, 1, 8, .v (.pointer none)⟩),
  (383, ⟨.struct [(0, false, 1), (1, false, 1)], 2, 16, .agg [.v (.int .i64 0), .v (.int .i64 0)]⟩),
  (384, ⟨.struct [(0, false, 1), (1, false, 1)], 2, 16, .agg [.v (.int .i64 0), .v (.int .i64 0)]⟩),
  (386, ⟨.fn, 1, 8, .v .nilFunc⟩),
  (387, ⟨.fn, 1, 8, .v .nilFunc⟩),
  (388, ⟨.fn, 1, 8, .v .nilFunc⟩),
  (389, ⟨.fn, 1, 8, .v .nilFunc⟩),
  (390, ⟨.fn, 1, 8, .v .nilFunc⟩),
  (391, ⟨.struct [(0, false, 1), (1, false, 1)], 2, 16, .agg [.v (.int .i64 0), .v (.int .i64 0)]⟩),
  (392, ⟨.struct [(0, false, 1), (1, false, 1)], 2, 16, .agg [.v (.int .i64 0), .v (.int .i64 0)]⟩),
  (394, ⟨.fn, 1, 8, .v .nilFunc⟩),
  (395, ⟨.fn, 1, 8, .v .nilFunc⟩),
  (396, ⟨.fn, 1, 8, .v .nilFunc⟩),
  (397, ⟨.fn, 1, 8, .v .nilFunc⟩),
  (399, ⟨.fn, 1, 8, .v .nilFunc⟩),
  (400, ⟨.fn, 1, 8, .v .nilFunc⟩),
  (401, ⟨.fn, 1, 8, .v .nilFunc⟩),
  (402, ⟨.fn, 1, 8, .v .nilFunc⟩),
  (404, ⟨.fn, 1, 8, .v .nilFunc⟩),
  (406, ⟨.fn, 1, 8, .v .nilFunc⟩),
  (407, ⟨.fn, 1, 8, .v .nilFunc⟩),
  (408, ⟨.fn, 1, 8, .v .nilFunc⟩),
  (409, ⟨.fn, 1, 8, .v .nilFunc⟩),
  (410, ⟨.fn, 1, 8, .v .nilFunc⟩),
  (411, ⟨.fn, 1, 8, .v .nilFunc⟩),
  (413, ⟨.fn, 1, 8, .v .nilFunc⟩),
  (414, ⟨.fn, 1, 8, .v .nilFunc⟩),
  (415, ⟨.fn, 1, 8, .v .nilFunc⟩),
  (416, ⟨.fn, 1, 8, .v .nilFunc⟩),
  (417, ⟨.fn, 1, 8, .v .nilFunc⟩),
  (418, ⟨.fn, 1, 8, .v .nilFunc⟩),
  (419, ⟨.fn, 1, 8, .v .nilFunc⟩),
  (420, ⟨.fn, 1, 8, .v .nilFunc⟩),
  (421, ⟨.fn, 1, 8, .v .nilFunc⟩),
  (422, ⟨.fn, 1, 8, .v .nilFunc⟩),
  (423, ⟨.fn, 1, 8, .v .nilFunc⟩),
  (424, ⟨.fn, 1, 8, .v .nilFunc⟩),
  (425, ⟨.fn, 1, 8, .v .nilFunc⟩),
  (426, ⟨.fn, 1, 8, .v .nilFunc⟩),
  (427, ⟨.int .u64, 1, 8, .v (.int .u64 0)⟩),
  (428, ⟨.fn, 1, 8, .v .nilFunc⟩),
  (429, ⟨.fn, 1, 8, .v .nilFunc⟩),
  (430, ⟨.fn, 1, 8, .v .nilFunc⟩),
  (431, ⟨.ptr 3, 1, 8, .v (.pointer none)⟩),
  (432, ⟨.fn, 1, 8, .v .nilFunc⟩),
  (433, ⟨.fn, 1, 8, .v .nilFunc⟩),
  (434, ⟨.slice 439, 1, 24, .v (.slice none 0 0)⟩),
  (435, ⟨.arr 8 434, 8, 192, .agg (List.replicate 8 (.v (.slice none 0 0)))⟩),
  (436, ⟨.fn, 1, 8, .v .nilFunc⟩),
  (437, ⟨.fn, 1, 8, .v .nilFunc⟩),
  (438, ⟨.struct [(0, false, 1), (1, false, 1)], 2, 16, .agg [.v (.int .i64 0), .v (.int .i64 0)]⟩),
  (439, ⟨.struct [(0, false, 1), (1, false, 1)], 2, 16, .agg [.v (.int .i64 0), .v (.int .i64 0)]⟩),
  (440, ⟨.fn, 1, 8, .v .nilFunc⟩),
  (442, ⟨.fn, 1, 8, .v .nilFunc⟩),
  (443, ⟨.ptr 445, 1, 8, .v (.pointer none)⟩),
  (444, ⟨.struct [(0, true, 2), (2, false, 1)], 3, 40, .agg [.v (.pointer none), .v (.slice none 0 0), .v (.int .i64 0)]⟩),
  (445, ⟨.struct [(0, true, 2), (2, false, 1)], 3, 40, .agg [.v (.pointer none), .v (.slice none 0 0), .v (.int .i64 0)]⟩),
  (446, ⟨.fn, 1, 8, .v .nilFunc⟩),
  (447, ⟨.fn, 1, 8, .v .nilFunc⟩),
  (448, ⟨.fn, 1, 8, .v .nilFunc⟩),
  (449, ⟨.fn, 1, 8, .v .nilFunc⟩),
  (450, ⟨.fn, 1, 8, .v .nilFunc⟩),
  (451, ⟨.fn, 1, 8, .v .nilFunc⟩),
  (452, ⟨.struct [(0, false, 1)], 1, 8, .agg [.v (.pointer none)]⟩),
  (453, ⟨.fn, 1, 8, .v .nilFunc⟩),
  (454, ⟨.fn, 1, 8, .v .nilFunc⟩),
  (455, ⟨.fn, 1, 8, .v .nilFunc⟩),
  (456, ⟨.fn, 1, 8, .v .nilFunc⟩),
  (457, ⟨.fn, 1, 8, .v .nilFunc⟩),
  (458, ⟨.fn, 1, 8, .v .nilFunc⟩),
  (459, ⟨.struct [(0, false, 1), (1, false, 1)], 2, 24, .agg [.v (.string ⟨#[]⟩), .v (.int .i64 0)]⟩),
  (460, ⟨.struct [(0, false, 1), (1, false, 1)], 2, 24, .agg [.v (.string ⟨#[]⟩), .v (.int .i64 0)]⟩),
  (462, ⟨.fn, 1, 8, .v .nilFunc⟩),
  (463, ⟨.fn, 1, 8, .v .nilFunc⟩),
  (464, ⟨.fn, 1, 8, .v .nilFunc⟩),
  (466, ⟨.fn, 1, 8, .v .nilFunc⟩),
  (467, ⟨.fn, 1, 8, .v .nilFunc⟩),
  (468, ⟨.fn, 1, 8, .v .nilFunc⟩),
  (470, ⟨.fn, 1, 8, .v .nilFunc⟩),
  (471, ⟨.fn, 1, 8, .v .nilFunc⟩),
  (472, ⟨.fn, 1, 8, .v .nilFunc⟩),
  (473, ⟨.fn, 1, 8, .v .nilFunc⟩),
  (474, ⟨.slice 3, 1, 24, .v (.slice none 0 0)⟩),
  (476, ⟨.fn, 1, 8, .v .nilFunc⟩),
  (477, ⟨.fn, 1, 8, .v .nilFunc⟩),
  (478, ⟨.struct [(0, false, 1), (1, false, 1), (2, false, 1), (3, false, 1), (4, false, 1)], 5, 40, .agg [.v (.int .i64 0), .v (.int .i64 0), .v (.int .i64 0), .v (.int .i64 0), .v (.int .i64 0)]⟩),
  (479, ⟨.fn, 1, 8, .v .nilFunc⟩),
  (480, ⟨.fn, 1, 8, .v .nilFunc⟩),
  (481, ⟨.fn, 1, 8, .v .nilFunc⟩),
  (483, ⟨.fn, 1, 8, .v .nilFunc⟩),
  (484, ⟨.fn, 1, 8, .v .nilFunc⟩),
  (485, ⟨.fn, 1, 8, .v .nilFunc⟩),
  (486, ⟨.ptr 427, 1, 8, .v (.pointer none)⟩),
  (487, ⟨.fn, 1, 8, .v .nilFunc⟩),
  (488, ⟨.fn, 1, 8, .v .nilFunc⟩),
  (489, ⟨.fn, 1, 8, .v .nilFunc⟩),
  (490, ⟨.fn, 1, 8, .v .nilFunc⟩),
  (491, ⟨.fn, 1, 8, .v .nilFunc⟩),
  (492, ⟨.fn, 1, 8, .v .nilFunc⟩),
  (493, ⟨.fn, 1, 8, .v .nilFunc⟩),
  (494, ⟨.fn, 1, 8, .v .nilFunc⟩),
  (495, ⟨.fn, 1, 8, .v .nilFunc⟩),
  (496, ⟨.fn, 1, 8, .v .nilFunc⟩),
  (497, ⟨.fn, 1, 8, .v .nilFunc⟩),
  (498, ⟨.fn, 1, 8, .v .nilFunc⟩),
  (499, ⟨.fn, 1, 8, .v .nilFunc⟩),
  (500, ⟨.struct [(0, false, 1), (1, false, 1)], 2, 32, .agg [.v (.slice none 0 0), .v (.int .i64 0)]⟩),
  (501, ⟨.struct [(0, false, 1), (1, false, 1)], 2, 32, .agg [.v (.slice none 0 0), .v (.int .i64 0)]⟩),
  (503, ⟨.fn, 1, 8, .v .nilFunc⟩),
  (504, ⟨.fn, 1, 8, .v .nilFunc⟩),
  (505, ⟨.fn, 1, 8, .v .nilFunc⟩),
  (506, ⟨.fn, 1, 8, .v .nilFunc⟩),
  (507, ⟨.fn, 1, 8, .v .nilFunc⟩),
  (508, ⟨.fn, 1, 8, .v .nilFunc⟩),
  (509, ⟨.fn, 1, 8, .v .nilFunc⟩),
  (511, ⟨.fn, 1, 8, .v .nilFunc⟩),
  (512, ⟨.fn, 1, 8, .v .nilFunc⟩),
  (513, ⟨.fn, 1, 8, .v .nilFunc⟩),
  (514, ⟨.fn, 1, 8, .v .nilFunc⟩),
  (515, ⟨.fn, 1, 8, .v .nilFunc⟩),
  (516, ⟨.fn, 1, 8, .v .nilFunc⟩),
  (517, ⟨.fn, 1, 8, .v .nilFunc⟩),
  (518, ⟨.fn, 1, 8, .v .nilFunc⟩),
  (519, ⟨.fn, 1, 8, .v .nilFunc⟩),
  (520, ⟨.int .i64, 1, 8, .v (.int .i64 0)⟩),
  (521, ⟨.fn, 1, 8, .v .nilFunc⟩),
  (523, ⟨.fn, 1, 8, .v .nilFunc⟩),
  (524, ⟨.fn, 1, 8, .v .nilFunc⟩),
  (525, ⟨.fn, 1, 8, .v .nilFunc⟩),
  (526, ⟨.fn, 1, 8, .v .nilFunc⟩),
  (527, ⟨.fn, 1, 8, .v .nilFunc⟩),
  (528, ⟨.fn, 1, 8, .v .nilFunc⟩),
  (529, ⟨.fn, 1, 8, .v .nilFunc⟩),
  (530, ⟨.fn, 1, 8, .v .nilFunc⟩),
  (531, ⟨.fn, 1, 8, .v .nilFunc⟩),
  (532, ⟨.fn, 1, 8, .v .nilFunc⟩),
  (533, ⟨.fn, 1, 8, .v .nilFunc⟩),
  (534, ⟨.fn, 1, 8, .v .nilFunc⟩),
  (535, ⟨.fn, 1, 8, .v .nilFunc⟩),
  (536, ⟨.fn, 1, 8, .v .nilFunc⟩),
  (537, ⟨.struct [(0, false, 1), (1, false, 1)], 2, 16, .agg [.v (.int .u64 0), .v (.int .u64 0)]⟩),
  (538, ⟨.struct [(0, false, 1), (1, false, 1)], 2, 16, .agg [.v (.int .u64 0), .v (.int .u64 0)]⟩),
  (539, ⟨.fn, 1, 8, .v .nilFunc⟩),
  (540, ⟨.fn, 1, 8, .v .nilFunc⟩),
  (542, ⟨.fn, 1, 8, .v .nilFunc⟩),
  (543, ⟨.fn, 1, 8, .v .nilFunc⟩),
  (544, ⟨.fn, 1, 8, .v .nilFunc⟩),
  (545, ⟨.fn, 1, 8, .v .nilFunc⟩),
  (546, ⟨.fn, 1, 8, .v .nilFunc⟩),
  (547, ⟨.fn, 1, 8, .v .nilFunc⟩),
  (548, ⟨.fn, 1, 8, .v .nilFunc⟩),
  (549, ⟨.ptr 563, 1, 8, .v (.pointer none)⟩),
  (557, ⟨.fn, 1, 8, .v .nilFunc⟩),
  (562, ⟨.struct [(0, false, 1)], 1, 16, .agg [.v (.string ⟨#[]⟩)]⟩),
  (563, ⟨.struct [(0, false, 1)], 1, 16, .agg [.v (.string ⟨#[]⟩)]⟩)]

noncomputable abbrev P : Program := Go.Proofs.Tryz.prog
noncomputable abbrev T : Nat → TI := tab tbl
theorem hT : TOk P T := tok_of P tbl (by kernel_rfl)
theorem hm : P.follows .mixedOrders = true := by kernel_rfl
noncomputable def body (f : Func) : Code := match f.body with | some c => c | none => .skip
end Go.Aw.U1

set_option linter.unusedSimpArgs false
set_option linter.unusedVariables false
namespace Go.Aw.U1
open Go Go.Proofs

abbrev nV (n : Int) : AV := .v (.int .i64 n)
abbrev bV (b : Bool) : AV := .v (.bool b)
abbrev sV (s : ByteArray) : AV := .v (.string s)
def iC (n : Int) : List AV := [nV n]
def sC (s : ByteArray) : List AV := [sV s]
theorem iC_len (n : Int) : (iC n).length = 1 := rfl
theorem sC_len (s : ByteArray) : (sC s).length = 1 := rfl
theorem flat_ren {α : Type} {enc : α → List AV} (h : ∀ ρ x, renL ρ (enc x) = enc x) (ρ : Nat → Nat) (l : List α) : renL ρ (l.flatMap enc) = l.flatMap enc := by
  induction l with
  | nil => rfl
  | cons a l ih => rw [List.flatMap_cons, renL_append, ih, h]
def isV (l : List Int) : AV := .vs 1 l.length (l.flatMap iC)
def ssV (l : List ByteArray) : AV := .vs 1 l.length (l.flatMap sC)
theorem isV_ren (ρ : Nat → Nat) (l : List Int) : (isV l).ren ρ = isV l := by simp only [isV, AV.ren, flat_ren (enc := iC) (fun _ _ => rfl)]
theorem ssV_ren (ρ : Nat → Nat) (l : List ByteArray) : (ssV l).ren ρ = ssV l := by simp only [ssV, AV.ren, flat_ren (enc := sC) (fun _ _ => rfl)]

structure It where
  id : Int
  vendor : Int
  window : Int
  warranty : Int
def itC (i : It) : List AV := [nV i.id, nV i.vendor, nV i.window, nV i.warranty]
theorem itC_len (i : It) : (itC i).length = 4 := rfl
abbrev itA (i : It) : AV := .agg (itC i)
def itsV (l : List It) : AV := .vs 4 l.length (l.flatMap itC)
theorem itsV_ren (ρ : Nat → Nat) (l : List It) : (itsV l).ren ρ = itsV l := by simp only [itsV, AV.ren, flat_ren (enc := itC) (fun _ _ => rfl)]

structure Ln where
  item : Int
  gross : Int
  net : Int
  tax : Int
  ss : List ByteArray
def lnC (l : Ln) : List AV := [nV l.item, nV l.gross, nV l.net, nV l.tax, ssV l.ss]
theorem lnC_len (l : Ln) : (lnC l).length = 5 := rfl
theorem lnC_ren (ρ : Nat → Nat) (l : Ln) : renL ρ (lnC l) = lnC l := by simp only [lnC, renL, AV.ren, ssV_ren]
abbrev lnA (l : Ln) : AV := .agg (lnC l)
def lnsV (l : List Ln) : AV := .vs 5 l.length (l.flatMap lnC)
theorem lnsV_ren (ρ : Nat → Nat) (l : List Ln) : (lnsV l).ren ρ = lnsV l := by simp only [lnsV, AV.ren, flat_ren lnC_ren]

structure Od where
  id : Int
  at_ : Int
  ls : List Ln
def odC (o : Od) : List AV := [nV o.id, nV o.at_, lnsV o.ls]
theorem odC_len (l : Od) : (odC l).length = 3 := rfl
theorem odC_ren (ρ : Nat → Nat) (l : Od) : renL ρ (odC l) = odC l := by simp only [odC, renL, AV.ren, lnsV_ren]
abbrev odA (o : Od) : AV := .agg (odC o)
def odsV (l : List Od) : AV := .vs 3 l.length (l.flatMap odC)
theorem odsV_ren (ρ : Nat → Nat) (l : List Od) : (odsV l).ren ρ = odsV l := by simp only [odsV, AV.ren, flat_ren odC_ren]

structure Wn where
  line : Int
  qty : Int
  got : Int
def wnC (w : Wn) : List AV := [nV w.line, nV w.qty, nV w.got]
theorem wnC_len (l : Wn) : (wnC l).length = 3 := rfl
abbrev wnA (o : Wn) : AV := .agg (wnC o)
def wnsV (l : List Wn) : AV := .vs 3 l.length (l.flatMap wnC)
theorem wnsV_ren (ρ : Nat → Nat) (l : List Wn) : (wnsV l).ren ρ = wnsV l := by simp only [wnsV, AV.ren, flat_ren (enc := wnC) (fun _ _ => rfl)]

structure Rm where
  id : Int
  order : Int
  until_ : Int
  state : Int
  ws : List Wn
def rmC (r : Rm) : List AV := [nV r.id, nV r.order, nV r.until_, nV r.state, wnsV r.ws]
theorem rmC_len (l : Rm) : (rmC l).length = 5 := rfl
theorem rmC_ren (ρ : Nat → Nat) (l : Rm) : renL ρ (rmC l) = rmC l := by simp only [rmC, renL, AV.ren, wnsV_ren]
abbrev rmA (o : Rm) : AV := .agg (rmC o)
def rmsV (l : List Rm) : AV := .vs 5 l.length (l.flatMap rmC)
theorem rmsV_ren (ρ : Nat → Nat) (l : List Rm) : (rmsV l).ren ρ = rmsV l := by simp only [rmsV, AV.ren, flat_ren rmC_ren]

structure Un where
  s : ByteArray
  order : Int
  line : Int
  place : Int
  rma : Int
  at_ : Int
  state : Int
  grade : Int
  way : Int
  in_ : Int
def unC (u : Un) : List AV := [sV u.s, nV u.order, nV u.line, nV u.place, nV u.rma, nV u.at_, nV u.state, nV u.grade, nV u.way, nV u.in_]
theorem unC_len (l : Un) : (unC l).length = 10 := rfl
abbrev unA (o : Un) : AV := .agg (unC o)
def unsV (l : List Un) : AV := .vs 10 l.length (l.flatMap unC)
theorem unsV_ren (ρ : Nat → Nat) (l : List Un) : (unsV l).ren ρ = unsV l := by simp only [unsV, AV.ren, flat_ren (enc := unC) (fun _ _ => rfl)]

structure Wk where
  id : Int
  s : ByteArray
  part : Int
  qty : Int
  state : Int
def wkC (u : Wk) : List AV := [nV u.id, sV u.s, nV u.part, nV u.qty, nV u.state]
theorem wkC_len (l : Wk) : (wkC l).length = 5 := rfl
def wksV (l : List Wk) : AV := .vs 5 l.length (l.flatMap wkC)
theorem wksV_ren (ρ : Nat → Nat) (l : List Wk) : (wksV l).ren ρ = wksV l := by simp only [wksV, AV.ren, flat_ren (enc := wkC) (fun _ _ => rfl)]

structure Cl where
  id : Int
  vendor : Int
  state : Int
  ss : List ByteArray
def clC (u : Cl) : List AV := [nV u.id, nV u.vendor, nV u.state, ssV u.ss]
theorem clC_len (l : Cl) : (clC l).length = 4 := rfl
theorem clC_ren (ρ : Nat → Nat) (l : Cl) : renL ρ (clC l) = clC l := by simp only [clC, renL, AV.ren, ssV_ren]
abbrev clA (o : Cl) : AV := .agg (clC o)
def clsV (l : List Cl) : AV := .vs 4 l.length (l.flatMap clC)
theorem clsV_ren (ρ : Nat → Nat) (l : List Cl) : (clsV l).ren ρ = clsV l := by simp only [clsV, AV.ren, flat_ren clC_ren]

structure Mo where
  id : Int
  order : Int
  ss : List ByteArray
  am : List Int
  void : Bool
def moC (u : Mo) : List AV := [nV u.id, nV u.order, ssV u.ss, isV u.am, bV u.void]
theorem moC_len (l : Mo) : (moC l).length = 5 := rfl
theorem moC_ren (ρ : Nat → Nat) (l : Mo) : renL ρ (moC l) = moC l := by simp only [moC, renL, AV.ren, ssV_ren, isV_ren]
abbrev moA (o : Mo) : AV := .agg (moC o)
def mosV (l : List Mo) : AV := .vs 5 l.length (l.flatMap moC)
theorem mosV_ren (ρ : Nat → Nat) (l : List Mo) : (mosV l).ren ρ = mosV l := by simp only [mosV, AV.ren, flat_ren moC_ren]

/-- a movement -/
structure Mv where
  p : Bool
  i : Int
  q : Int
deriving DecidableEq
def mvC (m : Mv) : List AV := [.v (.bool m.p), .v (.int .i64 m.i), .v (.int .i64 m.q)]
def mvs (l : List Mv) : AV := .vs 3 l.length (l.flatMap mvC)
theorem mvs_ren (ρ : Nat → Nat) (l : List Mv) : (mvs l).ren ρ = mvs l := by simp only [mvs, AV.ren, flat_ren (enc := mvC) (fun _ _ => rfl)]

structure Ro where
  g : Int
  w : Int
  lo : Int
  hi : Int
  way : Int
def roC (r : Ro) : List AV := [nV r.g, nV r.w, nV r.lo, nV r.hi, nV r.way]
theorem ros_ren (ρ : Nat → Nat) (l : List Ro) : renL ρ (l.flatMap roC) = l.flatMap roC := flat_ren (enc := roC) (fun _ _ => rfl) ρ l
def roV (l : List Ro) : AV := .vs 5 l.length (l.flatMap roC)
theorem roV_ren (ρ : Nat → Nat) (l : List Ro) : (roV l).ren ρ = roV l := by simp only [roV, AV.ren, ros_ren]
structure Dn where
  key : Int
  cmd : ByteArray
  reply : ByteArray
def dnC (d : Dn) : List AV := [nV d.key, sV d.cmd, sV d.reply]
theorem dnC_len (l : Dn) : (dnC l).length = 3 := rfl
def dnsV (l : List Dn) : AV := .vs 3 l.length (l.flatMap dnC)
theorem dnsV_ren (ρ : Nat → Nat) (l : List Dn) : (dnsV l).ren ρ = dnsV l := by simp only [dnsV, AV.ren, flat_ren (enc := dnC) (fun _ _ => rfl)]

structure Ru where
  asks : List Int
  cuts : List Int
  fees : List Int
  rows : List Ro
def ruC (r : Ru) : List AV := [isV r.asks, isV r.cuts, isV r.fees, roV r.rows]
theorem ruC_ren (ρ : Nat → Nat) (l : Ru) : renL ρ (ruC l) = ruC l := by simp only [ruC, renL, AV.ren, isV_ren, roV_ren]

structure Sta where
  now : Int
  nRma : Int
  nWork : Int
  nClaim : Int
  nMemo : Int
  items : List It
  orders : List Od
  rmas : List Rm
  units : List Un
  works : List Wk
  claims : List Cl
  memos : List Mo
  moves : List Mv
  rules : Ru
  keys : List Dn
def stC (s : Sta) : List AV := [nV s.now, nV s.nRma, nV s.nWork, nV s.nClaim, nV s.nMemo, itsV s.items, odsV s.orders, rmsV s.rmas, unsV s.units, wksV s.works, clsV s.claims, mosV s.memos, mvs s.moves,
  isV s.rules.asks, isV s.rules.cuts, isV s.rules.fees, roV s.rules.rows, dnsV s.keys]
theorem stC_ren (ρ : Nat → Nat) (s : Sta) : renL ρ (stC s) = stC s := by
  simp only [stC, renL, AV.ren, isV_ren, roV_ren, itsV_ren, odsV_ren, rmsV_ren, unsV_ren, wksV_ren, clsV_ren, mosV_ren, mvs_ren, dnsV_ren]
abbrev stA (s : Sta) : AV := .agg (stC s)


theorem fr_i (ρ : Nat → Nat) (l : List Int) : renL ρ (l.flatMap iC) = l.flatMap iC := flat_ren (enc := iC) (fun _ _ => rfl) ρ l
theorem fr_s (ρ : Nat → Nat) (l : List ByteArray) : renL ρ (l.flatMap sC) = l.flatMap sC := flat_ren (enc := sC) (fun _ _ => rfl) ρ l
theorem fr_it (ρ : Nat → Nat) (l : List It) : renL ρ (l.flatMap itC) = l.flatMap itC := flat_ren (enc := itC) (fun _ _ => rfl) ρ l
theorem fr_ln (ρ : Nat → Nat) (l : List Ln) : renL ρ (l.flatMap lnC) = l.flatMap lnC := flat_ren lnC_ren ρ l
theorem fr_od (ρ : Nat → Nat) (l : List Od) : renL ρ (l.flatMap odC) = l.flatMap odC := flat_ren odC_ren ρ l
theorem fr_wn (ρ : Nat → Nat) (l : List Wn) : renL ρ (l.flatMap wnC) = l.flatMap wnC := flat_ren (enc := wnC) (fun _ _ => rfl) ρ l
theorem fr_rm (ρ : Nat → Nat) (l : List Rm) : renL ρ (l.flatMap rmC) = l.flatMap rmC := flat_ren rmC_ren ρ l
theorem fr_un (ρ : Nat → Nat) (l : List Un) : renL ρ (l.flatMap unC) = l.flatMap unC := flat_ren (enc := unC) (fun _ _ => rfl) ρ l
theorem fr_wk (ρ : Nat → Nat) (l : List Wk) : renL ρ (l.flatMap wkC) = l.flatMap wkC := flat_ren (enc := wkC) (fun _ _ => rfl) ρ l
theorem fr_cl (ρ : Nat → Nat) (l : List Cl) : renL ρ (l.flatMap clC) = l.flatMap clC := flat_ren clC_ren ρ l
theorem fr_mo (ρ : Nat → Nat) (l : List Mo) : renL ρ (l.flatMap moC) = l.flatMap moC := flat_ren moC_ren ρ l
theorem fr_mv (ρ : Nat → Nat) (l : List Mv) : renL ρ (l.flatMap mvC) = l.flatMap mvC := flat_ren (enc := mvC) (fun _ _ => rfl) ρ l
theorem fr_dn (ρ : Nat → Nat) (l : List Dn) : renL ρ (l.flatMap dnC) = l.flatMap dnC := flat_ren (enc := dnC) (fun _ _ => rfl) ρ l
theorem itC_r (ρ : Nat → Nat) (x : It) : renL ρ (itC x) = itC x := rfl
theorem unC_r (ρ : Nat → Nat) (x : Un) : renL ρ (unC x) = unC x := rfl
theorem wnC_r (ρ : Nat → Nat) (x : Wn) : renL ρ (wnC x) = wnC x := rfl
theorem wkC_r (ρ : Nat → Nat) (x : Wk) : renL ρ (wkC x) = wkC x := rfl
theorem roC_r (ρ : Nat → Nat) (x : Ro) : renL ρ (roC x) = roC x := rfl
theorem dnC_r (ρ : Nat → Nat) (x : Dn) : renL ρ (dnC x) = dnC x := rfl
/-- what the numbers of own blocks do not touch -/
theorem rens : (∀ ρ l, (isV l).ren ρ = isV l) ∧ (∀ ρ l, (ssV l).ren ρ = ssV l) ∧ (∀ ρ l, (itsV l).ren ρ = itsV l) ∧ (∀ ρ l, (lnsV l).ren ρ = lnsV l) ∧ (∀ ρ l, (odsV l).ren ρ = odsV l) ∧ (∀ ρ l, (wnsV l).ren ρ = wnsV l) ∧ (∀ ρ l, (rmsV l).ren ρ = rmsV l) ∧ (∀ ρ l, (unsV l).ren ρ = unsV l) ∧ (∀ ρ l, (wksV l).ren ρ = wksV l) ∧ (∀ ρ l, (clsV l).ren ρ = clsV l) ∧ (∀ ρ l, (mosV l).ren ρ = mosV l) ∧ (∀ ρ l, (mvs l).ren ρ = mvs l) ∧ (∀ ρ l, (roV l).ren ρ = roV l) ∧ (∀ ρ l, (dnsV l).ren ρ = dnsV l) ∧
    (∀ ρ l, renL ρ (List.flatMap iC l) = List.flatMap iC l) ∧ (∀ ρ l, renL ρ (List.flatMap sC l) = List.flatMap sC l) ∧ (∀ ρ l, renL ρ (List.flatMap itC l) = List.flatMap itC l) ∧ (∀ ρ l, renL ρ (List.flatMap lnC l) = List.flatMap lnC l) ∧ (∀ ρ l, renL ρ (List.flatMap odC l) = List.flatMap odC l) ∧ (∀ ρ l, renL ρ (List.flatMap wnC l) = List.flatMap wnC l) ∧ (∀ ρ l, renL ρ (List.flatMap rmC l) = List.flatMap rmC l) ∧ (∀ ρ l, renL ρ (List.flatMap unC l) = List.flatMap unC l) ∧ (∀ ρ l, renL ρ (List.flatMap wkC l) = List.flatMap wkC l) ∧ (∀ ρ l, renL ρ (List.flatMap clC l) = List.flatMap clC l) ∧ (∀ ρ l, renL ρ (List.flatMap moC l) = List.flatMap moC l) ∧ (∀ ρ l, renL ρ (List.flatMap mvC l) = List.flatMap mvC l) ∧ (∀ ρ l, renL ρ (List.flatMap dnC l) = List.flatMap dnC l) ∧ (∀ ρ l, renL ρ (List.flatMap roC l) = List.flatMap roC l) ∧
    (∀ ρ x, renL ρ (lnC x) = lnC x) ∧ (∀ ρ x, renL ρ (odC x) = odC x) ∧ (∀ ρ x, renL ρ (rmC x) = rmC x) ∧ (∀ ρ x, renL ρ (clC x) = clC x) ∧ (∀ ρ x, renL ρ (moC x) = moC x) ∧ (∀ ρ x, renL ρ (ruC x) = ruC x) ∧ (∀ ρ x, renL ρ (stC x) = stC x) ∧ (∀ ρ x, renL ρ (itC x) = itC x) ∧ (∀ ρ x, renL ρ (unC x) = unC x) ∧ (∀ ρ x, renL ρ (wnC x) = wnC x) ∧ (∀ ρ x, renL ρ (wkC x) = wkC x) ∧ (∀ ρ x, renL ρ (roC x) = roC x) ∧ (∀ ρ x, renL ρ (dnC x) = dnC x) :=
  ⟨isV_ren, ssV_ren, itsV_ren, lnsV_ren, odsV_ren, wnsV_ren, rmsV_ren, unsV_ren, wksV_ren, clsV_ren, mosV_ren, mvs_ren, roV_ren, dnsV_ren, fr_i, fr_s, fr_it, fr_ln, fr_od, fr_wn, fr_rm, fr_un, fr_wk, fr_cl, fr_mo, fr_mv, fr_dn, ros_ren, lnC_ren, odC_ren, rmC_ren, clC_ren, moC_ren, ruC_ren, stC_ren, itC_r, unC_r, wnC_r, wkC_r, roC_r, dnC_r⟩
theorem nb1 {b : Bool} (h : (!b) = true) : b = false := by cases b <;> first | rfl | cases h
theorem nb0 {b : Bool} (h : (!b) = false) : b = true := by cases b <;> first | rfl | cases h
/-! ### what may be: small things -/
def timeB (n : Int) : Bool := decide (0 ≤ n) && decide (n ≤ 1000000)
def idB (n : Int) : Bool := decide (1 ≤ n) && decide (n ≤ 999999)
def inB (n : Int) : Bool := decide (-1000000000000 ≤ n) && decide (n ≤ 1000000000000)
def paidB (n : Int) : Bool := decide (0 ≤ n) && inB n
def spanB (a b n : Int) : Bool := decide (a ≤ n) && decide (n ≤ b)
end Go.Aw.U1

set_option linter.unusedSimpArgs false
set_option linter.unusedVariables false
set_option maxHeartbeats 1000000
namespace Go.Aw.U1
open Go Go.Proofs

theorem f233 (a b n : Int) : Fun P 233 [.agg [nV a, nV b], nV n] (bV (spanB a b n)) := by
  refine spec_of hT (f := 233) (fn := Go.Proofs.Tryz.f233) (c := body Go.Proofs.Tryz.f233) (by kernel_rfl) (by kernel_rfl) ?_
  conv => whnf
  repeat' (first | refine go ?_ | ((first | refine ASplit.yes rfl ?_ | refine ASplit.no rfl ?_ | refine ACond.yes rfl ?_ | refine ACond.no rfl ?_ | refine ASplit.dec (fun _ => ?_) (fun _ => ?_) | refine ASplit.ndec (fun _ => ?_) (fun _ => ?_) | refine ACond.dec (fun _ => ?_) (fun _ => ?_) | refine ACond.ndec (fun _ => ?_) (fun _ => ?_)) <;> conv => whnf))
  all_goals refine AFin.val rfl ⟨congrArg bV ?_, rfl⟩
  all_goals (simp_all [spanB] <;> (intros; omega))
theorem spanB_id (n : Int) : spanB 1 999999 n = idB n := rfl
theorem f147 (n : Int) : Fun P 147 [nV n] (bV (timeB n)) := by
  refine spec_of hT (f := 147) (fn := Go.Proofs.Tryz.f147) (c := body Go.Proofs.Tryz.f147) (by kernel_rfl) (by kernel_rfl) ?_
  conv => whnf
  repeat' (first | refine go ?_ | ((first | refine ASplit.yes rfl ?_ | refine ASplit.no rfl ?_ | refine ACond.yes rfl ?_ | refine ACond.no rfl ?_ | refine ASplit.dec (fun _ => ?_) (fun _ => ?_) | refine ASplit.ndec (fun _ => ?_) (fun _ => ?_) | refine ACond.dec (fun _ => ?_) (fun _ => ?_) | refine ACond.ndec (fun _ => ?_) (fun _ => ?_) | refine ACall.val (by kernel_rfl) (f233 _ _ _) rfl rfl ?_) <;> conv => whnf))
  all_goals refine AFin.val rfl ⟨rfl, rfl⟩
theorem f183 (n : Int) : Fun P 183 [nV n] (bV (inB n)) := by
  refine spec_of hT (f := 183) (fn := Go.Proofs.Tryz.f183) (c := body Go.Proofs.Tryz.f183) (by kernel_rfl) (by kernel_rfl) ?_
  conv => whnf
  repeat' (first | refine go ?_ | ((first | refine ASplit.yes rfl ?_ | refine ASplit.no rfl ?_ | refine ACond.yes rfl ?_ | refine ACond.no rfl ?_ | refine ASplit.dec (fun _ => ?_) (fun _ => ?_) | refine ASplit.ndec (fun _ => ?_) (fun _ => ?_) | refine ACond.dec (fun _ => ?_) (fun _ => ?_) | refine ACond.ndec (fun _ => ?_) (fun _ => ?_)) <;> conv => whnf))
  all_goals refine AFin.val rfl ⟨congrArg bV ?_, rfl⟩
  all_goals (simp_all [inB] <;> (intros; omega))
theorem f286 (n : Int) : Fun P 286 [nV n] (bV (paidB n)) := by
  refine spec_of hT (f := 286) (fn := Go.Proofs.Tryz.f286) (c := body Go.Proofs.Tryz.f286) (by kernel_rfl) (by kernel_rfl) ?_
  conv => whnf
  repeat' (first | refine go ?_ | ((first | refine ASplit.yes rfl ?_ | refine ASplit.no rfl ?_ | refine ACond.yes rfl ?_ | refine ACond.no rfl ?_ | refine ASplit.dec (fun _ => ?_) (fun _ => ?_) | refine ASplit.ndec (fun _ => ?_) (fun _ => ?_) | refine ACond.dec (fun _ => ?_) (fun _ => ?_) | refine ACond.ndec (fun _ => ?_) (fun _ => ?_) | refine ACall.val (by kernel_rfl) (f183 _) rfl rfl ?_) <;> conv => whnf))
  all_goals refine AFin.val rfl ⟨congrArg bV ?_, rfl⟩
  all_goals (simp_all [paidB] <;> (intros; omega))
theorem f324 (n : Int) : Fun P 324 [nV n] (bV (idB n)) := by
  refine spec_of hT (f := 324) (fn := Go.Proofs.Tryz.f324) (c := body Go.Proofs.Tryz.f324) (by kernel_rfl) (by kernel_rfl) ?_
  conv => whnf
  repeat' (first | refine go ?_ | ((first | refine ASplit.yes rfl ?_ | refine ASplit.no rfl ?_ | refine ACond.yes rfl ?_ | refine ACond.no rfl ?_ | refine ASplit.dec (fun _ => ?_) (fun _ => ?_) | refine ASplit.ndec (fun _ => ?_) (fun _ => ?_) | refine ACond.dec (fun _ => ?_) (fun _ => ?_) | refine ACond.ndec (fun _ => ?_) (fun _ => ?_)) <;> conv => whnf))
  all_goals refine AFin.val rfl ⟨congrArg bV ?_, rfl⟩
  all_goals (simp_all [idB] <;> (intros; omega))
theorem f224 (n : Int) : Fun P 224 [nV n] (bV (idB n)) := by
  refine spec_of hT (f := 224) (fn := Go.Proofs.Tryz.f224) (c := body Go.Proofs.Tryz.f224) (by kernel_rfl) (by kernel_rfl) ?_
  conv => whnf
  repeat' (first | refine go ?_ | ((first | refine ASplit.yes rfl ?_ | refine ASplit.no rfl ?_ | refine ACond.yes rfl ?_ | refine ACond.no rfl ?_ | refine ASplit.dec (fun _ => ?_) (fun _ => ?_) | refine ASplit.ndec (fun _ => ?_) (fun _ => ?_) | refine ACond.dec (fun _ => ?_) (fun _ => ?_) | refine ACond.ndec (fun _ => ?_) (fun _ => ?_)) <;> conv => whnf))
  all_goals refine AFin.val rfl ⟨congrArg bV ?_, rfl⟩
  all_goals (simp_all [idB] <;> (intros; omega))
def basisB (n : Int) : Bool := decide (0 ≤ n) && decide (n ≤ 10000)
theorem f322 (n : Int) : Fun P 322 [nV n] (bV (basisB n)) := by
  refine spec_of hT (f := 322) (fn := Go.Proofs.Tryz.f322) (c := body Go.Proofs.Tryz.f322) (by kernel_rfl) (by kernel_rfl) ?_
  conv => whnf
  repeat' (first | refine go ?_ | ((first | refine ASplit.yes rfl ?_ | refine ASplit.no rfl ?_ | refine ACond.yes rfl ?_ | refine ACond.no rfl ?_ | refine ASplit.dec (fun _ => ?_) (fun _ => ?_) | refine ASplit.ndec (fun _ => ?_) (fun _ => ?_) | refine ACond.dec (fun _ => ?_) (fun _ => ?_) | refine ACond.ndec (fun _ => ?_) (fun _ => ?_)) <;> conv => whnf))
  all_goals refine AFin.val rfl ⟨congrArg bV ?_, rfl⟩
  all_goals (simp_all [basisB] <;> (intros; omega))
def waitsB (w : Wn) : Bool := decide (w.got < w.qty)
theorem f326 (w : Wn) : Fun P 326 [wnA w] (bV (waitsB w)) := by
  refine spec_of hT (f := 326) (fn := Go.Proofs.Tryz.f326) (c := body Go.Proofs.Tryz.f326) (by kernel_rfl) (by kernel_rfl) ?_
  conv => whnf
  repeat' (first | refine go ?_ | ((first | refine ASplit.yes rfl ?_ | refine ASplit.no rfl ?_ | refine ACond.yes rfl ?_ | refine ACond.no rfl ?_ | refine ASplit.dec (fun _ => ?_) (fun _ => ?_) | refine ASplit.ndec (fun _ => ?_) (fun _ => ?_) | refine ACond.dec (fun _ => ?_) (fun _ => ?_) | refine ACond.ndec (fun _ => ?_) (fun _ => ?_)) <;> conv => whnf))
  all_goals refine AFin.val rfl ⟨rfl, rfl⟩
def itB (i : It) : Bool := idB i.id && idB i.vendor && timeB i.window && timeB i.warranty
theorem f157 (i : It) : Fun P 157 [itA i] (nV (if itB i then 0 else 2)) := by
  refine spec_of hT (f := 157) (fn := Go.Proofs.Tryz.f157) (c := body Go.Proofs.Tryz.f157) (by kernel_rfl) (by kernel_rfl) ?_
  conv => whnf
  repeat' (first | refine go ?_ | ((first | refine ASplit.yes rfl ?_ | refine ASplit.no rfl ?_ | refine ACond.yes rfl ?_ | refine ACond.no rfl ?_ | refine ASplit.dec (fun _ => ?_) (fun _ => ?_) | refine ASplit.ndec (fun _ => ?_) (fun _ => ?_) | refine ACond.dec (fun _ => ?_) (fun _ => ?_) | refine ACond.ndec (fun _ => ?_) (fun _ => ?_) | refine ACall.val (by kernel_rfl) (f233 _ _ _) rfl rfl ?_ | refine ACall.val (by kernel_rfl) (f147 _) rfl rfl ?_ | (refine ASplit.mk (fun _ => ?_) (fun _ => ?_)) | (refine ACond.mk (fun _ => ?_) (fun _ => ?_))) <;> conv => whnf))
  all_goals refine AFin.val rfl ⟨congrArg nV ?_, rfl⟩
  all_goals simp_all [itB, spanB_id]
theorem f156 (i : It) : Fun P 156 [itA i] (bV (!itB i)) := by
  refine spec_of hT (f := 156) (fn := Go.Proofs.Tryz.f156) (c := body Go.Proofs.Tryz.f156) (by kernel_rfl) (by kernel_rfl) ?_
  conv => whnf
  repeat' (first | refine go ?_ | ((first | refine ASplit.yes rfl ?_ | refine ASplit.no rfl ?_ | refine ACond.yes rfl ?_ | refine ACond.no rfl ?_ | refine ASplit.dec (fun _ => ?_) (fun _ => ?_) | refine ASplit.ndec (fun _ => ?_) (fun _ => ?_) | refine ACond.dec (fun _ => ?_) (fun _ => ?_) | refine ACond.ndec (fun _ => ?_) (fun _ => ?_) | refine ACall.val (by kernel_rfl) (f157 _) rfl rfl ?_) <;> conv => whnf))
  all_goals refine AFin.val rfl ⟨congrArg bV ?_, rfl⟩
  all_goals (cases itB i <;> rfl)
def mayB (l : Ln) : Bool := paidB l.gross && paidB l.net && paidB l.tax && decide (l.net ≤ l.gross) && inB (l.net + l.tax)
theorem paidB_iff {n : Int} : paidB n = true ↔ 0 ≤ n ∧ n ≤ 1000000000000 := by simp [paidB, inB]; omega
theorem f196 (l : Ln) : Fun P 196 [lnA l] (bV (mayB l)) := by
  refine spec_of hT (f := 196) (fn := Go.Proofs.Tryz.f196) (c := body Go.Proofs.Tryz.f196) (by kernel_rfl) (by kernel_rfl) ?_
  conv => whnf
  repeat' (first | refine go ?_ | ((first | refine ASplit.yes rfl ?_ | refine ASplit.no rfl ?_ | refine ACond.yes rfl ?_ | refine ACond.no rfl ?_ | refine ASplit.dec (fun _ => ?_) (fun _ => ?_) | refine ASplit.ndec (fun _ => ?_) (fun _ => ?_) | refine ACond.dec (fun _ => ?_) (fun _ => ?_) | refine ACond.ndec (fun _ => ?_) (fun _ => ?_) | refine ACall.val (by kernel_rfl) (f286 _) rfl rfl ?_ | refine ACall.val (by kernel_rfl) (f183 _) rfl rfl ?_ | (refine ASplit.mk (fun _ => ?_) (fun _ => ?_)) | (refine ACond.mk (fun _ => ?_) (fun _ => ?_))) <;> conv => whnf))
  all_goals refine AFin.val rfl ⟨congrArg bV ?_, rfl⟩
  all_goals simp_all [mayB]
  all_goals try (intros; omega)
  all_goals
    have h2 := paidB_iff.1 (by assumption : paidB l.net = true)
    have h3 := paidB_iff.1 (by assumption : paidB l.tax = true)
    rw [wrap_i64 _ (by omega) (by omega)]
end Go.Aw.U1

