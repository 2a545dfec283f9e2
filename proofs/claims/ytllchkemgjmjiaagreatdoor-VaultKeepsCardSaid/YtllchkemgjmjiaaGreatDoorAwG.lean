/-
  The statement VaultKeeps: opened again, a vault tells the text that was laid last, and all bodies behind that, without any condition.
-/
import Derived.Test.YtllchkemgjmjiaaGreatDoorAwF
import Derived.Sort.Row
import Derived.OpenShut
import Derived.Scope
set_option linter.unusedSimpArgs false
set_option linter.unusedVariables false
/-
  Aw, part 29: a region in all of its orders.
-/
set_option linter.unusedSimpArgs false
set_option linter.unusedVariables false
namespace Go.Aw
open Go

section
variable {P : Program} {T : Nat → TI} {H : List ABlk}

/-- the operations d are done, f are left -/
structure AG (P : Program) (T : Nat → TI) (ops : Array Oper) (d : List Nat) (f : Nat) (kn : List (Nat × Bool)) (J : List AV → List ABlk → Prop) (E : List AV) (H : List ABlk) : Prop where
  run : ∀ (C : Ctx) (R : Exit → Act → World → Prop), (∀ c a w, ¬ R (.panic c) a w) → Region.noSelect ops = true → (∀ E H a w, J E H → Rel C E H a w → R .normal a w) → ∀ (S : World → Prop) (m : Mu) (I : Nat → Prop) (a : Act) (w : World),
    At C S ops kn E H m I a w → wpAnyH P .any ops R S f (unl ops d) a w

theorem AG.done {ops : Array Oper} {d : List Nat} {f : Nat} {kn : List (Nat × Bool)} {J : List AV → List ABlk → Prop} {E : List AV} (h1 : (Region.ready .any ops (unl ops d) == []) = true) (h : J E H) : AG P T ops d f kn J E H :=
  ⟨fun C R hp hs hR S m I a w hA => wpAnyH_done (by simpa using h1) (hR E H a w h ⟨m, I, hA.st, hA.rep, hA.dfr⟩) f⟩

theorem AG.one (hT : TOk P T) {ops : Array Oper} {d : List Nat} {f : Nat} {kn : List (Nat × Bool)} {J : List AV → List ABlk → Prop} {E : List AV} (i : Nat) {o : Oper} (hoi : ops[i]? = some o) (h1 : oneOk ops (unl ops d) i = true)
    (h : opK P T ops o kn E H fun kn E H => AG P T ops (i :: d) f kn J E H) : AG P T ops d (f + 1) kn J E H :=
  ⟨fun C R hp hs hR S m I a w hA => take_one hT hoi h hp hs hA h1 (fun kn E H m I a w g1 g2 => g1.run C R hp hs hR S m I a w g2)⟩

/-- each of these may come now -/
structure AGs (P : Program) (T : Nat → TI) (ops : Array Oper) (l : List Nat) (d : List Nat) (f : Nat) (kn : List (Nat × Bool)) (J : List AV → List ABlk → Prop) (E : List AV) (H : List ABlk) : Prop where
  run : ∀ i ∈ l, ∀ (C : Ctx) (R : Exit → Act → World → Prop), (∀ c a w, ¬ R (.panic c) a w) → Region.noSelect ops = true → (∀ E H a w, J E H → Rel C E H a w → R .normal a w) → ∀ (S : World → Prop) (m : Mu) (I : Nat → Prop) (a : Act) (w : World),
    At C S ops kn E H m I a w → wpOp P ops R i (fun a' w' => S w' ∧ wpAnyH P .any ops R S f ((unl ops d).setIfInBounds i true) a' w') a w

theorem AGs.nil {ops : Array Oper} {d : List Nat} {f : Nat} {kn : List (Nat × Bool)} {J : List AV → List ABlk → Prop} {E : List AV} : AGs P T ops [] d f kn J E H := ⟨fun i hi => by cases hi⟩
theorem AGs.cons (hT : TOk P T) {ops : Array Oper} {i : Nat} {l : List Nat} {d : List Nat} {f : Nat} {kn : List (Nat × Bool)} {J : List AV → List ABlk → Prop} {E : List AV} {o : Oper} (hoi : ops[i]? = some o)
    (h : opK P T ops o kn E H fun kn E H => AG P T ops (i :: d) f kn J E H) (hl : AGs P T ops l d f kn J E H) : AGs P T ops (i :: l) d f kn J E H :=
  ⟨fun j hj C R hp hs hR S m I a w hA => by
    rcases List.mem_cons.1 hj with rfl | hj
    · obtain ⟨kn', E', hkn', hE', hst⟩ := opK_step hA.rep hA.kn h
      have := step_opH (Q := R) (R := fun a' w' => S w' ∧ wpAnyH P .any ops R S f ((unl ops d).setIfInBounds j true) a' w') hT hA.st hE' hA.dfr hkn' hst (fun kn E H m I a w g1 g2 g3 g4 g5 g6 => by
        have hA' : At C S ops kn E H m I a w := ⟨g2, g3, g4, g5, fun w' hw' => hA.s w' (hw'.ext g6)⟩
        exact ⟨hA'.now, g1.run C R hp hs hR S m I a w hA'⟩)
      unfold wpOp
      rw [hoi]
      exact this
    · exact hl.run j hj C R hp hs hR S m I a w hA⟩

theorem AG.alt {ops : Array Oper} {d : List Nat} {f : Nat} {kn : List (Nat × Bool)} {J : List AV → List ABlk → Prop} {E : List AV} (i : Nat) (l : List Nat) (h1 : (Region.ready .any ops (unl ops d) == i :: l) = true) (h : AGs P T ops (i :: l) d f kn J E H) : AG P T ops d (f + 1) kn J E H :=
  ⟨fun C R hp hs hR S m I a w hA => wpAnyH_all (by simpa using h1) (by simp) (fun k hk => h.run k (by simpa using hk) C R hp hs hR S m I a w hA)⟩

theorem AW.orders (hm : P.follows .mixedOrders = true) {k id : Nat} {ops : Array Oper} {Q : Exit → List AV → List ABlk → Prop} {E : List AV} (hs : Region.noSelect ops = true) (n : Nat) (hn : ops.size = n) (h : AG P T ops [] n [] (Q .normal) E H) : AW P T k (.region id ops true) Q E H :=
  ⟨fun C a w hC ⟨m, I, hst, hE, hd⟩ => by
    subst hn
    obtain ⟨hs', he⟩ := hst.world (w' := { w with drawn := w.drawn + 1 }) rfl ⟨rfl, rfl⟩
    refine wp_region_any hm ?_
    have := h.run C (QR C Q) (fun c a w hc => hc) hs (fun E H a w hq hr => ⟨E, H, hq, hr⟩) (fun _ => True) m I a _ ⟨hs', RepL.ext he _ _ hE, hd, (fun _ hx => by cases hx), fun _ _ => trivial⟩
    exact wpAny_of_held _ _ _ _ this⟩
end
end Go.Aw

/-
  Aw, part 30: maps that are cleared, entries that are taken out.
-/
set_option linter.unusedSimpArgs false
set_option linter.unusedVariables false
namespace Go.Aw
open Go Go.Maps

section
variable {P : Program} {T : Nat → TI} {C : Ctx} {m : Mu} {I : Nat → Prop} {H : List ABlk} {w : World}
variable {α β : Type} {kv : α → Value} {ek : α → AV} {ok : α → Prop} {eb : β → AV} {L : List (α × β)} {kt et t : Nat}

theorem erase_map {γ δ : Type} (f : γ → δ) : ∀ (l : List γ) (j : Nat), (l.eraseIdx j).map f = (l.map f).eraseIdx j
  | [], _ => by simp
  | _ :: _, 0 => by simp
  | x :: l, j + 1 => by simp [erase_map f l j]

theorem AOp.clear {E : List AV} {K : AV → List ABlk → Prop} {mo : Operand} {l : Nat} {es : List (AV × AV)} {bs : List Nat} {clk : Nat} {args : Array Operand} {ts : Array Nat}
    (ht : P.underlying t = some (.map kt et)) (ha : args = #[mo]) (hts : ts = #[t]) (hm : ev E mo = .mp l) (hH : H[l]? = some (.map es bs clk))
    (k : K .any (H.set l (.map [] [] clk))) : AOp P (.call ⟨.builtin .clear, args, ts⟩) E H K := by
  subst ha; subst hts
  rw [AOp.iff]
  intro C m I w a' dst type pos after guard Q hs hE
  obtain ⟨b, ents, hb, hnI, hw, hr⟩ := hs.map_at hH
  have em1 := ev_rep (o := mo) hE
  rw [hm] at em1
  have e1 := hs.mp_val hb em1
  obtain ⟨hs', he⟩ := hs.putMap hH hb hw (es' := []) (bs' := []) (clk' := clk) (ents' := []) ⟨by simp [RepL], by simp [RepL], rfl, List.nodup_nil, by simp⟩
  refine wp_val_of (s := Builtin.clear_ #[t] type ((#[mo] : Array Operand).map a'.eval)) (v := .tuple #[]) k (by simp [Rep]) hs' he ?_ rfl
  rw [show (#[mo] : Array Operand).map a'.eval = #[a'.eval mo] by simp, e1]
  simp [Builtin.clear_, run_underlying ht, MapKept.run_getObj_map hw, MapKept.run_setObj_map _ hw, Result.andThen]

theorem rep_erase {bs : List Nat} {clk : Nat} {ents : List MapEntry} (hr : MapRep w m I (em ek eb L) bs clk ents) (j : Nat) :
    MapRep w m I (em ek eb (L.eraseIdx j)) (bs.eraseIdx j) clk (ents.eraseIdx j) := by
  obtain ⟨r1, r2, r3, r4, r5⟩ := hr
  have hsp : ∀ {xs : List AV} {ys : List Value} (j : Nat), RepL w m I xs ys → RepL w m I (xs.eraseIdx j) (ys.eraseIdx j) := by
    intro xs
    induction xs with
    | nil => intro ys j h; simp only [RepL] at h; subst h; simp [RepL]
    | cons x xs ih =>
      intro ys j h
      simp only [RepL] at h
      obtain ⟨y, zs, rfl, h1, h2⟩ := h
      cases j with
      | zero => simpa using h2
      | succ j => simp only [List.eraseIdx_cons_succ, RepL]; exact ⟨y, _, rfl, h1, ih j h2⟩
  have em1 : ∀ (f : AV × AV → AV) , (em ek eb (L.eraseIdx j)).map f = ((em ek eb L).map f).eraseIdx j := by
    intro f
    simp only [em, erase_map]
  refine ⟨?_, ?_, ?_, ?_, ?_⟩
  · rw [em1, erase_map]; exact hsp j r1
  · rw [em1, erase_map]; exact hsp j r2
  · rw [erase_map, r3]
  · exact r4.sublist (List.eraseIdx_sublist _ _)
  · exact fun s hs => r5 s ((List.eraseIdx_sublist _ _).subset hs)

theorem AOp.delete {E : List AV} {K : AV → List ABlk → Prop} {mo ko : Operand} {l : Nat} {bs : List Nat} {clk : Nat} {a : α} {args : Array Operand} {ts : Array Nat}
    (hK : KEnc P kt kv ek ok) (ht : P.underlying t = some (.map kt et)) (hag : args = #[mo, ko]) (hts : ts = #[t, kt]) (hm : ev E mo = .mp l) (hk : ev E ko = ek a) (hH : H[l]? = some (.map (em ek eb L) bs clk)) (hL : ∀ p ∈ L, ok p.1) (ha : ok a)
    (h0 : (∀ p ∈ L, p.1 ≠ a) → K .any H) (h1 : ∀ (j : Nat) b, L[j]? = some (a, b) → K .any (H.set l (.map (em ek eb (L.eraseIdx j)) (bs.eraseIdx j) clk))) : AOp P (.call ⟨.builtin .delete, args, ts⟩) E H K := by
  subst hag; subst hts
  rw [AOp.iff]
  intro C m I w a' dst type pos after guard Q hs hE
  obtain ⟨b, ents, hb, hnI, hw, hr⟩ := hs.map_at hH
  have em1 := ev_rep (o := mo) hE
  have ek1 := ev_rep (o := ko) hE
  rw [hm] at em1; rw [hk] at ek1
  have e1 := hs.mp_val hb em1
  have e2 := hK.rep _ _ _ _ _ ek1
  obtain ⟨lx, hlx⟩ := hK.lit a ha
  have hchk := fun em => hK.keyed.check w em hlx
  rcases find_em hK hr hL ha w with ⟨f1, f2⟩ | ⟨j, bv, e, f1, f2, f3, f4, f5⟩
  · obtain ⟨hs', he⟩ := hs.putMap hH hb hw hr
    have hset : H.set l (.map (em ek eb L) bs clk) = H := set_same hH
    rw [hset] at hs'
    refine wp_val_of (s := Builtin.delete_ #[t, kt] type ((#[mo, ko] : Array Operand).map a'.eval)) (v := .tuple #[]) (h0 f2) (by simp [Rep]) hs' he ?_ rfl
    rw [show (#[mo, ko] : Array Operand).map a'.eval = #[a'.eval mo, a'.eval ko] by simp, e1, e2]
    simp [Builtin.delete_, run_underlying ht, MapKept.run_getObj_map hw, hchk, f1, MapKept.run_setObj_map _ hw, Result.andThen]
  · obtain ⟨hs', he⟩ := hs.putMap hH hb hw (rep_erase hr j)
    refine wp_val_of (s := Builtin.delete_ #[t, kt] type ((#[mo, ko] : Array Operand).map a'.eval)) (v := .tuple #[]) (h1 j bv f2) (by simp [Rep]) hs' he ?_ rfl
    have hj : j < ents.length := (List.getElem?_eq_some_iff.1 f3).1
    rw [show (#[mo, ko] : Array Operand).map a'.eval = #[a'.eval mo, a'.eval ko] by simp, e1, e2]
    simp [Builtin.delete_, run_underlying ht, MapKept.run_getObj_map hw, hchk, f1, MapKept.run_setObj_map _ hw, Result.andThen, Array.eraseIdxIfInBounds, hj]
end
end Go.Aw

/-
  Aw, part 31: the library's sort of numbers, its copy of a map.
-/
set_option linter.unusedSimpArgs false
set_option linter.unusedVariables false
namespace Go.Aw
open Go Go.Maps Go.Proofs Go.Sort

section
variable {P : Program} {T : Nat → TI} {C : Ctx} {m : Mu} {I : Nat → Prop} {H : List ABlk} {w : World}

def nv (n : Int) : AV := .v (.int .i64 n)
theorem nvs_rep : ∀ {l : List Int} {ys : List Value}, RepL w m I (l.map nv) ys → ys = l.map (Value.int .i64)
  | [], ys, h => by simpa [RepL] using h
  | x :: l, ys, h => by
    simp only [List.map_cons, RepL, nv, Rep] at h
    obtain ⟨y, zs, rfl, rfl, h2⟩ := h
    rw [nvs_rep h2, List.map_cons]
theorem nvs_mk : ∀ (l : List Int), RepL w m I (l.map nv) (l.map (Value.int .i64))
  | [] => by simp [RepL]
  | x :: l => by simp only [List.map_cons, RepL, nv, Rep]; exact ⟨_, _, rfl, rfl, nvs_mk l⟩

theorem Spec.sortI {f e : Nat} (hc : ∀ (blk cap : Nat) (zs : List Int) (w : World), Holds (Value.int .i64) w blk 0 zs.toArray → blk < w.heap.size → zs.length < 4611686018427387904 → Calls P f #[.slice (some ⟨blk, 0, none⟩) zs.length cap] w fun e w' => e = .returned (.tuple #[]) ∧ ∃ n os, w' = grow (putRow (Value.int .i64) (Sort.ahead w n) blk 0 (zs.mergeSort fun x y => decide (x ≤ y)).toArray) os)
    (l : List Int) (hl : l ≠ []) (hsz : l.length < 4611686018427387904) : Spec P f [.ms 1 0 0 l.length] [.cells e (l.map nv)] (fun r H => r = .tup [] ∧ H = [.cells e ((l.mergeSort fun x y => decide (x ≤ y)).map nv)]) := by
  intro C m I w vs hs hr
  have hlpos : 0 < l.length := List.length_pos_iff.2 hl
  simp only [RepL, Rep] at hr
  obtain ⟨y, zs, rfl, ⟨hlt, hy⟩, rfl⟩ := hr
  rcases hy with ⟨_, h0, _⟩ | ⟨b, cap, o, hb, rfl, hcap, hfit, ho⟩
  · omega
  obtain rfl : o = 0 := ho (by omega)
  have hB := hs.blks 0 _ rfl
  simp only [BlkRep] at hB
  rcases hB with ⟨h2, _⟩ | ⟨b', ys, fr, h2, h3, h4, h5, h6, h7, yy1, yy2, rfl, h8⟩
  · rw [h2] at hb; cases hb
  rw [hb] at h2; cases h2
  have hy1 := nvs_rep h8
  subst hy1
  generalize hs' : (l.mergeSort fun x y => decide (x ≤ y)) = l' at *
  have hl' : l'.length = l.length := by rw [← hs', List.length_mergeSort]
  have hblk : b < w.heap.size := (Array.getElem?_eq_some_iff.1 h4).1
  have hH : Holds (Value.int .i64) w b 0 l.toArray := by
    intro j hj
    have hj' : j < l.length := by simpa using hj
    refine ⟨?_, ?_⟩
    · unfold World.cell?
      simp only [h4, Nat.zero_add]
      rw [getElem!_pos _ j hj]
      simp [List.getElem?_append_left, hj']
    · unfold World.frozen?
      simp only [h4, Nat.zero_add]
      exact h5 j (by rw [List.length_append, List.length_map]; omega)
  have hcall := hc b cap l w hH hblk hsz
  refine hcall.mono fun e' w' ⟨he, n, os, hw'⟩ => ?_
  rw [hs'] at hw'
  have hlen2 : (l'.map (Value.int .i64) ++ yy2).length = (l.map (Value.int .i64) ++ yy2).length := by
    rw [List.length_append, List.length_append, List.length_map, List.length_map, hl']
  have hput : (putRow (Value.int .i64) (Sort.ahead w n) b 0 l'.toArray).heap[b]? = some (.cells ⟨l'.map (Value.int .i64) ++ yy2⟩ e fr) := by
    show (w.heap.modify b _)[b]? = _
    rw [Array.getElem?_modify, if_pos rfl, h4]
    show some (Obj.cells _ e fr) = _
    congr 2
    apply Array.ext'
    unfold putCells
    apply List.ext_getElem?
    intro t
    rw [Array.getElem?_toList, Array.getElem?_mapIdx]
    simp only [Nat.zero_le, true_and, Nat.zero_add, Nat.sub_zero, List.size_toArray]
    by_cases ht : t < l'.length
    · rw [List.getElem?_append_left (by rw [List.length_map]; exact ht), List.getElem?_map, List.getElem?_eq_getElem ht]
      rw [Array.getElem?_eq_getElem (by show t < (l.map (Value.int .i64) ++ yy2).length; rw [List.length_append, List.length_map]; omega)]
      simp only [Option.map_some, ht, if_true]
      rw [getElem!_pos _ t (by simpa using ht)]
      simp
    · rw [List.getElem?_append_right (by rw [List.length_map]; omega), List.length_map]
      simp only [ht, if_false]
      rw [List.getElem?_toArray, List.getElem?_append_right (by rw [List.length_map]; omega), List.length_map, hl']
      cases yy2[t - l.length]? <;> rfl
  have hsize1 : (putRow (Value.int .i64) (Sort.ahead w n) b 0 l'.toArray).heap.size = w.heap.size := by
    show (w.heap.modify b _).size = _
    simp
  obtain ⟨hs1, he1⟩ := hs.put (w' := putRow (Value.int .i64) (Sort.ahead w n) b 0 l'.toArray) (l := 0) (B' := .cells e (l'.map nv)) rfl trivial hsize1 ⟨rfl, rfl⟩ (fun b' hb' => by
    show (w.heap.modify b _)[b']? = _
    rw [Array.getElem?_modify, if_neg (fun e => hb' (by rw [← e]; exact hb))]) (fun hx => by
    simp only [BlkRep]
    refine .inr ⟨b, _, fr, hb, h3, hput, ?_, ?_, ?_, _, yy2, rfl, nvs_mk _⟩
    · rw [hlen2]; exact h5
    · rw [hlen2]; exact h6
    · intro u hu
      rcases List.mem_append.1 hu with hu | hu
      · obtain ⟨x, _, rfl⟩ := List.mem_map.1 hu; rfl
      · exact h7 u (by simp [hu]))
  have hgrow : Grown (putRow (Value.int .i64) (Sort.ahead w n) b 0 l'.toArray) w' := by
    rw [hw']
    unfold grow
    refine ⟨by simp, fun b' hb' => ?_⟩
    show (_ ++ os)[b']? = _
    rw [Array.getElem?_append_left hb']
  obtain ⟨hs2, he2⟩ := hs1.grown hgrow (by rw [hw']; exact ⟨rfl, rfl⟩)
  refine ⟨.tup [], .tuple #[], _, m, I, he, ⟨rfl, rfl⟩, ?_, hs2, he1.trans he2⟩
  simp only [Rep, RepL]; exact ⟨[], rfl, rfl⟩

end
end Go.Aw

/-
  Aw, part 32: cells of a list's elements, one changed.
-/
set_option linter.unusedSimpArgs false
set_option linter.unusedVariables false
namespace Go.Aw
open Go

section
variable {α : Type} {enc : α → List AV} {sz : Nat}

variable {β : Type} {xs ys : List β} {i : Nat}
end
end Go.Aw

/-
  Aw, part 33: a block that code only reads is held still.
-/
set_option linter.unusedSimpArgs false
set_option linter.unusedVariables false
namespace Go.Aw
open Go

section
variable {P : Program} {T : Nat → TI} {H : List ABlk}

end
end Go.Aw

/-
  Aw, part 34: a load of what stays, under a guard that is known.
-/
set_option linter.unusedSimpArgs false
set_option linter.unusedVariables false
namespace Go.Aw
open Go

section
variable {P : Program} {T : Nat → TI} {C : Ctx} {m : Mu} {I : Nat → Prop} {H : List ABlk} {w : World}

end
end Go.Aw

/-
  Aw, part 35: arrays as arguments.
-/
set_option linter.unusedSimpArgs false
set_option linter.unusedVariables false
namespace Go.Aw
open Go Go.ChangeShapes Go.WideShapes Go.RowKit

section
variable {P : Program}
end
end Go.Aw

/-
  Aw, part 36: labels that nobody jumps to.
-/
set_option linter.unusedSimpArgs false
set_option linter.unusedVariables false
namespace Go.Aw
open Go

section
variable {P : Program} {T : Nat → TI} {H : List ABlk} {k : Nat} {Q : Exit → List AV → List ABlk → Prop} {E : List AV}
theorem AW.label {l : Nat} (h : Q .normal E H) : AW P T k (.label l) Q E H := ⟨fun C a w hC hr => wp_label ⟨E, H, h, hr⟩⟩
theorem AW.scope {c : Code} (h : AW P T k c (fun e E H => match e with | .goto _ => False | e => Q e E H) E H) : AW P T k (.scope c) Q E H :=
  ⟨fun C a w hC hr => by
    refine wp_scope_straight (wp_mono (h.run C a w hC hr) (fun e a' w' hq => ?_))
    cases e with
    | goto l => obtain ⟨_, _, h1, _⟩ := hq; exact h1.elim
    | normal => exact hq
    | exit i => exact hq
    | ret => exact hq
    | panic c => exact hq.elim
    | outgrown => exact hq.elim⟩

end
end Go.Aw

/-
  Aw, part 37: equality of arrays of numbers.
-/
set_option linter.unusedSimpArgs false
set_option linter.unusedVariables false
namespace Go.Aw
open Go Go.Maps Go.WideShapes

section
variable {P : Program} {T : Nat → TI} {C : Ctx} {m : Mu} {I : Nat → Prop} {H : List ABlk} {w : World}

end
end Go.Aw

