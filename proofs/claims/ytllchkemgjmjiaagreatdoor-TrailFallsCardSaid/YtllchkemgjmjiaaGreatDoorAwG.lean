/-
  The statement TrailFalls: wherever the power goes while a frame is appended, the frames ahead are loaded, and that one, or not, without any condition.
-/
import Derived.Test.YtllchkemgjmjiaaGreatDoorAwF
import Derived.Sort.Row
import Derived.OpenShut
import Derived.Scope
set_option linter.unusedSimpArgs false
set_option linter.unusedVariables false
/-
  Aw, part 29: a region in all of its orders.
-/
set_option linter.unusedSimpArgs false
set_option linter.unusedVariables false
namespace Go.Aw
open Go

section
variable {P : Program} {T : Nat → TI} {H : List ABlk}

/-- the operations d are done, f are left -/
structure AG (P : Program) (T : Nat → TI) (ops : Array Oper) (d : List Nat) (f : Nat) (kn : List (Nat × Bool)) (J : List AV → List ABlk → Prop) (E : List AV) (H : List ABlk) : Prop where
  run : ∀ (C : Ctx) (R : Exit → Act → World → Prop), (∀ c a w, ¬ R (.panic c) a w) → Region.noSelect ops = true → (∀ E H a w, J E H → Rel C E H a w → R .normal a w) → ∀ (S : World → Prop) (m : Mu) (I : Nat → Prop) (a : Act) (w : World),
    At C S ops kn E H m I a w → wpAnyH P .any ops R S f (unl ops d) a w

theorem AG.done {ops : Array Oper} {d : List Nat} {f : Nat} {kn : List (Nat × Bool)} {J : List AV → List ABlk → Prop} {E : List AV} (h1 : (Region.ready .any ops (unl ops d) == []) = true) (h : J E H) : AG P T ops d f kn J E H :=
  ⟨fun C R hp hs hR S m I a w hA => wpAnyH_done (by simpa using h1) (hR E H a w h ⟨m, I, hA.st, hA.rep, hA.dfr⟩) f⟩

theorem AG.one (hT : TOk P T) {ops : Array Oper} {d : List Nat} {f : Nat} {kn : List (Nat × Bool)} {J : List AV → List ABlk → Prop} {E : List AV} (i : Nat) {o : Oper} (hoi : ops[i]? = some o) (h1 : oneOk ops (unl ops d) i = true)
    (h : opK P T ops o kn E H fun kn E H => AG P T ops (i :: d) f kn J E H) : AG P T ops d (f + 1) kn J E H :=
  ⟨fun C R hp hs hR S m I a w hA => take_one hT hoi h hp hs hA h1 (fun kn E H m I a w g1 g2 => g1.run C R hp hs hR S m I a w g2)⟩

theorem AG.imm (hT : TOk P T) {ops : Array Oper} {d : List Nat} {f : Nat} {kn : List (Nat × Bool)} {J : List AV → List ABlk → Prop} {E : List AV} (i : Nat) {o : Oper} {t : Nat} {x : Operand} (hoi : ops[i]? = some o) (hop : o.op = .load t x) (hg : o.guard = none) (h1 : immOk ops (unl ops d) i = true)
    (h : evK E x fun q => ifK (immB q H) (loadAtK T H t q fun v => putK E o.dst v fun E => knPut ops o.dst kn fun kn => AG P T ops (i :: d) f kn J E H)) : AG P T ops d (f + 1) kn J E H :=
  ⟨fun C R hp hs hR S m I a w hA => take_imm hT hoi hop hg h hp hs hA h1 (fun kn E H m I a w S g1 g2 => g1.run C R hp hs hR S m I a w g2)⟩

/-- each of these may come now -/
structure AGs (P : Program) (T : Nat → TI) (ops : Array Oper) (l : List Nat) (d : List Nat) (f : Nat) (kn : List (Nat × Bool)) (J : List AV → List ABlk → Prop) (E : List AV) (H : List ABlk) : Prop where
  run : ∀ i ∈ l, ∀ (C : Ctx) (R : Exit → Act → World → Prop), (∀ c a w, ¬ R (.panic c) a w) → Region.noSelect ops = true → (∀ E H a w, J E H → Rel C E H a w → R .normal a w) → ∀ (S : World → Prop) (m : Mu) (I : Nat → Prop) (a : Act) (w : World),
    At C S ops kn E H m I a w → wpOp P ops R i (fun a' w' => S w' ∧ wpAnyH P .any ops R S f ((unl ops d).setIfInBounds i true) a' w') a w

theorem AGs.nil {ops : Array Oper} {d : List Nat} {f : Nat} {kn : List (Nat × Bool)} {J : List AV → List ABlk → Prop} {E : List AV} : AGs P T ops [] d f kn J E H := ⟨fun i hi => by cases hi⟩
theorem AGs.cons (hT : TOk P T) {ops : Array Oper} {i : Nat} {l : List Nat} {d : List Nat} {f : Nat} {kn : List (Nat × Bool)} {J : List AV → List ABlk → Prop} {E : List AV} {o : Oper} (hoi : ops[i]? = some o)
    (h : opK P T ops o kn E H fun kn E H => AG P T ops (i :: d) f kn J E H) (hl : AGs P T ops l d f kn J E H) : AGs P T ops (i :: l) d f kn J E H :=
  ⟨fun j hj C R hp hs hR S m I a w hA => by
    rcases List.mem_cons.1 hj with rfl | hj
    · obtain ⟨kn', E', hkn', hE', hst⟩ := opK_step hA.rep hA.kn h
      have := step_opH (Q := R) (R := fun a' w' => S w' ∧ wpAnyH P .any ops R S f ((unl ops d).setIfInBounds j true) a' w') hT hA.st hE' hA.dfr hkn' hst (fun kn E H m I a w g1 g2 g3 g4 g5 g6 => by
        have hA' : At C S ops kn E H m I a w := ⟨g2, g3, g4, g5, fun w' hw' => hA.s w' (hw'.ext g6)⟩
        exact ⟨hA'.now, g1.run C R hp hs hR S m I a w hA'⟩)
      unfold wpOp
      rw [hoi]
      exact this
    · exact hl.run j hj C R hp hs hR S m I a w hA⟩

theorem AG.alt {ops : Array Oper} {d : List Nat} {f : Nat} {kn : List (Nat × Bool)} {J : List AV → List ABlk → Prop} {E : List AV} (i : Nat) (l : List Nat) (h1 : (Region.ready .any ops (unl ops d) == i :: l) = true) (h : AGs P T ops (i :: l) d f kn J E H) : AG P T ops d (f + 1) kn J E H :=
  ⟨fun C R hp hs hR S m I a w hA => wpAnyH_all (by simpa using h1) (by simp) (fun k hk => h.run k (by simpa using hk) C R hp hs hR S m I a w hA)⟩

theorem AW.orders (hm : P.follows .mixedOrders = true) {k id : Nat} {ops : Array Oper} {Q : Exit → List AV → List ABlk → Prop} {E : List AV} (hs : Region.noSelect ops = true) (n : Nat) (hn : ops.size = n) (h : AG P T ops [] n [] (Q .normal) E H) : AW P T k (.region id ops true) Q E H :=
  ⟨fun C a w hC ⟨m, I, hst, hE, hd⟩ => by
    subst hn
    obtain ⟨hs', he⟩ := hst.world (w' := { w with drawn := w.drawn + 1 }) rfl ⟨rfl, rfl⟩
    refine wp_region_any hm ?_
    have := h.run C (QR C Q) (fun c a w hc => hc) hs (fun E H a w hq hr => ⟨E, H, hq, hr⟩) (fun _ => True) m I a _ ⟨hs', RepL.ext he _ _ hE, hd, (fun _ hx => by cases hx), fun _ _ => trivial⟩
    exact wpAny_of_held _ _ _ _ this⟩
end
end Go.Aw

/-
  Aw, part 30: maps that are cleared, entries that are taken out.
-/
set_option linter.unusedSimpArgs false
set_option linter.unusedVariables false
namespace Go.Aw
open Go Go.Maps

section
variable {P : Program} {T : Nat → TI} {C : Ctx} {m : Mu} {I : Nat → Prop} {H : List ABlk} {w : World}
variable {α β : Type} {kv : α → Value} {ek : α → AV} {ok : α → Prop} {eb : β → AV} {L : List (α × β)} {kt et t : Nat}

theorem erase_map {γ δ : Type} (f : γ → δ) : ∀ (l : List γ) (j : Nat), (l.eraseIdx j).map f = (l.map f).eraseIdx j
  | [], _ => by simp
  | _ :: _, 0 => by simp
  | x :: l, j + 1 => by simp [erase_map f l j]

theorem AOp.clear {E : List AV} {K : AV → List ABlk → Prop} {mo : Operand} {l : Nat} {es : List (AV × AV)} {bs : List Nat} {clk : Nat} {args : Array Operand} {ts : Array Nat}
    (ht : P.underlying t = some (.map kt et)) (ha : args = #[mo]) (hts : ts = #[t]) (hm : ev E mo = .mp l) (hH : H[l]? = some (.map es bs clk))
    (k : K .any (H.set l (.map [] [] clk))) : AOp P (.call ⟨.builtin .clear, args, ts⟩) E H K := by
  subst ha; subst hts
  rw [AOp.iff]
  intro C m I w a' dst type pos after guard Q hs hE
  obtain ⟨b, ents, hb, hnI, hw, hr⟩ := hs.map_at hH
  have em1 := ev_rep (o := mo) hE
  rw [hm] at em1
  have e1 := hs.mp_val hb em1
  obtain ⟨hs', he⟩ := hs.putMap hH hb hw (es' := []) (bs' := []) (clk' := clk) (ents' := []) ⟨by simp [RepL], by simp [RepL], rfl, List.nodup_nil, by simp⟩
  refine wp_val_of (s := Builtin.clear_ #[t] type ((#[mo] : Array Operand).map a'.eval)) (v := .tuple #[]) k (by simp [Rep]) hs' he ?_ rfl
  rw [show (#[mo] : Array Operand).map a'.eval = #[a'.eval mo] by simp, e1]
  simp [Builtin.clear_, run_underlying ht, MapKept.run_getObj_map hw, MapKept.run_setObj_map _ hw, Result.andThen]

theorem rep_erase {bs : List Nat} {clk : Nat} {ents : List MapEntry} (hr : MapRep w m I (em ek eb L) bs clk ents) (j : Nat) :
    MapRep w m I (em ek eb (L.eraseIdx j)) (bs.eraseIdx j) clk (ents.eraseIdx j) := by
  obtain ⟨r1, r2, r3, r4, r5⟩ := hr
  have hsp : ∀ {xs : List AV} {ys : List Value} (j : Nat), RepL w m I xs ys → RepL w m I (xs.eraseIdx j) (ys.eraseIdx j) := by
    intro xs
    induction xs with
    | nil => intro ys j h; simp only [RepL] at h; subst h; simp [RepL]
    | cons x xs ih =>
      intro ys j h
      simp only [RepL] at h
      obtain ⟨y, zs, rfl, h1, h2⟩ := h
      cases j with
      | zero => simpa using h2
      | succ j => simp only [List.eraseIdx_cons_succ, RepL]; exact ⟨y, _, rfl, h1, ih j h2⟩
  have em1 : ∀ (f : AV × AV → AV) , (em ek eb (L.eraseIdx j)).map f = ((em ek eb L).map f).eraseIdx j := by
    intro f
    simp only [em, erase_map]
  refine ⟨?_, ?_, ?_, ?_, ?_⟩
  · rw [em1, erase_map]; exact hsp j r1
  · rw [em1, erase_map]; exact hsp j r2
  · rw [erase_map, r3]
  · exact r4.sublist (List.eraseIdx_sublist _ _)
  · exact fun s hs => r5 s ((List.eraseIdx_sublist _ _).subset hs)

theorem AOp.delete {E : List AV} {K : AV → List ABlk → Prop} {mo ko : Operand} {l : Nat} {bs : List Nat} {clk : Nat} {a : α} {args : Array Operand} {ts : Array Nat}
    (hK : KEnc P kt kv ek ok) (ht : P.underlying t = some (.map kt et)) (hag : args = #[mo, ko]) (hts : ts = #[t, kt]) (hm : ev E mo = .mp l) (hk : ev E ko = ek a) (hH : H[l]? = some (.map (em ek eb L) bs clk)) (hL : ∀ p ∈ L, ok p.1) (ha : ok a)
    (h0 : (∀ p ∈ L, p.1 ≠ a) → K .any H) (h1 : ∀ (j : Nat) b, L[j]? = some (a, b) → K .any (H.set l (.map (em ek eb (L.eraseIdx j)) (bs.eraseIdx j) clk))) : AOp P (.call ⟨.builtin .delete, args, ts⟩) E H K := by
  subst hag; subst hts
  rw [AOp.iff]
  intro C m I w a' dst type pos after guard Q hs hE
  obtain ⟨b, ents, hb, hnI, hw, hr⟩ := hs.map_at hH
  have em1 := ev_rep (o := mo) hE
  have ek1 := ev_rep (o := ko) hE
  rw [hm] at em1; rw [hk] at ek1
  have e1 := hs.mp_val hb em1
  have e2 := hK.rep _ _ _ _ _ ek1
  obtain ⟨lx, hlx⟩ := hK.lit a ha
  have hchk := fun em => hK.keyed.check w em hlx
  rcases find_em hK hr hL ha w with ⟨f1, f2⟩ | ⟨j, bv, e, f1, f2, f3, f4, f5⟩
  · obtain ⟨hs', he⟩ := hs.putMap hH hb hw hr
    have hset : H.set l (.map (em ek eb L) bs clk) = H := set_same hH
    rw [hset] at hs'
    refine wp_val_of (s := Builtin.delete_ #[t, kt] type ((#[mo, ko] : Array Operand).map a'.eval)) (v := .tuple #[]) (h0 f2) (by simp [Rep]) hs' he ?_ rfl
    rw [show (#[mo, ko] : Array Operand).map a'.eval = #[a'.eval mo, a'.eval ko] by simp, e1, e2]
    simp [Builtin.delete_, run_underlying ht, MapKept.run_getObj_map hw, hchk, f1, MapKept.run_setObj_map _ hw, Result.andThen]
  · obtain ⟨hs', he⟩ := hs.putMap hH hb hw (rep_erase hr j)
    refine wp_val_of (s := Builtin.delete_ #[t, kt] type ((#[mo, ko] : Array Operand).map a'.eval)) (v := .tuple #[]) (h1 j bv f2) (by simp [Rep]) hs' he ?_ rfl
    have hj : j < ents.length := (List.getElem?_eq_some_iff.1 f3).1
    rw [show (#[mo, ko] : Array Operand).map a'.eval = #[a'.eval mo, a'.eval ko] by simp, e1, e2]
    simp [Builtin.delete_, run_underlying ht, MapKept.run_getObj_map hw, hchk, f1, MapKept.run_setObj_map _ hw, Result.andThen, Array.eraseIdxIfInBounds, hj]
end
end Go.Aw

/-
  Aw, part 31: the library's sort of numbers, its copy of a map.
-/
set_option linter.unusedSimpArgs false
set_option linter.unusedVariables false
namespace Go.Aw
open Go Go.Maps Go.Proofs Go.Sort

section
variable {P : Program} {T : Nat → TI} {C : Ctx} {m : Mu} {I : Nat → Prop} {H : List ABlk} {w : World}

def nv (n : Int) : AV := .v (.int .i64 n)
theorem nvs_rep : ∀ {l : List Int} {ys : List Value}, RepL w m I (l.map nv) ys → ys = l.map (Value.int .i64)
  | [], ys, h => by simpa [RepL] using h
  | x :: l, ys, h => by
    simp only [List.map_cons, RepL, nv, Rep] at h
    obtain ⟨y, zs, rfl, rfl, h2⟩ := h
    rw [nvs_rep h2, List.map_cons]
theorem nvs_mk : ∀ (l : List Int), RepL w m I (l.map nv) (l.map (Value.int .i64))
  | [] => by simp [RepL]
  | x :: l => by simp only [List.map_cons, RepL, nv, Rep]; exact ⟨_, _, rfl, rfl, nvs_mk l⟩

theorem Spec.sortI {f e : Nat} (hc : ∀ (blk cap : Nat) (zs : List Int) (w : World), Holds (Value.int .i64) w blk 0 zs.toArray → blk < w.heap.size → zs.length < 4611686018427387904 → Calls P f #[.slice (some ⟨blk, 0, none⟩) zs.length cap] w fun e w' => e = .returned (.tuple #[]) ∧ ∃ n os, w' = grow (putRow (Value.int .i64) (Sort.ahead w n) blk 0 (zs.mergeSort fun x y => decide (x ≤ y)).toArray) os)
    (l : List Int) (hl : l ≠ []) (hsz : l.length < 4611686018427387904) : Spec P f [.ms 1 0 0 l.length] [.cells e (l.map nv)] (fun r H => r = .tup [] ∧ H = [.cells e ((l.mergeSort fun x y => decide (x ≤ y)).map nv)]) := by
  intro C m I w vs hs hr
  have hlpos : 0 < l.length := List.length_pos_iff.2 hl
  simp only [RepL, Rep] at hr
  obtain ⟨y, zs, rfl, ⟨hlt, hy⟩, rfl⟩ := hr
  rcases hy with ⟨_, h0, _⟩ | ⟨b, cap, o, hb, rfl, hcap, hfit, ho⟩
  · omega
  obtain rfl : o = 0 := ho (by omega)
  have hB := hs.blks 0 _ rfl
  simp only [BlkRep] at hB
  rcases hB with ⟨h2, _⟩ | ⟨b', ys, fr, h2, h3, h4, h5, h6, h7, yy1, yy2, rfl, h8⟩
  · rw [h2] at hb; cases hb
  rw [hb] at h2; cases h2
  have hy1 := nvs_rep h8
  subst hy1
  generalize hs' : (l.mergeSort fun x y => decide (x ≤ y)) = l' at *
  have hl' : l'.length = l.length := by rw [← hs', List.length_mergeSort]
  have hblk : b < w.heap.size := (Array.getElem?_eq_some_iff.1 h4).1
  have hH : Holds (Value.int .i64) w b 0 l.toArray := by
    intro j hj
    have hj' : j < l.length := by simpa using hj
    refine ⟨?_, ?_⟩
    · unfold World.cell?
      simp only [h4, Nat.zero_add]
      rw [getElem!_pos _ j hj]
      simp [List.getElem?_append_left, hj']
    · unfold World.frozen?
      simp only [h4, Nat.zero_add]
      exact h5 j (by rw [List.length_append, List.length_map]; omega)
  have hcall := hc b cap l w hH hblk hsz
  refine hcall.mono fun e' w' ⟨he, n, os, hw'⟩ => ?_
  rw [hs'] at hw'
  have hlen2 : (l'.map (Value.int .i64) ++ yy2).length = (l.map (Value.int .i64) ++ yy2).length := by
    rw [List.length_append, List.length_append, List.length_map, List.length_map, hl']
  have hput : (putRow (Value.int .i64) (Sort.ahead w n) b 0 l'.toArray).heap[b]? = some (.cells ⟨l'.map (Value.int .i64) ++ yy2⟩ e fr) := by
    show (w.heap.modify b _)[b]? = _
    rw [Array.getElem?_modify, if_pos rfl, h4]
    show some (Obj.cells _ e fr) = _
    congr 2
    apply Array.ext'
    unfold putCells
    apply List.ext_getElem?
    intro t
    rw [Array.getElem?_toList, Array.getElem?_mapIdx]
    simp only [Nat.zero_le, true_and, Nat.zero_add, Nat.sub_zero, List.size_toArray]
    by_cases ht : t < l'.length
    · rw [List.getElem?_append_left (by rw [List.length_map]; exact ht), List.getElem?_map, List.getElem?_eq_getElem ht]
      rw [Array.getElem?_eq_getElem (by show t < (l.map (Value.int .i64) ++ yy2).length; rw [List.length_append, List.length_map]; omega)]
      simp only [Option.map_some, ht, if_true]
      rw [getElem!_pos _ t (by simpa using ht)]
      simp
    · rw [List.getElem?_append_right (by rw [List.length_map]; omega), List.length_map]
      simp only [ht, if_false]
      rw [List.getElem?_toArray, List.getElem?_append_right (by rw [List.length_map]; omega), List.length_map, hl']
      cases yy2[t - l.length]? <;> rfl
  have hsize1 : (putRow (Value.int .i64) (Sort.ahead w n) b 0 l'.toArray).heap.size = w.heap.size := by
    show (w.heap.modify b _).size = _
    simp
  obtain ⟨hs1, he1⟩ := hs.put (w' := putRow (Value.int .i64) (Sort.ahead w n) b 0 l'.toArray) (l := 0) (B' := .cells e (l'.map nv)) rfl trivial hsize1 ⟨rfl, rfl⟩ (fun b' hb' => by
    show (w.heap.modify b _)[b']? = _
    rw [Array.getElem?_modify, if_neg (fun e => hb' (by rw [← e]; exact hb))]) (fun hx => by
    simp only [BlkRep]
    refine .inr ⟨b, _, fr, hb, h3, hput, ?_, ?_, ?_, _, yy2, rfl, nvs_mk _⟩
    · rw [hlen2]; exact h5
    · rw [hlen2]; exact h6
    · intro u hu
      rcases List.mem_append.1 hu with hu | hu
      · obtain ⟨x, _, rfl⟩ := List.mem_map.1 hu; rfl
      · exact h7 u (by simp [hu]))
  have hgrow : Grown (putRow (Value.int .i64) (Sort.ahead w n) b 0 l'.toArray) w' := by
    rw [hw']
    unfold grow
    refine ⟨by simp, fun b' hb' => ?_⟩
    show (_ ++ os)[b']? = _
    rw [Array.getElem?_append_left hb']
  obtain ⟨hs2, he2⟩ := hs1.grown hgrow (by rw [hw']; exact ⟨rfl, rfl⟩)
  refine ⟨.tup [], .tuple #[], _, m, I, he, ⟨rfl, rfl⟩, ?_, hs2, he1.trans he2⟩
  simp only [Rep, RepL]; exact ⟨[], rfl, rfl⟩

/-- The library's copy of a map. -/
theorem Spec.mapsClone {f : Nat} (hc : ∀ (b : Nat) (es : Array MapEntry) (clock : Nat) (w : World), w.heap[b]? = some (.map es clock) → Calls P f #[.map (some b)] w fun e w' => e = .returned (.map (some w.heap.size)) ∧ w' = w.alloc (.map es clock))
    (es : List (AV × AV)) (bs : List Nat) (ck : Nat) : Spec P f [.mp 0] [.map es bs ck] (fun r H => r = .mp 1 ∧ H = [.map es bs ck, .map es bs ck]) := by
  intro C m I w vs hs hr
  obtain ⟨b, ents, hb, hnI, hw, hrep⟩ := hs.map_at (l := 0) rfl
  simp only [RepL, Rep] at hr
  obtain ⟨y, zs, rfl, ⟨_, b', hb', rfl⟩, rfl⟩ := hr
  rw [hb] at hb'; cases hb'
  refine (hc b ⟨ents⟩ ck w hw).mono fun e' w' ⟨he, hw'⟩ => ?_
  subst hw'
  obtain ⟨hs', hx⟩ := hs.push (w' := w.alloc (.map ⟨ents⟩ ck)) (bo := some w.heap.size) (s := 0) (B := .map es bs ck) (by simp) ⟨rfl, rfl⟩ (fun b hb => by show (w.heap.push _)[b]? = _; rw [Array.getElem?_push, if_neg (Nat.ne_of_lt hb)]) (fun b hb => by cases hb; exact Nat.le_refl _) (fun hx => by
    simp only [BlkRep, Mu.push_new.1]
    exact ⟨w.heap.size, ents, rfl, fun hi => by have := hs.immlt _ hi; omega, (by show (w.heap.push _)[w.heap.size]? = _; rw [Array.getElem?_push, if_pos rfl]), hrep.ext hx⟩)
  have hn : m.n = 1 := hs.n
  refine ⟨.mp 1, _, _, _, I, he, ⟨rfl, rfl⟩, ?_, hs', hx⟩
  simp only [Rep]
  rw [← hn, Mu.push_new.1]
  exact ⟨by simp [Mu.push], _, rfl, rfl⟩
end
end Go.Aw

/-
  Aw, part 32: cells of a list's elements, one changed.
-/
set_option linter.unusedSimpArgs false
set_option linter.unusedVariables false
namespace Go.Aw
open Go

section
variable {α : Type} {enc : α → List AV} {sz : Nat}

theorem flat_set (hs : ∀ x, (enc x).length = sz) : ∀ (xs : List α) (i k : Nat) (h : i < xs.length) (v : AV) (x' : α), k < sz → (enc xs[i]).set k v = enc x' → (xs.flatMap enc).set (i * sz + k) v = (xs.set i x').flatMap enc
  | x :: xs, 0, k, h, v, x', hk, he => by
    rw [Nat.zero_mul, Nat.zero_add, List.flatMap_cons, List.set_append_left _ _ (by rw [hs]; exact hk), List.set_cons_zero, List.flatMap_cons]
    congr 1
  | x :: xs, i + 1, k, h, v, x', hk, he => by
    have e : (i + 1) * sz + k = (enc x).length + (i * sz + k) := by rw [hs, Nat.add_mul]; omega
    have h' : i < xs.length := by simpa using h
    rw [List.flatMap_cons, e, List.set_append_right _ _ (by omega), List.set_cons_succ, List.flatMap_cons, Nat.add_sub_cancel_left, flat_set hs xs i k h' v x' hk (by simpa using he)]

theorem flat_spl (hs : ∀ x, (enc x).length = sz) : ∀ (xs : List α) (i : Nat) (h : i < xs.length) (x' : α), spl (xs.flatMap enc) (i * sz) (enc x') = (xs.set i x').flatMap enc
  | x :: xs, 0, h, x' => by
    unfold spl
    rw [Nat.zero_mul, Nat.zero_add, List.take_zero, List.nil_append, List.flatMap_cons, List.set_cons_zero, List.flatMap_cons, List.drop_left' (by rw [hs, hs])]
  | x :: xs, i + 1, h, x' => by
    have ih := flat_spl hs xs i (by simpa using h) x'
    unfold spl at ih ⊢
    have e : (i + 1) * sz = (enc x).length + i * sz := by rw [hs, Nat.add_mul]; omega
    rw [List.flatMap_cons, List.set_cons_succ, List.flatMap_cons, e, List.take_append, List.drop_append, List.take_of_length_le (by omega), List.drop_eq_nil_of_le (by omega), List.nil_append, ← ih]
    have a1 : (enc x).length + i * sz - (enc x).length = i * sz := by omega
    have a2 : (enc x).length + i * sz + (enc x').length - (enc x).length = i * sz + (enc x').length := by omega
    rw [a1, a2]
    simp only [List.append_assoc]

/-- one cell of element i is changed -/
theorem AUpd.flat1 (hs : ∀ x, (enc x).length = sz) {xs : List α} {o : Nat} {v : AV} {K : List AV → Prop} (i k : Nat) (x' : α) (ho : o = i * sz + k) (h : i < xs.length) (hk : k < sz) (he : (enc xs[i]).set k v = enc x')
    (q : K ((xs.set i x').flatMap enc)) : AUpd (xs.flatMap enc) o [v] K := by
  subst ho
  have hl : i * sz + k < (xs.flatMap enc).length := by
    rw [flat_length hs]
    have := Nat.mul_le_mul_right sz (show i + 1 ≤ xs.length from h)
    rw [Nat.add_mul] at this; omega
  refine AUpd.set hl ?_
  rw [flat_set hs xs i k h v x' hk he]; exact q
/-- element i is another one -/
theorem AUpd.flat (hs : ∀ x, (enc x).length = sz) {xs : List α} {o : Nat} {cs : List AV} {K : List AV → Prop} (i : Nat) (x' : α) (ho : o = i * sz) (h : i < xs.length) (hc : cs = enc x')
    (q : K ((xs.set i x').flatMap enc)) : AUpd (xs.flatMap enc) o cs K := by
  subst ho hc
  rw [AUpd.iff, flat_length hs, hs, flat_spl hs xs i h]
  have := Nat.mul_le_mul_right sz (show i + 1 ≤ xs.length from h)
  rw [Nat.add_mul] at this
  exact ⟨by omega, q⟩
theorem AIdx.atZ (hs : ∀ x, (enc x).length = sz) {xs : List α} (i : Nat) {j : Nat} {K : List AV → Prop} (hj : j = i) (h : i < xs.length) (k : K (enc xs[i])) : AIdx (drp (xs.flatMap enc) 0) sz j K := by
  rw [drp_zero]; exact AIdx.at hs i hj h k

/-- the first i of one list, the rest of another one -/
def mix {β : Type} (xs ys : List β) (i : Nat) : List β := xs.take i ++ ys.drop i
variable {β : Type} {xs ys : List β} {i : Nat}
theorem mix_zero : mix xs ys 0 = ys := by simp [mix]
theorem mix_all (h : xs.length = i) (hl : ys.length = i) : mix xs ys i = xs := by
  unfold mix; rw [List.take_of_length_le (by omega), List.drop_eq_nil_of_le (by omega), List.append_nil]
theorem mix_len (h : xs.length = ys.length) : (mix xs ys i).length = ys.length := by
  unfold mix; rw [List.length_append, List.length_take, List.length_drop]; omega
theorem mix_get (h : xs.length = ys.length) (hi : i < ys.length) : (mix xs ys i)[i]? = some ys[i] := by
  unfold mix
  rw [List.getElem?_append_right (by rw [List.length_take]; omega), List.length_take, Nat.min_eq_left (by omega), Nat.sub_self, List.getElem?_drop, Nat.add_zero, List.getElem?_eq_getElem hi]
theorem mix_set (h : xs.length = ys.length) (hi : i < ys.length) : (mix xs ys i).set i (xs[i]'(by omega)) = mix xs ys (i + 1) := by
  unfold mix
  rw [List.set_append_right _ _ (by rw [List.length_take]; omega), List.length_take, Nat.min_eq_left (by omega), Nat.sub_self, List.drop_eq_getElem_cons hi, List.set_cons_zero, List.take_add_one, List.getElem?_eq_getElem (show i < xs.length by omega), List.append_assoc]
  rfl
end
end Go.Aw

/-
  Aw, part 33: a block that code only reads is held still.
-/
set_option linter.unusedSimpArgs false
set_option linter.unusedVariables false
namespace Go.Aw
open Go

section
variable {P : Program} {T : Nat → TI} {H : List ABlk}

theorem AW.still {k : Nat} {c : Code} {Q : Exit → List AV → List ABlk → Prop} {E : List AV} {l t : Nat} {xs : List AV} (hl : H[l]? = some (.cells t xs)) (E1 : List AV) (hp : plainL E1) (hH : ∀ b ∈ H, b.live → b.plain)
    (h : AW P T H.length c (fun e E' H' => match e with | .normal => AOut H.length E' H' (fun E'' H'' => E'' = E1 ∧ H'' = H.set l (.ice t xs)) | _ => False) E (H.set l (.ice t xs))) (q : Q .normal E1 H) : AW P T k c Q E H :=
  ⟨fun C a w hC hr => by
    obtain ⟨m, I, hs, hE, hd⟩ := hr
    obtain ⟨hs1, he1⟩ := hs.freeze hl
    have hs2 := St.dfr (d := C.dfr) hs1.rebase
    have hlt : l < H.length := (List.getElem?_eq_some_iff.1 hl).1
    have hlive : ∀ j, Live (H.set l (.ice t xs)) j → Live H j ∧ j ≠ l := by
      rintro j ⟨b, h1, h2⟩
      by_cases e : l = j
      · subst e; rw [List.getElem?_set_self hlt] at h1; cases h1; exact h2.elim
      · rw [List.getElem?_set_ne e] at h1; exact ⟨⟨b, h1, h2⟩, fun h => e h.symm⟩
    have hliveb : ∀ j, j ≠ l → Live H j → Live (H.set l (.ice t xs)) j := by
      rintro j hj ⟨b, h1, h2⟩
      exact ⟨b, by rw [List.getElem?_set_ne (fun e => hj e.symm)]; exact h1, h2⟩
    have hLl : Live H l := ⟨_, hl, trivial⟩
    generalize hC' : ({ Ctx.mk w _ _ m _ _ _ _ with dfr := C.dfr } : Ctx) = C' at hs2
    have c1 : C'.w0 = w := by subst hC'; rfl
    have c2 : C'.I0 = fun b => I b ∨ m.blk l = some b := by subst hC'; rfl
    have c3 : C'.m0 = m := by subst hC'; rfl
    have c4 : C'.dfr = C.dfr := by subst hC'; rfl
    have c5 : ∀ b, C'.O b → ∃ j, Live (H.set l (.ice t xs)) j ∧ m.blk j = some b := by subst hC'; exact fun b hb => hb
    refine wp_mono (h.run C' a w (by rw [c3]; exact Nat.le_of_eq hs.n) ⟨m, _, hs2, RepL.ext he1 _ _ hE, by rw [c4]; exact hd⟩) (fun e a' w' hq => ?_)
    have hmain : (∃ E' H', (E' = E1 ∧ H' = H.set l (.ice t xs)) ∧ Rel C' E' H' a' w') → ∃ E' H', Q .normal E' H' ∧ Rel C E' H' a' w' := by
      rintro ⟨_, _, ⟨rfl, rfl⟩, m', I', hs3, hE3, hd3⟩
      have hn' : m'.n = H.length := by rw [hs3.n, List.length_set]
      have hmb : ∀ j, j < m.n → m'.blk j = m.blk j := fun j hj => by rw [hs3.m0b j (by rw [c3]; exact hj), c3]
      have hms : ∀ j, j < m.n → m'.size j = m.size j := fun j hj => by rw [hs3.m0s j (by rw [c3]; exact hj), c3]
      have hold : ∀ b, b < w.heap.size → ¬ C'.O b → w'.heap[b]? = w.heap[b]? := fun b h1 h2 => by
        have := hs3.old b (by rw [c1]; exact h1) h2
        rw [c1] at this; exact this
      have hOl : ∀ b, m.blk l = some b → ¬ C'.O b := by
        intro b hb ho
        obtain ⟨j, h1, h2⟩ := c5 b ho
        obtain ⟨h3, h4⟩ := hlive j h1
        exact h4 (hs.dist j l b h3 hLl h2 hb)
      have hOI : ∀ b, I b → ¬ C'.O b := by
        intro b hb ho
        obtain ⟨j, h1, h2⟩ := c5 b ho
        exact (hs.live_lt (hlive j h1).1 h2).2 hb
      have hIl : ∀ b, I b → m.blk l ≠ some b := fun b hb e => (hs.live_lt hLl e).2 hb
      have hII : ∀ b, I b → I' b := fun b hb => hs3.imm0 b (by rw [c2]; exact .inl hb)
      have hext : Ext w m I w' m' (fun b => I' b ∧ m.blk l ≠ some b) :=
        ⟨by rw [hn', hs.n]; exact Nat.le_refl _, hmb, hms, fun b hb => ⟨hII b hb, hIl b hb⟩, fun b hb => hold b (hs.immlt b hb) (hOI b hb)⟩
      refine ⟨_, H, q, m', fun b => I' b ∧ m.blk l ≠ some b, ?_, plainL_rep _ _ hp hE3, by rw [← c4]; exact hd3⟩
      refine ⟨hn', ?_, ?_, ?_, ?_, ?_, fun b hb => ⟨hII b (hs.imm0 b hb), hIl b (hs.imm0 b hb)⟩, ?_, fun b hb => hs3.immlt b hb.1, by rw [hn', ← hs.n]; exact hs.m0n, ?_, ?_, ?_⟩
      · intro j b hb
        have hjm : j < m.n := by rw [hs.n]; exact (List.getElem?_eq_some_iff.1 hb).1
        by_cases hv : b.live
        · by_cases e : j = l
          · subst e
            exact (hs.blks j b hb).ext hext hjm (fun x hx _ => ⟨hold x ((hs.blks j b hb).lt hv hx).1 (hOl x hx), fun hi => hi.2 hx⟩)
          · have hb3 : (H.set l (.ice t xs))[j]? = some b := by rw [List.getElem?_set_ne (fun g => e g.symm)]; exact hb
            exact plain_blk (hH b (List.mem_of_getElem? hb) hv) (fun x hx => hx.1) (hs3.blks j b hb3)
        · exact (hs.blks j b hb).ext hext hjm (fun x _ h => absurd h hv)
      · intro i j x h1 h2 h3 h4
        have hi : i < m.n := by obtain ⟨b, hb, _⟩ := h1; rw [hs.n]; exact (List.getElem?_eq_some_iff.1 hb).1
        have hj : j < m.n := by obtain ⟨b, hb, _⟩ := h2; rw [hs.n]; exact (List.getElem?_eq_some_iff.1 hb).1
        rw [hmb i hi] at h3; rw [hmb j hj] at h4
        exact hs.dist i j x h1 h2 h3 h4
      · intro b h1 h2
        have h3 : b < w.heap.size := Nat.lt_of_lt_of_le h1 hs.size
        rw [hold b h3 (fun ho => ?_)]
        · exact hs.old b h1 h2
        · obtain ⟨j, g1, g2⟩ := c5 b ho
          rcases hs.own j b (hlive j g1).1 g2 with g3 | g3
          · exact h2 g3
          · omega
      · have := hs3.size; rw [c1] at this; exact Nat.le_trans hs.size this
      · intro j b h1 h2
        have hj : j < m.n := by obtain ⟨x, hx, _⟩ := h1; rw [hs.n]; exact (List.getElem?_eq_some_iff.1 hx).1
        rw [hmb j hj] at h2
        exact hs.own j b h1 h2
      · rintro b ⟨h1, h2⟩
        rcases hs3.imm b h1 with h3 | h3 | h3
        · rw [c2] at h3
          rcases h3 with h3 | h3
          · exact hs.imm b h3
          · exact absurd h3 h2
        · obtain ⟨j, g1, g2⟩ := c5 b h3
          exact .inr (hs.own j b (hlive j g1).1 g2)
        · rw [c1] at h3; exact .inr (.inr (Nat.le_trans hs.size h3))
      · intro j hj
        have := hs.m0n
        rw [hmb j (by omega)]; exact hs.m0b j hj
      · intro j hj
        have := hs.m0n
        rw [hms j (by omega)]; exact hs.m0s j hj
      · have := hs3.side; rw [c1] at this
        exact ⟨this.1.trans hs.side.1, this.2.trans hs.side.2⟩
    cases e with
    | normal =>
      obtain ⟨E', H', ho, h3⟩ := hq
      obtain ⟨E'', H'', h1, h2⟩ := AOut.iff.1 ho
      exact hmain ⟨E'', H'', h2, h1.rel (by rw [c3]; exact Nat.le_of_eq hs.n) h3⟩
    | panic c => exact hq.elim
    | outgrown => exact hq.elim
    | exit i => obtain ⟨_, _, h1, _⟩ := hq; exact h1.elim
    | goto i => obtain ⟨_, _, h1, _⟩ := hq; exact h1.elim
    | ret => obtain ⟨_, _, h1, _⟩ := hq; exact h1.elim⟩
end
end Go.Aw

/-
  Aw, part 34: a load of what stays, under a guard that is known.
-/
set_option linter.unusedSimpArgs false
set_option linter.unusedVariables false
namespace Go.Aw
open Go

section
variable {P : Program} {T : Nat → TI} {C : Ctx} {m : Mu} {I : Nat → Prop} {H : List ABlk} {w : World}

theorem take_immG (hT : TOk P T) {ops : Array Oper} {i : Nat} {o : Oper} {t : Nat} {x : Operand} {g : Nat × Bool} (hoi : ops[i]? = some o) (hop : o.op = .load t x) (hg : o.guard = some g) {kn : List (Nat × Bool)} (hkn : kno kn g.1 = some g.2) {E : List AV} {K : List (Nat × Bool) → List AV → List ABlk → Prop}
    (hk : evK E x fun p => ifK (immB p H) (loadAtK T H t p fun v => putK E o.dst v fun E => knPut ops o.dst kn fun kn => K kn E H))
    {R : Exit → Act → World → Prop} (hp : ∀ c a w, ¬ R (.panic c) a w) (hs : Region.noSelect ops = true) {a : Act} {d : List Nat} {f : Nat} {S : World → Prop} (hA : At C S ops kn E H m I a w) (h1 : immOk ops (unl ops d) i = true)
    (hR : ∀ kn E H m I a w S, K kn E H → At C S ops kn E H m I a w → wpAnyH P .any ops R S f (unl ops (i :: d)) a w) : wpAnyH P .any ops R S (f + 1) (unl ops d) a w := by
  obtain ⟨p, hk, hpr⟩ := evK_sound hA.rep hk
  obtain ⟨him, hk⟩ := ifK_iff.1 hk
  obtain ⟨v, y, g1, g2, g3⟩ := loadAtK_imm (P := P) hT hA.st him hk hpr
  rw [putK_eq] at g1
  obtain ⟨kn', g4, g5⟩ := knPut_spec g1 hA.kn
  simp only [immOk, Bool.and_eq_true] at h1
  have hrun : ∀ w', KeepsI I w w' → (execOp a.eval o).run P w' = .ok (.value y) w' := by
    intro w' hw'
    obtain ⟨dst, op, type, pos, after, guard⟩ := o
    simp only at hop
    subst hop
    have : execOp a.eval ⟨dst, .load t x, type, pos, after, guard⟩ = (do let v ← Instr.loadAt t (a.eval x); pure (.value v)) := rfl
    rw [this, Sem.run_bind, g3 w' hw']; rfl
  have hwant : Region.wanted o (yielded ops a.tmps) = true := by
    have hy := hA.kn _ (kno_mem hkn)
    unfold Region.wanted
    rw [hg]
    simp only at hy
    simp [hy]
  refine held_mono (S := fun w' => S w' ∧ KeepsI I w w') (fun _ h => h.1) _ _ _ _ ?_
  refine wpAnyH_take (v := y) hoi hs h1.1 h1.2 (fun c a w hc => absurd hc (hp c _ w)) (.inl ⟨hwant, fun w' hw' => hrun w' hw'.2⟩) ⟨hA.now, fun _ _ => rfl⟩ ?_
  exact hR _ _ _ _ _ _ _ _ g4 ⟨hA.st, put_rep hA.rep g2, by rw [put_defers]; exact hA.dfr, g5 y, fun w' hw' => ⟨hA.s w' hw', hw'⟩⟩

theorem AF.immG (hT : TOk P T) {ops : Array Oper} {i : Nat} {o : Oper} {t : Nat} {x : Operand} {g : Nat × Bool} {p : Pl} {kn : List (Nat × Bool)} {J : List (Nat × Bool) → List AV → List ABlk → Prop} {E : List AV} (hoi : ops[i]? = some o) (hop : o.op = .load t x) (hg : o.guard = some g) (hkn : kno kn g.1 = some g.2)
    (h : evK E x fun q => ifK (immB q H) (loadAtK T H t q fun v => putK E o.dst v fun E => knPut ops o.dst kn fun kn => AF P T ops p kn J E H)) : AF P T ops (.imm i p) kn J E H :=
  ⟨fun C R hp hs S m I a w d fuel hA ho hR => by
    simp only [brOk, Bool.and_eq_true] at ho
    exact take_immG (f := fuel + planLen p) hT hoi hop hg hkn h hp hs hA ho.1 (fun kn E H m I a w S g1 g2 => g1.run C R hp hs S m I a w (i :: d) fuel g2 ho.2 hR)⟩
end
end Go.Aw

/-
  Aw, part 35: arrays as arguments.
-/
set_option linter.unusedSimpArgs false
set_option linter.unusedVariables false
namespace Go.Aw
open Go Go.ChangeShapes Go.WideShapes Go.RowKit

section
variable {P : Program}
theorem opens_array {t e k : Nat} {α : Type} {enc : α → List AV} {wf : α → Prop} (ht : P.underlying t = some (.array k e)) {sz : Nat} (hz : P.cellsOf e = sz) (htot : P.cellsOf t = k * sz) (h : Opens P e enc wf) :
    Opens P t (fun xs : List α => xs.flatMap enc) (fun xs => xs.length = k ∧ ∀ x ∈ xs, wf x) := by
  intro H en W n cs x hx
  obtain ⟨ys, n', _, _, hl, hyl, hf⟩ := DataW.trod_array ht hx
  rw [htot] at hl
  have key : ∀ m, m ≤ k → ∃ xs : List α, xs.length = m ∧ (∀ x ∈ xs, wf x) ∧ RepL W mu0 (Old W) (xs.flatMap enc) (cs.take (m * sz)) ∧ ∀ u ∈ cs.take (m * sz), u.oneCell' = true := by
    intro m
    induction m with
    | zero => intro _; exact ⟨[], rfl, by simp, by simp [RepL], by simp⟩
    | succ m ih =>
      intro hm
      obtain ⟨xs, g1, g2, g3, g4⟩ := ih (by omega)
      have h1 := hf m (by omega)
      rw [List.getElem?_eq_getElem (by omega)] at h1
      obtain ⟨y, y1, y2, y3⟩ := h H en W n' _ _ h1
      rw [hz] at y2 y3
      have e1 : cs.take ((m + 1) * sz) = cs.take (m * sz) ++ (cs.drop (m * sz)).take sz := by
        rw [Nat.add_mul, Nat.one_mul, List.take_add]
      refine ⟨xs ++ [y], by simp [g1], ?_, ?_, ?_⟩
      · intro x hx
        rcases List.mem_append.1 hx with hx | hx
        · exact g2 x hx
        · simp at hx; subst hx; exact y1
      · rw [List.flatMap_append, e1]
        refine RepL.append g3 ?_
        simpa using y2
      · intro u hu
        rw [e1] at hu
        rcases List.mem_append.1 hu with hu | hu
        · exact g4 u hu
        · exact y3 u hu
  obtain ⟨xs, g1, g2, g3, g4⟩ := key k (Nat.le_refl _)
  rw [List.take_of_length_le (by omega)] at g3 g4
  exact ⟨xs, ⟨g1, g2⟩, g3, g4⟩
theorem okWide_array {W : World} {b0 : Nat} {v : Value} {t e k : Nat} (ht : P.underlying t = some (.array k e)) (h : Value.okWide P W .any b0 t v) : ∃ xs : Array Value, v = .agg xs := by
  simp only [Value.okWide, ht] at h
  obtain ⟨cs, h1, _⟩ := h
  exact ⟨cs, h1⟩
theorem openV_array {t e k : Nat} {α : Type} {enc : α → List AV} {wf : α → Prop} (ht : P.underlying t = some (.array k e)) (h : Opens P t enc wf) : OpenV P t (fun a => .agg (enc a)) wf := by
  intro H en W base v d ps hok ⟨n, hn⟩
  obtain ⟨a, a1, a2, a3⟩ := h H en W n _ _ hn
  obtain ⟨cs, rfl⟩ := okWide_array ht hok
  refine ⟨a, a1, ?_⟩
  simp only [Rep]
  exact ⟨cs.toList, by simp, a2, a3⟩
end
end Go.Aw

/-
  Aw, part 36: labels that nobody jumps to.
-/
set_option linter.unusedSimpArgs false
set_option linter.unusedVariables false
namespace Go.Aw
open Go

section
variable {P : Program} {T : Nat → TI} {H : List ABlk} {k : Nat} {Q : Exit → List AV → List ABlk → Prop} {E : List AV}
theorem AW.label {l : Nat} (h : Q .normal E H) : AW P T k (.label l) Q E H := ⟨fun C a w hC hr => wp_label ⟨E, H, h, hr⟩⟩
theorem AW.scope {c : Code} (h : AW P T k c (fun e E H => match e with | .goto _ => False | e => Q e E H) E H) : AW P T k (.scope c) Q E H :=
  ⟨fun C a w hC hr => by
    refine wp_scope_straight (wp_mono (h.run C a w hC hr) (fun e a' w' hq => ?_))
    cases e with
    | goto l => obtain ⟨_, _, h1, _⟩ := hq; exact h1.elim
    | normal => exact hq
    | exit i => exact hq
    | ret => exact hq
    | panic c => exact hq.elim
    | outgrown => exact hq.elim⟩

/-- what lies in a block is taken for something else -/
theorem Conv.seeIn {xs xs' : List AV} {l t : Nat} (hl : H[l]? = some (.cells t xs)) (h : LendL H [] id xs xs') : Conv k E H E (H.set l (.cells t xs')) := fun C m I w ys _ hs hr => by
  refine ⟨m, I, (hs.put hl trivial rfl ⟨rfl, rfl⟩ (fun _ _ => rfl) (fun _ => ?_)).1, hr⟩
  have hrep : ∀ ys, RepL w m I xs ys → RepL w m I xs' ys := fun ys hr => h.rep hs (mc := m) (I' := I) ⟨fun _ _ => rfl, fun _ _ => rfl, fun _ h => h, fun _ h => h⟩ (fun b hb => hb.elim id (fun ⟨l, hl, _⟩ => by simp at hl)) hr
  have hB := hs.blks l _ hl
  simp only [BlkRep] at hB ⊢
  rcases hB with ⟨h1, h2, h3⟩ | ⟨b, zs, fr, h1, h2, h3, h4, h5, h6, y1, y2, e, h7⟩
  · refine .inl ⟨h1, ?_, h3⟩
    subst h2
    cases h
    rfl
  · exact .inr ⟨b, zs, fr, h1, h2, h3, h4, h5, h6, y1, y2, e, hrep y1 h7⟩
theorem FitN.it {sz n : Nat} : ∀ G : List AV, FitN sz n G G
  | [] => .nil
  | _ :: G => .same (FitN.it G)
theorem LendL.mid {B : List Nat} {x x' : AV} (h : Lend H B id x x') : ∀ (A G : List AV), LendL H B id (A ++ x :: G) (A ++ x' :: G)
  | [], G => .cons h (LendL.it G)
  | a :: A, G => .cons (Lend.it a) (LendL.mid h A G)
theorem FitN.mid {sz n : Nat} : ∀ (A G : List AV), FitN sz n (A ++ .v (.slice none 0 0) :: G) (A ++ .ms sz n 0 0 :: G)
  | [], G => .own (FitN.it G)
  | a :: A, G => .same (FitN.mid A G)
theorem AIdx.mid {A B : List AV} {v : AV} {i : Nat} {K : List AV → Prop} (hi : i = A.length) (q : K [v]) : AIdx (A ++ v :: B) 1 i K := by
  subst hi
  rw [AIdx.iff, Nat.mul_one, List.drop_left]
  refine ⟨by simp, q⟩
theorem AUpd.mid {A B : List AV} {v x : AV} {i : Nat} {K : List AV → Prop} (hi : i = A.length) (q : K (A ++ x :: B)) : AUpd (A ++ v :: B) i [x] K := by
  subst hi
  refine AUpd.to _ (by simp) ?_ q
  simp [spl]
end
end Go.Aw

/-
  Aw, part 37: equality of arrays of numbers.
-/
set_option linter.unusedSimpArgs false
set_option linter.unusedVariables false
namespace Go.Aw
open Go Go.Maps Go.WideShapes

section
variable {P : Program} {T : Nat → TI} {C : Ctx} {m : Mu} {I : Nat → Prop} {H : List ABlk} {w : World}

theorem run_eqItems_cell {d e : Nat} {k : EK} (h : ekOf P e = some k) (xs ys : List Value) (hx : ∀ v ∈ xs, k.fits v = true) (hy : ∀ v ∈ ys, k.fits v = true) (hl : xs.length = ys.length) : ∀ (n s : Nat), s + n = xs.length →
    (Op.eqItems (d + 1) e 1 ⟨xs⟩ ⟨ys⟩ (List.range' s n)).run P w = .ok (eqL (xs.drop s) (ys.drop s)) w
  | 0, s, hs => by
    rw [List.drop_eq_nil_of_le (by omega), List.drop_eq_nil_of_le (by omega)]
    simp [Op.eqItems, eqL]
  | n + 1, s, hs => by
    have hsx : s < xs.length := by omega
    have hsy : s < ys.length := by omega
    have e1 : (part e ⟨xs⟩ (s * 1)).run P w = .ok xs[s] w := by rw [Nat.mul_one]; exact run_part_cell h (List.getElem?_eq_getElem hsx)
    have e2 : (part e ⟨ys⟩ (s * 1)).run P w = .ok ys[s] w := by rw [Nat.mul_one]; exact run_part_cell h (List.getElem?_eq_getElem hsy)
    have e3 := run_equal_cell (w := w) (d := d) h (hx _ (List.getElem_mem hsx)) (hy _ (List.getElem_mem hsy))
    have ih := run_eqItems_cell (d := d) h xs ys hx hy hl n (s + 1) (by omega)
    rw [List.range'_succ, List.drop_eq_getElem_cons hsx, List.drop_eq_getElem_cons hsy, eqL]
    simp only [Op.eqItems, Sem.run_bind, e1, e2, e3, Result.andThen_ok]
    cases eqv xs[s] ys[s] with
    | true => simpa using ih
    | false => simp

theorem AEqs.arr {op : BinOp} (hop : op = .eql ∨ op = .neq) {t e n : Nat} {k : EK} {xs ys : List AV} {vx vy : List Value} {K : AV → Prop} (hu : P.underlying t = some (.array n e)) (hk : ekOf P e = some k) (hc : P.cellsOf e = 1) (hi : (P.info? e).isSome = true) (hd : (Nat.ble 2 P.depth) = true)
    (ex : valsOf xs = some vx) (ey : valsOf ys = some vy) (hx : ∀ v ∈ vx, k.fits v = true) (hy : ∀ v ∈ vy, k.fits v = true) (hlx : vx.length = n) (hly : vy.length = n)
    (kk : K (.v (.bool (if op = .eql then eqL vx vy else !eqL vx vy)))) : AEqs P op t (.agg xs) (.agg ys) K := by
  rw [AEqs.iff]
  intro w m I X Y ox oy h1 h2
  simp only [Rep] at h1 h2
  obtain ⟨X, rfl, h1, _⟩ := h1
  obtain ⟨Y, rfl, h2, _⟩ := h2
  rw [vals_rep ex h1, vals_rep ey h2]
  refine .ofv kk (fun w' => ?_)
  have hg : (eqGuard op t ox oy (.agg ⟨vx⟩) (.agg ⟨vy⟩)).run P w' = .ok () w' := by
    have hd := Nat.le_of_ble_eq_true hd
    have hg : P.eqGuardType P.depth t = false := by
      obtain ⟨d, hd⟩ : ∃ d, P.depth = d + 2 := ⟨P.depth - 2, by omega⟩
      rw [hd]
      unfold Program.eqGuardType
      simp only [hu]
      unfold ekOf at hk
      unfold Program.eqGuardType
      split at hk <;> rename_i hue <;> first
        | (cases hk; done)
        | simp [hue]
    unfold eqGuard
    rcases hop with rfl | rfl <;> simp [hg]
  obtain ⟨i, hi⟩ := Option.isSome_iff_exists.1 hi
  have heq : (Op.equalIn (9998 + 2) t (.agg ⟨vx⟩) (.agg ⟨vy⟩)).run P w' = .ok (eqL vx vy) w' := by
    rw [run_equalIn_array (P := P) w' (9998 + 1) ⟨vx⟩ ⟨vy⟩ hu hi, hc, List.range_eq_range']
    have := run_eqItems_cell (w := w') (d := 9998) hk vx vy hx hy (by omega) n 0 (by omega)
    rw [List.drop_zero, List.drop_zero] at this
    exact this
  rw [show (9998 + 2) = Op.maxDepth from rfl] at heq
  rw [Sem.run_bind, hg]
  rcases hop with rfl | rfl
  · show (binOp .eql t (.agg ⟨vx⟩) (.agg ⟨vy⟩)).run P w' = _
    simp only [binOp, Op.equal, Sem.run_bind]
    rw [heq]
    rfl
  · show (binOp .neq t (.agg ⟨vx⟩) (.agg ⟨vy⟩)).run P w' = _
    simp only [binOp, Op.equal, Sem.run_bind]
    rw [heq]
    rfl
theorem openV_sl {t e : Nat} {α : Type} {val : α → AV} {wf : α → Prop} (ht : P.underlying t = some (.slice e)) (h : Opens P t (fun a => [val a]) wf) : OpenV P t val wf :=
  openV_one h (fun W base v h => by obtain ⟨a, n, c, rfl⟩ := okWide_slice ht h; rfl)
end
end Go.Aw

