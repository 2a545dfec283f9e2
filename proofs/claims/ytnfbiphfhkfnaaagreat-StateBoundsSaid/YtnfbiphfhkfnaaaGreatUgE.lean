/-
  The statement StateBounds: of a state that may be, of no line more is authorised, received or paid back than was shipped and paid, without any condition.
-/
import Derived.Test.YtnfbiphfhkfnaaaGreatUgD
import Derived.Test.YtnfbiphfhkfnaaaGreatUtB
import Derived.Test.YtnfbiphfhkfnaaaGreatUsB
set_option linter.unusedSimpArgs false
set_option linter.unusedVariables false
set_option linter.unusedSimpArgs false
set_option linter.unusedVariables false
set_option maxHeartbeats 4000000
namespace Go.Aw.U1
open Go Go.Proofs

def cvRo (r : Ro) : UT.Ro := ⟨r.g, r.w, r.lo, r.hi, r.way⟩
def cvRu (r : Ru) : UT.Ru := ⟨r.asks, r.cuts, r.fees, r.rows.map cvRo⟩
theorem isV_iVs (l : List Int) : UT.iVs l = isV l := by
  unfold UT.iVs isV
  congr 1
  induction l with
  | nil => rfl
  | cons a l ih => rw [List.map_cons, List.flatMap_cons, ← ih]; rfl
theorem roV_cv (l : List Ro) : UT.roV (l.map cvRo) = roV l := by
  unfold UT.roV roV
  rw [List.length_map, List.flatMap_map]; rfl
theorem ruC_cv (r : Ru) : UT.ruC (cvRu r) = ruC r := by
  simp only [UT.ruC, cvRu, ruC, isV_iVs, roV_cv]
theorem f69 (r : Ru) : Fun P 69 [.agg (ruC r)] (nV (if UT.checkB (cvRu r) then 0 else 36)) := by
  have := UT.f69 (cvRu r)
  rwa [ruC_cv] at this
def rulesB (s : Sta) : Bool :=
  if 0 < (s.rules.asks.length : Int) then UT.checkB (cvRu s.rules) else decide ((s.rules.cuts.length : Int) = 0) && decide ((s.rules.fees.length : Int) = 0) && decide ((s.rules.rows.length : Int) = 0)
theorem f18 (s : Sta) : Fun P 18 [stA s] (bV (rulesB s)) := by
  refine spec_of hT (f := 18) (fn := Go.Proofs.Tryz.f18) (c := body Go.Proofs.Tryz.f18) (by kernel_rfl) (by kernel_rfl) ?_
  unfold rulesB
  conv => whnf
  repeat refine go ?_
  refine ACall.val (args := [stA s]) (by kernel_rfl) (f30 s) (by (first | rfl | (simp only [renL, AV.ren, List.nil_append, List.cons_append, rens]; try rfl))) rfl ?_
  conv => whnf
  repeat refine go ?_
  refine ACond.dec (fun h1 => ?_) (fun h1 => ?_)
  · rw [if_pos h1]
    conv => whnf
    repeat refine go ?_
    refine ACall.val (args := [.agg (ruC s.rules)]) (by kernel_rfl) (f69 s.rules) (by (first | rfl | (simp only [renL, AV.ren, List.nil_append, List.cons_append, rens]; try rfl))) rfl ?_
    cases UT.checkB (cvRu s.rules) with
    | false =>
      conv => whnf
      repeat refine ru ?_
      exact AFin.val rfl ⟨rfl, rfl⟩
    | true =>
    conv => whnf
    repeat refine ru ?_
    exact AFin.val rfl ⟨rfl, rfl⟩
  · rw [if_neg h1]
    conv => whnf
    repeat' (first | refine go ?_ | ((first | refine ASplit.yes rfl ?_ | refine ASplit.no rfl ?_ | refine ACond.yes rfl ?_ | refine ACond.no rfl ?_ | refine ASplit.dec (fun _ => ?_) (fun _ => ?_) | refine ASplit.ndec (fun _ => ?_) (fun _ => ?_) | refine ACond.dec (fun _ => ?_) (fun _ => ?_) | refine ACond.ndec (fun _ => ?_) (fun _ => ?_) | (refine ASplit.mk (fun _ => ?_) (fun _ => ?_))) <;> conv => whnf))
    all_goals refine AFin.val rfl ⟨congrArg bV ?_, rfl⟩
    all_goals simp_all
def cameB (s : Sta) (u : Un) : Bool :=
  unB u && (shT u.s s.orders).ok && (s.rmas.find? (fun x => decide (x.id = u.rma))).isSome && decide ((shT u.s s.orders).o = u.order) && decide ((shT u.s s.orders).l = u.line) && decide ((shT u.s s.orders).p = u.place) &&
    decide (((s.rmas.find? (fun x => decide (x.id = u.rma))).getD rmZ).order = u.order) && decide (((s.orders.find? (fun x => decide (x.id = (shT u.s s.orders).o))).getD odZ).at_ ≤ u.at_) && decide (u.at_ ≤ s.now) && (decide (u.state = 1) || decide (0 < (s.rules.asks.length : Int)))
theorem f71 (s : Sta) (u : Un) (h : StaOk s) (hu : sOk u.s) : Fun P 71 [stA s, unA u] (bV (cameB s u)) := by
  refine spec_of hT (f := 71) (fn := Go.Proofs.Tryz.f71) (c := body Go.Proofs.Tryz.f71) (by kernel_rfl) (by kernel_rfl) ?_
  unfold cameB
  conv => whnf
  repeat refine go ?_
  refine ACall.val (by kernel_rfl) (f26 s u.s h.orders) (by (first | rfl | (simp only [renL, AV.ren, List.nil_append, List.cons_append, rens]; try rfl))) rfl ?_
  generalize shT u.s s.orders = x
  conv => whnf
  repeat refine go ?_
  refine ACall.val (by kernel_rfl) (f136 s u.rma h.rmas.1) (by (first | rfl | (simp only [renL, AV.ren, List.nil_append, List.cons_append, rens]; try rfl))) (by (first | rfl | (simp only [renL, AV.ren, List.nil_append, List.cons_append, rens]; try rfl))) ?_
  generalize s.rmas.find? (fun x => decide (x.id = u.rma)) = r
  conv => whnf
  repeat refine go ?_
  refine ACall.val (by kernel_rfl) (f9 s x.o h.orders.1) (by (first | rfl | (simp only [renL, AV.ren, List.nil_append, List.cons_append, rens]; try rfl))) (by (first | rfl | (simp only [renL, AV.ren, List.nil_append, List.cons_append, rens]; try rfl))) ?_
  generalize s.orders.find? (fun y => decide (y.id = x.o)) = o
  conv => whnf
  repeat refine go ?_
  refine ACall.val (by kernel_rfl) (f137 u hu) (by (first | rfl | (simp only [renL, AV.ren, List.nil_append, List.cons_append, rens]; try rfl))) rfl ?_
  cases hub : unB u with
  | false =>
    conv => whnf
    repeat refine ru ?_
    exact AFin.val rfl ⟨rfl, rfl⟩
  | true =>
  conv => whnf
  repeat' (first | refine go ?_ | ((first | refine ASplit.yes rfl ?_ | refine ASplit.no rfl ?_ | refine ACond.yes rfl ?_ | refine ACond.no rfl ?_ | refine ASplit.dec (fun _ => ?_) (fun _ => ?_) | refine ASplit.ndec (fun _ => ?_) (fun _ => ?_) | refine ACond.dec (fun _ => ?_) (fun _ => ?_) | refine ACond.ndec (fun _ => ?_) (fun _ => ?_) | refine ACall.val (args := [stA s]) (by kernel_rfl) (f30 s) (by (first | rfl | (simp only [renL, AV.ren, List.nil_append, List.cons_append, rens]; try rfl))) rfl ?_ | (refine ASplit.mk (fun _ => ?_) (fun _ => ?_)) | (refine ACond.mk (fun _ => ?_) (fun _ => ?_))) <;> conv => whnf))
  all_goals refine AFin.val rfl ⟨congrArg bV ?_, rfl⟩
  all_goals simp_all
  all_goals (intros; omega)
end Go.Aw.U1

set_option linter.unusedSimpArgs false
set_option linter.unusedVariables false
set_option maxHeartbeats 4000000
namespace Go.Aw.U1
open Go Go.Proofs

/-! ### keys that are two numbers -/
def aV (k : Int × Int) : Value := .agg #[.int .i64 k.1, .int .i64 k.2]
def aA (k : Int × Int) : AV := .agg [nV k.1, nV k.2]
def aOk (k : Int × Int) : Prop := nOk k.1 ∧ nOk k.2
theorem lit_arr {Q : Program} {t e : Nat} (hkt : Q.keyType t = true) (hc : Q.cellsOf t = 2) (hce : Q.cellsOf e = 1) (hue : Q.underlying e = some (.int .i64)) (hn : ∃ n, Q.types.size = n + 1)
    (hu : Q.underlying t = some (.array 2 e)) (a b : Int) (h1 : nOk a) (h2 : nOk b) : keyOf Q t (.agg #[.int .i64 a, .int .i64 b]) = some (.string (keyBytes [.int .i64 a, .int .i64 b])) := by
  obtain ⟨n, hn⟩ := hn
  unfold nOk at h1 h2
  unfold keyOf
  simp only [hu]
  rw [if_pos (by simp [hkt, Value.formed, hu, hc]), hn]
  unfold Program.keyLits
  simp only [hu, Value.cells]
  rw [if_pos (by rw [hc]; rfl), show List.range 2 = [0, 1] from rfl, List.mapM_cons, List.mapM_cons, List.mapM_nil]
  simp [Program.keyLits, hce, hue, h1, h2]
theorem aK : KEnc P 131 aV aA aOk where
  keyed := Go.Maps.Keyed.of_law (deep_law_laid UR.laid1 (m := 2) (by omega) (UR.size_pos (by kernel_rfl)) (by kernel_rfl) (by kernel_rfl))
  lit := by
    rintro ⟨p, i⟩ h
    exact ⟨_, lit_arr (by kernel_rfl) (by kernel_rfl) (by kernel_rfl) und3 (UR.size_succ (by kernel_rfl)) (by kernel_rfl) p i h.1 h.2⟩
  inj := by
    rintro ⟨p, i⟩ ⟨p', i'⟩ h
    simpa [aV] using h
  rep := by
    rintro w m I ⟨p, i⟩ y h
    simp only [aA, Rep, RepL] at h
    obtain ⟨ys, rfl, ⟨y1, z1, rfl, rfl, y2, z2, rfl, rfl, rfl⟩, _⟩ := h
    rfl
theorem ren_emA (ρ : Nat → Nat) (L : List ((Int × Int) × Int)) : (em aA nV L).map (fun x => (x.1.ren ρ, x.2.ren ρ)) = em aA nV L := by
  simp [em, aA, AV.ren, renL, Function.comp_def]
theorem und130 : P.underlying 130 = some (.map 131 3) := by kernel_rfl
theorem find_mem {α β : Type} {L : List (α × β)} {a : α} (h : ¬ ∀ p ∈ L, p.1 ≠ a) : ∃ (j : Nat) (b : β), L[j]? = some (a, b) := by
  apply Classical.byContradiction
  intro hc
  refine h fun p hp e => hc ?_
  obtain ⟨j, hj⟩ := List.getElem?_of_mem hp
  exact ⟨j, p.2, by rw [hj, ← e]⟩
theorem unB_bd {u : Un} (h : unB u = true) : 1 ≤ u.order ∧ u.order ≤ 999999 ∧ 1 ≤ u.rma ∧ u.rma ≤ 999999 ∧ 0 ≤ u.line ∧ u.line < 8 ∧ 0 ≤ u.place ∧ u.place < 20 := by
  simp only [unB, standB, idB, Bool.and_eq_true, decide_eq_true_eq] at h
  omega
theorem came_un {s : Sta} {u : Un} (h : cameB s u = true) : unB u = true := by
  simp only [cameB, Bool.and_eq_true] at h
  simp_all
theorem f20 (s : Sta) (h : StaOk s) (hid : ∀ r ∈ s.rmas, nOk r.id ∧ ∀ w ∈ r.ws, nOk w.line) : Spec P 20 [stA s] [] (fun r H => (∃ b, r = bV b ∧ (b = true → ∀ u ∈ s.units, cameB s u = true) ∧ (s.units = [] → (∀ r ∈ s.rmas, ∀ w ∈ r.ws, w.got = 0) → b = true)) ∧ H = []) := by
  refine spec_of hT (f := 20) (fn := Go.Proofs.Tryz.f20) (c := body Go.Proofs.Tryz.f20) (by kernel_rfl) (by kernel_rfl) ?_
  have hu1 := h.units.1
  have hr1 := h.rmas.1
  conv => whnf
  repeat refine go ?_
  refine AOp.makeMap ?_
  conv => whnf
  repeat refine go ?_
  refine ALoop.mk (fun n E H => ∃ (i : Nat) (g : Int × Int → Int) (L : List ((Int × Int) × Int)) (bs : List Nat) (clk : Nat), n = s.units.length - i ∧ i ≤ s.units.length ∧ MapIs aOk L 0 g ∧ (s.units = [] → L = []) ∧ (∀ k (hk : k < s.units.length), k < i → cameB s s.units[k] = true) ∧
      E = pad [stA s, .ptr 0 0, bV false, .mp 1, .any, .any, .any, .any, .any, .any, .any, .any, .any, unsV s.units, nV s.units.length, nV i] 70 ∧ H = [.cells 72 (stC s), .map (em aA nV L) bs clk]) (n := s.units.length) _ _
    ⟨0, _, [], [], 0, rfl, Nat.zero_le _, MapIs.nil, fun _ => rfl, fun k _ hk => absurd hk (Nat.not_lt_zero _), rfl, rfl⟩ (Conv.fit (by repeat' (first | exact Fit.nil | refine Fit.any ?_ | refine Fit.same ?_))) ?_
  rintro _ _ _ ⟨i, g, L, bs, clk, rfl, hi, hM, hLe, hI, rfl, rfl⟩
  conv => whnf
  repeat refine go ?_
  refine ACond.dec (fun h1 => ?_) (fun h1 => ?_)
  · have hil : i < s.units.length := by omega
    have w1 : IntKind.wrap .i64 ((i : Int) + 1) = ((i + 1 : Nat) : Int) := by rw [wrap_i64 _ (by omega) (by omega)]; omega
    have hcome := f71 s s.units[i] h (h.units.2 _ (List.getElem_mem hil))
    have hI' : cameB s s.units[i] = true → ∀ k (hk : k < s.units.length), k < i + 1 → cameB s s.units[k] = true := fun hc k hk hki => by
      rcases Nat.lt_or_ge k i with g | g
      · exact hI k hk g
      · obtain rfl : k = i := by omega
        exact hc
    generalize hu : s.units[i] = u at hcome hI'
    conv => whnf
    repeat (first | refine go ?_ | ((first | refine AReq.mk (by omega) ?_ | refine AIdx.flat (enc := unC) unC_len (xs := s.units) (i := i) hil ?_); conv => whnf))
    rw [hu]
    refine ACall.val (args := [stA s, unA u]) (by kernel_rfl) hcome (by (first | rfl | (simp only [renL, AV.ren, List.nil_append, List.cons_append, rens]; try rfl))) rfl ?_
    rcases Bool.eq_false_or_eq_true (cameB s u) with g1 | g1
    case inr =>
      rw [g1]
      conv => whnf
      repeat refine ru ?_
      refine AOut.stay ?_
      conv => whnf
      repeat refine ru ?_
      exact AFin.val rfl ⟨⟨false, rfl, fun h => Bool.noConfusion h, fun e => absurd hil (by rw [e]; exact Nat.not_lt_zero _)⟩, rfl⟩
    have hbd := unB_bd (came_un g1)
    have hok : aOk (u.rma, u.line) := ⟨nOk_of (by omega) (by omega), nOk_of (by omega) (by omega)⟩
    rw [g1]
    conv => whnf
    repeat refine ru ?_
    refine AW.mapLen (l := 1) rfl (fun hlen hnd => ?_)
    have hlen : bs.length = L.length := by simpa [em] using hlen
    refine AW.plan hm (.one 0 (.one 1 (.one 3 (.one 2 (.one 4 (.one 5 (.fork 6 (.one 7 (.one 8 (.one 9 .nil))) 8 (.one 9 (.one 6 (.one 7 .nil))) (.one 10 .nil)))))))) (by kernel_rfl) ?_
    conv => whnf
    repeat refine go ?_
    by_cases hno : ∀ x ∈ L, x.1 ≠ (u.rma, u.line)
    · have g0 : g (u.rma, u.line) = 0 := hM.no _ hno
      have hM0 := hM.push (b := 0) hok hno
      apply AF.meet
      · conv => whnf
        repeat refine go ?_
        refine AOp.getM 1 (u.rma, u.line) hT aK und130 hne3 (eb := nV) rfl hM hok rfl rfl rfl ?_
        conv => whnf
        repeat refine go ?_
        refine AOp.mapEntry (a := (u.rma, u.line)) (z := 0) hT aK und130 hne3 rfl rfl rfl rfl hM.ok hok (fun _ _ => ?_) (fun j b s hj => absurd rfl (hno _ (List.mem_of_getElem? hj)))
        conv => whnf
        repeat refine go ?_
        exact ⟨rfl, rfl, rfl⟩
      · conv => whnf
        repeat refine go ?_
        refine AOp.mapEntry (a := (u.rma, u.line)) (z := 0) hT aK und130 hne3 rfl rfl rfl rfl hM.ok hok (fun _ _ => ?_) (fun j b s hj => absurd rfl (hno _ (List.mem_of_getElem? hj)))
        conv => whnf
        repeat refine go ?_
        refine AOp.getM 1 (u.rma, u.line) hT aK und130 hne3 (eb := nV) rfl hM0 hok rfl rfl rfl ?_
        rw [show upd g (u.rma, u.line) 0 (u.rma, u.line) = g (u.rma, u.line) by rw [upd, if_pos rfl, g0]]
        conv => whnf
        repeat refine go ?_
        exact ⟨rfl, rfl, rfl⟩
      · conv => whnf
        repeat refine go ?_
        refine AOp.entryStore (a := (u.rma, u.line)) (b := 0) (b' := IntKind.wrap .i64 (g (u.rma, u.line) + 1)) (j := L.length) (s := clk) (L := L ++ [((u.rma, u.line), 0)]) aK rfl rfl rfl rfl (by simp) ?_ ?_
        · rw [← hlen]; simp
        conv => whnf
        repeat refine go ?_
        rw [w1]
        exact AHead.mk (s.units.length - (i + 1)) _ _ (by omega) ⟨i + 1, _, _, _, _, rfl, by omega, hM0.set (a := (u.rma, u.line)) (j := L.length) (b0 := 0) (by simp), (fun e => absurd hil (by rw [e]; exact Nat.not_lt_zero _)), hI' g1, rfl, rfl⟩ (Conv.ren [0, 1] _ (by simp) (by simp) (by simp only [pad, renL, AV.ren, rens]; repeat' (first | exact Fit.nil | refine Fit.any ?_ | refine Fit.same ?_)) (.same (by simp only [ABlk.ren, stC_ren]; rfl) (.same (by simp only [ABlk.ren, ren_emA]; rfl) .nil)))
    · obtain ⟨j0, b0, hj0⟩ := find_mem hno
      have hjl : j0 < L.length := (List.getElem?_eq_some_iff.1 hj0).1
      have g0 : g (u.rma, u.line) = b0 := hM.yes _ _ (List.mem_of_getElem? hj0)
      have huniq : ∀ (j : Nat) (b : Int), L[j]? = some ((u.rma, u.line), b) → j = j0 ∧ b = b0 := by
        intro j b hj
        have e : j = j0 := nodup_at hM.nd (x := (u.rma, u.line)) (by rw [List.getElem?_map, hj]; rfl) (by rw [List.getElem?_map, hj0]; rfl)
        subst e
        rw [hj0] at hj
        cases hj
        exact ⟨rfl, rfl⟩
      have hbs : bs[j0]? = some (bs[j0]'(by omega)) := List.getElem?_eq_getElem (by omega)
      generalize bs[j0]'(by omega) = s0 at hbs
      apply AF.meet
      · conv => whnf
        repeat refine go ?_
        refine AOp.getM 1 (u.rma, u.line) hT aK und130 hne3 (eb := nV) rfl hM hok rfl rfl rfl ?_
        conv => whnf
        repeat refine go ?_
        refine AOp.mapEntry (a := (u.rma, u.line)) (z := 0) hT aK und130 hne3 rfl rfl rfl rfl hM.ok hok (fun hc _ => absurd hc hno) (fun j' b' s hj' hs' => ?_)
        obtain ⟨rfl, rfl⟩ := huniq j' b' hj'
        obtain rfl : s0 = s := by rw [hbs] at hs'; cases hs'; rfl
        conv => whnf
        repeat refine go ?_
        exact ⟨rfl, rfl, rfl⟩
      · conv => whnf
        repeat refine go ?_
        refine AOp.mapEntry (a := (u.rma, u.line)) (z := 0) hT aK und130 hne3 rfl rfl rfl rfl hM.ok hok (fun hc _ => absurd hc hno) (fun j' b' s hj' hs' => ?_)
        obtain ⟨rfl, rfl⟩ := huniq j' b' hj'
        obtain rfl : s0 = s := by rw [hbs] at hs'; cases hs'; rfl
        conv => whnf
        repeat refine go ?_
        refine AOp.getM 1 (u.rma, u.line) hT aK und130 hne3 (eb := nV) rfl hM hok rfl rfl rfl ?_
        conv => whnf
        repeat refine go ?_
        exact ⟨rfl, rfl, rfl⟩
      · conv => whnf
        repeat refine go ?_
        refine AOp.entryStore (a := (u.rma, u.line)) (b := b0) (b' := IntKind.wrap .i64 (g (u.rma, u.line) + 1)) (j := j0) (s := s0) (L := L) aK rfl rfl rfl rfl hj0 hbs ?_
        conv => whnf
        repeat refine go ?_
        rw [w1]
        exact AHead.mk (s.units.length - (i + 1)) _ _ (by omega) ⟨i + 1, _, _, _, _, rfl, by omega, hM.set hj0, (fun e => absurd hil (by rw [e]; exact Nat.not_lt_zero _)), hI' g1, rfl, rfl⟩ (Conv.ren [0, 1] _ (by simp) (by simp) (by simp only [pad, renL, AV.ren, rens]; repeat' (first | exact Fit.nil | refine Fit.any ?_ | refine Fit.same ?_)) (.same (by simp only [ABlk.ren, stC_ren]; rfl) (.same (by simp only [ABlk.ren, ren_emA]; rfl) .nil)))
  · have hall : ∀ u ∈ s.units, cameB s u = true := fun u hu => by
      obtain ⟨k, hk, rfl⟩ := List.mem_iff_getElem.1 hu
      exact hI k hk (by omega)
    conv => whnf
    repeat refine go ?_
    refine AOut.stay ?_
    conv => whnf
    repeat refine go ?_
    refine ALoop.mk (fun n E H => ∃ (i : Nat) (g : Int × Int → Int) (L : List ((Int × Int) × Int)) (bs : List Nat) (clk : Nat), n = s.rmas.length - i ∧ i ≤ s.rmas.length ∧ MapIs aOk L 0 g ∧ (s.units = [] → L = []) ∧
        E = pad [stA s, .ptr 0 0, bV false, .mp 1, .any, .any, .any, .any, .any, .any, .any, .any, .any, .any, .any, .any, .any, .any, .any, .any, .any, .any, .any, .any, .any, .any, .any, .any, .any, .any, .any, .any, .any, .any, .any, .any, rmsV s.rmas, nV s.rmas.length, nV i] 70 ∧ H = [.cells 72 (stC s), .map (em aA nV L) bs clk]) (n := s.rmas.length) _ _
      ⟨0, g, L, bs, clk, rfl, Nat.zero_le _, hM, hLe, rfl, rfl⟩ (Conv.fit (by repeat' (first | exact Fit.nil | refine Fit.any ?_ | refine Fit.same ?_))) ?_
    rintro _ _ _ ⟨i, g, L, bs, clk, rfl, hi, hM, hLe, rfl, rfl⟩
    conv => whnf
    repeat refine go ?_
    refine ACond.dec (fun h1 => ?_) (fun h1 => ?_)
    · have hil : i < s.rmas.length := by omega
      have w1 : IntKind.wrap .i64 ((i : Int) + 1) = ((i + 1 : Nat) : Int) := by rw [wrap_i64 _ (by omega) (by omega)]; omega
      have hro := h.rmas.2 _ (List.getElem_mem hil)
      have hrid := hid _ (List.getElem_mem hil)
      have hgr : (∀ r ∈ s.rmas, ∀ w ∈ r.ws, w.got = 0) → ∀ w ∈ s.rmas[i].ws, w.got = 0 := fun hg => hg _ (List.getElem_mem hil)
      conv => whnf
      repeat (first | refine go ?_ | ((first | refine AReq.mk (by omega) ?_ | refine AIdx.flat (enc := rmC) rmC_len (xs := s.rmas) (i := i) hil ?_); conv => whnf))
      generalize s.rmas[i] = r at hro hrid hgr
      have hrw : r.ws.length ≤ 9223372036854775807 := hro
      refine ALoop.mk (fun n E H => ∃ (k : Nat) (g : Int × Int → Int) (L : List ((Int × Int) × Int)) (bs : List Nat) (clk : Nat), n = r.ws.length - k ∧ k ≤ r.ws.length ∧ MapIs aOk L 0 g ∧ (s.units = [] → L = []) ∧
          E = pad [stA s, .ptr 0 0, bV false, .mp 1, .any, .any, .any, .ptr 2 0, .any, .any, .any, .any, .any, .any, .any, .any, .any, .any, .any, .any, .any, .any, .any, .any, .any, .any, .any, .any, .any, .any, .any, .any, .any, .any, .any, .any, rmsV s.rmas, nV s.rmas.length, nV i, .any, .any, .any, .any, wnsV r.ws, nV r.ws.length, nV k] 70 ∧ H = [.cells 72 (stC s), .map (em aA nV L) bs clk, .cells 66 (rmC r)]) (n := r.ws.length) _ _
        ⟨0, g, L, bs, clk, rfl, Nat.zero_le _, hM, hLe, rfl, rfl⟩ (Conv.fit (by repeat' (first | exact Fit.nil | refine Fit.any ?_ | refine Fit.same ?_))) ?_
      rintro _ _ _ ⟨k, g, L, bs, clk, rfl, hk, hM, hLe, rfl, rfl⟩
      conv => whnf
      repeat refine go ?_
      refine ACond.dec (fun h2 => ?_) (fun h2 => ?_)
      · have hkl : k < r.ws.length := by omega
        have w2 : IntKind.wrap .i64 ((k : Int) + 1) = ((k + 1 : Nat) : Int) := by rw [wrap_i64 _ (by omega) (by omega)]; omega
        have hwl := hrid.2 _ (List.getElem_mem hkl)
        have hgot : (∀ r ∈ s.rmas, ∀ w ∈ r.ws, w.got = 0) → r.ws[k].got = 0 := fun hg => hgr hg _ (List.getElem_mem hkl)
        conv => whnf
        repeat (first | refine go ?_ | ((first | refine AReq.mk (by omega) ?_ | refine AIdx.flat (enc := wnC) wnC_len (xs := r.ws) (i := k) hkl ?_); conv => whnf))
        generalize r.ws[k] = w at hwl hgot
        have hok : aOk (r.id, w.line) := ⟨hrid.1, hwl⟩
        refine AW.conv _ _ (Conv.freeze 3 rfl) ?_
        refine AW.plan hm (.one 0 (.one 1 (.one 3 (.one 7 (.one 2 (.one 4 (.one 5 (.imm 8 (.one 6 (.one 9 .nil)))))))))) (by kernel_rfl) ?_
        conv => whnf
        repeat refine go ?_
        refine AOp.getM 1 (r.id, w.line) hT aK und130 hne3 (eb := nV) rfl hM hok rfl rfl rfl ?_
        conv => whnf
        repeat refine go ?_
        refine ACond.ndec (fun h3 => ?_) (fun h3 => ?_)
        · conv => whnf
          repeat refine go ?_
          refine AOut.stay ?_
          conv => whnf
          repeat refine go ?_
          refine AOut.stay ?_
          conv => whnf
          repeat refine go ?_
          exact AFin.val rfl ⟨⟨false, rfl, fun h => Bool.noConfusion h, fun e hg => absurd (by rw [hM.no _ (by rw [hLe e]; simp), hgot hg]) h3⟩, rfl⟩
        · conv => whnf
          repeat refine go ?_
          refine AOp.delM 1 (r.id, w.line) aK und130 rfl rfl hM hok rfl rfl rfl ?_
          intro L' bs' clk' hle hM'
          conv => whnf
          repeat refine go ?_
          rw [w2]
          exact AHead.mk (r.ws.length - (k + 1)) _ _ (by omega) ⟨k + 1, _, L', bs', clk', rfl, by omega, hM', fun e => List.eq_nil_of_length_eq_zero (by rw [hLe e] at hle; simpa using hle), rfl, rfl⟩ (Conv.ren [0, 1, 2] _ (by simp) (by simp) (by simp only [pad, renL, AV.ren, rens]; repeat' (first | exact Fit.nil | refine Fit.any ?_ | refine Fit.same ?_)) (.same (by simp only [ABlk.ren, stC_ren]; rfl) (.same (by simp only [ABlk.ren, ren_emA]; rfl) (.same (by simp only [ABlk.ren, rmC_ren]; rfl) .nil))))
      · conv => whnf
        repeat refine go ?_
        refine AOut.stay ?_
        conv => whnf
        repeat refine go ?_
        rw [w1]
        exact AHead.mk (s.rmas.length - (i + 1)) _ _ (by omega) ⟨i + 1, g, L, bs, clk, rfl, by omega, hM, hLe, rfl, rfl⟩ (Conv.ren [0, 1] _ (by simp) (by simp) (by simp only [pad, renL, AV.ren, rens]; repeat' (first | exact Fit.nil | refine Fit.any ?_ | refine Fit.same ?_)) (.same (by simp only [ABlk.ren, stC_ren]; rfl) (.same (by simp only [ABlk.ren, ren_emA]; rfl) .nil)))
    · conv => whnf
      repeat refine go ?_
      refine AOut.stay ?_
      conv => whnf
      refine AW.seq ?_
      conv => whnf
      refine AW.region ?_
      conv => whnf
      refine AO.cons hT ?_
      conv => whnf
      refine AO.consA rfl ?_
      refine AOp.lenM 1 und130 rfl rfl rfl rfl ?_
      conv => whnf
      repeat refine go ?_
      exact AFin.val rfl ⟨⟨_, rfl, fun _ => hall, fun e _ => by rw [hLe e]; rfl⟩, rfl⟩
end Go.Aw.U1

set_option linter.unusedSimpArgs false
set_option linter.unusedVariables false
set_option maxHeartbeats 4000000
namespace Go.Aw.U1
open Go Go.Proofs

def rmaFits (s : Sta) (r : Rm) : Bool := (s.orders.find? (fun x => decide (x.id = r.order))).isSome && fitsB r ((s.orders.find? (fun x => decide (x.id = r.order))).getD odZ)
def freeOk (s : Sta) (o : Od) : Bool := (List.range o.ls.length).all fun i => decide (0 ≤ freeF s o.id i)
def authB (s : Sta) : Bool := s.rmas.all (rmaFits s) && s.orders.all (freeOk s)
theorem all_of {α : Type} {p : α → Bool} {l : List α} (h : ∀ k (hk : k < l.length), p l[k] = true) : l.all p = true := by
  rw [List.all_eq_true]
  intro r hr
  obtain ⟨k, hk, rfl⟩ := List.mem_iff_getElem.1 hr
  exact h k hk
theorem odZ_ok : odOk odZ := ⟨by simp [odZ], by simp [odZ]⟩
theorem find_ok {s : Sta} (h : odsOk s.orders) (p : Od → Bool) : odOk ((s.orders.find? p).getD odZ) := by
  cases e : s.orders.find? p with
  | none => exact odZ_ok
  | some o => exact h.2 _ (List.mem_of_find?_eq_some e)
theorem f19 (s : Sta) (h : StaOk s) : Fun P 19 [stA s] (bV (authB s)) := by
  refine spec_of hT (f := 19) (fn := Go.Proofs.Tryz.f19) (c := body Go.Proofs.Tryz.f19) (by kernel_rfl) (by kernel_rfl) ?_
  unfold authB
  have hr1 := h.rmas.1
  have ho1 := h.orders.1
  conv => whnf
  repeat refine go ?_
  refine ALoop.mk (fun n E H => ∃ (i : Nat), n = s.rmas.length - i ∧ i ≤ s.rmas.length ∧ (∀ k (hk : k < s.rmas.length), k < i → rmaFits s s.rmas[k] = true) ∧
      E = pad [stA s, .ptr 0 0, bV false, .any, .any, .any, .any, .any, .any, .any, .any, .any, rmsV s.rmas, nV s.rmas.length, nV i] 58 ∧ H = [.cells 72 (stC s)]) (n := s.rmas.length) _ _
    ⟨0, rfl, Nat.zero_le _, fun k _ hk => absurd hk (Nat.not_lt_zero _), rfl, rfl⟩ (Conv.fit (by repeat' (first | exact Fit.nil | refine Fit.any ?_ | refine Fit.same ?_))) ?_
  rintro _ _ _ ⟨i, rfl, hi, hI, rfl, rfl⟩
  conv => whnf
  repeat refine go ?_
  refine ACond.dec (fun h1 => ?_) (fun h1 => ?_)
  · have hil : i < s.rmas.length := by omega
    have w1 : IntKind.wrap .i64 ((i : Int) + 1) = ((i + 1 : Nat) : Int) := by rw [wrap_i64 _ (by omega) (by omega)]; omega
    have hro := h.rmas.2 _ (List.getElem_mem hil)
    have hno : rmaFits s s.rmas[i] = false → s.rmas.all (rmaFits s) = false := fun e => all_get hil e
    have hyes : rmaFits s s.rmas[i] = true → ∀ k (hk : k < s.rmas.length), k < i + 1 → rmaFits s s.rmas[k] = true := fun hc k hk hki => by
      rcases Nat.lt_or_ge k i with g | g
      · exact hI k hk g
      · obtain rfl : k = i := by omega
        exact hc
    conv => whnf
    repeat (first | refine go ?_ | ((first | refine AReq.mk (by omega) ?_ | refine AIdx.flat (enc := rmC) rmC_len (xs := s.rmas) (i := i) hil ?_); conv => whnf))
    generalize s.rmas[i] = r at hro hno hyes
    refine ACall.val (args := [stA s, nV r.order]) (by kernel_rfl) (f9 s r.order h.orders.1) (by (first | rfl | (simp only [renL, AV.ren, List.nil_append, List.cons_append, rens]; try rfl))) (by (first | rfl | (simp only [renL, AV.ren, List.nil_append, List.cons_append, rens]; try rfl))) ?_
    have hfo := find_ok h.orders (fun x => decide (x.id = r.order))
    have hfit : rmaFits s r = ((s.orders.find? (fun x => decide (x.id = r.order))).isSome && fitsB r ((s.orders.find? (fun x => decide (x.id = r.order))).getD odZ)) := rfl
    rw [hfit] at hno hyes
    clear hfit
    generalize s.orders.find? (fun x => decide (x.id = r.order)) = o at hno hyes hfo
    conv => whnf
    repeat refine go ?_
    cases ho : o.isSome with
    | false =>
      rw [ho] at hno
      conv => whnf
      repeat refine ru ?_
      refine AOut.stay ?_
      conv => whnf
      repeat refine ru ?_
      exact AFin.val rfl ⟨by rw [hno rfl]; rfl, rfl⟩
    | true =>
    rw [ho] at hno hyes
    conv => whnf
    repeat refine ru ?_
    generalize o.getD odZ = o at hno hyes hfo
    refine ACall.val (args := [rmA r, odA o]) (by kernel_rfl) (f70 r o hro hfo) (by (first | rfl | (simp only [renL, AV.ren, List.nil_append, List.cons_append, rens]; try rfl))) rfl ?_
    cases hf : fitsB r o with
    | false =>
      rw [hf] at hno
      conv => whnf
      repeat refine ru ?_
      refine AOut.stay ?_
      conv => whnf
      repeat refine ru ?_
      exact AFin.val rfl ⟨by rw [hno rfl]; rfl, rfl⟩
    | true =>
    rw [hf] at hyes
    conv => whnf
    repeat refine ru ?_
    rw [w1]
    exact AHead.mk (s.rmas.length - (i + 1)) _ _ (by omega) ⟨i + 1, rfl, by omega, hyes rfl, rfl, rfl⟩ (Conv.ren [0] _ (by simp) (by simp) (by simp only [pad, renL, AV.ren, rens]; repeat' (first | exact Fit.nil | refine Fit.any ?_ | refine Fit.same ?_)) (.same (by simp only [ABlk.ren, stC_ren]; rfl) .nil))
  · rw [all_of (fun k hk => hI k hk (by omega))]
    conv => whnf
    repeat refine go ?_
    refine AOut.stay ?_
    conv => whnf
    repeat refine go ?_
    refine ALoop.mk (fun n E H => ∃ (i : Nat), n = s.orders.length - i ∧ i ≤ s.orders.length ∧ (∀ k (hk : k < s.orders.length), k < i → freeOk s s.orders[k] = true) ∧
        E = pad [stA s, .ptr 0 0, bV false, .any, .any, .any, .any, .any, .any, .any, .any, .any, .any, .any, .any, .any, .any, .any, .any, .any, .any, .any, .any, .any, .any, .any, .any, .any, .any, .any, .any, .any, .any, .any, .any, .any, .any, odsV s.orders, nV s.orders.length, nV i] 58 ∧ H = [.cells 72 (stC s)]) (n := s.orders.length) _ _
      ⟨0, rfl, Nat.zero_le _, fun k _ hk => absurd hk (Nat.not_lt_zero _), rfl, rfl⟩ (Conv.fit (by repeat' (first | exact Fit.nil | refine Fit.any ?_ | refine Fit.same ?_))) ?_
    rintro _ _ _ ⟨i, rfl, hi, hI2, rfl, rfl⟩
    conv => whnf
    repeat refine go ?_
    refine ACond.dec (fun h2 => ?_) (fun h2 => ?_)
    · have hil : i < s.orders.length := by omega
      have w1 : IntKind.wrap .i64 ((i : Int) + 1) = ((i + 1 : Nat) : Int) := by rw [wrap_i64 _ (by omega) (by omega)]; omega
      have hoo := h.orders.2 _ (List.getElem_mem hil)
      have hno : freeOk s s.orders[i] = false → s.orders.all (freeOk s) = false := fun e => all_get hil e
      have hyes : freeOk s s.orders[i] = true → ∀ k (hk : k < s.orders.length), k < i + 1 → freeOk s s.orders[k] = true := fun hc k hk hki => by
        rcases Nat.lt_or_ge k i with g | g
        · exact hI2 k hk g
        · obtain rfl : k = i := by omega
          exact hc
      conv => whnf
      repeat (first | refine go ?_ | ((first | refine AReq.mk (by omega) ?_ | refine AIdx.flat (enc := odC) odC_len (xs := s.orders) (i := i) hil ?_); conv => whnf))
      generalize s.orders[i] = o at hoo hno hyes
      have hol := hoo.1
      refine ALoop.mk (fun n E H => ∃ (k : Nat), n = o.ls.length - k ∧ k ≤ o.ls.length ∧ (∀ j, j < k → 0 ≤ freeF s o.id j) ∧
          E = pad [stA s, .ptr 0 0, bV false, .any, .any, .any, .any, .any, .ptr 1 0, .any, .any, .any, .any, .any, .any, .any, .any, .any, .any, .any, .any, .any, .any, .any, .any, .any, .any, .any, .any, .any, .any, .any, .any, .any, .any, .any, .any, odsV s.orders, nV s.orders.length, nV i, .any, .any, .any, .any, .any, nV o.ls.length, nV k] 58 ∧ H = [.cells 72 (stC s), .cells 46 (odC o)]) (n := o.ls.length) _ _
        ⟨0, rfl, Nat.zero_le _, fun j hj => absurd hj (Nat.not_lt_zero _), rfl, rfl⟩ (Conv.fit (by repeat' (first | exact Fit.nil | refine Fit.any ?_ | refine Fit.same ?_))) ?_
      rintro _ _ _ ⟨k, rfl, hk, hall, rfl, rfl⟩
      conv => whnf
      repeat refine go ?_
      refine ACond.dec (fun h3 => ?_) (fun h3 => ?_)
      · have hkl : k < o.ls.length := by omega
        have w2 : IntKind.wrap .i64 ((k : Int) + 1) = ((k + 1 : Nat) : Int) := by rw [wrap_i64 _ (by omega) (by omega)]; omega
        conv => whnf
        repeat (first | refine go ?_ | (refine ACall.val (args := [stA s, nV o.id, nV k]) (by kernel_rfl) (f29 s o.id k h.rmas h.orders) (by (first | rfl | (simp only [renL, AV.ren, List.nil_append, List.cons_append, rens]; try rfl))) rfl ?_; conv => whnf))
        refine ACond.dec (fun h4 => ?_) (fun h4 => ?_)
        · conv => whnf
          repeat (first | refine go ?_ | (refine ACall.val (args := [stA s, nV o.id, nV k]) (by kernel_rfl) (f29 s o.id k h.rmas h.orders) (by (first | rfl | (simp only [renL, AV.ren, List.nil_append, List.cons_append, rens]; try rfl))) rfl ?_; conv => whnf))
          refine AOut.stay ?_
          conv => whnf
          repeat (first | refine go ?_ | (refine ACall.val (args := [stA s, nV o.id, nV k]) (by kernel_rfl) (f29 s o.id k h.rmas h.orders) (by (first | rfl | (simp only [renL, AV.ren, List.nil_append, List.cons_append, rens]; try rfl))) rfl ?_; conv => whnf))
          refine AOut.stay ?_
          conv => whnf
          repeat (first | refine go ?_ | (refine ACall.val (args := [stA s, nV o.id, nV k]) (by kernel_rfl) (f29 s o.id k h.rmas h.orders) (by (first | rfl | (simp only [renL, AV.ren, List.nil_append, List.cons_append, rens]; try rfl))) rfl ?_; conv => whnf))
          refine AFin.val rfl ⟨?_, rfl⟩
          rw [hno (by
            unfold freeOk
            rw [List.all_eq_false]
            exact ⟨k, List.mem_range.2 hkl, by simp; omega⟩)]
          rfl
        · conv => whnf
          repeat (first | refine go ?_ | (refine ACall.val (args := [stA s, nV o.id, nV k]) (by kernel_rfl) (f29 s o.id k h.rmas h.orders) (by (first | rfl | (simp only [renL, AV.ren, List.nil_append, List.cons_append, rens]; try rfl))) rfl ?_; conv => whnf))
          rw [w2]
          refine AHead.mk (o.ls.length - (k + 1)) _ _ (by omega) ⟨k + 1, rfl, by omega, ?_, rfl, rfl⟩ (Conv.fit (by repeat' (first | exact Fit.nil | refine Fit.any ?_ | refine Fit.same ?_)))
          intro j hj
          rcases Nat.lt_or_ge j k with g | g
          · exact hall j g
          · obtain rfl : j = k := by omega
            omega
      · conv => whnf
        repeat refine go ?_
        refine AOut.stay ?_
        conv => whnf
        repeat refine go ?_
        rw [w1]
        refine AHead.mk (s.orders.length - (i + 1)) _ _ (by omega) ⟨i + 1, rfl, by omega, hyes ?_, rfl, rfl⟩ (Conv.ren [0] _ (by simp) (by simp) (by simp only [pad, renL, AV.ren, rens]; repeat' (first | exact Fit.nil | refine Fit.any ?_ | refine Fit.same ?_)) (.same (by simp only [ABlk.ren, stC_ren]; rfl) .nil))
        unfold freeOk
        rw [List.all_eq_true]
        intro j hj
        exact decide_eq_true (hall j (by have := List.mem_range.1 hj; omega))
    · rw [all_of (fun k hk => hI2 k hk (by omega))]
      conv => whnf
      repeat refine go ?_
      refine AOut.stay ?_
      conv => whnf
      repeat refine go ?_
      exact AFin.val rfl ⟨rfl, rfl⟩
def allT (st : Int) : List Un → Int → Int
  | [], n => n
  | u :: l, n => if u.state = st then allT st l (n + 1) else allT st l n
theorem f72 (s : Sta) (st : Int) (h : StaOk s) : Fun P 72 [stA s, nV st] (nV (allT st s.units 0)) := by
  refine spec_of hT (f := 72) (fn := Go.Proofs.Tryz.f72) (c := body Go.Proofs.Tryz.f72) (by kernel_rfl) (by kernel_rfl) ?_
  have hu1 := h.units.1
  generalize hR : allT st s.units 0 = R
  conv => whnf
  repeat refine go ?_
  refine ALoop.mk (fun n E H => ∃ (i : Nat) (k : Int), n = s.units.length - i ∧ i ≤ s.units.length ∧ 0 ≤ k ∧ k ≤ i ∧ allT st (s.units.drop i) k = R ∧
      E = pad [stA s, nV st, .ptr 0 0, .any, nV 0, nV k, .any, .any, .any, .any, unsV s.units, nV s.units.length, nV i] 24 ∧ H = [.cells 72 (stC s)]) (n := s.units.length) _ _
    ⟨0, 0, rfl, Nat.zero_le _, by omega, by omega, hR, rfl, rfl⟩ (Conv.fit (by repeat' (first | exact Fit.nil | refine Fit.any ?_ | refine Fit.same ?_))) ?_
  rintro _ _ _ ⟨i, k, rfl, hi, hk0, hk1, hI, rfl, rfl⟩
  conv => whnf
  repeat refine go ?_
  refine ACond.dec (fun h1 => ?_) (fun h1 => ?_)
  · have hil : i < s.units.length := by omega
    have w1 : IntKind.wrap .i64 ((i : Int) + 1) = ((i + 1 : Nat) : Int) := by rw [wrap_i64 _ (by omega) (by omega)]; omega
    have w2 : IntKind.wrap .i64 (k + 1) = k + 1 := by rw [wrap_i64 _ (by omega) (by omega)]
    rw [List.drop_eq_getElem_cons hil, allT] at hI
    conv => whnf
    repeat (first | refine go ?_ | ((first | refine AReq.mk (by omega) ?_ | refine AIdx.flat (enc := unC) unC_len (xs := s.units) (i := i) hil ?_); conv => whnf))
    refine ACond.dec (fun h5 => ?_) (fun h5 => ?_)
    · rw [if_pos h5] at hI
      conv => whnf
      repeat (first | refine go ?_ | ((first | refine AReq.mk (by omega) ?_ | refine AIdx.flat (enc := unC) unC_len (xs := s.units) (i := i) hil ?_); conv => whnf))
      rw [w1, w2]
      exact AHead.mk (s.units.length - (i + 1)) _ _ (by omega) ⟨i + 1, _, rfl, by omega, by omega, by omega, hI, rfl, rfl⟩ (Conv.ren [0] _ (by simp) (by simp) (by simp only [pad, renL, AV.ren, rens]; repeat' (first | exact Fit.nil | refine Fit.any ?_ | refine Fit.same ?_)) (.same (by simp only [ABlk.ren, stC_ren]; rfl) .nil))
    · rw [if_neg h5] at hI
      conv => whnf
      repeat (first | refine go ?_ | ((first | refine AReq.mk (by omega) ?_ | refine AIdx.flat (enc := unC) unC_len (xs := s.units) (i := i) hil ?_); conv => whnf))
      rw [w1]
      exact AHead.mk (s.units.length - (i + 1)) _ _ (by omega) ⟨i + 1, _, rfl, by omega, by omega, by omega, hI, rfl, rfl⟩ (Conv.ren [0] _ (by simp) (by simp) (by simp only [pad, renL, AV.ren, rens]; repeat' (first | exact Fit.nil | refine Fit.any ?_ | refine Fit.same ?_)) (.same (by simp only [ABlk.ren, stC_ren]; rfl) .nil))
  · rw [List.drop_of_length_le (by omega)] at hI
    conv => whnf
    repeat refine go ?_
    refine AOut.stay ?_
    conv => whnf
    repeat refine go ?_
    exact AFin.val rfl ⟨congrArg nV hI, rfl⟩
end Go.Aw.U1

set_option linter.unusedSimpArgs false
set_option linter.unusedVariables false
set_option maxHeartbeats 4000000
namespace Go.Aw.U1
open Go Go.Proofs

def findU (s : Sta) (x : ByteArray) : Option Un := s.units.find? (fun u => u.s.toList == x.toList)
theorem f10' (s : Sta) (x : ByteArray) (h : StaOk s) : Fun P 10 [stA s, sV x] (.tup [unA ((findU s x).getD unZ), bV (findU s x).isSome]) := f10 s x h.units.1
def wkIn (u : Un) (w : Wk) : Bool := decide (u.state = 4) && decide (u.in_ = w.id)
def wkU (u : Un) (w : Wk) : Bool := decide (u.way = 2) && decide (1 ≤ w.part) && decide (w.part ≤ 999999) && decide (1 ≤ w.qty) && decide (w.qty ≤ 1000000) && decide (1 ≤ w.state) && decide (w.state ≤ 3) && (wkIn u w == decide (w.state = 1))
theorem wkU_iff {u : Un} {w : Wk} : wkU u w = true ↔ u.way = 2 ∧ 1 ≤ w.part ∧ w.part ≤ 999999 ∧ 1 ≤ w.qty ∧ w.qty ≤ 1000000 ∧ 1 ≤ w.state ∧ w.state ≤ 3 ∧ ((u.state = 4 ∧ u.in_ = w.id) ↔ w.state = 1) := by
  have e : (wkIn u w == decide (w.state = 1)) = true ↔ ((u.state = 4 ∧ u.in_ = w.id) ↔ w.state = 1) := by
    rw [beq_iff_eq, Bool.eq_iff_iff]; simp [wkIn]
  simp only [wkU, Bool.and_eq_true, e, decide_eq_true_eq, and_assoc]
def workT (s : Sta) : List Wk → Int → Option Int
  | [], n => some n
  | w :: l, n => if (findU s w.s).isSome = true ∧ wkU ((findU s w.s).getD unZ) w = true then workT s l (if ((findU s w.s).getD unZ).state = 4 ∧ ((findU s w.s).getD unZ).in_ = w.id then n + 1 else n) else none
def eqO (o : Option Int) (m : Int) : Bool :=
  match o with
  | none => false
  | some n => decide (n = m)
def workB (s : Sta) : Bool := eqO (workT s s.works 0) (allT 4 s.units 0)
theorem f21 (s : Sta) (h : StaOk s) : Fun P 21 [stA s] (bV (workB s)) := by
  refine spec_of hT (f := 21) (fn := Go.Proofs.Tryz.f21) (c := body Go.Proofs.Tryz.f21) (by kernel_rfl) (by kernel_rfl) ?_
  unfold workB
  have hw1 := h.works.1
  have hall := f72 s 4 h
  generalize allT 4 s.units 0 = A at hall
  generalize hR : workT s s.works 0 = R
  conv => whnf
  repeat refine go ?_
  refine ALoop.mk (fun n E H => ∃ (i : Nat) (k : Int), n = s.works.length - i ∧ i ≤ s.works.length ∧ 0 ≤ k ∧ k ≤ i ∧ workT s (s.works.drop i) k = R ∧
      E = pad [stA s, .ptr 0 0, bV false, nV k, .any, .any, .any, .any, .any, .any, .any, wksV s.works, nV s.works.length, nV i] 85 ∧ H = [.cells 72 (stC s)]) (n := s.works.length) _ _
    ⟨0, 0, rfl, Nat.zero_le _, by omega, by omega, hR, rfl, rfl⟩ (Conv.fit (by repeat' (first | exact Fit.nil | refine Fit.any ?_ | refine Fit.same ?_))) ?_
  rintro _ _ _ ⟨i, k, rfl, hi, hk0, hk1, hI, rfl, rfl⟩
  conv => whnf
  repeat refine go ?_
  refine ACond.dec (fun h1 => ?_) (fun h1 => ?_)
  · have hil : i < s.works.length := by omega
    have w1 : IntKind.wrap .i64 ((i : Int) + 1) = ((i + 1 : Nat) : Int) := by rw [wrap_i64 _ (by omega) (by omega)]; omega
    have w2 : IntKind.wrap .i64 (k + 1) = k + 1 := by rw [wrap_i64 _ (by omega) (by omega)]
    rw [List.drop_eq_getElem_cons hil, workT] at hI
    have hf := f10' s s.works[i].s h
    conv => whnf
    repeat (first | refine go ?_ | ((first | refine AReq.mk (by omega) ?_ | refine AIdx.flat (enc := wkC) wkC_len (xs := s.works) (i := i) hil ?_); conv => whnf))
    generalize s.works[i] = w at hI hf
    generalize findU s w.s = o at hI hf
    refine ACall.val (args := [stA s, sV w.s]) (by kernel_rfl) hf (by (first | rfl | (simp only [renL, AV.ren, List.nil_append, List.cons_append, rens]; try rfl))) (by (first | rfl | (simp only [renL, AV.ren, List.nil_append, List.cons_append, rens]; try rfl))) ?_
    conv => whnf
    repeat refine go ?_
    cases ho : o.isSome with
    | false =>
      rw [ho, if_neg (by simp)] at hI
      conv => whnf
      repeat refine ru ?_
      refine AOut.stay ?_
      conv => whnf
      repeat refine ru ?_
      exact AFin.val rfl ⟨by rw [← hI]; rfl, rfl⟩
    | true =>
    rw [ho] at hI
    generalize o.getD unZ = u at hI
    have hno : ¬ wkU u w = true → none = R := fun e => by rw [if_neg (fun h => e h.2)] at hI; exact hI
    have hyes : wkU u w = true → workT s (s.works.drop (i + 1)) (if u.state = 4 ∧ u.in_ = w.id then k + 1 else k) = R := fun e => by rw [if_pos ⟨rfl, e⟩] at hI; exact hI
    rw [wkU_iff] at hno hyes
    clear hI
    conv => whnf
    repeat' (first | refine go ?_ | ((first | refine ASplit.yes rfl ?_ | refine ASplit.no rfl ?_ | refine ACond.yes rfl ?_ | refine ACond.no rfl ?_ | refine ASplit.dec (fun _ => ?_) (fun _ => ?_) | refine ASplit.ndec (fun _ => ?_) (fun _ => ?_) | refine ACond.dec (fun _ => ?_) (fun _ => ?_) | refine ACond.ndec (fun _ => ?_) (fun _ => ?_) | (refine ASplit.mk (fun _ => ?_) (fun _ => ?_)) | (refine ACond.mk (fun _ => ?_) (fun _ => ?_))) <;> conv => whnf))
    all_goals simp only [Bool.not_eq_true', Bool.not_eq_false', beq_eq_false_iff_ne, ne_eq, beq_iff_eq, decide_eq_true_eq, decide_eq_false_iff_not, Bool.and_eq_true, Bool.and_false, Bool.false_and, Bool.true_and, Bool.and_true, eq_self, not_true_eq_false, decide_eq_decide, true_iff, false_iff, iff_true, iff_false, Classical.not_not, Bool.true_eq, Bool.false_eq] at *
    all_goals first
      | (refine AOut.stay ?_
         conv => whnf
         repeat ((first | refine AO.cons hT ?_ | refine AO.nil ?_ | refine AW.seq ?_ | refine AW.region ?_ | refine AW.ret ?_); conv => whnf)
         refine AFin.val rfl ⟨?_, rfl⟩
         rw [← hno (by omega)]; rfl)
      | (rw [w1, w2]
         exact AHead.mk (s.works.length - (i + 1)) _ _ (by omega) ⟨i + 1, k + 1, rfl, by omega, by omega, by omega, by rw [← hyes (by omega), if_pos (by omega)], rfl, rfl⟩ (Conv.ren [0] _ (by simp) (by simp) (by simp only [pad, renL, AV.ren, rens]; repeat' (first | exact Fit.nil | refine Fit.any ?_ | refine Fit.same ?_)) (.same (by simp only [ABlk.ren, stC_ren]; rfl) .nil)))
      | (rw [w1]
         exact AHead.mk (s.works.length - (i + 1)) _ _ (by omega) ⟨i + 1, k, rfl, by omega, by omega, by omega, by rw [← hyes (by omega), if_neg (by omega)], rfl, rfl⟩ (Conv.ren [0] _ (by simp) (by simp) (by simp only [pad, renL, AV.ren, rens]; repeat' (first | exact Fit.nil | refine Fit.any ?_ | refine Fit.same ?_)) (.same (by simp only [ABlk.ren, stC_ren]; rfl) .nil)))
      | skip
  · rw [List.drop_of_length_le (by omega)] at hI
    conv => whnf
    repeat refine go ?_
    refine AOut.stay ?_
    conv => whnf
    repeat refine go ?_
    refine ACall.val (args := [stA s, nV 4]) (by kernel_rfl) hall (by (first | rfl | (simp only [renL, AV.ren, List.nil_append, List.cons_append, rens]; try rfl))) rfl ?_
    conv => whnf
    repeat refine go ?_
    exact AFin.val rfl ⟨by rw [← hI]; rfl, rfl⟩
end Go.Aw.U1

set_option linter.unusedSimpArgs false
set_option linter.unusedVariables false
set_option maxHeartbeats 4000000
namespace Go.Aw.U1
open Go Go.Proofs

def vendO (s : Sta) (o : Od) (line : Int) : Int :=
  match o.ls[line.toNat]? with
  | none => 0
  | some l => if 0 ≤ line then ((s.items.find? (fun x => decide (x.id = l.item))).getD itZ).vendor else 0
def vendF (s : Sta) (u : Un) : Int := vendO s ((s.orders.find? (fun x => decide (x.id = u.order))).getD odZ) u.line
theorem f138 (s : Sta) (u : Un) (h : StaOk s) : Fun P 138 [stA s, unA u] (nV (vendF s u)) := by
  refine spec_of hT (f := 138) (fn := Go.Proofs.Tryz.f138) (c := body Go.Proofs.Tryz.f138) (by kernel_rfl) (by kernel_rfl) ?_
  unfold vendF
  have hf := f9 s u.order h.orders.1
  have hoo := find_ok h.orders (fun x => decide (x.id = u.order))
  conv => whnf
  repeat refine go ?_
  refine ACall.val (args := [stA s, nV u.order]) (by kernel_rfl) hf (by (first | rfl | (simp only [renL, AV.ren, List.nil_append, List.cons_append, rens]; try rfl))) (by (first | rfl | (simp only [renL, AV.ren, List.nil_append, List.cons_append, rens]; try rfl))) ?_
  generalize (s.orders.find? (fun x => decide (x.id = u.order))).isSome = b
  generalize (s.orders.find? (fun x => decide (x.id = u.order))).getD odZ = o at hoo
  have hol := hoo.1
  generalize hR : vendO s o u.line = R
  conv => whnf
  repeat refine go ?_
  refine ASplit.dec (fun h1 => ?_) (fun h1 => ?_)
  · conv => whnf
    repeat refine ru ?_
    refine AFin.val rfl ⟨congrArg nV ?_, rfl⟩
    rw [← hR, vendO]
    cases o.ls[u.line.toNat]? with
    | none => rfl
    | some l => exact (if_neg (by omega)).symm
  conv => whnf
  repeat refine ru ?_
  refine ACond.dec (fun h2 => ?_) (fun h2 => ?_)
  · conv => whnf
    repeat refine ru ?_
    refine AFin.val rfl ⟨congrArg nV ?_, rfl⟩
    rw [← hR, vendO, List.getElem?_eq_none (show o.ls.length ≤ u.line.toNat by omega)]
  have hlt : u.line.toNat < o.ls.length := by omega
  have hv : vendO s o u.line = ((s.items.find? (fun x => decide (x.id = o.ls[u.line.toNat].item))).getD itZ).vendor := by
    rw [vendO, List.getElem?_eq_getElem hlt]
    exact if_pos (by omega)
  rw [hR] at hv
  subst hv
  conv => whnf
  repeat refine go ?_
  refine AW.plan hm (.one 0 (.one 2 (.one 4 (.one 3 (.one 5 (.one 6 (.one 7 (.one 1 (.one 8 (.fork 9 (.one 10 (.one 11 (.one 12 (.one 13 .nil)))) 13 (.one 9 (.one 10 (.one 11 (.one 12 .nil)))) (.one 14 (.one 15 .nil)))))))))))) (by kernel_rfl) ?_
  conv => whnf
  repeat (first | refine go ?_ | ((first | refine AReq.mk (by omega) ?_ | refine AIdx.flat (enc := lnC) lnC_len (xs := o.ls) (i := u.line.toNat) hlt ?_ | refine ACall.val (args := [stA s, nV o.ls[u.line.toNat].item]) (by kernel_rfl) (f27 s o.ls[u.line.toNat].item h.items) (by (first | rfl | (simp only [renL, AV.ren, List.nil_append, List.cons_append, rens]; try rfl))) (by (first | rfl | (simp only [renL, AV.ren, List.nil_append, List.cons_append, rens]; try rfl))) ?_); conv => whnf))
  apply AF.meet
  · conv => whnf
    repeat (first | refine go ?_ | ((first | refine AReq.mk (by omega) ?_ | refine AIdx.flat (enc := lnC) lnC_len (xs := o.ls) (i := u.line.toNat) hlt ?_ | refine ACall.val (args := [stA s, nV o.ls[u.line.toNat].item]) (by kernel_rfl) (f27 s o.ls[u.line.toNat].item h.items) (by (first | rfl | (simp only [renL, AV.ren, List.nil_append, List.cons_append, rens]; try rfl))) (by (first | rfl | (simp only [renL, AV.ren, List.nil_append, List.cons_append, rens]; try rfl))) ?_); conv => whnf))
    exact ⟨rfl, rfl, rfl⟩
  · conv => whnf
    repeat (first | refine go ?_ | ((first | refine AReq.mk (by omega) ?_ | refine AIdx.flat (enc := lnC) lnC_len (xs := o.ls) (i := u.line.toNat) hlt ?_ | refine ACall.val (args := [stA s, nV o.ls[u.line.toNat].item]) (by kernel_rfl) (f27 s o.ls[u.line.toNat].item h.items) (by (first | rfl | (simp only [renL, AV.ren, List.nil_append, List.cons_append, rens]; try rfl))) (by (first | rfl | (simp only [renL, AV.ren, List.nil_append, List.cons_append, rens]; try rfl))) ?_); conv => whnf))
    exact ⟨rfl, rfl, rfl⟩
  · conv => whnf
    repeat (first | refine go ?_ | ((first | refine AReq.mk (by omega) ?_ | refine AIdx.flat (enc := lnC) lnC_len (xs := o.ls) (i := u.line.toNat) hlt ?_ | refine ACall.val (args := [stA s, nV o.ls[u.line.toNat].item]) (by kernel_rfl) (f27 s o.ls[u.line.toNat].item h.items) (by (first | rfl | (simp only [renL, AV.ren, List.nil_append, List.cons_append, rens]; try rfl))) (by (first | rfl | (simp only [renL, AV.ren, List.nil_append, List.cons_append, rens]; try rfl))) ?_); conv => whnf))
    exact AFin.val rfl ⟨rfl, rfl⟩
def nodeF (u : Un) : Int × Int := if unB u then (u.state, u.way) else (0, 0)
theorem f179 (u : Un) (hu : sOk u.s) : Fun P 179 [unA u] (ndA (nodeF u).1 (nodeF u).2) := by
  refine spec_of hT (f := 179) (fn := Go.Proofs.Tryz.f179) (c := body Go.Proofs.Tryz.f179) (by kernel_rfl) (by kernel_rfl) ?_
  unfold nodeF
  conv => whnf
  repeat (first | refine go ?_ | (refine ACall.val (args := [unA u]) (by kernel_rfl) (f137 u hu) (by (first | rfl | (simp only [renL, AV.ren, List.nil_append, List.cons_append, rens]; try rfl))) rfl ?_; conv => whnf))
  cases unB u with
  | false =>
    conv => whnf
    repeat (first | refine ru ?_ | (refine ACall.val (args := [unA u]) (by kernel_rfl) (f137 u hu) (by (first | rfl | (simp only [renL, AV.ren, List.nil_append, List.cons_append, rens]; try rfl))) rfl ?_; conv => whnf))
    exact AFin.val rfl ⟨rfl, rfl⟩
  | true =>
  conv => whnf
  repeat (first | refine ru ?_ | ((first | refine ACall.val (args := [unA u]) (by kernel_rfl) (f137 u hu) (by (first | rfl | (simp only [renL, AV.ren, List.nil_append, List.cons_append, rens]; try rfl))) rfl ?_ | refine ACall.val (args := [unA u]) (by kernel_rfl) (f174 u) (by (first | rfl | (simp only [renL, AV.ren, List.nil_append, List.cons_append, rens]; try rfl))) rfl ?_); conv => whnf))
  exact AFin.val rfl ⟨rfl, rfl⟩
def unW (u : Un) : List Value := [.string u.s, .int .i64 u.order, .int .i64 u.line, .int .i64 u.place, .int .i64 u.rma, .int .i64 u.at_, .int .i64 u.state, .int .i64 u.grade, .int .i64 u.way, .int .i64 u.in_]
def zB (u : Un) : Bool := eqL (unW u) [.string ⟨#[]⟩, .int .i64 0, .int .i64 0, .int .i64 0, .int .i64 0, .int .i64 0, .int .i64 0, .int .i64 0, .int .i64 0, .int .i64 0]
def doneB (u : Un) : Bool := !zB u && termB (nodeF u).1 (nodeF u).2
theorem f139 (u : Un) (hu : sOk u.s) : Fun P 139 [unA u] (bV (doneB u)) := by
  refine spec_of hT (f := 139) (fn := Go.Proofs.Tryz.f139) (c := body Go.Proofs.Tryz.f139) (by kernel_rfl) (by kernel_rfl) ?_
  unfold doneB
  conv => whnf
  repeat refine go ?_
  refine AEqs.neq (ks := [.str, .int .i64, .int .i64, .int .i64, .int .i64, .int .i64, .int .i64, .int .i64, .int .i64, .int .i64]) (vx := unW u) (vy := [.string ⟨#[]⟩, .int .i64 0, .int .i64 0, .int .i64 0, .int .i64 0, .int .i64 0, .int .i64 0, .int .i64 0, .int .i64 0, .int .i64 0]) (by kernel_rfl) (by kernel_rfl) rfl rfl rfl rfl ?_
  rw [← zB]
  cases zB u with
  | true =>
    conv => whnf
    repeat refine ru ?_
    exact AFin.val rfl ⟨rfl, rfl⟩
  | false =>
  conv => whnf
  repeat (first | refine ru ?_ | ((first | refine ACall.val (args := [unA u]) (by kernel_rfl) (f179 u hu) (by (first | rfl | (simp only [renL, AV.ren, List.nil_append, List.cons_append, rens]; try rfl))) rfl ?_ | refine ACall.val (args := [ndA (nodeF u).1 (nodeF u).2]) (by kernel_rfl) (f178 (nodeF u).1 (nodeF u).2) (by (first | rfl | (simp only [renL, AV.ren, List.nil_append, List.cons_append, rens]; try rfl))) rfl ?_); conv => whnf))
  exact AFin.val rfl ⟨rfl, rfl⟩
end Go.Aw.U1

