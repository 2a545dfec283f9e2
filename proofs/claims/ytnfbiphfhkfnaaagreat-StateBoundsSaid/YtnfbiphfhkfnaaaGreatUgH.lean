/-
  The statement StateBounds: of a state that may be, of no line more is authorised, received or paid back than was shipped and paid, without any condition.
-/
import Derived.Test.YtnfbiphfhkfnaaaGreatUgG
set_option linter.unusedSimpArgs false
set_option linter.unusedVariables false
set_option linter.unusedSimpArgs false
set_option linter.unusedVariables false
set_option maxHeartbeats 4000000
namespace Go.Aw.U1
open Go Go.Proofs

/-! ### numbers that rise are apart -/
theorem ris_all : ∀ {l : List Int} {last : Int}, risT last l = 0 → (∀ x ∈ l, last < x) ∧ l.Pairwise (· < ·)
  | [], _, _ => ⟨by simp, List.Pairwise.nil⟩
  | a :: l, last, h => by
    rw [risT] at h
    split at h
    · omega
    split at h
    · omega
    obtain ⟨h1, h2⟩ := ris_all h
    refine ⟨fun x hx => ?_, List.pairwise_cons.2 ⟨fun x hx => h1 x hx, h2⟩⟩
    rcases List.mem_cons.1 hx with rfl | hx
    · omega
    · have := h1 x hx; omega
theorem tab_ris {l : List Int} {n : Int} (h : tabB l n = true) : l.Pairwise (· < ·) := by
  simp only [tabB, Bool.and_eq_true, decide_eq_true_eq] at h
  exact (ris_all h.1.1.1.2).2
theorem find_id {α : Type} {f : α → Int} : ∀ {l : List α} (hp : (l.map f).Pairwise (· < ·)) {x : α} (hx : x ∈ l), l.find? (fun y => decide (f y = f x)) = some x
  | [], _, x, hx => by simp at hx
  | a :: l, hp, x, hx => by
    rw [List.map_cons, List.pairwise_cons] at hp
    rcases List.mem_cons.1 hx with rfl | hx
    · simp
    · have h1 := hp.1 (f x) (List.mem_map.2 ⟨x, hx, rfl⟩)
      rw [List.find?_cons_of_neg (by simp; omega)]
      exact find_id hp.2 hx
theorem orders_ris {s : Sta} (h : tablesB s = true) : (s.orders.map (·.id)).Pairwise (· < ·) := by
  simp only [tablesB, Bool.and_eq_true] at h
  exact tab_ris h.1.1.2
theorem shL_spec (s : ByteArray) : ∀ (ls : List Ln) (i : Int) {p : Int × Int}, shL s ls i = some p → ∃ (k j : Nat) (hk : k < ls.length) (hj : j < ls[k].ss.length), p = (i + k, (j : Int)) ∧ s.toList = ls[k].ss[j].toList
  | [], i, p, h => by simp [shL] at h
  | l :: ls, i, p, h => by
    rw [shL] at h
    rcases idxF_or (fun x => s.toList == x.toList) l.ss 0 with ⟨h1, h2⟩ | ⟨j, hj, h1, h2⟩
    · rw [if_neg (by rw [show idxF (fun x => s.toList == x.toList) l.ss 0 = -1 from h1]; decide)] at h
      obtain ⟨k, j, hk, hj, hp, he⟩ := shL_spec s ls (i + 1) h
      exact ⟨k + 1, j, by simp; omega, by simpa using hj, by rw [hp]; congr 1; omega, by simpa using he⟩
    · rw [show idxF (fun x => s.toList == x.toList) l.ss 0 = (j : Int) by simpa using h1, if_pos (by omega)] at h
      cases h
      refine ⟨0, j, by simp, by simpa using hj, by simp, ?_⟩
      have := List.find?_some h2
      simpa using this
theorem shT_spec (s : ByteArray) : ∀ (os : List Od), (shT s os).ok = true → ∃ o ∈ os, ∃ (k j : Nat) (hk : k < o.ls.length) (hj : j < o.ls[k].ss.length), (shT s os).o = o.id ∧ (shT s os).l = k ∧ (shT s os).p = j ∧ s.toList = o.ls[k].ss[j].toList
  | [], h => by simp [shT] at h
  | o :: os, h => by
    rw [shT_cons] at h ⊢
    cases e : shL s o.ls 0 with
    | none =>
      rw [e] at h
      obtain ⟨o', ho', r⟩ := shT_spec s os h
      exact ⟨o', List.mem_cons_of_mem _ ho', r⟩
    | some p =>
      obtain ⟨k, j, hk, hj, hp, he⟩ := shL_spec s o.ls 0 e
      exact ⟨o, by simp, k, j, hk, hj, rfl, by simp [shM, hp], by simp [shM, hp], he⟩
/-- where a unit came from -/
structure At (s : Sta) (u : Un) (o : Od) (k j : Nat) : Prop where
  mem : o ∈ s.orders
  find : s.orders.find? (fun x => decide (x.id = u.order)) = some o
  id : o.id = u.order
  line : u.line = k
  place : u.place = j
  klt : k < o.ls.length
  jlt : j < (o.ls[k]).ss.length
  serial : u.s.toList = (o.ls[k]).ss[j].toList
theorem came_at {s : Sta} {u : Un} (ht : tablesB s = true) (hc : cameB s u = true) : ∃ o k j, At s u o k j := by
  simp only [cameB, Bool.and_eq_true, decide_eq_true_eq] at hc
  obtain ⟨⟨⟨⟨⟨⟨⟨⟨⟨h1, h2⟩, h3⟩, h4⟩, h5⟩, h6⟩, h7⟩, h8⟩, h9⟩, h10⟩ := hc
  obtain ⟨o, ho, k, j, hk, hj, e1, e2, e3, e4⟩ := shT_spec u.s s.orders h2
  have hid : o.id = u.order := by omega
  exact ⟨o, k, j, ho, by have := find_id (f := Od.id) (orders_ris ht) ho; rw [← hid]; exact this, hid, by omega, by omega, hk, hj, e4⟩
structure Base (s : Sta) : Prop where
  tab : tablesB s = true
  came : ∀ u ∈ s.units, cameB s u = true
/-- what a memo says -/
structure MemoOk (s : Sta) (m : Mo) : Prop where
  len : m.am.length = m.ss.length
  row : rowF m.ss = 0
  one : ∀ i (h1 : i < m.ss.length) (h2 : i < m.am.length), ∃ u ∈ s.units, findU s m.ss[i] = some u ∧ u.order = m.order ∧ ∃ o k j, At s u o k j ∧ ∃ l, o.ls[k]? = some l ∧ valF l u.place s.rules.fees u.grade = (m.am[i], 0)
theorem f74 (s : Sta) (m : Mo) (h : StaOk s) (hb : Base s) (hms : ssOk m.ss) (hm2 : m.am.length ≤ 9223372036854775807) : Spec P 74 [stA s, moA m] [] (fun r H => (∃ b, r = bV b ∧ (b = true → MemoOk s m)) ∧ H = []) := by
  refine spec_of hT (f := 74) (fn := Go.Proofs.Tryz.f74) (c := body Go.Proofs.Tryz.f74) (by kernel_rfl) (by kernel_rfl) ?_
  have hm1 := hms.1
  have hfalse : ∀ {H : List ABlk}, AFin 0 (bV false) H (fun r H => (∃ b, r = bV b ∧ (b = true → MemoOk s m)) ∧ H = []) := AFin.val rfl ⟨⟨false, rfl, fun h => Bool.noConfusion h⟩, rfl⟩
  have hf := f9 s m.order h.orders.1
  have hoo := find_ok h.orders (fun x => decide (x.id = m.order))
  conv => whnf
  repeat (first | refine go ?_ | (refine AW.plan (id := 10) hm (.one 0 (.one 2 (.one 6 (.one 8 (.one 9 (.one 10 (.one 12 (.one 1 (.one 3 (.one 4 (.one 5 (.one 7 (.one 11 (.one 13 (.one 14 (.one 15 (.one 16 (.one 17 (.one 18 (.one 19 .nil)))))))))))))))))))) (by kernel_rfl) ?_; conv => whnf))
  refine ACall.val (args := [stA s, nV m.order]) (by kernel_rfl) hf (by (first | rfl | (simp only [renL, AV.ren, List.nil_append, List.cons_append, rens]; try rfl))) (by (first | rfl | (simp only [renL, AV.ren, List.nil_append, List.cons_append, rens]; try rfl))) ?_
  cases ho : s.orders.find? (fun x => decide (x.id = m.order)) with
  | none =>
    conv => whnf
    repeat (first | refine ru ?_ | (refine AW.plan (id := 10) hm (.one 0 (.one 2 (.one 6 (.one 8 (.one 9 (.one 10 (.one 12 (.one 1 (.one 3 (.one 4 (.one 5 (.one 7 (.one 11 (.one 13 (.one 14 (.one 15 (.one 16 (.one 17 (.one 18 (.one 19 .nil)))))))))))))))))))) (by kernel_rfl) ?_; conv => whnf))
    exact hfalse
  | some o =>
  rw [ho] at hoo
  simp only [Option.getD_some, Option.isSome_some] at hoo ⊢
  conv => whnf
  repeat (first | refine ru ?_ | (refine AW.plan (id := 10) hm (.one 0 (.one 2 (.one 6 (.one 8 (.one 9 (.one 10 (.one 12 (.one 1 (.one 3 (.one 4 (.one 5 (.one 7 (.one 11 (.one 13 (.one 14 (.one 15 (.one 16 (.one 17 (.one 18 (.one 19 .nil)))))))))))))))))))) (by kernel_rfl) ?_; conv => whnf))
  refine ASplit.dec (fun h1 => ?_) (fun h1 => ?_)
  · conv => whnf
    repeat (first | refine ru ?_ | (refine AW.plan (id := 10) hm (.one 0 (.one 2 (.one 6 (.one 8 (.one 9 (.one 10 (.one 12 (.one 1 (.one 3 (.one 4 (.one 5 (.one 7 (.one 11 (.one 13 (.one 14 (.one 15 (.one 16 (.one 17 (.one 18 (.one 19 .nil)))))))))))))))))))) (by kernel_rfl) ?_; conv => whnf))
    exact hfalse
  conv => whnf
  repeat (first | refine ru ?_ | (refine AW.plan (id := 10) hm (.one 0 (.one 2 (.one 6 (.one 8 (.one 9 (.one 10 (.one 12 (.one 1 (.one 3 (.one 4 (.one 5 (.one 7 (.one 11 (.one 13 (.one 14 (.one 15 (.one 16 (.one 17 (.one 18 (.one 19 .nil)))))))))))))))))))) (by kernel_rfl) ?_; conv => whnf))
  refine ASplit.dec (fun h2 => ?_) (fun h2 => ?_)
  · conv => whnf
    repeat (first | refine ru ?_ | (refine AW.plan (id := 10) hm (.one 0 (.one 2 (.one 6 (.one 8 (.one 9 (.one 10 (.one 12 (.one 1 (.one 3 (.one 4 (.one 5 (.one 7 (.one 11 (.one 13 (.one 14 (.one 15 (.one 16 (.one 17 (.one 18 (.one 19 .nil)))))))))))))))))))) (by kernel_rfl) ?_; conv => whnf))
    exact hfalse
  conv => whnf
  repeat (first | refine ru ?_ | (refine AW.plan (id := 10) hm (.one 0 (.one 2 (.one 6 (.one 8 (.one 9 (.one 10 (.one 12 (.one 1 (.one 3 (.one 4 (.one 5 (.one 7 (.one 11 (.one 13 (.one 14 (.one 15 (.one 16 (.one 17 (.one 18 (.one 19 .nil)))))))))))))))))))) (by kernel_rfl) ?_; conv => whnf))
  refine ASplit.ndec (fun h3 => ?_) (fun h3 => ?_)
  · conv => whnf
    repeat (first | refine ru ?_ | (refine AW.plan (id := 10) hm (.one 0 (.one 2 (.one 6 (.one 8 (.one 9 (.one 10 (.one 12 (.one 1 (.one 3 (.one 4 (.one 5 (.one 7 (.one 11 (.one 13 (.one 14 (.one 15 (.one 16 (.one 17 (.one 18 (.one 19 .nil)))))))))))))))))))) (by kernel_rfl) ?_; conv => whnf))
    exact hfalse
  conv => whnf
  repeat (first | refine ru ?_ | (refine AW.plan (id := 10) hm (.one 0 (.one 2 (.one 6 (.one 8 (.one 9 (.one 10 (.one 12 (.one 1 (.one 3 (.one 4 (.one 5 (.one 7 (.one 11 (.one 13 (.one 14 (.one 15 (.one 16 (.one 17 (.one 18 (.one 19 .nil)))))))))))))))))))) (by kernel_rfl) ?_; conv => whnf))
  refine ACall.val (args := [ssV m.ss]) (by kernel_rfl) (f63 m.ss hms) (by (first | rfl | (simp only [renL, AV.ren, List.nil_append, List.cons_append, rens]; try rfl))) rfl ?_
  conv => whnf
  repeat (first | refine ru ?_ | (refine AW.plan (id := 10) hm (.one 0 (.one 2 (.one 6 (.one 8 (.one 9 (.one 10 (.one 12 (.one 1 (.one 3 (.one 4 (.one 5 (.one 7 (.one 11 (.one 13 (.one 14 (.one 15 (.one 16 (.one 17 (.one 18 (.one 19 .nil)))))))))))))))))))) (by kernel_rfl) ?_; conv => whnf))
  refine ACond.ndec (fun h4 => ?_) (fun h4 => ?_)
  · conv => whnf
    repeat (first | refine ru ?_ | (refine AW.plan (id := 10) hm (.one 0 (.one 2 (.one 6 (.one 8 (.one 9 (.one 10 (.one 12 (.one 1 (.one 3 (.one 4 (.one 5 (.one 7 (.one 11 (.one 13 (.one 14 (.one 15 (.one 16 (.one 17 (.one 18 (.one 19 .nil)))))))))))))))))))) (by kernel_rfl) ?_; conv => whnf))
    exact hfalse
  have hlen : m.am.length = m.ss.length := by omega
  conv => whnf
  repeat (first | refine ru ?_ | (refine AW.plan (id := 10) hm (.one 0 (.one 2 (.one 6 (.one 8 (.one 9 (.one 10 (.one 12 (.one 1 (.one 3 (.one 4 (.one 5 (.one 7 (.one 11 (.one 13 (.one 14 (.one 15 (.one 16 (.one 17 (.one 18 (.one 19 .nil)))))))))))))))))))) (by kernel_rfl) ?_; conv => whnf))
  refine ALoop.mk (fun n E H => ∃ (i : Nat), n = m.ss.length - i ∧ i ≤ m.ss.length ∧ (∀ k (h1 : k < m.ss.length) (h2 : k < m.am.length), k < i → ∃ u ∈ s.units, findU s m.ss[k] = some u ∧ u.order = m.order ∧ ∃ o k' j, At s u o k' j ∧ ∃ l, o.ls[k']? = some l ∧ valF l u.place s.rules.fees u.grade = (m.am[k], 0)) ∧
      E = pad [stA s, moA m, .ptr 0 0, .ptr 1 0, bV false, .ptr 2 0, .any, .any, .any, .any, .any, .any, .any, .any, .any, .any, .any, .any, .any, .any, .any, .any, .any, .any, .any, .any, .any, .any, .any, .any, .any, .any, .any, .any, .any, .any, .any, .any, .any, .any, .any, .any, .any, .any, .any, .any, .any, .any, .any, .any, .any, ssV m.ss, nV m.ss.length, nV i] 109 ∧ H = [.cells 72 (stC s), .cells 57 (moC m), .cells 46 (odC o)]) (n := m.ss.length) _ _
    ⟨0, rfl, Nat.zero_le _, fun k _ _ hk => absurd hk (Nat.not_lt_zero _), rfl, rfl⟩ (Conv.fit (by repeat' (first | exact Fit.nil | refine Fit.any ?_ | refine Fit.same ?_))) ?_
  rintro _ _ _ ⟨i, rfl, hi, hI, rfl, rfl⟩
  conv => whnf
  repeat (first | refine go ?_ | (refine AW.plan (id := 10) hm (.one 0 (.one 2 (.one 6 (.one 8 (.one 9 (.one 10 (.one 12 (.one 1 (.one 3 (.one 4 (.one 5 (.one 7 (.one 11 (.one 13 (.one 14 (.one 15 (.one 16 (.one 17 (.one 18 (.one 19 .nil)))))))))))))))))))) (by kernel_rfl) ?_; conv => whnf))
  refine ACond.dec (fun h5 => ?_) (fun h5 => ?_)
  · have hil : i < m.ss.length := by omega
    have hil2 : i < m.am.length := by omega
    have w1 : IntKind.wrap .i64 ((i : Int) + 1) = ((i + 1 : Nat) : Int) := by rw [wrap_i64 _ (by omega) (by omega)]; omega
    have hff := f10' s m.ss[i] h
    have hyes : (∃ u ∈ s.units, findU s m.ss[i] = some u ∧ u.order = m.order ∧ ∃ o k' j, At s u o k' j ∧ ∃ l, o.ls[k']? = some l ∧ valF l u.place s.rules.fees u.grade = (m.am[i], 0)) → ∀ k (h1 : k < m.ss.length) (h2 : k < m.am.length), k < i + 1 → ∃ u ∈ s.units, findU s m.ss[k] = some u ∧ u.order = m.order ∧ ∃ o k' j, At s u o k' j ∧ ∃ l, o.ls[k']? = some l ∧ valF l u.place s.rules.fees u.grade = (m.am[k], 0) := fun hc k h1 h2 hki => by
      rcases Nat.lt_or_ge k i with g | g
      · exact hI k h1 h2 g
      · obtain rfl : k = i := by omega
        exact hc
    conv => whnf
    repeat (first | refine go ?_ | ((first | refine AW.plan (id := 10) hm (.one 0 (.one 2 (.one 6 (.one 8 (.one 9 (.one 10 (.one 12 (.one 1 (.one 3 (.one 4 (.one 5 (.one 7 (.one 11 (.one 13 (.one 14 (.one 15 (.one 16 (.one 17 (.one 18 (.one 19 .nil)))))))))))))))))))) (by kernel_rfl) ?_ | refine AReq.mk (by omega) ?_ | refine AIdx.flat (enc := sC) sC_len (xs := m.ss) (i := i) hil ?_); conv => whnf))
    refine ACall.val (args := [stA s, sV m.ss[i]]) (by kernel_rfl) hff (by (first | rfl | (simp only [renL, AV.ren, List.nil_append, List.cons_append, rens]; try rfl))) (by (first | rfl | (simp only [renL, AV.ren, List.nil_append, List.cons_append, rens]; try rfl))) ?_
    cases hfu : findU s m.ss[i] with
    | none =>
      conv => whnf
      repeat (first | refine ru ?_ | (refine AW.plan (id := 10) hm (.one 0 (.one 2 (.one 6 (.one 8 (.one 9 (.one 10 (.one 12 (.one 1 (.one 3 (.one 4 (.one 5 (.one 7 (.one 11 (.one 13 (.one 14 (.one 15 (.one 16 (.one 17 (.one 18 (.one 19 .nil)))))))))))))))))))) (by kernel_rfl) ?_; conv => whnf))
      refine AOut.stay ?_
      conv => whnf
      repeat (first | refine ru ?_ | (refine AW.plan (id := 10) hm (.one 0 (.one 2 (.one 6 (.one 8 (.one 9 (.one 10 (.one 12 (.one 1 (.one 3 (.one 4 (.one 5 (.one 7 (.one 11 (.one 13 (.one 14 (.one 15 (.one 16 (.one 17 (.one 18 (.one 19 .nil)))))))))))))))))))) (by kernel_rfl) ?_; conv => whnf))
      exact hfalse
    | some u =>
    simp only [Option.getD_some, Option.isSome_some]
    have hum : u ∈ s.units := List.mem_of_find?_eq_some hfu
    conv => whnf
    repeat (first | refine ru ?_ | (refine AW.plan (id := 10) hm (.one 0 (.one 2 (.one 6 (.one 8 (.one 9 (.one 10 (.one 12 (.one 1 (.one 3 (.one 4 (.one 5 (.one 7 (.one 11 (.one 13 (.one 14 (.one 15 (.one 16 (.one 17 (.one 18 (.one 19 .nil)))))))))))))))))))) (by kernel_rfl) ?_; conv => whnf))
    refine ASplit.ndec (fun h6 => ?_) (fun h6 => ?_)
    · conv => whnf
      repeat (first | refine ru ?_ | (refine AW.plan (id := 10) hm (.one 0 (.one 2 (.one 6 (.one 8 (.one 9 (.one 10 (.one 12 (.one 1 (.one 3 (.one 4 (.one 5 (.one 7 (.one 11 (.one 13 (.one 14 (.one 15 (.one 16 (.one 17 (.one 18 (.one 19 .nil)))))))))))))))))))) (by kernel_rfl) ?_; conv => whnf))
      refine AOut.stay ?_
      conv => whnf
      repeat (first | refine ru ?_ | (refine AW.plan (id := 10) hm (.one 0 (.one 2 (.one 6 (.one 8 (.one 9 (.one 10 (.one 12 (.one 1 (.one 3 (.one 4 (.one 5 (.one 7 (.one 11 (.one 13 (.one 14 (.one 15 (.one 16 (.one 17 (.one 18 (.one 19 .nil)))))))))))))))))))) (by kernel_rfl) ?_; conv => whnf))
      exact hfalse
    conv => whnf
    repeat (first | refine ru ?_ | (refine AW.plan (id := 10) hm (.one 0 (.one 2 (.one 6 (.one 8 (.one 9 (.one 10 (.one 12 (.one 1 (.one 3 (.one 4 (.one 5 (.one 7 (.one 11 (.one 13 (.one 14 (.one 15 (.one 16 (.one 17 (.one 18 (.one 19 .nil)))))))))))))))))))) (by kernel_rfl) ?_; conv => whnf))
    refine ACond.dec (fun h7 => ?_) (fun h7 => ?_)
    · conv => whnf
      repeat (first | refine ru ?_ | (refine AW.plan (id := 10) hm (.one 0 (.one 2 (.one 6 (.one 8 (.one 9 (.one 10 (.one 12 (.one 1 (.one 3 (.one 4 (.one 5 (.one 7 (.one 11 (.one 13 (.one 14 (.one 15 (.one 16 (.one 17 (.one 18 (.one 19 .nil)))))))))))))))))))) (by kernel_rfl) ?_; conv => whnf))
      refine AOut.stay ?_
      conv => whnf
      repeat (first | refine ru ?_ | (refine AW.plan (id := 10) hm (.one 0 (.one 2 (.one 6 (.one 8 (.one 9 (.one 10 (.one 12 (.one 1 (.one 3 (.one 4 (.one 5 (.one 7 (.one 11 (.one 13 (.one 14 (.one 15 (.one 16 (.one 17 (.one 18 (.one 19 .nil)))))))))))))))))))) (by kernel_rfl) ?_; conv => whnf))
      exact hfalse
    obtain ⟨o', k, j, hat⟩ := came_at hb.tab (hb.came u hum)
    obtain rfl : o = o' := by
      have := hat.find
      rw [h6, ho] at this
      cases this; rfl
    have hk := hat.klt
    have hline := hat.line
    have hkt : u.line.toNat = k := by omega
    conv => whnf
    repeat (first | refine ru ?_ | ((first | refine AW.plan (id := 10) hm (.one 0 (.one 2 (.one 6 (.one 8 (.one 9 (.one 10 (.one 12 (.one 1 (.one 3 (.one 4 (.one 5 (.one 7 (.one 11 (.one 13 (.one 14 (.one 15 (.one 16 (.one 17 (.one 18 (.one 19 .nil)))))))))))))))))))) (by kernel_rfl) ?_ | refine AReq.mk (by omega) ?_ | refine AIdx.flat (enc := lnC) lnC_len (xs := o.ls) (i := u.line.toNat) (by omega) ?_); conv => whnf))
    refine ACall.val (args := [lnA (o.ls[u.line.toNat]'(by omega)), nV u.place, isV s.rules.fees, nV u.grade]) (by kernel_rfl) (f12 (o.ls[u.line.toNat]'(by omega)) u.place s.rules.fees u.grade (hoo.2 _ (List.getElem_mem _))) (by (first | rfl | (simp only [renL, AV.ren, List.nil_append, List.cons_append, rens]; try rfl))) rfl ?_
    conv => whnf
    repeat (first | refine ru ?_ | (refine AW.plan (id := 10) hm (.one 0 (.one 2 (.one 6 (.one 8 (.one 9 (.one 10 (.one 12 (.one 1 (.one 3 (.one 4 (.one 5 (.one 7 (.one 11 (.one 13 (.one 14 (.one 15 (.one 16 (.one 17 (.one 18 (.one 19 .nil)))))))))))))))))))) (by kernel_rfl) ?_; conv => whnf))
    refine ASplit.ndec (fun h8 => ?_) (fun h8 => ?_)
    · conv => whnf
      repeat (first | refine ru ?_ | (refine AW.plan (id := 10) hm (.one 0 (.one 2 (.one 6 (.one 8 (.one 9 (.one 10 (.one 12 (.one 1 (.one 3 (.one 4 (.one 5 (.one 7 (.one 11 (.one 13 (.one 14 (.one 15 (.one 16 (.one 17 (.one 18 (.one 19 .nil)))))))))))))))))))) (by kernel_rfl) ?_; conv => whnf))
      refine AOut.stay ?_
      conv => whnf
      repeat (first | refine ru ?_ | (refine AW.plan (id := 10) hm (.one 0 (.one 2 (.one 6 (.one 8 (.one 9 (.one 10 (.one 12 (.one 1 (.one 3 (.one 4 (.one 5 (.one 7 (.one 11 (.one 13 (.one 14 (.one 15 (.one 16 (.one 17 (.one 18 (.one 19 .nil)))))))))))))))))))) (by kernel_rfl) ?_; conv => whnf))
      exact hfalse
    conv => whnf
    repeat (first | refine ru ?_ | ((first | refine AW.plan (id := 10) hm (.one 0 (.one 2 (.one 6 (.one 8 (.one 9 (.one 10 (.one 12 (.one 1 (.one 3 (.one 4 (.one 5 (.one 7 (.one 11 (.one 13 (.one 14 (.one 15 (.one 16 (.one 17 (.one 18 (.one 19 .nil)))))))))))))))))))) (by kernel_rfl) ?_ | refine AReq.mk (by omega) ?_ | refine AIdx.flat (enc := iC) iC_len (xs := m.am) (i := i) hil2 ?_); conv => whnf))
    refine ACond.ndec (fun h9 => ?_) (fun h9 => ?_)
    · conv => whnf
      repeat (first | refine ru ?_ | (refine AW.plan (id := 10) hm (.one 0 (.one 2 (.one 6 (.one 8 (.one 9 (.one 10 (.one 12 (.one 1 (.one 3 (.one 4 (.one 5 (.one 7 (.one 11 (.one 13 (.one 14 (.one 15 (.one 16 (.one 17 (.one 18 (.one 19 .nil)))))))))))))))))))) (by kernel_rfl) ?_; conv => whnf))
      refine AOut.stay ?_
      conv => whnf
      repeat (first | refine ru ?_ | (refine AW.plan (id := 10) hm (.one 0 (.one 2 (.one 6 (.one 8 (.one 9 (.one 10 (.one 12 (.one 1 (.one 3 (.one 4 (.one 5 (.one 7 (.one 11 (.one 13 (.one 14 (.one 15 (.one 16 (.one 17 (.one 18 (.one 19 .nil)))))))))))))))))))) (by kernel_rfl) ?_; conv => whnf))
      exact hfalse
    conv => whnf
    repeat (first | refine ru ?_ | (refine AW.plan (id := 10) hm (.one 0 (.one 2 (.one 6 (.one 8 (.one 9 (.one 10 (.one 12 (.one 1 (.one 3 (.one 4 (.one 5 (.one 7 (.one 11 (.one 13 (.one 14 (.one 15 (.one 16 (.one 17 (.one 18 (.one 19 .nil)))))))))))))))))))) (by kernel_rfl) ?_; conv => whnf))
    rw [w1]
    refine AHead.mk (m.ss.length - (i + 1)) _ _ (by omega) ⟨i + 1, rfl, by omega, hyes ⟨u, hum, hfu, h6, o, k, j, hat, o.ls[u.line.toNat]'(by omega), by rw [show o.ls[k]? = o.ls[u.line.toNat]? by rw [hkt]]; exact List.getElem?_eq_getElem _, Prod.ext h9 h8⟩, rfl, rfl⟩ (Conv.ren [0, 1, 2] _ (by simp) (by simp) (by simp only [pad, renL, AV.ren, rens]; repeat' (first | exact Fit.nil | refine Fit.any ?_ | refine Fit.same ?_)) (.same (by simp only [ABlk.ren, stC_ren]; rfl) (.same (by simp only [ABlk.ren, moC_ren]; rfl) (.same (by simp only [ABlk.ren, odC_ren]; rfl) .nil))))
  · conv => whnf
    repeat (first | refine ru ?_ | (refine AW.plan (id := 10) hm (.one 0 (.one 2 (.one 6 (.one 8 (.one 9 (.one 10 (.one 12 (.one 1 (.one 3 (.one 4 (.one 5 (.one 7 (.one 11 (.one 13 (.one 14 (.one 15 (.one 16 (.one 17 (.one 18 (.one 19 .nil)))))))))))))))))))) (by kernel_rfl) ?_; conv => whnf))
    refine AOut.stay ?_
    conv => whnf
    repeat (first | refine ru ?_ | (refine AW.plan (id := 10) hm (.one 0 (.one 2 (.one 6 (.one 8 (.one 9 (.one 10 (.one 12 (.one 1 (.one 3 (.one 4 (.one 5 (.one 7 (.one 11 (.one 13 (.one 14 (.one 15 (.one 16 (.one 17 (.one 18 (.one 19 .nil)))))))))))))))))))) (by kernel_rfl) ?_; conv => whnf))
    exact AFin.val rfl ⟨⟨true, rfl, fun _ => ⟨hlen, h4, fun k h1 h2 => hI k h1 h2 (by omega)⟩⟩, rfl⟩
end Go.Aw.U1

set_option linter.unusedSimpArgs false
set_option linter.unusedVariables false
set_option maxHeartbeats 4000000
namespace Go.Aw.U1
open Go Go.Proofs

/-- what is paid back, one by one: none, when a thing is paid back twice -/
def mvS (v : Bool) : List ByteArray → (ByteArray → Bool) → Option (ByteArray → Bool)
  | [], g => some g
  | x :: l, g => if (!v && g x) = true then none else mvS v l (upd g x (g x || !v))
def crT : List Mo → (ByteArray → Bool) → Bool
  | [], _ => true
  | m :: l, g => shipsM (mvS m.void m.ss g) (crT l)
theorem f23 (s : Sta) (h : StaOk s) (hb : Base s) : Spec P 23 [stA s] [] (fun r H => (∃ b, r = bV b ∧ (b = true → (∀ m ∈ s.memos, MemoOk s m) ∧ crT s.memos (fun _ => false) = true) ∧ (s.memos = [] → b = true)) ∧ H = []) := by
  refine spec_of hT (f := 23) (fn := Go.Proofs.Tryz.f23) (c := body Go.Proofs.Tryz.f23) (by kernel_rfl) (by kernel_rfl) ?_
  have hm1 := h.memos.1
  have hfalse : ∀ {H : List ABlk}, s.memos ≠ [] → AFin 0 (bV false) H (fun r H => (∃ b, r = bV b ∧ (b = true → (∀ m ∈ s.memos, MemoOk s m) ∧ crT s.memos (fun _ => false) = true) ∧ (s.memos = [] → b = true)) ∧ H = []) := fun hne => AFin.val rfl ⟨⟨false, rfl, fun h => Bool.noConfusion h, fun e => absurd e hne⟩, rfl⟩
  conv => whnf
  repeat refine go ?_
  refine AOp.makeMap ?_
  conv => whnf
  repeat refine go ?_
  refine ALoop.mk (fun n E H => ∃ (i : Nat) (g : ByteArray → Bool) (L : List (ByteArray × Bool)) (bs : List Nat) (clk : Nat), n = s.memos.length - i ∧ i ≤ s.memos.length ∧ MapIs sOk L false g ∧ (∀ k (hk : k < s.memos.length), k < i → MemoOk s s.memos[k]) ∧ (crT (s.memos.drop i) g = true → crT s.memos (fun _ => false) = true) ∧
      E = pad [stA s, .ptr 0 0, bV false, .mp 1, .any, .any, .any, .any, .any, .any, .any, mosV s.memos, nV s.memos.length, nV i] 48 ∧ H = [.cells 72 (stC s), .map (em sV bV L) bs clk]) (n := s.memos.length) _ _
    ⟨0, _, [], [], 0, rfl, Nat.zero_le _, MapIs.nil, fun k _ hk => absurd hk (Nat.not_lt_zero _), fun h => h, rfl, rfl⟩ (Conv.fit (by repeat' (first | exact Fit.nil | refine Fit.any ?_ | refine Fit.same ?_))) ?_
  rintro _ _ _ ⟨i, g, L, bs, clk, rfl, hi, hM, hI, hcr, rfl, rfl⟩
  conv => whnf
  repeat refine go ?_
  refine ACond.dec (fun h1 => ?_) (fun h1 => ?_)
  · have hil : i < s.memos.length := by omega
    have w1 : IntKind.wrap .i64 ((i : Int) + 1) = ((i + 1 : Nat) : Int) := by rw [wrap_i64 _ (by omega) (by omega)]; omega
    have hmo := h.memos.2 _ (List.getElem_mem hil)
    rw [List.drop_eq_getElem_cons hil, crT] at hcr
    have hyes : MemoOk s s.memos[i] → ∀ k (hk : k < s.memos.length), k < i + 1 → MemoOk s s.memos[k] := fun hc k hk hki => by
      rcases Nat.lt_or_ge k i with g | g
      · exact hI k hk g
      · obtain rfl : k = i := by omega
        exact hc
    conv => whnf
    repeat (first | refine go ?_ | ((first | refine AReq.mk (by omega) ?_ | refine AIdx.flat (enc := moC) moC_len (xs := s.memos) (i := i) hil ?_); conv => whnf))
    generalize s.memos[i] = m at hmo hcr hyes
    refine ACall.spec (args := [stA s, moA m]) (by kernel_rfl) (f74 s m h hb hmo.1 hmo.2) (by (first | rfl | (simp only [renL, AV.ren, List.nil_append, List.cons_append, rens]; try rfl))) ?_
    rintro _ _ ⟨⟨b, rfl, hbm⟩, rfl⟩
    cases b with
    | false =>
      conv => whnf
      repeat refine ru ?_
      refine AOut.stay ?_
      conv => whnf
      repeat refine ru ?_
      exact hfalse (fun e => by rw [e] at hil; exact absurd hil (Nat.not_lt_zero _))
    | true =>
    have hmok := hbm rfl
    have hss := hmo.1
    have hs1 := hss.1
    conv => whnf
    repeat refine ru ?_
    refine ALoop.mk (fun n E H => ∃ (k : Nat) (g : ByteArray → Bool) (L : List (ByteArray × Bool)) (bs : List Nat) (clk : Nat), n = m.ss.length - k ∧ k ≤ m.ss.length ∧ MapIs sOk L false g ∧ (shipsM (mvS m.void (m.ss.drop k) g) (crT (s.memos.drop (i + 1))) = true → crT s.memos (fun _ => false) = true) ∧
        E = pad [stA s, .ptr 0 0, bV false, .mp 1, .any, .ptr 2 0, .any, .any, .any, .any, .any, mosV s.memos, nV s.memos.length, nV i, .any, .any, .any, .any, .any, .any, .any, .any, ssV m.ss, nV m.ss.length, nV k] 48 ∧ H = [.cells 72 (stC s), .map (em sV bV L) bs clk, .cells 57 (moC m)]) (n := m.ss.length) _ _
      ⟨0, g, L, bs, clk, rfl, Nat.zero_le _, hM, hcr, rfl, rfl⟩ (Conv.fit (by repeat' (first | exact Fit.nil | refine Fit.any ?_ | refine Fit.same ?_))) ?_
    rintro _ _ _ ⟨k, g, L, bs, clk, rfl, hk, hM, hcr, rfl, rfl⟩
    conv => whnf
    repeat refine go ?_
    refine ACond.dec (fun h2 => ?_) (fun h2 => ?_)
    · have hkl : k < m.ss.length := by omega
      have w2 : IntKind.wrap .i64 ((k : Int) + 1) = ((k + 1 : Nat) : Int) := by rw [wrap_i64 _ (by omega) (by omega)]; omega
      have hxo : sOk m.ss[k] := hss.2 _ (List.getElem_mem hkl)
      rw [List.drop_eq_getElem_cons hkl, mvS] at hcr
      conv => whnf
      repeat (first | refine go ?_ | ((first | refine AReq.mk (by omega) ?_ | refine AIdx.flat (enc := sC) sC_len (xs := m.ss) (i := k) hkl ?_); conv => whnf))
      have hput : ¬ (!m.void && g m.ss[k]) = true → (shipsM (mvS m.void (m.ss.drop (k + 1)) (upd g m.ss[k] (g m.ss[k] || !m.void))) (crT (s.memos.drop (i + 1))) = true → crT s.memos (fun _ => false) = true) := fun hn => by rw [if_neg hn] at hcr; exact hcr
      clear hcr
      rcases Bool.eq_false_or_eq_true m.void with hv | hv
      · refine ASplit.no (by rw [hv]; rfl) ?_
        have hcr := hput (by rw [hv]; simp)
        conv => whnf
        repeat refine ru ?_
        refine AOp.getM 1 m.ss[k] hT sK und126 hne4 (eb := bV) rfl hM hxo rfl rfl rfl ?_
        conv => whnf
        repeat refine ru ?_
        refine ASplit.mk (fun hg => ?_) (fun hg => ?_)
        · rw [hg] at hcr
          conv => whnf
          repeat refine ru ?_
          refine AOp.putM 1 m.ss[k] true sK und126 hM hxo rfl rfl rfl rfl ?_
          intro L' bs' clk' hM'
          conv => whnf
          repeat refine ru ?_
          rw [w2]
          exact AHead.mk (m.ss.length - (k + 1)) _ _ (by omega) ⟨k + 1, _, L', bs', clk', rfl, by omega, hM', hcr, rfl, rfl⟩ (Conv.fit (by repeat' (first | exact Fit.nil | refine Fit.any ?_ | refine Fit.same ?_)))
        · rw [hg] at hcr
          conv => whnf
          repeat refine ru ?_
          refine AOp.putM 1 m.ss[k] (!m.void) sK und126 hM hxo rfl rfl rfl rfl ?_
          intro L' bs' clk' hM'
          conv => whnf
          repeat refine ru ?_
          rw [w2]
          exact AHead.mk (m.ss.length - (k + 1)) _ _ (by omega) ⟨k + 1, _, L', bs', clk', rfl, by omega, hM', hcr, rfl, rfl⟩ (Conv.fit (by repeat' (first | exact Fit.nil | refine Fit.any ?_ | refine Fit.same ?_)))
      · refine ASplit.yes (by rw [hv]; rfl) ?_
        conv => whnf
        repeat refine ru ?_
        refine AOp.getM 1 m.ss[k] hT sK und126 hne4 (eb := bV) rfl hM hxo rfl rfl rfl ?_
        conv => whnf
        repeat refine ru ?_
        refine ACond.mk (fun hg => ?_) (fun hg => ?_)
        · conv => whnf
          repeat refine ru ?_
          refine AOut.stay ?_
          conv => whnf
          repeat refine ru ?_
          refine AOut.stay ?_
          conv => whnf
          repeat refine ru ?_
          exact hfalse (fun e => by rw [e] at hil; exact absurd hil (Nat.not_lt_zero _))
        · have hcr := hput (by rw [hg]; simp)
          rw [hg] at hcr
          conv => whnf
          repeat refine ru ?_
          refine AOp.getM 1 m.ss[k] hT sK und126 hne4 (eb := bV) rfl hM hxo rfl rfl rfl ?_
          conv => whnf
          repeat refine ru ?_
          refine ASplit.no hg ?_
          conv => whnf
          repeat refine ru ?_
          refine AOp.putM 1 m.ss[k] (!m.void) sK und126 hM hxo rfl rfl rfl rfl ?_
          intro L' bs' clk' hM'
          conv => whnf
          repeat refine ru ?_
          rw [w2]
          exact AHead.mk (m.ss.length - (k + 1)) _ _ (by omega) ⟨k + 1, _, L', bs', clk', rfl, by omega, hM', hcr, rfl, rfl⟩ (Conv.fit (by repeat' (first | exact Fit.nil | refine Fit.any ?_ | refine Fit.same ?_)))
    · rw [List.drop_of_length_le (by omega)] at hcr
      conv => whnf
      repeat refine go ?_
      refine AOut.stay ?_
      conv => whnf
      repeat refine go ?_
      rw [w1]
      exact AHead.mk (s.memos.length - (i + 1)) _ _ (by omega) ⟨i + 1, g, L, bs, clk, rfl, by omega, hM, hyes hmok, hcr, rfl, rfl⟩ (Conv.ren [0, 1] _ (by simp) (by simp) (by simp only [pad, renL, AV.ren, rens]; repeat' (first | exact Fit.nil | refine Fit.any ?_ | refine Fit.same ?_)) (.same (by simp only [ABlk.ren, stC_ren]; rfl) (.same (by simp only [ABlk.ren, ren_emS]; rfl) .nil)))
  · rw [List.drop_of_length_le (by omega)] at hcr
    conv => whnf
    repeat refine go ?_
    refine AOut.stay ?_
    conv => whnf
    repeat refine go ?_
    refine AFin.val rfl ⟨⟨true, rfl, fun _ => ⟨fun m hm => ?_, hcr rfl⟩, fun _ => rfl⟩, rfl⟩
    obtain ⟨k, hk, rfl⟩ := List.mem_iff_getElem.1 hm
    exact hI k hk (by omega)
end Go.Aw.U1

set_option linter.unusedSimpArgs false
set_option linter.unusedVariables false
set_option maxHeartbeats 4000000
namespace Go.Aw.U1
open Go Go.Proofs

def cvMv (m : Mv) : UR.Mv := ⟨m.p, m.i, m.q⟩
theorem mvs_cv (l : List Mv) : UR.mvs (l.map cvMv) = mvs l := by
  unfold UR.mvs mvs
  rw [List.length_map, List.flatMap_map]; rfl
def mvL (s : Sta) : List UR.Mv := s.moves.map cvMv
theorem f8 (s : Sta) (h : s.moves.length ≤ 300) : Spec P 8 [mvs s.moves] [] fun r H => (∃ d, (UR.good (mvL s) ∧ UR.AllOf (mvL s) d ∨ ¬ UR.good (mvL s) ∧ d = []) ∧ r = .tup [UR.hds d, nV (UR.chkF (mvL s))]) ∧ H = [] := by
  have := UR.f8v (mvL s) (by simp [mvL]; omega)
  rwa [mvL, mvs_cv] at this
def ordU (s : Sta) (u : Un) : Od := (s.orders.find? (fun x => decide (x.id = u.order))).getD odZ
def itemU (s : Sta) (u : Un) : Int := (((ordU s u).ls[u.line.toNat]?).getD ⟨0, 0, 0, 0, []⟩).item
def cntS (s : Sta) (id : Int) : List Un → Int
  | [] => 0
  | u :: l => (if u.state = 6 ∧ itemU s u = id then 1 else 0) + cntS s id l
theorem cntS_snoc (s : Sta) (id : Int) (u : Un) : ∀ l, cntS s id (l ++ [u]) = cntS s id l + (if u.state = 6 ∧ itemU s u = id then 1 else 0)
  | [] => by simp [cntS]
  | a :: l => by rw [List.cons_append, cntS, cntS, cntS_snoc s id u l]; omega
theorem cntS_bd (s : Sta) (id : Int) : ∀ l, 0 ≤ cntS s id l ∧ cntS s id l ≤ (l.length : Int)
  | [] => by simp [cntS]
  | a :: l => by
    have := cntS_bd s id l
    rw [cntS, List.length_cons]
    split <;> omega
theorem At.item {s : Sta} {u : Un} {o : Od} {k j : Nat} (h : At s u o k j) : ordU s u = o ∧ u.line.toNat = k ∧ itemU s u = (o.ls[k]'h.klt).item := by
  have e1 : ordU s u = o := by rw [ordU, h.find]; rfl
  have e2 : u.line.toNat = k := by rw [h.line]; simp
  refine ⟨e1, e2, ?_⟩
  rw [itemU, e1, e2, List.getElem?_eq_getElem h.klt]; rfl
theorem ordB_lines {o : Od} (h : ordC o = 0) {l : Ln} (hl : l ∈ o.ls) : lineC l = 0 := by
  unfold ordC at h
  split at h
  · rename_i h2
    simp only [ordB, Bool.and_eq_true, List.all_eq_true, decide_eq_true_eq] at h2
    exact h2.1.1.2 l hl
  · omega
structure StockOk (s : Sta) (d : List UR.Hd) : Prop where
  good : UR.good (mvL s)
  all : UR.AllOf (mvL s) d
  cnt : ∀ x ∈ d, x.1 = false → x.2.2 = cntS s x.2.1 s.units
theorem nodup_le {α : Type} [DecidableEq α] : ∀ {l l' : List α}, l.Nodup → (∀ x ∈ l, x ∈ l') → l.length ≤ l'.length
  | [], _, _, _ => Nat.zero_le _
  | a :: l, l', hn, hs => by
    obtain ⟨h1, h2⟩ := List.nodup_cons.1 hn
    have ha := hs a (by simp)
    have ih := nodup_le (l' := l'.erase a) h2 (fun x hx => (List.mem_erase_of_ne (show x ≠ a from fun e => h1 (by rw [← e]; exact hx))).2 (hs x (by simp [hx])))
    rw [List.length_erase_of_mem ha] at ih
    have := List.length_pos_of_mem ha
    rw [List.length_cons]; omega
theorem und137 : P.underlying 137 = some (.map 3 3) := by kernel_rfl
theorem f24 (s : Sta) (h : StaOk s) (hb : Base s) (ho : ∀ o ∈ s.orders, ordC o = 0) : Spec P 24 [stA s] [] (fun r H => (∃ b, r = bV b ∧ (b = true → ∃ d, StockOk s d) ∧ (s.units = [] → s.moves = [] → b = true)) ∧ H = []) := by
  refine spec_of hT (f := 24) (fn := Go.Proofs.Tryz.f24) (c := body Go.Proofs.Tryz.f24) (by kernel_rfl) (by kernel_rfl) ?_
  have hu1 := h.units.1
  have hfalse : ∀ {H : List ABlk}, s.moves ≠ [] → AFin 0 (bV false) H (fun r H => (∃ b, r = bV b ∧ (b = true → ∃ d, StockOk s d) ∧ (s.units = [] → s.moves = [] → b = true)) ∧ H = []) := fun hne => AFin.val rfl ⟨⟨false, rfl, fun h => Bool.noConfusion h, fun _ e => absurd e hne⟩, rfl⟩
  conv => whnf
  repeat refine go ?_
  refine ACall.spec (args := [mvs s.moves]) (by kernel_rfl) (f8 s h.moves) (by (first | rfl | (simp only [renL, AV.ren, List.nil_append, List.cons_append, rens]; try rfl))) ?_
  rintro _ _ ⟨⟨d, hd, rfl⟩, rfl⟩
  simp only [AV.ren, renL, UR.ren_hds]
  conv => whnf
  repeat refine go ?_
  refine ACond.ndec (fun h1 => ?_) (fun h1 => ?_)
  · conv => whnf
    repeat refine ru ?_
    refine hfalse (fun e => h1 (UR.chkF_yes ⟨by simp [mvL, e], fun k hk => ?_⟩))
    simp [mvL, e] at hk
  obtain ⟨hg, hall⟩ : UR.good (mvL s) ∧ UR.AllOf (mvL s) d := by
    rcases hd with hd | ⟨hd, _⟩
    · exact hd
    · rw [UR.chkF_no hd] at h1; cases h1
  conv => whnf
  repeat refine ru ?_
  refine AOp.makeMap ?_
  conv => whnf
  repeat refine ru ?_
  refine ALoop.mk (fun n E H => ∃ (i : Nat) (g : Int → Int) (L : List (Int × Int)) (bs : List Nat) (clk : Nat), n = s.units.length - i ∧ i ≤ s.units.length ∧ MapIs nOk L 0 g ∧ (s.units = [] → L = []) ∧ (∀ x, g x = cntS s x (s.units.take i)) ∧
      E = pad [stA s, .ptr 0 0, bV false, UR.hds d, .any, .mp 1, .any, .any, .any, .any, .any, .any, .any, .any, .any, .any, .any, .any, .any, .any, .any, .any, .any, .any, unsV s.units, nV s.units.length, nV i] 80 ∧ H = [.cells 72 (stC s), .map (em nV nV L) bs clk]) (n := s.units.length) _ _
    ⟨0, _, [], [], 0, rfl, Nat.zero_le _, MapIs.nil, fun _ => rfl, fun x => by simp [cntS], rfl, rfl⟩ (Conv.fit (by repeat' (first | exact Fit.nil | refine Fit.any ?_ | refine Fit.same ?_))) ?_
  rintro _ _ _ ⟨i, g, L, bs, clk, rfl, hi, hM, hLe, hI, rfl, rfl⟩
  conv => whnf
  repeat refine go ?_
  refine ACond.dec (fun h2 => ?_) (fun h2 => ?_)
  · have hil : i < s.units.length := by omega
    have w1 : IntKind.wrap .i64 ((i : Int) + 1) = ((i + 1 : Nat) : Int) := by rw [wrap_i64 _ (by omega) (by omega)]; omega
    obtain ⟨o, k, j, hat⟩ := came_at hb.tab (hb.came _ (List.getElem_mem hil))
    obtain ⟨e1, e2, e3⟩ := hat.item
    have hf := f9 s s.units[i].order h.orders.1
    rw [hat.find] at hf
    have htk : s.units.take (i + 1) = s.units.take i ++ [s.units[i]] := by rw [List.take_add_one, List.getElem?_eq_getElem hil]; rfl
    have hI2 : ∀ x, cntS s x (s.units.take (i + 1)) = g x + (if s.units[i].state = 6 ∧ itemU s s.units[i] = x then 1 else 0) := fun x => by rw [htk, cntS_snoc, hI]
    conv => whnf
    repeat (first | refine go ?_ | ((first | refine AReq.mk (by omega) ?_ | refine AIdx.flat (enc := unC) unC_len (xs := s.units) (i := i) hil ?_); conv => whnf))
    generalize s.units[i] = u at hat e1 e2 e3 hf hI2
    refine ACond.dec (fun h3 => ?_) (fun h3 => ?_)
    · conv => whnf
      repeat refine ru ?_
      refine ACall.val (args := [stA s, nV u.order]) (by kernel_rfl) hf (by (first | rfl | (simp only [renL, AV.ren, List.nil_append, List.cons_append, rens]; try rfl))) (by (first | rfl | (simp only [renL, AV.ren, List.nil_append, List.cons_append, rens]; try rfl))) ?_
      simp only [Option.getD_some, Option.isSome_some]
      have hk := hat.klt
      have hkl : u.line = k := hat.line
      have hlc := lineC_ok (ordB_lines (ho o hat.mem) (List.getElem_mem hk))
      have hok : nOk (o.ls[k]'hk).item := nOk_of (by omega) (by omega)
      have hbd := cntS_bd s (o.ls[k]'hk).item (s.units.take i)
      rw [← hI] at hbd
      have hle : (s.units.take i).length ≤ i := by simp; omega
      have w2 : IntKind.wrap .i64 (g (o.ls[k]'hk).item + 1) = g (o.ls[k]'hk).item + 1 := by rw [wrap_i64 _ (by omega) (by omega)]
      conv => whnf
      repeat (first | refine ru ?_ | (refine AReq.mk (by omega) ?_; conv => whnf))
      refine AIdx.at lnC_len k (by omega) hk ?_
      conv => whnf
      repeat refine ru ?_
      refine AOp.getM 1 (o.ls[k]'hk).item hT nK und137 hne3 (eb := nV) rfl hM hok rfl rfl rfl ?_
      conv => whnf
      repeat refine ru ?_
      rw [w2]
      refine AOp.putM 1 (o.ls[k]'hk).item (g (o.ls[k]'hk).item + 1) nK und137 hM hok rfl rfl rfl rfl ?_
      intro L' bs' clk' hM'
      conv => whnf
      repeat refine ru ?_
      rw [w1]
      refine AHead.mk (s.units.length - (i + 1)) _ _ (by omega) ⟨i + 1, _, L', bs', clk', rfl, by omega, hM', fun e => absurd hil (by rw [e]; exact Nat.not_lt_zero _), fun x => ?_, rfl, rfl⟩ (Conv.ren [0, 1] _ (by simp) (by simp) (by simp only [pad, renL, AV.ren, stC_ren, unsV_ren, UR.ren_hds]; repeat' (first | exact Fit.nil | refine Fit.any ?_ | refine Fit.same ?_)) (.same (by simp only [ABlk.ren, stC_ren]; rfl) (.same (by simp only [ABlk.ren, ren_emI]; rfl) .nil)))
      rw [hI2, e3, upd]
      by_cases hx : x = (o.ls[k]'hk).item
      · subst hx; simp [h3]
      · rw [if_neg hx, if_neg (fun h => hx h.2.symm), Int.add_zero]
    · conv => whnf
      repeat refine ru ?_
      rw [w1]
      refine AHead.mk (s.units.length - (i + 1)) _ _ (by omega) ⟨i + 1, g, L, bs, clk, rfl, by omega, hM, hLe, fun x => ?_, rfl, rfl⟩ (Conv.ren [0, 1] _ (by simp) (by simp) (by simp only [pad, renL, AV.ren, stC_ren, unsV_ren, UR.ren_hds]; repeat' (first | exact Fit.nil | refine Fit.any ?_ | refine Fit.same ?_)) (.same (by simp only [ABlk.ren, stC_ren]; rfl) (.same (by simp only [ABlk.ren, ren_emI]; rfl) .nil)))
      rw [hI2, if_neg (fun h => h3 h.1), Int.add_zero]
  · rw [List.take_of_length_le (by omega)] at hI
    conv => whnf
    repeat refine go ?_
    refine AOut.stay ?_
    conv => whnf
    repeat refine go ?_
    have hnd : ∀ i j (hi : i < d.length) (hj : j < d.length), i < j → d[i].1 = false → d[j].1 = false → d[i].2.1 ≠ d[j].2.1 := fun i j hi hj hij h1 h2 he => by
      have := List.pairwise_iff_getElem.1 hall.lt i j hi hj hij
      simp only [UR.hdLt, decide_eq_true_eq] at this
      rcases this with ⟨_, h3⟩ | ⟨_, h3⟩
      · omega
      · rw [h2] at h3; cases h3
    have hids : ∀ x ∈ d, 1 ≤ x.2.1 ∧ x.2.1 ≤ 999999 := fun x hx => by
      obtain ⟨m, hm1, hm2, hm3⟩ := ((hall.mem x).1 hx).1
      obtain ⟨k, hk, rfl⟩ := List.mem_iff_getElem.1 hm1
      have := (hg.2 k hk).1
      unfold UR.mok at this
      omega
    have hdl : d.length ≤ 300 := by
      have h1 : (d.map fun x => (x.1, x.2.1)).Nodup := by
        rw [List.Nodup, List.pairwise_map]
        refine hall.lt.imp fun {x y} hxy he => ?_
        simp only [Prod.mk.injEq] at he
        simp only [UR.hdLt, decide_eq_true_eq] at hxy
        rcases hxy with ⟨_, h3⟩ | ⟨h3, h4⟩
        · omega
        · rw [he.1] at h3; rw [h3] at h4; cases h4
      have h2 := nodup_le h1 (l' := (mvL s).map fun m => (m.p, m.i)) (fun y hy => by
        obtain ⟨x, hx, rfl⟩ := List.mem_map.1 hy
        obtain ⟨m, hm1, hm2, hm3⟩ := ((hall.mem x).1 hx).1
        exact List.mem_map.2 ⟨m, hm1, by rw [hm2, hm3]⟩)
      have h3 := h.moves
      simp only [List.length_map, mvL] at h2
      omega
    refine ALoop.mk (fun n E H => ∃ (i : Nat) (g : Int → Int) (L : List (Int × Int)) (bs : List Nat) (clk : Nat), n = d.length - i ∧ i ≤ d.length ∧ MapIs nOk L 0 g ∧ (s.units = [] → L = []) ∧ (∀ x, (∀ k (hk : k < d.length), k < i → d[k].1 = false → d[k].2.1 ≠ x) → g x = cntS s x s.units) ∧ (∀ k (hk : k < d.length), k < i → d[k].1 = false → d[k].2.2 = cntS s d[k].2.1 s.units) ∧
        E = pad [stA s, .ptr 0 0, bV false, .any, .any, .mp 1, .any, .any, .any, .any, .any, .any, .any, .any, .any, .any, .any, .any, .any, .any, .any, .any, .any, .any, .any, .any, .any, .any, .any, .any, .any, .any, .any, .any, .any, .any, .any, .any, .any, .any, .any, .any, .any, .any, .any, .any, .any, .any, .any, .any, .any, .any, UR.hds d, nV d.length, nV i] 80 ∧ H = [.cells 72 (stC s), .map (em nV nV L) bs clk]) (n := d.length) _ _
      ⟨0, g, L, bs, clk, rfl, Nat.zero_le _, hM, hLe, fun x _ => hI x, fun k _ hk => absurd hk (Nat.not_lt_zero _), rfl, rfl⟩ (Conv.fit (by repeat' (first | exact Fit.nil | refine Fit.any ?_ | refine Fit.same ?_))) ?_
    rintro _ _ _ ⟨i, g, L, bs, clk, rfl, hi, hM, hLe, hI, hq, rfl, rfl⟩
    conv => whnf
    repeat refine go ?_
    refine ACond.dec (fun h3 => ?_) (fun h3 => ?_)
    · have hil : i < d.length := by omega
      have hdne : s.moves ≠ [] := fun e => by
        obtain ⟨m, hm1, _⟩ := ((hall.mem _).1 (List.getElem_mem hil)).1
        simp [mvL, e] at hm1
      have w1 : IntKind.wrap .i64 ((i : Int) + 1) = ((i + 1 : Nat) : Int) := by rw [wrap_i64 _ (by omega) (by omega)]; omega
      have hxb := hids _ (List.getElem_mem hil)
      have hok : nOk d[i].2.1 := nOk_of (by omega) (by omega)
      have hgi : d[i].1 = false → g d[i].2.1 = cntS s d[i].2.1 s.units := fun hf => hI _ fun k hk hki hkf => hnd k i hk hil hki hkf hf
      have hq2 : (d[i].1 = false → d[i].2.2 = cntS s d[i].2.1 s.units) → ∀ k (hk : k < d.length), k < i + 1 → d[k].1 = false → d[k].2.2 = cntS s d[k].2.1 s.units := fun hc k hk hki => by
        rcases Nat.lt_or_ge k i with g | g
        · exact hq k hk g
        · obtain rfl : k = i := by omega
          exact hc
      have hI1 : d[i].1 = true → ∀ x, (∀ k (hk : k < d.length), k < i + 1 → d[k].1 = false → d[k].2.1 ≠ x) → g x = cntS s x s.units := fun hf x hx => hI x fun k hk hki => hx k hk (by omega)
      have hI0 : d[i].1 = false → ∀ x, (∀ k (hk : k < d.length), k < i + 1 → d[k].1 = false → d[k].2.1 ≠ x) → upd g d[i].2.1 0 x = cntS s x s.units := fun hf x hx => by
        have hne : x ≠ d[i].2.1 := fun e => hx i hil (by omega) hf e.symm
        rw [upd, if_neg hne]
        exact hI x fun k hk hki => hx k hk (by omega)
      conv => whnf
      repeat (first | refine go ?_ | ((first | refine AReq.mk (by omega) ?_ | refine AIdx.flat (enc := UR.hdC) UR.hdC_len (xs := d) (i := i) hil ?_); conv => whnf))
      generalize d[i] = x at hxb hok hgi hq2 hI1 hI0
      rcases Bool.eq_false_or_eq_true x.1 with hp | hp
      · refine ASplit.no (by rw [hp]; rfl) ?_
        conv => whnf
        repeat refine ru ?_
        refine ACond.no (by rw [hp]; rfl) ?_
        conv => whnf
        repeat refine ru ?_
        rw [w1]
        exact AHead.mk (d.length - (i + 1)) _ _ (by omega) ⟨i + 1, g, L, bs, clk, rfl, by omega, hM, hLe, hI1 hp, hq2 (fun h => by rw [hp] at h; cases h), rfl, rfl⟩ (Conv.ren [0, 1] _ (by simp) (by simp) (by simp only [pad, renL, AV.ren, stC_ren, unsV_ren, UR.ren_hds]; repeat' (first | exact Fit.nil | refine Fit.any ?_ | refine Fit.same ?_)) (.same (by simp only [ABlk.ren, stC_ren]; rfl) (.same (by simp only [ABlk.ren, ren_emI]; rfl) .nil)))
      · refine ASplit.yes (by rw [hp]; rfl) ?_
        conv => whnf
        repeat refine ru ?_
        refine AOp.getM 1 x.2.1 hT nK und137 hne3 (eb := nV) rfl hM hok rfl rfl rfl ?_
        conv => whnf
        repeat refine ru ?_
        refine ACond.ndec (fun h4 => ?_) (fun h4 => ?_)
        · conv => whnf
          repeat refine ru ?_
          refine AOut.stay ?_
          conv => whnf
          repeat refine ru ?_
          exact hfalse (fun e => hdne e)
        conv => whnf
        repeat refine ru ?_
        refine ACond.yes (by rw [hp]; rfl) ?_
        conv => whnf
        repeat refine ru ?_
        refine AOp.delM 1 x.2.1 nK und137 rfl rfl hM hok rfl rfl rfl ?_
        intro L' bs' clk' hle hM'
        conv => whnf
        repeat refine ru ?_
        rw [w1]
        exact AHead.mk (d.length - (i + 1)) _ _ (by omega) ⟨i + 1, _, L', bs', clk', rfl, by omega, hM', fun e => List.eq_nil_of_length_eq_zero (by rw [hLe e] at hle; simpa using hle), hI0 hp, hq2 (fun h => by rw [← hgi h, h4]), rfl, rfl⟩ (Conv.ren [0, 1] _ (by simp) (by simp) (by simp only [pad, renL, AV.ren, stC_ren, unsV_ren, UR.ren_hds]; repeat' (first | exact Fit.nil | refine Fit.any ?_ | refine Fit.same ?_)) (.same (by simp only [ABlk.ren, stC_ren]; rfl) (.same (by simp only [ABlk.ren, ren_emI]; rfl) .nil)))
    · conv => whnf
      repeat refine ru ?_
      refine AOut.stay ?_
      conv => whnf
      refine AW.seq ?_
      conv => whnf
      refine AW.region ?_
      conv => whnf
      refine AO.cons hT ?_
      conv => whnf
      refine AO.consA rfl ?_
      refine AOp.lenM 1 und137 rfl rfl rfl rfl ?_
      conv => whnf
      repeat refine ru ?_
      refine AFin.val rfl ⟨⟨_, rfl, fun _ => ⟨d, hg, hall, fun x hx hp => ?_⟩, fun e _ => by rw [hLe e]; rfl⟩, rfl⟩
      obtain ⟨k, hk, rfl⟩ := List.mem_iff_getElem.1 hx
      exact hq k hk (by omega) hp
end Go.Aw.U1

set_option linter.unusedSimpArgs false
set_option linter.unusedVariables false
set_option maxHeartbeats 4000000
set_option maxRecDepth 4000
namespace Go.Aw.U1
open Go Go.Proofs

theorem twS_shipsM {o : Option (ByteArray → Bool)} {k : (ByteArray → Bool) → Bool} (h : shipsM o k = true) : ∃ g, k g = true := by
  cases o with
  | none => cases h
  | some g => exact ⟨g, h⟩
theorem ships_ord {s : Sta} : ∀ {os : List Od} {g : ByteArray → Bool}, shipsT s os g = true → ∀ o ∈ os, ordC o = 0
  | [], _, _, o, ho => by simp at ho
  | a :: os, g, h, o, ho => by
    rw [shipsT] at h
    split at h
    · rename_i h1
      rcases List.mem_cons.1 ho with rfl | ho
      · exact h1.1
      · obtain ⟨g', hg⟩ := twS_shipsM h
        exact ships_ord hg o ho
    · cases h
structure CheckOk (s : Sta) : Prop where
  base : Base s
  keys : keysB s = true
  ships : shipsB s = true
  rules : rulesB s = true
  auth : authB s = true
  works : workB s = true
  claims : claimedB s = true
  memos : ∀ m ∈ s.memos, MemoOk s m
  once : crT s.memos (fun _ => false) = true
  stock : ∃ d, StockOk s d
theorem ships_all {s : Sta} (h : shipsB s = true) : ∀ o ∈ s.orders, ordC o = 0 := by
  simp only [shipsB, Bool.and_eq_true] at h
  exact ships_ord h.2
/-- a state whose numbers may be keys -/
def idsOk (s : Sta) : Prop := ∀ r ∈ s.rmas, nOk r.id ∧ ∀ w ∈ r.ws, nOk w.line
def TabNo (s : Sta) : Prop := tablesB s = false
/-- a state that has no units -/
structure Easy (s : Sta) : Prop where
  tab : tablesB s = true
  keys : keysB s = true
  ships : shipsB s = true
  rules : rulesB s = true
  auth : authB s = true
  works : workB s = true
  claims : claimedB s = true
  units : s.units = []
  memos : s.memos = []
  moves : s.moves = []
  got : ∀ r ∈ s.rmas, ∀ w ∈ r.ws, w.got = 0
theorem f6 (s : Sta) (h : StaOk s) (hid : idsOk s) : Spec P 6 [stA s] [] (fun r H => (∃ n, r = nV n ∧ (n = 0 → CheckOk s) ∧ (Easy s → n = 0) ∧ (TabNo s → n = 40)) ∧ H = []) := by
  refine spec_of hT (f := 6) (fn := Go.Proofs.Tryz.f6) (c := body Go.Proofs.Tryz.f6) (by kernel_rfl) (by kernel_rfl) ?_
  have hfalse : ∀ {H : List ABlk}, ¬ Easy s → AFin 0 (nV 40) H (fun r H => (∃ n, r = nV n ∧ (n = 0 → CheckOk s) ∧ (Easy s → n = 0) ∧ (TabNo s → n = 40)) ∧ H = []) := fun hne => AFin.val rfl ⟨⟨40, rfl, (fun h => absurd h (by decide)), (fun e => absurd e hne), (fun _ => rfl)⟩, rfl⟩
  conv => whnf
  repeat (first | refine go ?_ | ((first | refine ALoop.un ?_ | refine ALp.step (T := T) ?_ | refine AIdx.sp rfl ?_ | refine AReq.mk (by decide) ?_ | refine ACond.yes (by decide) ?_ | refine ACond.no (by decide) ?_); conv => whnf))
  refine ACall.val (args := [stA s]) (by kernel_rfl) (f15 s h) (by (first | rfl | (simp only [renL, AV.ren, List.nil_append, List.cons_append, rens]; try rfl))) rfl ?_
  cases h1 : tablesB s with
  | false =>
    conv => whnf
    repeat (first | refine go ?_ | ((first | refine ALoop.un ?_ | refine ALp.step (T := T) ?_ | refine AIdx.sp rfl ?_ | refine AReq.mk (by decide) ?_ | refine ACond.yes (by decide) ?_ | refine ACond.no (by decide) ?_); conv => whnf))
    exact hfalse (fun e => by rw [e.tab] at h1; cases h1)
  | true =>
  conv => whnf
  repeat (first | refine go ?_ | ((first | refine ALoop.un ?_ | refine ALp.step (T := T) ?_ | refine AIdx.sp rfl ?_ | refine AReq.mk (by decide) ?_ | refine ACond.yes (by decide) ?_ | refine ACond.no (by decide) ?_); conv => whnf))
  refine ACall.val (args := [stA s]) (by kernel_rfl) (f16 s h) (by (first | rfl | (simp only [renL, AV.ren, List.nil_append, List.cons_append, rens]; try rfl))) rfl ?_
  cases h2 : keysB s with
  | false =>
    conv => whnf
    repeat (first | refine go ?_ | ((first | refine ALoop.un ?_ | refine ALp.step (T := T) ?_ | refine AIdx.sp rfl ?_ | refine AReq.mk (by decide) ?_ | refine ACond.yes (by decide) ?_ | refine ACond.no (by decide) ?_); conv => whnf))
    exact hfalse (fun e => by rw [e.keys] at h2; cases h2)
  | true =>
  conv => whnf
  repeat (first | refine go ?_ | ((first | refine ALoop.un ?_ | refine ALp.step (T := T) ?_ | refine AIdx.sp rfl ?_ | refine AReq.mk (by decide) ?_ | refine ACond.yes (by decide) ?_ | refine ACond.no (by decide) ?_); conv => whnf))
  refine ACall.val (args := [stA s]) (by kernel_rfl) (f17 s h) (by (first | rfl | (simp only [renL, AV.ren, List.nil_append, List.cons_append, rens]; try rfl))) rfl ?_
  cases h3 : shipsB s with
  | false =>
    conv => whnf
    repeat (first | refine go ?_ | ((first | refine ALoop.un ?_ | refine ALp.step (T := T) ?_ | refine AIdx.sp rfl ?_ | refine AReq.mk (by decide) ?_ | refine ACond.yes (by decide) ?_ | refine ACond.no (by decide) ?_); conv => whnf))
    exact hfalse (fun e => by rw [e.ships] at h3; cases h3)
  | true =>
  conv => whnf
  repeat (first | refine go ?_ | ((first | refine ALoop.un ?_ | refine ALp.step (T := T) ?_ | refine AIdx.sp rfl ?_ | refine AReq.mk (by decide) ?_ | refine ACond.yes (by decide) ?_ | refine ACond.no (by decide) ?_); conv => whnf))
  refine ACall.val (args := [stA s]) (by kernel_rfl) (f18 s) (by (first | rfl | (simp only [renL, AV.ren, List.nil_append, List.cons_append, rens]; try rfl))) rfl ?_
  cases h4 : rulesB s with
  | false =>
    conv => whnf
    repeat (first | refine go ?_ | ((first | refine ALoop.un ?_ | refine ALp.step (T := T) ?_ | refine AIdx.sp rfl ?_ | refine AReq.mk (by decide) ?_ | refine ACond.yes (by decide) ?_ | refine ACond.no (by decide) ?_); conv => whnf))
    exact hfalse (fun e => by rw [e.rules] at h4; cases h4)
  | true =>
  conv => whnf
  repeat (first | refine go ?_ | ((first | refine ALoop.un ?_ | refine ALp.step (T := T) ?_ | refine AIdx.sp rfl ?_ | refine AReq.mk (by decide) ?_ | refine ACond.yes (by decide) ?_ | refine ACond.no (by decide) ?_); conv => whnf))
  refine ACall.val (args := [stA s]) (by kernel_rfl) (f19 s h) (by (first | rfl | (simp only [renL, AV.ren, List.nil_append, List.cons_append, rens]; try rfl))) rfl ?_
  cases h5 : authB s with
  | false =>
    conv => whnf
    repeat (first | refine go ?_ | ((first | refine ALoop.un ?_ | refine ALp.step (T := T) ?_ | refine AIdx.sp rfl ?_ | refine AReq.mk (by decide) ?_ | refine ACond.yes (by decide) ?_ | refine ACond.no (by decide) ?_); conv => whnf))
    exact hfalse (fun e => by rw [e.auth] at h5; cases h5)
  | true =>
  conv => whnf
  repeat (first | refine go ?_ | ((first | refine ALoop.un ?_ | refine ALp.step (T := T) ?_ | refine AIdx.sp rfl ?_ | refine AReq.mk (by decide) ?_ | refine ACond.yes (by decide) ?_ | refine ACond.no (by decide) ?_); conv => whnf))
  refine ACall.spec (args := [stA s]) (by kernel_rfl) (f20 s h hid) (by (first | rfl | (simp only [renL, AV.ren, List.nil_append, List.cons_append, rens]; try rfl))) ?_
  rintro _ _ ⟨⟨b, rfl, h6, h6e⟩, rfl⟩
  cases b with
  | false =>
    conv => whnf
    repeat (first | refine go ?_ | ((first | refine ALoop.un ?_ | refine ALp.step (T := T) ?_ | refine AIdx.sp rfl ?_ | refine AReq.mk (by decide) ?_ | refine ACond.yes (by decide) ?_ | refine ACond.no (by decide) ?_); conv => whnf))
    exact hfalse (fun e => Bool.noConfusion (h6e e.units e.got))
  | true =>
  have h6 := h6 rfl
  have hb : Base s := ⟨h1, h6⟩
  conv => whnf
  repeat (first | refine go ?_ | ((first | refine ALoop.un ?_ | refine ALp.step (T := T) ?_ | refine AIdx.sp rfl ?_ | refine AReq.mk (by decide) ?_ | refine ACond.yes (by decide) ?_ | refine ACond.no (by decide) ?_); conv => whnf))
  refine ACall.val (args := [stA s]) (by kernel_rfl) (f21 s h) (by (first | rfl | (simp only [renL, AV.ren, List.nil_append, List.cons_append, rens]; try rfl))) rfl ?_
  cases h7 : workB s with
  | false =>
    conv => whnf
    repeat (first | refine go ?_ | ((first | refine ALoop.un ?_ | refine ALp.step (T := T) ?_ | refine AIdx.sp rfl ?_ | refine AReq.mk (by decide) ?_ | refine ACond.yes (by decide) ?_ | refine ACond.no (by decide) ?_); conv => whnf))
    exact hfalse (fun e => by rw [e.works] at h7; cases h7)
  | true =>
  conv => whnf
  repeat (first | refine go ?_ | ((first | refine ALoop.un ?_ | refine ALp.step (T := T) ?_ | refine AIdx.sp rfl ?_ | refine AReq.mk (by decide) ?_ | refine ACond.yes (by decide) ?_ | refine ACond.no (by decide) ?_); conv => whnf))
  refine ACall.val (args := [stA s]) (by kernel_rfl) (f22 s h) (by (first | rfl | (simp only [renL, AV.ren, List.nil_append, List.cons_append, rens]; try rfl))) rfl ?_
  cases h8 : claimedB s with
  | false =>
    conv => whnf
    repeat (first | refine go ?_ | ((first | refine ALoop.un ?_ | refine ALp.step (T := T) ?_ | refine AIdx.sp rfl ?_ | refine AReq.mk (by decide) ?_ | refine ACond.yes (by decide) ?_ | refine ACond.no (by decide) ?_); conv => whnf))
    exact hfalse (fun e => by rw [e.claims] at h8; cases h8)
  | true =>
  conv => whnf
  repeat (first | refine go ?_ | ((first | refine ALoop.un ?_ | refine ALp.step (T := T) ?_ | refine AIdx.sp rfl ?_ | refine AReq.mk (by decide) ?_ | refine ACond.yes (by decide) ?_ | refine ACond.no (by decide) ?_); conv => whnf))
  refine ACall.spec (args := [stA s]) (by kernel_rfl) (f23 s h hb) (by (first | rfl | (simp only [renL, AV.ren, List.nil_append, List.cons_append, rens]; try rfl))) ?_
  rintro _ _ ⟨⟨b, rfl, h9, h9e⟩, rfl⟩
  cases b with
  | false =>
    conv => whnf
    repeat (first | refine go ?_ | ((first | refine ALoop.un ?_ | refine ALp.step (T := T) ?_ | refine AIdx.sp rfl ?_ | refine AReq.mk (by decide) ?_ | refine ACond.yes (by decide) ?_ | refine ACond.no (by decide) ?_); conv => whnf))
    exact hfalse (fun e => Bool.noConfusion (h9e e.memos))
  | true =>
  have h9 := h9 rfl
  conv => whnf
  repeat (first | refine go ?_ | ((first | refine ALoop.un ?_ | refine ALp.step (T := T) ?_ | refine AIdx.sp rfl ?_ | refine AReq.mk (by decide) ?_ | refine ACond.yes (by decide) ?_ | refine ACond.no (by decide) ?_); conv => whnf))
  refine ACall.spec (args := [stA s]) (by kernel_rfl) (f24 s h hb (ships_all h3)) (by (first | rfl | (simp only [renL, AV.ren, List.nil_append, List.cons_append, rens]; try rfl))) ?_
  rintro _ _ ⟨⟨b, rfl, h10, h10e⟩, rfl⟩
  cases b with
  | false =>
    conv => whnf
    repeat (first | refine go ?_ | ((first | refine ALoop.un ?_ | refine ALp.step (T := T) ?_ | refine AIdx.sp rfl ?_ | refine AReq.mk (by decide) ?_ | refine ACond.yes (by decide) ?_ | refine ACond.no (by decide) ?_); conv => whnf))
    exact hfalse (fun e => Bool.noConfusion (h10e e.units e.moves))
  | true =>
  have h10 := h10 rfl
  conv => whnf
  repeat (first | refine go ?_ | ((first | refine ALoop.un ?_ | refine ALp.step (T := T) ?_ | refine AIdx.sp rfl ?_ | refine AReq.mk (by decide) ?_ | refine ACond.yes (by decide) ?_ | refine ACond.no (by decide) ?_); conv => whnf))
  exact AFin.val rfl ⟨⟨0, rfl, fun _ => ⟨hb, h2, h3, h4, h5, h7, h8, h9.1, h9.2, h10⟩, fun _ => rfl, fun e => by rw [TabNo, h1] at e; cases e⟩, rfl⟩
end Go.Aw.U1

