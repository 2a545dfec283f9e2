/-
  The statement AuditMoney: what was paid back is from nothing to what was paid, units that are left and that are done are all, and no more units are there than were shipped, without any condition.
-/
import Derived.Test.YtgpnhbekepoebaaGreatQ08
import Derived.Test.YtgpnhbekepoebaaGreatQ00
import Derived.Test.YtgpnhbekepoebaaGreatQ03
set_option linter.unusedSimpArgs false
set_option linter.unusedVariables false
set_option linter.unusedSimpArgs false
set_option linter.unusedVariables false
set_option maxHeartbeats 4000000
set_option maxRecDepth 30000
namespace Go.Aw.U1
open Go Go.Proofs

/-! ### what an order cost, and what was paid back -/
def totF (m : Mo) : Int := if (addT m.am 0).2 = 0 then (addT m.am 0).1 else 0
def paidS : List Ln → Int
  | [] => 0
  | l :: ls => (payF l).1 + paidS ls
def backS (id : Int) : List Mo → Int
  | [] => 0
  | m :: l => (if m.order = id ∧ m.void = false then totF m else 0) + backS id l
def memN (id : Int) : List Mo → Int
  | [] => 0
  | m :: l => (if m.order = id ∧ m.void = false then 1 else 0) + memN id l
theorem addT_bd : ∀ (l : List Int) (s : Int), inB s = true → inB (addT l s).1 = true
  | [], s, h => h
  | n :: l, s, h => by
    rw [addT]
    split
    · split
      · rename_i h2; exact addT_bd l _ h2
      · rfl
    · rfl
theorem addT_sum : ∀ (l : List Int) (s : Int), (addT l s).2 = 0 → (addT l s).1 = s + l.sum
  | [], s, _ => by simp [addT]
  | n :: l, s, h => by
    rw [addT] at h ⊢
    split at h
    · rename_i h1
      rw [if_pos h1]
      split at h
      · rename_i h2
        rw [if_pos h2, addT_sum l _ h, List.sum_cons]; omega
      · cases h
    · cases h
theorem totF_bd (m : Mo) : -1000000000000 ≤ totF m ∧ totF m ≤ 1000000000000 := by
  have := inB_iff.1 (addT_bd m.am 0 rfl)
  unfold totF
  split <;> omega
theorem payF_bd (l : Ln) : -1000000000000 ≤ (payF l).1 ∧ (payF l).1 ≤ 1000000000000 := by
  have := inB_iff.1 (addT_bd [l.net, l.tax] 0 rfl)
  unfold payF
  split
  · exact this
  · simp
theorem paidS_bd : ∀ l : List Ln, -1000000000000 * (l.length : Int) ≤ paidS l ∧ paidS l ≤ 1000000000000 * (l.length : Int)
  | [] => by simp [paidS]
  | a :: l => by
    have h1 := paidS_bd l
    have h2 := payF_bd a
    rw [paidS, List.length_cons]
    omega
theorem backS_bd (id : Int) : ∀ l : List Mo, -1000000000000 * (l.length : Int) ≤ backS id l ∧ backS id l ≤ 1000000000000 * (l.length : Int) ∧ 0 ≤ memN id l ∧ memN id l ≤ l.length
  | [] => by simp [backS, memN]
  | a :: l => by
    have h1 := backS_bd id l
    have h2 := totF_bd a
    rw [backS, memN, List.length_cons]
    split <;> omega
theorem mvS_ge {v : Bool} : ∀ {l : List ByteArray} {g g' : ByteArray → Bool}, mvS v l g = some g' → ∀ x, g x = true → g' x = true
  | [], g, g', h, x, hx => by cases h; exact hx
  | y :: l, g, g', h, x, hx => by
    rw [mvS] at h
    split at h
    · cases h
    · refine mvS_ge h x ?_
      simp only [upd]
      split
      · rename_i e; rw [← e, hx]; rfl
      · exact hx
theorem PayO.lower {s : Sta} {o : Od} {g : ByteArray → Bool} {S : List ByteArray} {n n' : Int} (h : PayO s o g S n) (h1 : 0 ≤ n') (h2 : n' ≤ n) : PayO s o g S n' :=
  ⟨h.nd, h.plc, h1, by have := h.hi; omega, h.old⟩
theorem payO_ss {s : Sta} {o : Od} (ht : tablesB s = true) (ho : o ∈ s.orders) (hl : ∀ l ∈ o.ls, lineC l = 0) : ∀ (ss : List ByteArray) (am : List Int) {g g' : ByteArray → Bool} {S : List ByteArray} {n : Int}, am.length = ss.length →
    (∀ i (h1 : i < ss.length) (h2 : i < am.length), ∃ u ∈ s.units, findU s ss[i] = some u ∧ u.order = o.id ∧ ∃ o k j, At s u o k j ∧ ∃ l, o.ls[k]? = some l ∧ valF l u.place s.rules.fees u.grade = (am[i], 0)) →
    mvS false ss g = some g' → PayO s o g S n → 0 ≤ am.sum ∧ ∃ S', PayO s o g' S' (n + am.sum)
  | [], am, g, g', S, n, hlen, _, h, hP => by
    cases h
    obtain rfl := List.eq_nil_of_length_eq_zero (show am.length = 0 from hlen)
    exact ⟨Int.le_refl _, S, by simpa using hP⟩
  | x :: ss, [], g, g', S, n, hlen, _, _, _ => by cases hlen
  | x :: ss, a :: am, g, g', S, n, hlen, hone, h, hP => by
    rw [mvS] at h
    split at h
    · cases h
    · rename_i hx
      have hx : g x = false := by cases e : g x with
        | false => rfl
        | true => rw [e] at hx; exact absurd rfl hx
      obtain ⟨u, hum, hfu, huo, o', k, j, hat, l, hol, hval⟩ := hone 0 (by simp) (by simp)
      obtain rfl : o' = o := by
        have h1 := find_id (f := Od.id) (orders_ris ht) ho
        have h2 := hat.find
        rw [huo] at h2
        exact Option.some.inj (h2.symm.trans h1)
      rw [List.getElem?_eq_getElem hat.klt] at hol
      obtain rfl := Option.some.inj hol
      have hP2 := hP.add hx hfu hat (hl _ (List.getElem_mem _)) hval
      have hge : 0 ≤ a := by
        have := (val_le (hl _ (List.getElem_mem hat.klt)) (show j < _ from hat.jlt) (by rw [← hat.place]; exact hval)).1
        exact this
      obtain ⟨h3, S', h4⟩ := payO_ss ht ho hl ss am (by simpa using hlen) (fun i h1 h2 => by have := hone (i + 1) (by simpa using h1) (by simpa using h2); simpa using this) h hP2
      exact ⟨by rw [List.sum_cons]; omega, S', by rw [List.sum_cons, ← Int.add_assoc]; exact h4⟩
theorem payO_all {s : Sta} {o : Od} (ht : tablesB s = true) (ho : o ∈ s.orders) (hl : ∀ l ∈ o.ls, lineC l = 0) : ∀ (l : List Mo) {g : ByteArray → Bool} {S : List ByteArray} {n : Int}, (∀ m ∈ l, MemoOk s m) → crT l g = true → PayO s o g S n →
    ∃ g' S', PayO s o g' S' (n + backS o.id l)
  | [], g, S, n, _, _, hP => ⟨g, S, by simpa [backS] using hP⟩
  | m :: l, g, S, n, hm, hc, hP => by
    rw [crT] at hc
    cases e : mvS m.void m.ss g with
    | none => rw [e] at hc; cases hc
    | some g' =>
      rw [e] at hc
      have hc : crT l g' = true := hc
      have hM := hm m (by simp)
      have hm' : ∀ x ∈ l, MemoOk s x := fun x hx => hm x (by simp [hx])
      by_cases h : m.order = o.id ∧ m.void = false
      · rw [h.2] at e
        obtain ⟨h1, S', h2⟩ := payO_ss ht ho hl m.ss m.am hM.len (fun i h1 h2 => by have := hM.one i h1 h2; rwa [h.1] at this) e hP
        have h3 : 0 ≤ totF m ∧ totF m ≤ m.am.sum := by
          unfold totF
          split
          · rename_i h3; rw [addT_sum _ _ h3]; omega
          · exact ⟨Int.le_refl _, h1⟩
        have := h2.lower (n' := n + totF m) (by have := hP.lo; omega) (by omega)
        obtain ⟨g2, S2, h4⟩ := payO_all ht ho hl l hm' hc this
        exact ⟨g2, S2, by rw [backS, if_pos h, ← Int.add_assoc]; exact h4⟩
      · obtain ⟨g2, S2, h4⟩ := payO_all ht ho hl l hm' hc (hP.skip (mvS_ge e))
        exact ⟨g2, S2, by rw [backS, if_neg h, Int.zero_add]; exact h4⟩
theorem paid_eq : ∀ {l : List Ln}, (∀ x ∈ l, lineC x = 0) → paidS l = paidT l
  | [], _ => rfl
  | a :: l, h => by rw [paidS, paidT, pay_ok (h a (by simp)), paid_eq (fun x hx => h x (by simp [hx]))]
theorem back_le {s : Sta} (hC : CheckOk s) {o : Od} (ho : o ∈ s.orders) : 0 ≤ backS o.id s.memos ∧ backS o.id s.memos ≤ paidS o.ls := by
  have hl : ∀ l ∈ o.ls, lineC l = 0 := fun l hl => ordB_lines (ships_all hC.ships o ho) hl
  obtain ⟨g, S, h⟩ := payO_all hC.base.tab ho hl s.memos hC.memos hC.once PayO.nil
  rw [Int.zero_add] at h
  exact ⟨h.lo, by rw [paid_eq hl]; exact h.le hl⟩

/-! ### units that are done, what is held -/
theorem done_iff {u : Un} (h : unB u = true) : doneB u = true ↔ 6 ≤ u.state := by
  have h0 := h
  simp only [unB, Bool.and_eq_true] at h
  obtain ⟨⟨⟨⟨h1, h2⟩, h3⟩, h4⟩, h5⟩ := h
  have hz : zB u = false := by
    simp only [standB, idB, Bool.and_eq_true, decide_eq_true_eq] at h3
    cases e : zB u with
    | false => rfl
    | true => simp [zB, unW, eqL, eqv] at e; omega
  rw [doneB, hz, nodeF, if_pos h0, Bool.not_false, Bool.true_and]
  unfold nodeB termB actF at h2
  unfold termB
  repeat' split at h2
  all_goals simp_all
  all_goals omega
theorem done_count {s : Sta} (hb : Base s) : (s.units.countP fun u => !doneB u) + (s.units.countP fun u => decide (6 ≤ u.state)) = s.units.length := by
  have key : ∀ l : List Un, (∀ u ∈ l, unB u = true) → (l.countP fun u => !doneB u) + (l.countP fun u => decide (6 ≤ u.state)) = l.length := by
    intro l
    induction l with
    | nil => intro _; rfl
    | cons u l ih =>
      intro h
      have h1 := done_iff (h u (by simp))
      have h2 := ih (fun x hx => h x (by simp [hx]))
      simp only [List.countP_cons, List.length_cons]
      by_cases h6 : 6 ≤ u.state
      · rw [h1.2 h6]; simp [h6]; omega
      · have : doneB u = false := by cases e : doneB u with
          | false => rfl
          | true => exact absurd (h1.1 e) h6
        rw [this]; simp [h6]; omega
  exact key s.units fun u hu => came_un (hb.came u hu)
def stkS : List UR.Hd → Int
  | [] => 0
  | x :: d => (if x.1 = false then x.2.2 else 0) + stkS d
def prtS : List UR.Hd → Int
  | [] => 0
  | x :: d => (if x.1 = true then x.2.2 else 0) + prtS d
theorem ind_sum (x : Int) : ∀ K : List Int, K.Nodup → (K.map fun id => if x = id then (1 : Int) else 0).sum ≤ 1 ∧ (x ∉ K → (K.map fun id => if x = id then (1 : Int) else 0).sum = 0)
  | [], _ => by simp
  | k :: K, h => by
    obtain ⟨h1, h2⟩ := List.nodup_cons.1 h
    have ih := ind_sum x K h2
    rw [List.map_cons, List.sum_cons]
    by_cases e : x = k
    · subst e
      rw [if_pos rfl, ih.2 h1]
      exact ⟨by omega, fun h => absurd (by simp) h⟩
    · rw [if_neg e]
      exact ⟨by have := ih.1; omega, fun h => by rw [ih.2 (fun hc => h (by simp [hc]))]; rfl⟩
theorem cnt_sum (s : Sta) (K : List Int) (hK : K.Nodup) : ∀ l : List Un, (K.map fun id => cntS s id l).sum ≤ (l.countP fun u => decide (u.state = 6) : Nat)
  | [] => by
    have : ∀ K : List Int, (K.map fun id => cntS s id []).sum = 0 := by
      intro K; induction K with
      | nil => rfl
      | cons k K ih => rw [List.map_cons, List.sum_cons, ih]; rfl
    rw [this]; simp
  | u :: l => by
    have ih := cnt_sum s K hK l
    have h1 : (K.map fun id => cntS s id (u :: l)).sum = (K.map fun id => if u.state = 6 ∧ itemU s u = id then (1 : Int) else 0).sum + (K.map fun id => cntS s id l).sum := by
      clear ih hK
      induction K with
      | nil => rfl
      | cons k K ihK => rw [List.map_cons, List.map_cons, List.map_cons, List.sum_cons, List.sum_cons, List.sum_cons, ihK, cntS]; omega
    rw [h1, List.countP_cons]
    by_cases h6 : u.state = 6
    · have := (ind_sum (itemU s u) K hK).1
      simp only [h6, true_and, decide_true, if_true]
      omega
    · have h0 : (K.map fun id => if u.state = 6 ∧ itemU s u = id then (1 : Int) else 0).sum = 0 := by
        clear ih hK h1
        induction K with
        | nil => rfl
        | cons k K ihK => rw [List.map_cons, List.sum_cons, ihK, if_neg (fun h => h6 h.1)]; rfl
      rw [h0]
      simp [h6]
      omega
theorem held_sum {s : Sta} (hC : CheckOk s) {d : List UR.Hd} (hd : UR.AllOf (mvL s) d) : 0 ≤ prtS d ∧ 0 ≤ stkS d ∧ stkS d ≤ (s.units.countP fun u => decide (6 ≤ u.state) : Nat) := by
  obtain ⟨d0, h0⟩ := hC.stock
  have hx := h0.same hd
  have hnd : ((d.filter fun x => !x.1).map fun x => x.2.1).Nodup := by
    rw [List.Nodup, List.pairwise_map]
    refine (hd.lt.filter _).imp_of_mem fun {x y} hx1 hy1 hxy he => ?_
    have e1 := (List.mem_filter.1 hx1).2
    have e2 := (List.mem_filter.1 hy1).2
    simp only [Bool.not_eq_true'] at e1 e2
    simp only [UR.hdLt, decide_eq_true_eq] at hxy
    rcases hxy with ⟨_, h3⟩ | ⟨_, h4⟩
    · omega
    · rw [e2] at h4; cases h4
  have hsum := cnt_sum s _ hnd s.units
  have hle : (s.units.countP fun u => decide (u.state = 6)) ≤ s.units.countP fun u => decide (6 ≤ u.state) := by
    refine List.countP_mono_left fun u _ h => ?_
    simp only [decide_eq_true_eq] at h ⊢; omega
  have key : ∀ d : List UR.Hd, (∀ x ∈ d, 0 ≤ x.2.2 ∧ (x.1 = false → x.2.2 = cntS s x.2.1 s.units)) → 0 ≤ prtS d ∧ 0 ≤ stkS d ∧ stkS d = (((d.filter fun x => !x.1).map fun x => x.2.1).map fun id => cntS s id s.units).sum := by
    intro d
    induction d with
    | nil => intro _; exact ⟨Int.le_refl _, Int.le_refl _, rfl⟩
    | cons x d ih =>
      intro h
      obtain ⟨g1, g2⟩ := h x (by simp)
      obtain ⟨i1, i2, i3⟩ := ih (fun y hy => h y (by simp [hy]))
      rw [prtS, stkS]
      cases e : x.1 with
      | true =>
        rw [List.filter_cons_of_neg (by simp [e])]
        rw [if_pos rfl, if_neg (by simp), Int.zero_add]
        exact ⟨by omega, i2, i3⟩
      | false =>
        rw [List.filter_cons_of_pos (by simp [e]), List.map_cons, List.map_cons, List.sum_cons, ← g2 e, ← i3]
        rw [if_pos rfl, if_neg (by simp), Int.zero_add]
        exact ⟨i1, by omega, by omega⟩
  obtain ⟨k1, k2, k3⟩ := key d hx
  exact ⟨k1, k2, by rw [k3]; omega⟩
end Go.Aw.U1

set_option linter.unusedSimpArgs false
set_option linter.unusedVariables false
set_option maxHeartbeats 4000000
set_option maxRecDepth 8000
namespace Go.Aw.U1
open Go Go.Proofs

theorem f21 (s : Sta) (h : StaOk s) : Fun P 21 [stA s] (nV (s.units.countP fun u => !doneB u : Nat)) := by
  refine spec_of hT (f := 21) (fn := Go.Proofs.Tryz.f21) (c := body Go.Proofs.Tryz.f21) (by kernel_rfl) (by kernel_rfl) ?_
  have hu1 := h.units.1
  conv => whnf
  repeat refine go ?_
  refine ALoop.mk (fun n E H => ∃ (i : Nat), n = s.units.length - i ∧ i ≤ s.units.length ∧
      E = pad [stA s, .ptr 0 0, .any, nV ((s.units.take i).countP (fun u => !doneB u) : Nat), .any, .any, .any, unsV s.units, nV s.units.length, nV i] 20 ∧ H = [.cells 44 (stC s)]) (n := s.units.length) _ _
    ⟨0, rfl, Nat.zero_le _, rfl, rfl⟩ (Conv.fit (by repeat' (first | exact Fit.nil | refine Fit.any ?_ | refine Fit.same ?_))) ?_
  rintro _ _ _ ⟨i, rfl, hi, rfl, rfl⟩
  conv => whnf
  repeat refine go ?_
  refine ACond.dec (fun h1 => ?_) (fun h1 => ?_)
  · have hil : i < s.units.length := by omega
    have w1 : IntKind.wrap .i64 ((i : Int) + 1) = ((i + 1 : Nat) : Int) := by rw [wrap_i64 _ (by omega) (by omega)]; omega
    have hso := h.units.2 _ (List.getElem_mem hil)
    have hc : (s.units.take (i + 1)).countP (fun u => !doneB u) = (s.units.take i).countP (fun u => !doneB u) + if doneB s.units[i] = false then 1 else 0 := by
      rw [List.take_add_one, List.getElem?_eq_getElem hil, List.countP_append]
      simp [List.countP_cons]
    have hle := List.countP_le_length (p := fun u : Un => !doneB u) (l := s.units.take i)
    rw [List.length_take] at hle
    generalize (s.units.take i).countP (fun u => !doneB u) = c at hc hle ⊢
    have w2 : IntKind.wrap .i64 ((c : Int) + 1) = ((c + 1 : Nat) : Int) := by rw [wrap_i64 _ (by omega) (by omega)]; omega
    conv => whnf
    repeat (first | refine go ?_ | ((first | refine AReq.mk (by omega) ?_ | refine AIdx.flat (enc := unC) unC_len (xs := s.units) (i := i) hil ?_); conv => whnf))
    generalize s.units[i] = u at hso hc
    refine ACall.val (args := [unA u]) (by kernel_rfl) (f69 u hso) (by (first | rfl | (simp only [renL, AV.ren, List.nil_append, List.cons_append, rens]; try rfl))) rfl ?_
    cases hd : doneB u with
    | false =>
      rw [if_pos hd] at hc
      conv => whnf
      repeat refine ru ?_
      rw [w1, w2]
      exact AHead.mk (s.units.length - (i + 1)) _ _ (by omega) ⟨i + 1, rfl, by omega, rfl, rfl⟩ (by rw [hc]; exact Conv.ren [0] _ (by simp) (by simp) (by simp only [pad, renL, AV.ren, rens]; repeat' (first | exact Fit.nil | refine Fit.any ?_ | refine Fit.same ?_)) (.same (by simp only [ABlk.ren, stC_ren]; rfl) .nil))
    | true =>
      rw [if_neg (by rw [hd]; simp)] at hc
      conv => whnf
      repeat refine ru ?_
      rw [w1]
      exact AHead.mk (s.units.length - (i + 1)) _ _ (by omega) ⟨i + 1, rfl, by omega, rfl, rfl⟩ (by rw [hc]; exact Conv.ren [0] _ (by simp) (by simp) (by simp only [pad, renL, AV.ren, rens]; repeat' (first | exact Fit.nil | refine Fit.any ?_ | refine Fit.same ?_)) (.same (by simp only [ABlk.ren, stC_ren]; rfl) .nil))
  · obtain rfl : i = s.units.length := by omega
    rw [List.take_length]
    conv => whnf
    repeat refine go ?_
    refine AOut.stay ?_
    conv => whnf
    repeat refine go ?_
    exact AFin.val rfl ⟨rfl, rfl⟩
end Go.Aw.U1

set_option linter.unusedSimpArgs false
set_option linter.unusedVariables false
set_option maxHeartbeats 4000000
set_option maxRecDepth 30000
namespace Go.Aw.U1
open Go Go.Proofs

theorem f32 (m : Mo) (hm : m.am.length ≤ 1000000) : Fun P 32 [moA m] (nV (totF m)) := by
  refine spec_of hT (f := 32) (fn := Go.Proofs.Tryz.f32) (c := body Go.Proofs.Tryz.f32) (by kernel_rfl) (by kernel_rfl) ?_
  unfold totF
  conv => whnf
  repeat refine go ?_
  refine ACall.val (args := [isV m.am]) (by kernel_rfl) (f105 m.am hm) (by (first | rfl | (simp only [renL, AV.ren, List.nil_append, List.cons_append, rens]; try rfl))) rfl ?_
  generalize addT m.am 0 = R
  conv => whnf
  repeat refine ru ?_
  refine ACond.ndec (fun h => ?_) (fun h => ?_)
  · rw [if_neg h]
    conv => whnf
    repeat refine ru ?_
    exact AFin.val rfl ⟨rfl, rfl⟩
  · rw [if_pos h]
    conv => whnf
    repeat refine ru ?_
    exact AFin.val rfl ⟨rfl, rfl⟩
theorem paid_drop {l : List Ln} {i : Nat} (h : i < l.length) : paidS (l.drop i) = (payF l[i]).1 + paidS (l.drop (i + 1)) := by
  rw [List.drop_eq_getElem_cons h, paidS]
theorem back_drop {id : Int} {l : List Mo} {i : Nat} (h : i < l.length) : backS id (l.drop i) = (if l[i].order = id ∧ l[i].void = false then totF l[i] else 0) + backS id (l.drop (i + 1)) ∧ memN id (l.drop i) = (if l[i].order = id ∧ l[i].void = false then 1 else 0) + memN id (l.drop (i + 1)) := by
  rw [List.drop_eq_getElem_cons h, backS, memN]; exact ⟨rfl, rfl⟩
def ordR (s : Sta) (id : Int) : AV :=
  match s.orders.find? (fun x => decide (x.id = id)) with
  | none => .tup [nV 0, nV 0, nV 0, bV false]
  | some o => .tup [nV (paidS o.ls), nV (backS id s.memos), nV (memN id s.memos), bV true]
theorem f36 (s : Sta) (id : Int) (h : StaOk s) (hm : ∀ m ∈ s.memos, m.am.length ≤ 1000000) : Fun P 36 [stA s, nV id] (ordR s id) := by
  refine spec_of hT (f := 36) (fn := Go.Proofs.Tryz.f36) (c := body Go.Proofs.Tryz.f36) (by kernel_rfl) (by kernel_rfl) ?_
  have hm1 := h.memos.1
  have hoo := find_ok h.orders (fun x => decide (x.id = id))
  unfold ordR
  conv => whnf
  repeat refine go ?_
  refine ACall.val (args := [stA s, nV id]) (by kernel_rfl) (f108 s id h.orders.1) (by (first | rfl | (simp only [renL, AV.ren, List.nil_append, List.cons_append, rens]; try rfl))) (by (first | rfl | (simp only [renL, AV.ren, List.nil_append, List.cons_append, rens]; try rfl))) ?_
  cases ho : s.orders.find? (fun x => decide (x.id = id)) with
  | none =>
    conv => whnf
    repeat refine ru ?_
    exact AFin.val rfl ⟨rfl, rfl⟩
  | some o =>
  rw [ho] at hoo
  simp only [Option.getD_some, Option.isSome_some] at hoo ⊢
  have hol := hoo.1
  conv => whnf
  repeat refine ru ?_
  refine ALoop.mk (fun n E H => ∃ (i : Nat) (p : Int), n = o.ls.length - i ∧ i ≤ o.ls.length ∧ p + paidS (o.ls.drop i) = paidS o.ls ∧ -1000000000000 * (i : Int) ≤ p ∧ p ≤ 1000000000000 * (i : Int) ∧
      E = pad [stA s, nV id, .ptr 0 0, .any, nV p, nV 0, nV 0, .any, .ptr 1 0, .any, .any, .any, .any, .any, .any, .any, .any, .any, .any, .any, .any, .any, .any, .any, lnsV o.ls, nV o.ls.length, nV i] 65 ∧ H = [.cells 44 (stC s), .cells 119 (odC o)]) (n := o.ls.length) _ _
    ⟨0, 0, rfl, Nat.zero_le _, by simp, by simp, by simp, rfl, rfl⟩ (Conv.fit (by repeat' (first | exact Fit.nil | refine Fit.any ?_ | refine Fit.same ?_))) ?_
  rintro _ _ _ ⟨i, p, rfl, hi, hI, hp1, hp2, rfl, rfl⟩
  conv => whnf
  repeat refine go ?_
  refine ACond.dec (fun h1 => ?_) (fun h1 => ?_)
  · have hil : i < o.ls.length := by omega
    have w1 : IntKind.wrap .i64 ((i : Int) + 1) = ((i + 1 : Nat) : Int) := by rw [wrap_i64 _ (by omega) (by omega)]; omega
    have hlo := hoo.2 _ (List.getElem_mem hil)
    rw [paid_drop hil] at hI
    conv => whnf
    repeat (first | refine go ?_ | ((first | refine AReq.mk (by omega) ?_ | refine AIdx.flat (enc := lnC) lnC_len (xs := o.ls) (i := i) hil ?_); conv => whnf))
    generalize o.ls[i] = l at hlo hI
    have hb := payF_bd l
    have w2 : IntKind.wrap .i64 (p + (payF l).1) = p + (payF l).1 := by rw [wrap_i64 _ (by omega) (by omega)]
    refine ACall.val (args := [lnA l]) (by kernel_rfl) (f109 l hlo) (by (first | rfl | (simp only [renL, AV.ren, List.nil_append, List.cons_append, rens]; try rfl))) rfl ?_
    conv => whnf
    repeat refine ru ?_
    rw [w1, w2]
    exact AHead.mk (o.ls.length - (i + 1)) _ _ (by omega) ⟨i + 1, p + (payF l).1, rfl, by omega, by omega, by omega, by omega, rfl, rfl⟩ (Conv.ren [0, 1] _ (by simp) (by simp) (by simp only [pad, renL, AV.ren, rens]; repeat' (first | exact Fit.nil | refine Fit.any ?_ | refine Fit.same ?_)) (.same (by simp only [ABlk.ren, stC_ren]; rfl) (.same (by simp only [ABlk.ren, odC_ren]; rfl) .nil)))
  · rw [List.drop_of_length_le (by omega), paidS, Int.add_zero] at hI
    subst hI
    conv => whnf
    repeat refine go ?_
    refine AOut.stay ?_
    conv => whnf
    repeat refine go ?_
    refine ALoop.mk (fun n E H => ∃ (i : Nat) (b k : Int), n = s.memos.length - i ∧ i ≤ s.memos.length ∧ b + backS id (s.memos.drop i) = backS id s.memos ∧ k + memN id (s.memos.drop i) = memN id s.memos ∧ -1000000000000 * (i : Int) ≤ b ∧ b ≤ 1000000000000 * (i : Int) ∧ 0 ≤ k ∧ k ≤ i ∧
        E = pad [stA s, nV id, .ptr 0 0, .any, nV (paidS o.ls), nV b, nV k, .any, .any, .any, .any, .any, .any, .any, .any, .any, .any, .any, .any, .any, .any, .any, .any, .any, .any, .any, .any, .any, .any, .any, .any, .any, .any, .any, .any, .any, .any, .any, .any, .any, mosV s.memos, nV s.memos.length, nV i] 65 ∧ H = [.cells 44 (stC s)]) (n := s.memos.length) _ _
      ⟨0, 0, 0, rfl, Nat.zero_le _, by simp, by simp, by simp, by simp, by simp, by simp, rfl, rfl⟩ (Conv.ren [0] _ (by simp) (by simp) (by simp only [pad, renL, AV.ren, rens]; repeat' (first | exact Fit.nil | refine Fit.any ?_ | refine Fit.same ?_)) (.same (by simp only [ABlk.ren, stC_ren]; rfl) .nil)) ?_
    clear hp1 hp2
    rintro _ _ _ ⟨i, b, k, rfl, hi, hb1, hk1, hb2, hb3, hk2, hk3, rfl, rfl⟩
    conv => whnf
    repeat refine go ?_
    refine ACond.dec (fun h2 => ?_) (fun h2 => ?_)
    · have hil : i < s.memos.length := by omega
      have w1 : IntKind.wrap .i64 ((i : Int) + 1) = ((i + 1 : Nat) : Int) := by rw [wrap_i64 _ (by omega) (by omega)]; omega
      have hma := hm _ (List.getElem_mem hil)
      rw [(back_drop hil).1] at hb1
      rw [(back_drop hil).2] at hk1
      conv => whnf
      repeat (first | refine go ?_ | ((first | refine AReq.mk (by omega) ?_ | refine AIdx.flat (enc := moC) moC_len (xs := s.memos) (i := i) hil ?_); conv => whnf))
      generalize s.memos[i] = m at hma hb1 hk1
      have ht := totF_bd m
      refine ASplit.dec (fun h3 => ?_) (fun h3 => ?_)
      · obtain ⟨xi, xo, xs, xa, xv⟩ := m
        cases xv with
        | true =>
          rw [if_neg (by simp), Int.zero_add] at hb1 hk1
          conv => whnf
          repeat refine ru ?_
          rw [w1]
          exact AHead.mk (s.memos.length - (i + 1)) _ _ (by omega) ⟨i + 1, b, k, rfl, by omega, hb1, hk1, by omega, by omega, by omega, by omega, rfl, rfl⟩ (Conv.ren [0] _ (by simp) (by simp) (by simp only [pad, renL, AV.ren, rens]; repeat' (first | exact Fit.nil | refine Fit.any ?_ | refine Fit.same ?_)) (.same (by simp only [ABlk.ren, stC_ren]; rfl) .nil))
        | false =>
          rw [if_pos ⟨h3, rfl⟩] at hb1 hk1
          have w2 : IntKind.wrap .i64 (b + totF ⟨xi, xo, xs, xa, false⟩) = b + totF ⟨xi, xo, xs, xa, false⟩ := by rw [wrap_i64 _ (by omega) (by omega)]
          have w3 : IntKind.wrap .i64 (k + 1) = k + 1 := by rw [wrap_i64 _ (by omega) (by omega)]
          conv => whnf
          repeat refine ru ?_
          refine ACall.val (args := [moA ⟨xi, xo, xs, xa, false⟩]) (by kernel_rfl) (f32 ⟨xi, xo, xs, xa, false⟩ hma) (by (first | rfl | (simp only [renL, AV.ren, List.nil_append, List.cons_append, rens]; try rfl))) rfl ?_
          conv => whnf
          repeat refine ru ?_
          rw [w1, w2, w3]
          exact AHead.mk (s.memos.length - (i + 1)) _ _ (by omega) ⟨i + 1, b + totF ⟨xi, xo, xs, xa, false⟩, k + 1, rfl, by omega, by omega, by omega, by omega, by omega, by omega, by omega, rfl, rfl⟩ (Conv.ren [0] _ (by simp) (by simp) (by simp only [pad, renL, AV.ren, rens]; repeat' (first | exact Fit.nil | refine Fit.any ?_ | refine Fit.same ?_)) (.same (by simp only [ABlk.ren, stC_ren]; rfl) .nil))
      · rw [if_neg (fun h => h3 h.1), Int.zero_add] at hb1 hk1
        conv => whnf
        repeat refine ru ?_
        rw [w1]
        exact AHead.mk (s.memos.length - (i + 1)) _ _ (by omega) ⟨i + 1, b, k, rfl, by omega, hb1, hk1, by omega, by omega, by omega, by omega, rfl, rfl⟩ (Conv.ren [0] _ (by simp) (by simp) (by simp only [pad, renL, AV.ren, rens]; repeat' (first | exact Fit.nil | refine Fit.any ?_ | refine Fit.same ?_)) (.same (by simp only [ABlk.ren, stC_ren]; rfl) .nil))
    · rw [List.drop_of_length_le (by omega), backS, Int.add_zero] at hb1
      rw [List.drop_of_length_le (by omega), memN, Int.add_zero] at hk1
      subst hb1
      subst hk1
      conv => whnf
      repeat refine go ?_
      refine AOut.stay ?_
      conv => whnf
      repeat refine go ?_
      exact AFin.val rfl ⟨rfl, rfl⟩
end Go.Aw.U1

set_option linter.unusedSimpArgs false
set_option linter.unusedVariables false
set_option maxHeartbeats 4000000
set_option maxRecDepth 30000
namespace Go.Aw.U1
open Go Go.Proofs

theorem credT_ss {s : Sta} : ∀ {l : List Mo} {g : ByteArray → Bool}, credT s l g = true → ∀ m ∈ l, m.am.length ≤ 20
  | [], _, _, m, hm => by simp at hm
  | a :: l, g, h, m, hm => by
    rw [credT, Bool.and_eq_true] at h
    rcases List.mem_cons.1 hm with rfl | hm
    · have h1 := h.1
      rw [memoB] at h1
      split at h1
      · cases h1
      · simp only [Bool.and_eq_true, decide_eq_true_eq, Bool.not_eq_true', decide_eq_false_iff_not] at h1
        omega
    · cases e : mvS a.void a.ss g with
      | none => rw [e] at h; cases h.2
      | some g' => rw [e] at h; exact credT_ss h.2 m hm
theorem chk_am {s : Sta} (h : chkS s = true) : ∀ m ∈ s.memos, m.am.length ≤ 20 := credT_ss ((chkS_iff s).1 h).cred
/-- what was shipped, paid and paid back, in all orders -/
def shipS : List Od → Int
  | [] => 0
  | o :: l => ((serF o).length : Int) + shipS l
def paidA : List Od → Int
  | [] => 0
  | o :: l => paidS o.ls + paidA l
def backA (ms : List Mo) : List Od → Int
  | [] => 0
  | o :: l => backS o.id ms + backA ms l
def repC (s : Sta) (d : List UR.Hd) : List AV := [nV s.orders.length, nV s.units.length, nV (s.units.countP fun u => !doneB u : Nat), nV (shipS s.orders), nV (paidA s.orders), nV (backA s.memos s.orders), nV (stkS d), nV (prtS d)]
def rep0 : List AV := [nV 0, nV 0, nV 0, nV 0, nV 0, nV 0, nV 0, nV 0]
theorem od_drop {l : List Od} {ms : List Mo} {i : Nat} (h : i < l.length) : shipS (l.drop i) = ((serF l[i]).length : Int) + shipS (l.drop (i + 1)) ∧ paidA (l.drop i) = paidS l[i].ls + paidA (l.drop (i + 1)) ∧ backA ms (l.drop i) = backS l[i].id ms + backA ms (l.drop (i + 1)) := by
  rw [List.drop_eq_getElem_cons h, shipS, paidA, backA]; exact ⟨rfl, rfl, rfl⟩
theorem hd_drop {d : List UR.Hd} {i : Nat} (h : i < d.length) : stkS (d.drop i) = (if d[i].1 = false then d[i].2.2 else 0) + stkS (d.drop (i + 1)) ∧ prtS (d.drop i) = (if d[i].1 = true then d[i].2.2 else 0) + prtS (d.drop (i + 1)) := by
  rw [List.drop_eq_getElem_cons h, stkS, prtS]; exact ⟨rfl, rfl⟩
theorem serF_len {o : Od} (h : ordC o = 0) (hl : o.ls.length ≤ 20) : (serF o).length ≤ 400 := by
  rw [serF, if_pos h]
  have hle : ∀ l ∈ o.ls, l.ss.length ≤ 20 := fun l hl => by have := lineC_ok (ordB_lines h hl); omega
  have key : ∀ ls : List Ln, (∀ l ∈ ls, l.ss.length ≤ 20) → (ls.flatMap (·.ss)).length ≤ 20 * ls.length := by
    intro ls
    induction ls with
    | nil => intro _; simp
    | cons a ls ih =>
      intro h
      have h1 := h a (by simp)
      have h2 := ih (fun x hx => h x (by simp [hx]))
      rw [List.flatMap_cons, List.length_append, List.length_cons]; omega
  have := key o.ls hle
  omega
theorem qty_bd {s : Sta} (hC : CheckOk s) (hm : s.moves.length ≤ 300) {d : List UR.Hd} (hd : UR.AllOf (mvL s) d) : ∀ x ∈ d, 0 ≤ x.2.2 ∧ x.2.2 ≤ 300000000 := fun x hx => by
  obtain ⟨d0, h0⟩ := hC.stock
  refine ⟨(h0.same hd x hx).1, ?_⟩
  rw [((hd.mem x).1 hx).2]
  have := (UR.sum_bound (mvL s) x.1 x.2.1 (mvL s).length (Nat.le_refl _) (fun j h _ => (h0.good.2 j h).1)).2
  rw [List.take_length] at this
  have hl : (mvL s).length = s.moves.length := by simp [mvL]
  omega
theorem f15 (s : Sta) (h : StaOk s) (hid : idsOk s) (hl : ∀ o ∈ s.orders, o.ls.length ≤ 20) (hol : s.orders.length ≤ 70) (hml : s.memos.length ≤ 70) :
    Spec P 15 [stA s] [] (fun r H => (chkS s = false ∧ r = .tup [.agg rep0, nV 40] ∨ chkS s = true ∧ ∃ d, UR.AllOf (mvL s) d ∧ r = .tup [.agg (repC s d), nV 0]) ∧ H = []) := by
  refine spec_of hT (f := 15) (fn := Go.Proofs.Tryz.f15) (c := body Go.Proofs.Tryz.f15) (by kernel_rfl) (by kernel_rfl) ?_
  have hu1 := h.units.1
  conv => whnf
  repeat (first | refine go ?_ | ((first | refine AReq.mk rfl ?_ | refine AUpd.sp ?_ | refine ACut.iff.2 ⟨Nat.le_of_ble_eq_true rfl, ?_⟩); conv => whnf))
  refine ACall.val (args := [stA s]) (by kernel_rfl) (f16x s h hid) (by (first | rfl | (simp only [renL, AV.ren, List.nil_append, List.cons_append, rens]; try rfl))) rfl ?_
  cases hk : chkS s with
  | false =>
    conv => whnf
    repeat (first | refine ru ?_ | ((first | refine AReq.mk rfl ?_ | refine AUpd.sp ?_ | refine ACut.iff.2 ⟨Nat.le_of_ble_eq_true rfl, ?_⟩); conv => whnf))
    exact AFin.val rfl ⟨.inl ⟨rfl, rfl⟩, rfl⟩
  | true =>
  have hC := chk_ok hk
  have ham : ∀ m ∈ s.memos, m.am.length ≤ 1000000 := fun m hm => by have := chk_am hk m hm; omega
  conv => whnf
  repeat (first | refine ru ?_ | ((first | refine AReq.mk rfl ?_ | refine AUpd.sp ?_ | refine ACut.iff.2 ⟨Nat.le_of_ble_eq_true rfl, ?_⟩); conv => whnf))
  refine AW.conv _ _ (Conv.freeze 0 rfl) ?_
  refine AW.plan hm (.one 0 (.one 3 (.imm 1 (.one 2 (.imm 4 (.one 5 (.one 6 (.fork 7 (.one 8 (.one 9 .nil)) 9 (.one 7 (.one 8 .nil)) (.one 10 .nil))))))))) (by kernel_rfl) ?_
  conv => whnf
  repeat (first | refine go ?_ | ((first | refine AReq.mk rfl ?_ | refine AUpd.sp ?_ | refine ACut.iff.2 ⟨Nat.le_of_ble_eq_true rfl, ?_⟩ | refine ACall.val (args := [stA s]) (by kernel_rfl) (f21 s h) (by (first | rfl | (simp only [renL, AV.ren, List.nil_append, List.cons_append, rens]; try rfl))) rfl ?_); conv => whnf))
  apply AF.meet
  · conv => whnf
    repeat (first | refine go ?_ | ((first | refine AReq.mk rfl ?_ | refine AUpd.sp ?_ | refine ACut.iff.2 ⟨Nat.le_of_ble_eq_true rfl, ?_⟩ | refine ACall.val (args := [stA s]) (by kernel_rfl) (f21 s h) (by (first | rfl | (simp only [renL, AV.ren, List.nil_append, List.cons_append, rens]; try rfl))) rfl ?_); conv => whnf))
    exact ⟨rfl, rfl, rfl⟩
  · conv => whnf
    repeat (first | refine go ?_ | ((first | refine AReq.mk rfl ?_ | refine AUpd.sp ?_ | refine ACut.iff.2 ⟨Nat.le_of_ble_eq_true rfl, ?_⟩ | refine ACall.val (args := [stA s]) (by kernel_rfl) (f21 s h) (by (first | rfl | (simp only [renL, AV.ren, List.nil_append, List.cons_append, rens]; try rfl))) rfl ?_); conv => whnf))
    exact ⟨rfl, rfl, rfl⟩
  conv => whnf
  repeat (first | refine go ?_ | ((first | refine AReq.mk rfl ?_ | refine AUpd.sp ?_ | refine ACut.iff.2 ⟨Nat.le_of_ble_eq_true rfl, ?_⟩ | refine ACall.val (args := [stA s]) (by kernel_rfl) (f21 s h) (by (first | rfl | (simp only [renL, AV.ren, List.nil_append, List.cons_append, rens]; try rfl))) rfl ?_); conv => whnf))
  refine ALoop.mk (fun n E H => ∃ (i : Nat) (sh pd bk : Int), n = s.orders.length - i ∧ i ≤ s.orders.length ∧ sh + shipS (s.orders.drop i) = shipS s.orders ∧ pd + paidA (s.orders.drop i) = paidA s.orders ∧ bk + backA s.memos (s.orders.drop i) = backA s.memos s.orders ∧
      0 ≤ sh ∧ sh ≤ 400 * (i : Int) ∧ -20000000000000 * (i : Int) ≤ pd ∧ pd ≤ 20000000000000 * (i : Int) ∧ -70000000000000 * (i : Int) ≤ bk ∧ bk ≤ 70000000000000 * (i : Int) ∧
      E = pad [stA s, .ptr 0 0, .ptr 1 0, nV 0, .any, .ptr 2 0, .any, .any, .any, .any, .any, .any, .any, .any, .any, .any, .any, .any, .any, .any, .any, .any, .any, .any, .any, .any, .any, .any, .any, .any, .any, .any, odsV s.orders, nV s.orders.length, nV i] 97 ∧
      H = [.ice 44 (stC s), .cells 47 rep0, .cells 47 [nV s.orders.length, nV s.units.length, nV (s.units.countP fun u => !doneB u : Nat), nV sh, nV pd, nV bk, nV 0, nV 0]]) (n := s.orders.length) _ _
    ⟨0, 0, 0, 0, rfl, Nat.zero_le _, by simp, by simp, by simp, by simp, by simp, by simp, by simp, by simp, by simp, rfl, rfl⟩ (Conv.fit (by repeat' (first | exact Fit.nil | refine Fit.any ?_ | refine Fit.same ?_))) ?_
  rintro _ _ _ ⟨i, sh, pd, bk, rfl, hi, hI1, hI2, hI3, b1, b2, b3, b4, b5, b6, rfl, rfl⟩
  conv => whnf
  repeat refine go ?_
  refine ACond.dec (fun h1 => ?_) (fun h1 => ?_)
  · have hil : i < s.orders.length := by omega
    have w1 : IntKind.wrap .i64 ((i : Int) + 1) = ((i + 1 : Nat) : Int) := by rw [wrap_i64 _ (by omega) (by omega)]; omega
    have hmem := List.getElem_mem hil
    have hoo := h.orders.2 _ hmem
    have hoc := ships_all hC.ships _ hmem
    have hor : ordR s s.orders[i].id = .tup [nV (paidS s.orders[i].ls), nV (backS s.orders[i].id s.memos), nV (memN s.orders[i].id s.memos), bV true] := by
      rw [ordR, find_id (f := Od.id) (orders_ris hC.base.tab) hmem]
    have hf36 := f36 s s.orders[i].id h ham
    rw [hor] at hf36
    have hsl := serF_len hoc (hl _ hmem)
    have hpb := paidS_bd s.orders[i].ls
    have hbb := backS_bd s.orders[i].id s.memos
    have hll := hl _ hmem
    rw [(od_drop (ms := s.memos) hil).1] at hI1
    rw [(od_drop (ms := s.memos) hil).2.1] at hI2
    rw [(od_drop (ms := s.memos) hil).2.2] at hI3
    conv => whnf
    repeat (first | refine go ?_ | ((first | refine AReq.mk (by omega) ?_ | refine AReq.mk rfl ?_ | refine AUpd.sp ?_ | refine ACut.iff.2 ⟨Nat.le_of_ble_eq_true rfl, ?_⟩ | refine AIdx.flat (enc := odC) odC_len (xs := s.orders) (i := i) hil ?_); conv => whnf))
    generalize s.orders[i] = o at hmem hoo hoc hor hf36 hsl hpb hbb hll hI1 hI2 hI3
    have w2 : IntKind.wrap .i64 (sh + ((serF o).length : Nat)) = sh + ((serF o).length : Nat) := by rw [wrap_i64 _ (by omega) (by omega)]
    have w3 : IntKind.wrap .i64 (pd + paidS o.ls) = pd + paidS o.ls := by rw [wrap_i64 _ (by omega) (by omega)]
    have w4 : IntKind.wrap .i64 (bk + backS o.id s.memos) = bk + backS o.id s.memos := by rw [wrap_i64 _ (by omega) (by omega)]
    refine ACall.val (args := [stA s, nV o.id]) (by kernel_rfl) hf36 (by (first | rfl | (simp only [renL, AV.ren, List.nil_append, List.cons_append, rens]; try rfl))) rfl ?_
    conv => whnf
    repeat (first | refine ru ?_ | ((first | refine AReq.mk (by omega) ?_ | refine AReq.mk rfl ?_ | refine AUpd.sp ?_ | refine ACut.iff.2 ⟨Nat.le_of_ble_eq_true rfl, ?_⟩ | refine AIdx.flat (enc := odC) odC_len (xs := s.orders) (i := i) hil ?_ | refine ACall.val (args := [odA o]) (by kernel_rfl) (f56 o hoo) (by (first | rfl | (simp only [renL, AV.ren, List.nil_append, List.cons_append, rens]; try rfl))) (by (first | rfl | (simp only [renL, AV.ren, List.nil_append, List.cons_append, rens]; try rfl))) ?_); conv => whnf))
    refine AW.plan hm (.one 0 (.one 2 (.fork 1 (.one 3 (.one 4 .nil)) 3 (.one 4 (.one 1 .nil)) (.one 5 (.one 6 (.one 7 .nil)))))) (by kernel_rfl) ?_
    conv => whnf
    repeat (first | refine go ?_ | ((first | refine AReq.mk (by omega) ?_ | refine AReq.mk rfl ?_ | refine AUpd.sp ?_ | refine ACut.iff.2 ⟨Nat.le_of_ble_eq_true rfl, ?_⟩ | refine AIdx.flat (enc := odC) odC_len (xs := s.orders) (i := i) hil ?_ | refine ACall.val (args := [odA o]) (by kernel_rfl) (f56 o hoo) (by (first | rfl | (simp only [renL, AV.ren, List.nil_append, List.cons_append, rens]; try rfl))) (by (first | rfl | (simp only [renL, AV.ren, List.nil_append, List.cons_append, rens]; try rfl))) ?_); conv => whnf))
    apply AF.meet
    · conv => whnf
      repeat (first | refine go ?_ | ((first | refine AReq.mk (by omega) ?_ | refine AReq.mk rfl ?_ | refine AUpd.sp ?_ | refine ACut.iff.2 ⟨Nat.le_of_ble_eq_true rfl, ?_⟩ | refine AIdx.flat (enc := odC) odC_len (xs := s.orders) (i := i) hil ?_ | refine ACall.val (args := [odA o]) (by kernel_rfl) (f56 o hoo) (by (first | rfl | (simp only [renL, AV.ren, List.nil_append, List.cons_append, rens]; try rfl))) (by (first | rfl | (simp only [renL, AV.ren, List.nil_append, List.cons_append, rens]; try rfl))) ?_); conv => whnf))
      exact ⟨rfl, rfl, rfl⟩
    · conv => whnf
      repeat (first | refine go ?_ | ((first | refine AReq.mk (by omega) ?_ | refine AReq.mk rfl ?_ | refine AUpd.sp ?_ | refine ACut.iff.2 ⟨Nat.le_of_ble_eq_true rfl, ?_⟩ | refine AIdx.flat (enc := odC) odC_len (xs := s.orders) (i := i) hil ?_ | refine ACall.val (args := [odA o]) (by kernel_rfl) (f56 o hoo) (by (first | rfl | (simp only [renL, AV.ren, List.nil_append, List.cons_append, rens]; try rfl))) (by (first | rfl | (simp only [renL, AV.ren, List.nil_append, List.cons_append, rens]; try rfl))) ?_); conv => whnf))
      exact ⟨rfl, rfl, rfl⟩
    conv => whnf
    repeat (first | refine go ?_ | ((first | refine AReq.mk (by omega) ?_ | refine AReq.mk rfl ?_ | refine AUpd.sp ?_ | refine ACut.iff.2 ⟨Nat.le_of_ble_eq_true rfl, ?_⟩ | refine AIdx.flat (enc := odC) odC_len (xs := s.orders) (i := i) hil ?_ | refine ACall.val (args := [odA o]) (by kernel_rfl) (f56 o hoo) (by (first | rfl | (simp only [renL, AV.ren, List.nil_append, List.cons_append, rens]; try rfl))) (by (first | rfl | (simp only [renL, AV.ren, List.nil_append, List.cons_append, rens]; try rfl))) ?_); conv => whnf))
    rw [w1, w2, w3, w4]
    refine AHead.mk (s.orders.length - (i + 1)) _ _ (by omega) ⟨i + 1, sh + ((serF o).length : Nat), pd + paidS o.ls, bk + backS o.id s.memos, rfl, by omega, by omega, by omega, by omega, by omega, by omega, by omega, by omega, by omega, by omega, rfl, rfl⟩ ?_
    exact Conv.ren [0, 1, 2] _ (by simp) (by simp) (by simp only [pad, renL, AV.ren, rens]; repeat' (first | exact Fit.nil | refine Fit.any ?_ | refine Fit.same ?_)) (.same (by simp only [ABlk.ren, stC_ren]; rfl) (.same rfl (.same rfl .nil)))
  · rw [List.drop_of_length_le (by omega)] at hI1 hI2 hI3
    rw [shipS, Int.add_zero] at hI1
    rw [paidA, Int.add_zero] at hI2
    rw [backA, Int.add_zero] at hI3
    subst hI1
    subst hI2
    subst hI3
    conv => whnf
    repeat refine go ?_
    refine AOut.stay ?_
    conv => whnf
    repeat refine go ?_
    refine ACall.spec (args := [mvs s.moves]) (by kernel_rfl) (f57 s h.moves) (by (first | rfl | (simp only [renL, AV.ren, List.nil_append, List.cons_append, rens]; try rfl))) ?_
    rintro _ _ ⟨⟨d, hd, rfl⟩, rfl⟩
    obtain ⟨d0, hst⟩ := hC.stock
    obtain ⟨hg, hall⟩ : UR.good (mvL s) ∧ UR.AllOf (mvL s) d := by
      rcases hd with hd | ⟨hd, _⟩
      · exact hd
      · exact absurd hst.good hd
    rw [UR.chkF_yes hg]
    simp only [AV.ren, renL, UR.ren_hds]
    conv => whnf
    repeat refine go ?_
    refine ACond.no rfl ?_
    conv => whnf
    repeat refine go ?_
    have hdl := all_len hall h.moves
    have hqb := qty_bd hC h.moves hall
    refine ALoop.mk (fun n E H => ∃ (i : Nat) (pr st : Int), n = d.length - i ∧ i ≤ d.length ∧ st + stkS (d.drop i) = stkS d ∧ pr + prtS (d.drop i) = prtS d ∧ 0 ≤ st ∧ st ≤ 300000000 * (i : Int) ∧ 0 ≤ pr ∧ pr ≤ 300000000 * (i : Int) ∧
        E = pad [.any, .ptr 0 0, .ptr 1 0, nV 0, .any, .ptr 2 0, .any, .any, .any, .any, .any, .any, .any, .any, .any, .any, .any, .any, .any, .any, .any, .any, .any, .any, .any, .any, .any, .any, .any, .any, .any, .any, .any, .any, .any, .any, .any, .any, .any, .any, .any, .any, .any, .any, .any, .any, .any, .any, .any, .any, .any, .any, .any, .any, .any, .any, .any, .any, .any, .any, .any, .any, .any, .any, .any, .any, .any, .any, .any, .any, .any, .any, .any, .any, .any, UR.hds d, nV d.length, nV i] 97 ∧
        H = [.ice 44 (stC s), .cells 47 rep0, .cells 47 [nV s.orders.length, nV s.units.length, nV (s.units.countP fun u => !doneB u : Nat), nV (shipS s.orders), nV (paidA s.orders), nV (backA s.memos s.orders), nV st, nV pr]]) (n := d.length) _ _
      ⟨0, 0, 0, rfl, Nat.zero_le _, by simp, by simp, by simp, by simp, by simp, by simp, rfl, rfl⟩ (Conv.fit (by repeat' (first | exact Fit.nil | refine Fit.any ?_ | refine Fit.same ?_))) ?_
    clear hi b1 b2 b3 b4 b5 b6 h1
    clear i
    rintro _ _ _ ⟨i, pr, st, rfl, hi, hI1, hI2, b1, b2, b3, b4, rfl, rfl⟩
    conv => whnf
    repeat refine go ?_
    refine ACond.dec (fun h1 => ?_) (fun h1 => ?_)
    · have hil : i < d.length := by omega
      have w1 : IntKind.wrap .i64 ((i : Int) + 1) = ((i + 1 : Nat) : Int) := by rw [wrap_i64 _ (by omega) (by omega)]; omega
      have hq := hqb _ (List.getElem_mem hil)
      rw [(hd_drop hil).1] at hI1
      rw [(hd_drop hil).2] at hI2
      conv => whnf
      repeat (first | refine go ?_ | ((first | refine AReq.mk (by omega) ?_ | refine AReq.mk rfl ?_ | refine AUpd.sp ?_ | refine ACut.iff.2 ⟨Nat.le_of_ble_eq_true rfl, ?_⟩ | refine AIdx.flat (enc := UR.hdC) UR.hdC_len (xs := d) (i := i) hil ?_); conv => whnf))
      generalize d[i] = x at hq hI1 hI2
      obtain ⟨xp, xi, xq⟩ := x
      cases xp with
      | true =>
        rw [if_neg (by simp), Int.zero_add] at hI1
        rw [if_pos rfl] at hI2
        have w2 : IntKind.wrap .i64 (pr + xq) = pr + xq := by rw [wrap_i64 _ (by simp at hq; omega) (by simp at hq; omega)]
        refine ACond.yes rfl ?_
        conv => whnf
        repeat (first | refine ru ?_ | ((first | refine AReq.mk (by omega) ?_ | refine AReq.mk rfl ?_ | refine AUpd.sp ?_ | refine ACut.iff.2 ⟨Nat.le_of_ble_eq_true rfl, ?_⟩ | refine AIdx.flat (enc := UR.hdC) UR.hdC_len (xs := d) (i := i) hil ?_); conv => whnf))
        rw [w1, w2]
        refine AHead.mk (d.length - (i + 1)) _ _ (by omega) ⟨i + 1, pr + xq, st, rfl, by omega, hI1, by simp at hI2; omega, by omega, by omega, by simp at hq; omega, by simp at hq; omega, rfl, rfl⟩ ?_
        exact Conv.ren [0, 1, 2] _ (by simp) (by simp) (by simp only [pad, renL, AV.ren, stC_ren, unsV_ren, UR.ren_hds]; repeat' (first | exact Fit.nil | refine Fit.any ?_ | refine Fit.same ?_)) (.same (by simp only [ABlk.ren, stC_ren]; rfl) (.same rfl (.same rfl .nil)))
      | false =>
        rw [if_neg (by simp), Int.zero_add] at hI2
        rw [if_pos rfl] at hI1
        have w2 : IntKind.wrap .i64 (st + xq) = st + xq := by rw [wrap_i64 _ (by simp at hq; omega) (by simp at hq; omega)]
        refine ACond.no rfl ?_
        conv => whnf
        repeat (first | refine ru ?_ | ((first | refine AReq.mk (by omega) ?_ | refine AReq.mk rfl ?_ | refine AUpd.sp ?_ | refine ACut.iff.2 ⟨Nat.le_of_ble_eq_true rfl, ?_⟩ | refine AIdx.flat (enc := UR.hdC) UR.hdC_len (xs := d) (i := i) hil ?_); conv => whnf))
        rw [w1, w2]
        refine AHead.mk (d.length - (i + 1)) _ _ (by omega) ⟨i + 1, pr, st + xq, rfl, by omega, by simp at hI1; omega, hI2, by simp at hq; omega, by simp at hq; omega, by omega, by omega, rfl, rfl⟩ ?_
        exact Conv.ren [0, 1, 2] _ (by simp) (by simp) (by simp only [pad, renL, AV.ren, stC_ren, unsV_ren, UR.ren_hds]; repeat' (first | exact Fit.nil | refine Fit.any ?_ | refine Fit.same ?_)) (.same (by simp only [ABlk.ren, stC_ren]; rfl) (.same rfl (.same rfl .nil)))
    · rw [List.drop_of_length_le (by omega)] at hI1 hI2
      rw [stkS, Int.add_zero] at hI1
      rw [prtS, Int.add_zero] at hI2
      subst hI1
      subst hI2
      conv => whnf
      repeat (first | refine go ?_ | ((first | refine AReq.mk (by omega) ?_ | refine AReq.mk rfl ?_ | refine AUpd.sp ?_ | refine ACut.iff.2 ⟨Nat.le_of_ble_eq_true rfl, ?_⟩ | refine AIdx.flat (enc := UR.hdC) UR.hdC_len (xs := d) (i := i) hil ?_); conv => whnf))
      refine AOut.stay ?_
      conv => whnf
      repeat (first | refine go ?_ | ((first | refine AReq.mk (by omega) ?_ | refine AReq.mk rfl ?_ | refine AUpd.sp ?_ | refine ACut.iff.2 ⟨Nat.le_of_ble_eq_true rfl, ?_⟩ | refine AIdx.flat (enc := UR.hdC) UR.hdC_len (xs := d) (i := i) hil ?_); conv => whnf))
      exact AFin.val rfl ⟨.inr ⟨by first | rfl | trivial, d, hall, rfl⟩, rfl⟩
end Go.Aw.U1

set_option linter.unusedSimpArgs false
set_option linter.unusedVariables false
set_option maxHeartbeats 4000000
set_option maxRecDepth 30000
namespace Go.Aw.U1
open Go Go.Proofs

theorem backA_le {s : Sta} (hC : CheckOk s) : ∀ l : List Od, (∀ o ∈ l, o ∈ s.orders) → 0 ≤ backA s.memos l ∧ backA s.memos l ≤ paidA l
  | [], _ => ⟨Int.le_refl _, Int.le_refl _⟩
  | o :: l, h => by
    have h1 := back_le hC (h o (by simp))
    have h2 := backA_le hC l (fun x hx => h x (by simp [hx]))
    rw [backA, paidA]; omega
theorem shipS_eq {s : Sta} (hC : CheckOk s) : ∀ l : List Od, (∀ o ∈ l, o ∈ s.orders) → shipS l = (((l.map fun o => (o.ls.flatMap (·.ss)).length).sum : Nat) : Int)
  | [], _ => rfl
  | o :: l, h => by
    have h1 : serF o = o.ls.flatMap (·.ss) := by rw [serF, if_pos (ships_all hC.ships o (h o (by simp)))]
    rw [shipS, shipS_eq hC l (fun x hx => h x (by simp [hx])), h1, List.map_cons, List.sum_cons]
    omega
theorem ship_ge {s : Sta} (hC : CheckOk s) : (s.units.length : Int) ≤ shipS s.orders := by
  have h1 := units_le hC.base
  rw [shipN_len] at h1
  rw [shipS_eq hC s.orders (fun _ h => h)]
  omega
theorem f4 (hA : Fun P 9 [] (bV true)) (s : Sta) (hw : Wf s) : Spec P 4 [stA s] [] (fun r _ => r = bV true) := by
  refine spec_of hT (f := 4) (fn := Go.Proofs.Tryz.f4) (c := body Go.Proofs.Tryz.f4) (by kernel_rfl) (by kernel_rfl) ?_
  conv => whnf
  repeat refine go ?_
  refine ACall.spec (args := [stA s]) (by kernel_rfl) (f14 s) (by (first | rfl | (simp only [renL, AV.ren, List.nil_append, List.cons_append, rens]; try rfl))) ?_
  rintro _ _ ⟨⟨b, rfl, hb⟩, rfl⟩
  cases b with
  | false =>
    conv => whnf
    repeat refine ru ?_
    refine ACall.val (args := []) (by kernel_rfl) hA rfl rfl ?_
    conv => whnf
    repeat refine ru ?_
    exact AFin.mk rfl
  | true =>
  have hF := hb rfl
  have hs := hw.sta hF
  conv => whnf
  repeat refine ru ?_
  refine ACall.spec (args := [stA s]) (by kernel_rfl) (f15 s hs hw.ids (fun o ho => (hF.lines o ho).1) hF.orders hF.memos) (by (first | rfl | (simp only [renL, AV.ren, List.nil_append, List.cons_append, rens]; try rfl))) ?_
  rintro _ _ ⟨⟨hk, rfl⟩ | ⟨hk, d, hd, rfl⟩, rfl⟩
  · have hf := f16x s hs hw.ids
    rw [hk] at hf
    conv => whnf
    repeat (first | refine ru ?_ | ((first | refine AReq.mk rfl ?_ | refine AUpd.sp ?_ | refine ACut.iff.2 ⟨Nat.le_of_ble_eq_true rfl, ?_⟩ | refine ACall.val (args := []) (by kernel_rfl) hA rfl rfl ?_); conv => whnf))
    refine AEqs.eql (ks := [.int .i64, .int .i64, .int .i64, .int .i64, .int .i64, .int .i64, .int .i64, .int .i64]) (vx := [.int .i64 0, .int .i64 0, .int .i64 0, .int .i64 0, .int .i64 0, .int .i64 0, .int .i64 0, .int .i64 0]) (vy := [.int .i64 0, .int .i64 0, .int .i64 0, .int .i64 0, .int .i64 0, .int .i64 0, .int .i64 0, .int .i64 0]) (by kernel_rfl) (by kernel_rfl) rfl rfl rfl rfl ?_
    conv => whnf
    repeat (first | refine ru ?_ | ((first | refine AReq.mk rfl ?_ | refine AUpd.sp ?_ | refine ACut.iff.2 ⟨Nat.le_of_ble_eq_true rfl, ?_⟩ | refine ACall.val (args := []) (by kernel_rfl) hA rfl rfl ?_ | refine ACall.val (args := [stA s]) (by kernel_rfl) hf (by (first | rfl | (simp only [renL, AV.ren, List.nil_append, List.cons_append, rens]; try rfl))) rfl ?_ | refine ASplit.yes rfl ?_ | refine ACond.yes rfl ?_); conv => whnf))
    exact AFin.mk rfl
  · have hC := chk_ok hk
    have hu1 := hs.units.1
    have h1 := backA_le hC s.orders (fun _ h => h)
    have h2 := done_count hC.base
    have h3 := ship_ge hC
    have h4 := held_sum hC hd
    conv => whnf
    repeat (first | refine ru ?_ | ((first | refine AReq.mk rfl ?_ | refine AUpd.sp ?_ | refine ACut.iff.2 ⟨Nat.le_of_ble_eq_true rfl, ?_⟩ | refine ACall.val (args := []) (by kernel_rfl) hA rfl rfl ?_); conv => whnf))
    unfold repC
    generalize shipS s.orders = sh at h3
    generalize paidA s.orders = pd at h1
    generalize backA s.memos s.orders = bk at h1
    generalize stkS d = st at h4
    generalize prtS d = pr at h4
    generalize s.units.countP (fun u => !doneB u) = lf at h2
    refine ALoop.mk (fun n E H => ∃ (i : Nat), n = s.units.length - i ∧ i ≤ s.units.length ∧
        E = pad [stA s, .ptr 0 0, .any, .ptr 1 0, .any, nV ((s.units.take i).countP (fun u => decide (6 ≤ u.state)) : Nat), nV i] 91 ∧
        H = [.cells 44 (stC s), .cells 47 [nV s.orders.length, nV s.units.length, nV lf, nV sh, nV pd, nV bk, nV st, nV pr]]) (n := s.units.length) _ _
      ⟨0, rfl, Nat.zero_le _, rfl, rfl⟩ (Conv.fit (by repeat' (first | exact Fit.nil | refine Fit.any ?_ | refine Fit.same ?_))) ?_
    rintro _ _ _ ⟨i, rfl, hi, rfl, rfl⟩
    conv => whnf
    repeat (first | refine go ?_ | ((first | refine AReq.mk rfl ?_ | refine AUpd.sp ?_ | refine ACut.iff.2 ⟨Nat.le_of_ble_eq_true rfl, ?_⟩ | refine ACall.val (args := []) (by kernel_rfl) hA rfl rfl ?_); conv => whnf))
    refine ACond.dec (fun g1 => ?_) (fun g1 => ?_)
    · have hil : i < s.units.length := by omega
      have w1 : IntKind.wrap .i64 ((i : Int) + 1) = ((i + 1 : Nat) : Int) := by rw [wrap_i64 _ (by omega) (by omega)]; omega
      have hc : (s.units.take (i + 1)).countP (fun u => decide (6 ≤ u.state)) = (s.units.take i).countP (fun u => decide (6 ≤ u.state)) + if 6 ≤ s.units[i].state then 1 else 0 := by
        rw [List.take_add_one, List.getElem?_eq_getElem hil, List.countP_append]
        simp [List.countP_cons]
      have hle := List.countP_le_length (p := fun u : Un => decide (6 ≤ u.state)) (l := s.units.take i)
      rw [List.length_take] at hle
      generalize (s.units.take i).countP (fun u => decide (6 ≤ u.state)) = c at hc hle ⊢
      have w2 : IntKind.wrap .i64 ((c : Int) + 1) = ((c + 1 : Nat) : Int) := by rw [wrap_i64 _ (by omega) (by omega)]; omega
      conv => whnf
      repeat (first | refine go ?_ | ((first | refine AReq.mk rfl ?_ | refine AUpd.sp ?_ | refine ACut.iff.2 ⟨Nat.le_of_ble_eq_true rfl, ?_⟩ | refine ACall.val (args := []) (by kernel_rfl) hA rfl rfl ?_ | refine AReq.mk (by omega) ?_ | refine AIdx.flat (enc := unC) unC_len (xs := s.units) (i := i) hil ?_); conv => whnf))
      refine ACond.dec (fun g2 => ?_) (fun g2 => ?_)
      · rw [if_pos g2] at hc
        conv => whnf
        repeat (first | refine ru ?_ | ((first | refine AReq.mk rfl ?_ | refine AUpd.sp ?_ | refine ACut.iff.2 ⟨Nat.le_of_ble_eq_true rfl, ?_⟩ | refine ACall.val (args := []) (by kernel_rfl) hA rfl rfl ?_ | refine AReq.mk (by omega) ?_ | refine AIdx.flat (enc := unC) unC_len (xs := s.units) (i := i) hil ?_); conv => whnf))
        rw [w1, w2]
        exact AHead.mk (s.units.length - (i + 1)) _ _ (by omega) ⟨i + 1, rfl, by omega, rfl, rfl⟩ (Conv.fit (by rw [hc]; repeat' (first | exact Fit.nil | refine Fit.any ?_ | refine Fit.same ?_)))
      · rw [if_neg g2] at hc
        conv => whnf
        repeat (first | refine ru ?_ | ((first | refine AReq.mk rfl ?_ | refine AUpd.sp ?_ | refine ACut.iff.2 ⟨Nat.le_of_ble_eq_true rfl, ?_⟩ | refine ACall.val (args := []) (by kernel_rfl) hA rfl rfl ?_ | refine AReq.mk (by omega) ?_ | refine AIdx.flat (enc := unC) unC_len (xs := s.units) (i := i) hil ?_); conv => whnf))
        rw [w1]
        exact AHead.mk (s.units.length - (i + 1)) _ _ (by omega) ⟨i + 1, rfl, by omega, rfl, rfl⟩ (Conv.fit (by rw [hc]; repeat' (first | exact Fit.nil | refine Fit.any ?_ | refine Fit.same ?_)))
    · obtain rfl : i = s.units.length := by omega
      rw [List.take_length]
      generalize s.units.countP (fun u => decide (6 ≤ u.state)) = dn at h2 h4
      have w3 : IntKind.wrap .i64 ((lf : Int) + (dn : Int)) = (s.units.length : Int) := by rw [wrap_i64 _ (by omega) (by omega)]; omega
      conv => whnf
      repeat (first | refine go ?_ | ((first | refine AReq.mk rfl ?_ | refine AUpd.sp ?_ | refine ACut.iff.2 ⟨Nat.le_of_ble_eq_true rfl, ?_⟩ | refine ACall.val (args := []) (by kernel_rfl) hA rfl rfl ?_ | refine AReq.mk (by omega) ?_ | refine AIdx.flat (enc := unC) unC_len (xs := s.units) (i := i) hil ?_); conv => whnf))
      refine AOut.stay ?_
      conv => whnf
      repeat (first | refine ru ?_ | ((first | refine AReq.mk rfl ?_ | refine AUpd.sp ?_ | refine ACut.iff.2 ⟨Nat.le_of_ble_eq_true rfl, ?_⟩ | refine ACall.val (args := []) (by kernel_rfl) hA rfl rfl ?_ | refine AReq.mk (by omega) ?_ | refine AIdx.flat (enc := unC) unC_len (xs := s.units) (i := i) hil ?_); conv => whnf))
      refine ASplit.yes (decide_eq_true (by omega)) ?_
      conv => whnf
      repeat (first | refine ru ?_ | ((first | refine AReq.mk rfl ?_ | refine AUpd.sp ?_ | refine ACut.iff.2 ⟨Nat.le_of_ble_eq_true rfl, ?_⟩ | refine ACall.val (args := []) (by kernel_rfl) hA rfl rfl ?_ | refine AReq.mk (by omega) ?_ | refine AIdx.flat (enc := unC) unC_len (xs := s.units) (i := i) hil ?_); conv => whnf))
      refine ASplit.yes (decide_eq_true (by omega)) ?_
      conv => whnf
      repeat (first | refine ru ?_ | ((first | refine AReq.mk rfl ?_ | refine AUpd.sp ?_ | refine ACut.iff.2 ⟨Nat.le_of_ble_eq_true rfl, ?_⟩ | refine ACall.val (args := []) (by kernel_rfl) hA rfl rfl ?_ | refine AReq.mk (by omega) ?_ | refine AIdx.flat (enc := unC) unC_len (xs := s.units) (i := i) hil ?_); conv => whnf))
      rw [w3]
      refine ASplit.yes (decide_eq_true (by omega)) ?_
      conv => whnf
      repeat (first | refine ru ?_ | ((first | refine AReq.mk rfl ?_ | refine AUpd.sp ?_ | refine ACut.iff.2 ⟨Nat.le_of_ble_eq_true rfl, ?_⟩ | refine ACall.val (args := []) (by kernel_rfl) hA rfl rfl ?_ | refine AReq.mk (by omega) ?_ | refine AIdx.flat (enc := unC) unC_len (xs := s.units) (i := i) hil ?_); conv => whnf))
      refine ASplit.yes (decide_eq_true (by omega)) ?_
      conv => whnf
      repeat (first | refine ru ?_ | ((first | refine AReq.mk rfl ?_ | refine AUpd.sp ?_ | refine ACut.iff.2 ⟨Nat.le_of_ble_eq_true rfl, ?_⟩ | refine ACall.val (args := []) (by kernel_rfl) hA rfl rfl ?_ | refine AReq.mk (by omega) ?_ | refine AIdx.flat (enc := unC) unC_len (xs := s.units) (i := i) hil ?_); conv => whnf))
      refine ASplit.yes (decide_eq_true (by omega)) ?_
      conv => whnf
      repeat (first | refine ru ?_ | ((first | refine AReq.mk rfl ?_ | refine AUpd.sp ?_ | refine ACut.iff.2 ⟨Nat.le_of_ble_eq_true rfl, ?_⟩ | refine ACall.val (args := []) (by kernel_rfl) hA rfl rfl ?_ | refine AReq.mk (by omega) ?_ | refine AIdx.flat (enc := unC) unC_len (xs := s.units) (i := i) hil ?_); conv => whnf))
      refine ASplit.yes (decide_eq_true (by omega)) ?_
      conv => whnf
      repeat (first | refine ru ?_ | ((first | refine AReq.mk rfl ?_ | refine AUpd.sp ?_ | refine ACut.iff.2 ⟨Nat.le_of_ble_eq_true rfl, ?_⟩ | refine ACall.val (args := []) (by kernel_rfl) hA rfl rfl ?_ | refine AReq.mk (by omega) ?_ | refine AIdx.flat (enc := unC) unC_len (xs := s.units) (i := i) hil ?_); conv => whnf))
      refine ASplit.yes (decide_eq_true (by omega)) ?_
      conv => whnf
      repeat (first | refine ru ?_ | ((first | refine AReq.mk rfl ?_ | refine AUpd.sp ?_ | refine ACut.iff.2 ⟨Nat.le_of_ble_eq_true rfl, ?_⟩ | refine ACall.val (args := []) (by kernel_rfl) hA rfl rfl ?_ | refine AReq.mk (by omega) ?_ | refine AIdx.flat (enc := unC) unC_len (xs := s.units) (i := i) hil ?_); conv => whnf))
      exact AFin.mk rfl
end Go.Aw.U1

set_option linter.unusedSimpArgs false
set_option linter.unusedVariables false
set_option maxHeartbeats 4000000
set_option maxRecDepth 30000
namespace Go.Aw
open Go
/-- a fork whose two ways go on by themselves -/
theorem AF.fork2 {P : Program} {T : Nat → TI} {ops : Array Oper} {i : Nat} {p : Pl} {j : Nat} {q : Pl} {r : Pl} {kn : List (Nat × Bool)} {Q : List (Nat × Bool) → List AV → List ABlk → Prop} {E : List AV} {H : List ABlk}
    (h1 : AH P T ops i p kn (fun kn E H => AF P T ops r kn Q E H) E H) (h2 : AH P T ops j q kn (fun kn E H => AF P T ops r kn Q E H) E H) : AF P T ops (.fork i p j q r) kn Q E H :=
  AF.fork _ h1 h2 (fun _ _ _ h => h)
end Go.Aw
namespace Go.Aw.U1
open Go Go.Proofs
theorem f206e (a b : Sta) (h : a.rules.asks = []) : Fun P 206 [stA a, stA b] (bV true) := by
  refine spec_of hT (f := 206) (fn := Go.Proofs.Tryz.f206) (c := body Go.Proofs.Tryz.f206) (by kernel_rfl) (by kernel_rfl) ?_
  conv => whnf
  repeat refine go ?_
  refine AW.conv _ _ (Conv.freeze 0 rfl) ?_
  refine AW.conv _ _ (Conv.freeze 1 rfl) ?_
  refine AW.plan hm (.one 0 (.one 2 (.one 1 (.imm 3 (.fork 4 (.one 5 .nil) 5 (.one 4 .nil) (.one 6 (.one 7 .nil))))))) (by kernel_rfl) ?_
  have hf := f158 a
  rw [h] at hf
  conv => whnf
  repeat (first | refine go ?_ | ((first | refine AReq.mk rfl ?_ | refine AUpd.sp ?_ | refine ACut.iff.2 ⟨Nat.le_of_ble_eq_true rfl, ?_⟩ | refine ACall.val (args := [stA a]) (by kernel_rfl) hf (by (first | rfl | (simp only [renL, AV.ren, List.nil_append, List.cons_append, rens]; try rfl))) rfl ?_); conv => whnf))
  apply AF.fork2
  · conv => whnf
    repeat (first | refine go ?_ | ((first | refine AReq.mk rfl ?_ | refine AUpd.sp ?_ | refine ACut.iff.2 ⟨Nat.le_of_ble_eq_true rfl, ?_⟩ | refine ACall.val (args := [stA a]) (by kernel_rfl) hf (by (first | rfl | (simp only [renL, AV.ren, List.nil_append, List.cons_append, rens]; try rfl))) rfl ?_); conv => whnf))
    refine ASplit.yes rfl ?_
    conv => whnf
    repeat (first | refine go ?_ | ((first | refine AReq.mk rfl ?_ | refine AUpd.sp ?_ | refine ACut.iff.2 ⟨Nat.le_of_ble_eq_true rfl, ?_⟩ | refine ACall.val (args := [stA a]) (by kernel_rfl) hf (by (first | rfl | (simp only [renL, AV.ren, List.nil_append, List.cons_append, rens]; try rfl))) rfl ?_); conv => whnf))
    exact AFin.val rfl ⟨rfl, rfl⟩
  · conv => whnf
    repeat (first | refine go ?_ | ((first | refine AReq.mk rfl ?_ | refine AUpd.sp ?_ | refine ACut.iff.2 ⟨Nat.le_of_ble_eq_true rfl, ?_⟩ | refine ACall.val (args := [stA a]) (by kernel_rfl) hf (by (first | rfl | (simp only [renL, AV.ren, List.nil_append, List.cons_append, rens]; try rfl))) rfl ?_); conv => whnf))
    refine ASplit.yes rfl ?_
    conv => whnf
    repeat (first | refine go ?_ | ((first | refine AReq.mk rfl ?_ | refine AUpd.sp ?_ | refine ACut.iff.2 ⟨Nat.le_of_ble_eq_true rfl, ?_⟩ | refine ACall.val (args := [stA a]) (by kernel_rfl) hf (by (first | rfl | (simp only [renL, AV.ren, List.nil_append, List.cons_append, rens]; try rfl))) rfl ?_); conv => whnf))
    exact AFin.val rfl ⟨rfl, rfl⟩
end Go.Aw.U1

set_option linter.unusedSimpArgs false
set_option linter.unusedVariables false
set_option maxHeartbeats 4000000
set_option maxRecDepth 8000
namespace Go.Aw.U1
open Go Go.Proofs

/-! what is reached -/
abbrev Nd := Int × Int
def ledF (act : Int) : Int := if act = 1 then 2 else if act = 3 then 4 else if act = 4 then 6 else if act = 5 then 9 else if act = 7 then 5 else if act = 8 then 7 else if act = 9 then 8 else 3
def decF (way : Int) : Int := if way = 1 then 6 else if way = 2 ∨ way = 3 then 3 else if way = 4 then 8 else 9
def nextF (n : Nd) (act way : Int) : Nd × Int :=
  if nodeB n.1 n.2 then
    if act < 1 ∨ 9 < act then ((0, 0), 30) else if (actF n.1 n.2).contains act then (if act ≠ 2 then ((ledF act, n.2), 0) else if way < 1 ∨ 5 < way then ((0, 0), 2) else ((decF way, way), 0)) else ((0, 0), 33)
  else ((0, 0), 33)
/-- one more node -/
def add1 (S : List Nd) (r : Nd × Int) : List Nd := if r.2 = 0 ∧ S.contains r.1 = false then S ++ [r.1] else S
def addW (n : Nd) (act : Int) : Nat → Int → List Nd → List Nd
  | 0, _, S => S
  | k + 1, w, S => if w ≤ 5 then addW n act k (w + 1) (add1 S (nextF n act w)) else S
def addA (n : Nd) : List Int → List Nd → List Nd
  | [], S => S
  | a :: l, S => addA n l (addW n a 5 1 S)
def bfsO : Nat → List Nd → Nat → Option (List Nd)
  | 0, _, _ => none
  | f + 1, S, i => match S[i]? with | none => some S | some n => bfsO f (addA n (actF n.1 n.2) S) (i + 1)
def closure (a : Nd) : List Nd := (bfsO 20 [a] 0).getD []
def reachB (a b : Nd) : Bool := nodeB a.1 a.2 && nodeB b.1 b.2 && (closure a).contains b
theorem add1_sub (S : List Nd) (r : Nd × Int) : S.length ≤ (add1 S r).length ∧ ∀ x ∈ S, x ∈ add1 S r := by
  unfold add1
  split
  · simp; intro a b h; exact .inl h
  · exact ⟨Nat.le_refl _, fun _ h => h⟩
theorem addW_sub (n : Nd) (act : Int) : ∀ (k : Nat) (w : Int) (S : List Nd), S.length ≤ (addW n act k w S).length ∧ ∀ x ∈ S, x ∈ addW n act k w S
  | 0, _, S => ⟨Nat.le_refl _, fun _ h => h⟩
  | k + 1, w, S => by
    rw [addW]
    split
    · have h1 := add1_sub S (nextF n act w)
      have h2 := addW_sub n act k (w + 1) (add1 S (nextF n act w))
      exact ⟨by omega, fun x hx => h2.2 x (h1.2 x hx)⟩
    · exact ⟨Nat.le_refl _, fun _ h => h⟩
theorem addA_sub (n : Nd) : ∀ (l : List Int) (S : List Nd), S.length ≤ (addA n l S).length ∧ ∀ x ∈ S, x ∈ addA n l S
  | [], S => ⟨Nat.le_refl _, fun _ h => h⟩
  | a :: l, S => by
    have h1 := addW_sub n a 5 1 S
    have h2 := addA_sub n l (addW n a 5 1 S)
    exact ⟨by rw [addA]; omega, fun x hx => h2.2 x (h1.2 x hx)⟩
theorem bfs_sub : ∀ {f : Nat} {S C : List Nd} {i : Nat}, bfsO f S i = some C → S.length ≤ C.length ∧ ∀ x ∈ S, x ∈ C
  | 0, _, _, _, h => by cases h
  | f + 1, S, C, i, h => by
    rw [bfsO] at h
    split at h
    · cases h; exact ⟨Nat.le_refl _, fun _ h => h⟩
    · rename_i n hn
      have h1 := addA_sub n (actF n.1 n.2) S
      have h2 := bfs_sub h
      exact ⟨by omega, fun x hx => h2.2 x (h1.2 x hx)⟩
def nodesL : List Nd := [(1, 0), (2, 0), (3, 2), (3, 3), (4, 2), (5, 3), (6, 1), (6, 2), (7, 3), (8, 4), (8, 3), (9, 5), (9, 2)]
theorem node_mem {a b : Int} (h : nodeB a b = true) : (a, b) ∈ nodesL := by
  unfold nodeB termB actF at h
  simp only [nodesL, List.mem_cons, Prod.mk.injEq, List.not_mem_nil, or_false]
  repeat' split at h
  all_goals simp_all
theorem closure_ok : ∀ a ∈ nodesL, bfsO 20 [a] 0 = some (closure a) ∧ (closure a).length ≤ 13 := by decide +kernel

def ndC (n : Nd) : List AV := [nV n.1, nV n.2]
theorem ndC_len (n : Nd) : (ndC n).length = 2 := rfl
theorem fr_nd (ρ : Nat → Nat) (l : List Nd) : renL ρ (l.flatMap ndC) = l.flatMap ndC := flat_ren (enc := ndC) (fun _ _ => rfl) ρ l
def ndsV (l : List Nd) : AV := .vs 2 l.length (l.flatMap ndC)
theorem ndsV_ren (ρ : Nat → Nat) (l : List Nd) : (ndsV l).ren ρ = ndsV l := by simp only [ndsV, AV.ren, fr_nd]
theorem f132 (a : Int) : Fun P 132 [nV a] (nV (ledF a)) := by
  refine spec_of hT (f := 132) (fn := Go.Proofs.Tryz.f132) (c := body Go.Proofs.Tryz.f132) (by kernel_rfl) (by kernel_rfl) ?_
  conv => whnf
  repeat' (first | refine go ?_ | ((first | refine ASplit.yes rfl ?_ | refine ASplit.no rfl ?_ | refine ACond.yes rfl ?_ | refine ACond.no rfl ?_ | refine ASplit.dec (fun _ => ?_) (fun _ => ?_) | refine ASplit.ndec (fun _ => ?_) (fun _ => ?_) | refine ACond.dec (fun _ => ?_) (fun _ => ?_) | refine ACond.ndec (fun _ => ?_) (fun _ => ?_)) <;> conv => whnf))
  all_goals refine AFin.val rfl ⟨congrArg nV ?_, rfl⟩
  all_goals (unfold ledF; simp_all)
theorem f133 (a : Int) : Fun P 133 [nV a] (nV (decF a)) := by
  refine spec_of hT (f := 133) (fn := Go.Proofs.Tryz.f133) (c := body Go.Proofs.Tryz.f133) (by kernel_rfl) (by kernel_rfl) ?_
  conv => whnf
  repeat' (first | refine go ?_ | ((first | refine ASplit.yes rfl ?_ | refine ASplit.no rfl ?_ | refine ACond.yes rfl ?_ | refine ACond.no rfl ?_ | refine ASplit.dec (fun _ => ?_) (fun _ => ?_) | refine ASplit.ndec (fun _ => ?_) (fun _ => ?_) | refine ACond.dec (fun _ => ?_) (fun _ => ?_) | refine ACond.ndec (fun _ => ?_) (fun _ => ?_)) <;> conv => whnf))
  all_goals refine AFin.val rfl ⟨congrArg nV ?_, rfl⟩
  all_goals (unfold decF; simp_all)
theorem f131 (st way a : Int) : Fun P 131 [ndA st way, nV a] (bV ((actF st way).contains a)) := by
  refine spec_of hT (f := 131) (fn := Go.Proofs.Tryz.f131) (c := body Go.Proofs.Tryz.f131) (by kernel_rfl) (by kernel_rfl) ?_
  have hlen : (actF st way).length ≤ 3 := by unfold actF; repeat' split
                                             all_goals simp
  conv => whnf
  repeat refine go ?_
  refine ACall.val (args := [ndA st way]) (by kernel_rfl) (f50 st way) rfl (actV_ren _ _) ?_
  generalize actF st way = l at hlen
  cases l with
  | nil =>
    unfold actV
    conv => whnf
    repeat refine ru ?_
    refine ALoop.un ?_
    refine ALp.step (T := T) ?_
    conv => whnf
    repeat refine ru ?_
    exact AFin.val rfl ⟨rfl, rfl⟩
  | cons b l' =>
  unfold actV isV
  conv => whnf
  repeat refine ru ?_
  refine ALoop.mk (fun n E H => ∃ (i : Nat), n = (b :: l').length - i ∧ i ≤ (b :: l').length ∧ (∀ k (hk : k < (b :: l').length), k < i → (b :: l')[k] ≠ a) ∧
      E = pad [ndA st way, nV a, .ptr 0 0, .any, bV false, .any, .any, .any, isV (b :: l'), nV (b :: l').length, nV i] 18 ∧ H = [.cells 28 [nV st, nV way]]) (n := (b :: l').length) _ _
    ⟨0, rfl, Nat.zero_le _, fun k _ hk => absurd hk (Nat.not_lt_zero _), rfl, rfl⟩ (Conv.fit (by repeat' (first | exact Fit.nil | refine Fit.any ?_ | refine Fit.same ?_))) ?_
  generalize b :: l' = l at hlen
  rintro _ _ _ ⟨i, rfl, hi, hI, rfl, rfl⟩
  conv => whnf
  repeat refine go ?_
  refine ACond.dec (fun h1 => ?_) (fun h1 => ?_)
  · have hil : i < l.length := by omega
    have w1 : IntKind.wrap .i64 ((i : Int) + 1) = ((i + 1 : Nat) : Int) := by rw [wrap_i64 _ (by omega) (by omega)]; omega
    conv => whnf
    repeat (first | refine go ?_ | ((first | refine AReq.mk (by omega) ?_ | refine AIdx.flat (enc := iC) iC_len (xs := l) (i := i) hil ?_); conv => whnf))
    refine ACond.dec (fun h2 => ?_) (fun h2 => ?_)
    · conv => whnf
      repeat refine ru ?_
      refine AOut.stay ?_
      conv => whnf
      repeat refine ru ?_
      refine AFin.val rfl ⟨congrArg bV ?_, rfl⟩
      rw [← h2]; symm
      exact List.contains_iff_mem.2 (List.getElem_mem hil)
    · conv => whnf
      repeat refine ru ?_
      rw [w1]
      refine AHead.mk (l.length - (i + 1)) _ _ (by omega) ⟨i + 1, rfl, by omega, fun k hk hki => ?_, rfl, rfl⟩ (Conv.fit (by repeat' (first | exact Fit.nil | refine Fit.any ?_ | refine Fit.same ?_)))
      rcases Nat.lt_or_ge k i with g | g
      · exact hI k hk g
      · obtain rfl : k = i := by omega
        exact h2
  · conv => whnf
    repeat refine go ?_
    refine AOut.stay ?_
    conv => whnf
    repeat refine go ?_
    refine AFin.val rfl ⟨congrArg bV ?_, rfl⟩
    symm
    rw [← Bool.not_eq_true, List.contains_iff_mem]
    intro hm
    obtain ⟨k, hk, hk2⟩ := List.mem_iff_getElem.1 hm
    exact hI k hk (by omega) hk2
theorem f51 (n : Nd) (a w : Int) : Fun P 51 [ndA n.1 n.2, .agg [nV a, nV w]] (.tup [ndA (nextF n a w).1.1 (nextF n a w).1.2, nV (nextF n a w).2]) := by
  refine spec_of hT (f := 51) (fn := Go.Proofs.Tryz.f51) (c := body Go.Proofs.Tryz.f51) (by kernel_rfl) (by kernel_rfl) ?_
  unfold nextF
  conv => whnf
  repeat (first | refine go ?_ | ((first | refine AW.plan (id := 12) hm (.one 0 (.one 3 (.one 1 (.imm 4 (.one 2 (.one 5 (.one 6 (.one 7 .nil)))))))) (by kernel_rfl) ?_ | refine AW.plan (id := 9) hm (.one 0 (.one 3 (.one 1 (.imm 4 (.one 2 (.one 5 (.one 6 (.one 7 .nil)))))))) (by kernel_rfl) ?_); conv => whnf))
  refine ACall.val (args := [ndA n.1 n.2]) (by kernel_rfl) (f49 n.1 n.2) rfl rfl ?_
  unfold lifeC
  cases hn : nodeB n.1 n.2 with
  | false =>
    conv => whnf
    repeat (first | refine ru ?_ | ((first | refine AW.plan (id := 12) hm (.one 0 (.one 3 (.one 1 (.imm 4 (.one 2 (.one 5 (.one 6 (.one 7 .nil)))))))) (by kernel_rfl) ?_ | refine AW.plan (id := 9) hm (.one 0 (.one 3 (.one 1 (.imm 4 (.one 2 (.one 5 (.one 6 (.one 7 .nil)))))))) (by kernel_rfl) ?_); conv => whnf))
    exact AFin.val rfl ⟨rfl, rfl⟩
  | true =>
  rw [if_pos rfl]
  conv => whnf
  repeat (first | refine ru ?_ | ((first | refine AW.plan (id := 12) hm (.one 0 (.one 3 (.one 1 (.imm 4 (.one 2 (.one 5 (.one 6 (.one 7 .nil)))))))) (by kernel_rfl) ?_ | refine AW.plan (id := 9) hm (.one 0 (.one 3 (.one 1 (.imm 4 (.one 2 (.one 5 (.one 6 (.one 7 .nil)))))))) (by kernel_rfl) ?_); conv => whnf))
  refine ASplit.dec (fun h1 => ?_) (fun h1 => ?_)
  · rw [if_pos (show a < 1 ∨ 9 < a from .inl h1)]
    conv => whnf
    repeat (first | refine ru ?_ | ((first | refine AW.plan (id := 12) hm (.one 0 (.one 3 (.one 1 (.imm 4 (.one 2 (.one 5 (.one 6 (.one 7 .nil)))))))) (by kernel_rfl) ?_ | refine AW.plan (id := 9) hm (.one 0 (.one 3 (.one 1 (.imm 4 (.one 2 (.one 5 (.one 6 (.one 7 .nil)))))))) (by kernel_rfl) ?_); conv => whnf))
    exact AFin.val rfl ⟨rfl, rfl⟩
  conv => whnf
  repeat (first | refine ru ?_ | ((first | refine AW.plan (id := 12) hm (.one 0 (.one 3 (.one 1 (.imm 4 (.one 2 (.one 5 (.one 6 (.one 7 .nil)))))))) (by kernel_rfl) ?_ | refine AW.plan (id := 9) hm (.one 0 (.one 3 (.one 1 (.imm 4 (.one 2 (.one 5 (.one 6 (.one 7 .nil)))))))) (by kernel_rfl) ?_); conv => whnf))
  refine ACond.dec (fun h2 => ?_) (fun h2 => ?_)
  · rw [if_pos (show a < 1 ∨ 9 < a from .inr h2)]
    conv => whnf
    repeat (first | refine ru ?_ | ((first | refine AW.plan (id := 12) hm (.one 0 (.one 3 (.one 1 (.imm 4 (.one 2 (.one 5 (.one 6 (.one 7 .nil)))))))) (by kernel_rfl) ?_ | refine AW.plan (id := 9) hm (.one 0 (.one 3 (.one 1 (.imm 4 (.one 2 (.one 5 (.one 6 (.one 7 .nil)))))))) (by kernel_rfl) ?_); conv => whnf))
    exact AFin.val rfl ⟨rfl, rfl⟩
  rw [if_neg (show ¬ (a < 1 ∨ 9 < a) by omega)]
  conv => whnf
  repeat (first | refine ru ?_ | ((first | refine AW.plan (id := 12) hm (.one 0 (.one 3 (.one 1 (.imm 4 (.one 2 (.one 5 (.one 6 (.one 7 .nil)))))))) (by kernel_rfl) ?_ | refine AW.plan (id := 9) hm (.one 0 (.one 3 (.one 1 (.imm 4 (.one 2 (.one 5 (.one 6 (.one 7 .nil)))))))) (by kernel_rfl) ?_); conv => whnf))
  refine ACall.val (args := [ndA n.1 n.2, nV a]) (by kernel_rfl) (f131 n.1 n.2 a) rfl rfl ?_
  cases hc : (actF n.1 n.2).contains a with
  | false =>
    conv => whnf
    repeat (first | refine ru ?_ | ((first | refine AW.plan (id := 12) hm (.one 0 (.one 3 (.one 1 (.imm 4 (.one 2 (.one 5 (.one 6 (.one 7 .nil)))))))) (by kernel_rfl) ?_ | refine AW.plan (id := 9) hm (.one 0 (.one 3 (.one 1 (.imm 4 (.one 2 (.one 5 (.one 6 (.one 7 .nil)))))))) (by kernel_rfl) ?_); conv => whnf))
    exact AFin.val rfl ⟨rfl, rfl⟩
  | true =>
  rw [if_pos rfl]
  conv => whnf
  repeat (first | refine ru ?_ | ((first | refine AW.plan (id := 12) hm (.one 0 (.one 3 (.one 1 (.imm 4 (.one 2 (.one 5 (.one 6 (.one 7 .nil)))))))) (by kernel_rfl) ?_ | refine AW.plan (id := 9) hm (.one 0 (.one 3 (.one 1 (.imm 4 (.one 2 (.one 5 (.one 6 (.one 7 .nil)))))))) (by kernel_rfl) ?_); conv => whnf))
  refine ACond.ndec (fun h3 => ?_) (fun h3 => ?_)
  · rw [if_pos (show a ≠ 2 from h3)]
    refine AW.conv _ _ (Conv.freeze 0 rfl) ?_
    conv => whnf
    repeat (first | refine ru ?_ | ((first | refine AW.plan (id := 12) hm (.one 0 (.one 3 (.one 1 (.imm 4 (.one 2 (.one 5 (.one 6 (.one 7 .nil)))))))) (by kernel_rfl) ?_ | refine AW.plan (id := 9) hm (.one 0 (.one 3 (.one 1 (.imm 4 (.one 2 (.one 5 (.one 6 (.one 7 .nil)))))))) (by kernel_rfl) ?_); conv => whnf))
    refine ACall.val (args := [nV a]) (by kernel_rfl) (f132 a) rfl rfl ?_
    conv => whnf
    repeat (first | refine ru ?_ | ((first | refine AW.plan (id := 12) hm (.one 0 (.one 3 (.one 1 (.imm 4 (.one 2 (.one 5 (.one 6 (.one 7 .nil)))))))) (by kernel_rfl) ?_ | refine AW.plan (id := 9) hm (.one 0 (.one 3 (.one 1 (.imm 4 (.one 2 (.one 5 (.one 6 (.one 7 .nil)))))))) (by kernel_rfl) ?_); conv => whnf))
    exact AFin.val rfl ⟨rfl, rfl⟩
  rw [if_neg (show ¬ a ≠ 2 by omega)]
  conv => whnf
  repeat (first | refine ru ?_ | ((first | refine AW.plan (id := 12) hm (.one 0 (.one 3 (.one 1 (.imm 4 (.one 2 (.one 5 (.one 6 (.one 7 .nil)))))))) (by kernel_rfl) ?_ | refine AW.plan (id := 9) hm (.one 0 (.one 3 (.one 1 (.imm 4 (.one 2 (.one 5 (.one 6 (.one 7 .nil)))))))) (by kernel_rfl) ?_); conv => whnf))
  refine ASplit.dec (fun h4 => ?_) (fun h4 => ?_)
  · rw [if_pos (show w < 1 ∨ 5 < w from .inl h4)]
    conv => whnf
    repeat (first | refine ru ?_ | ((first | refine AW.plan (id := 12) hm (.one 0 (.one 3 (.one 1 (.imm 4 (.one 2 (.one 5 (.one 6 (.one 7 .nil)))))))) (by kernel_rfl) ?_ | refine AW.plan (id := 9) hm (.one 0 (.one 3 (.one 1 (.imm 4 (.one 2 (.one 5 (.one 6 (.one 7 .nil)))))))) (by kernel_rfl) ?_); conv => whnf))
    exact AFin.val rfl ⟨rfl, rfl⟩
  conv => whnf
  repeat (first | refine ru ?_ | ((first | refine AW.plan (id := 12) hm (.one 0 (.one 3 (.one 1 (.imm 4 (.one 2 (.one 5 (.one 6 (.one 7 .nil)))))))) (by kernel_rfl) ?_ | refine AW.plan (id := 9) hm (.one 0 (.one 3 (.one 1 (.imm 4 (.one 2 (.one 5 (.one 6 (.one 7 .nil)))))))) (by kernel_rfl) ?_); conv => whnf))
  refine ACond.dec (fun h5 => ?_) (fun h5 => ?_)
  · rw [if_pos (show w < 1 ∨ 5 < w from .inr h5)]
    conv => whnf
    repeat (first | refine ru ?_ | ((first | refine AW.plan (id := 12) hm (.one 0 (.one 3 (.one 1 (.imm 4 (.one 2 (.one 5 (.one 6 (.one 7 .nil)))))))) (by kernel_rfl) ?_ | refine AW.plan (id := 9) hm (.one 0 (.one 3 (.one 1 (.imm 4 (.one 2 (.one 5 (.one 6 (.one 7 .nil)))))))) (by kernel_rfl) ?_); conv => whnf))
    exact AFin.val rfl ⟨rfl, rfl⟩
  rw [if_neg (show ¬ (w < 1 ∨ 5 < w) by omega)]
  refine AW.conv _ _ (Conv.freeze 1 rfl) ?_
  conv => whnf
  repeat (first | refine ru ?_ | ((first | refine AW.plan (id := 12) hm (.one 0 (.one 3 (.one 1 (.imm 4 (.one 2 (.one 5 (.one 6 (.one 7 .nil)))))))) (by kernel_rfl) ?_ | refine AW.plan (id := 9) hm (.one 0 (.one 3 (.one 1 (.imm 4 (.one 2 (.one 5 (.one 6 (.one 7 .nil)))))))) (by kernel_rfl) ?_); conv => whnf))
  refine ACall.val (args := [nV w]) (by kernel_rfl) (f133 w) rfl rfl ?_
  conv => whnf
  repeat (first | refine ru ?_ | ((first | refine AW.plan (id := 12) hm (.one 0 (.one 3 (.one 1 (.imm 4 (.one 2 (.one 5 (.one 6 (.one 7 .nil)))))))) (by kernel_rfl) ?_ | refine AW.plan (id := 9) hm (.one 0 (.one 3 (.one 1 (.imm 4 (.one 2 (.one 5 (.one 6 (.one 7 .nil)))))))) (by kernel_rfl) ?_); conv => whnf))
  exact AFin.val rfl ⟨rfl, rfl⟩
end Go.Aw.U1

/-
  Aw, part 59: a slice written out, taken as own memory.
-/
set_option linter.unusedSimpArgs false
set_option linter.unusedVariables false
set_option maxHeartbeats 1000000
namespace Go.Aw
open Go

section
variable {P : Program} {T : Nat → TI} {C : Ctx} {m : Mu} {I : Nat → Prop} {H : List ABlk} {w : World}

def buildSliceO (T : Nat → TI) (t len : Nat) (E : List AV) (ps : List (Nat × Operand)) (H : List ABlk) (K : AV → List ABlk → Prop) : Prop :=
  match (T t).u with
  | .slice e => okT T e <| ifK (Nat.ble (len * (T e).size) 16777216) <| cellsK (T e).zero fun _ => anysK (len * (T e).size) fun cs =>
      fillK (fun i => some (i * (T e).size, (T e).size)) E ps cs fun cs => K (.ms (T e).size H.length 0 len) (H ++ [.cells e cs])
  | _ => False

theorem buildSliceO_sound (hT : TOk P T) (h : St C m I H w) {t len : Nat} {E : List AV} {a : Act} (hE : RepL w m I E a.tmps.toList) {ps : Array (Nat × Operand)} {K : AV → List ABlk → Prop} (hk : buildSliceO T t len E ps.toList H K) :
    Mem P C w m I K (Instr.buildSlice t len (ps.map fun p => (p.1, a.eval p.2))) := by
  unfold buildSliceO at hk
  cases hU : (T t).u with
  | slice e =>
    rw [hU] at hk
    simp only [okT_iff, ifK_iff] at hk
    obtain ⟨hne, hle, hk⟩ := hk
    have hle' := Nat.le_of_ble_eq_true hle
    obtain ⟨_, zs, z, hk, _, g2, g3, g4, g5⟩ := zero_cells (w := w) (m := m) (I := I) hT hne hk
    rw [anysK_eq] at hk
    let base : List Value := (List.range (len * (T e).size)).map (fun i => z.cells[i % z.cells.size]!)
    have hbl : base.length = len * (T e).size := by simp [base]
    have hb1 : ∀ u ∈ base, u.oneCell' = true := by
      intro u hu
      simp only [base, List.mem_map, List.mem_range] at hu
      obtain ⟨i, hi, rfl⟩ := hu
      have hs : z.cells.size = (T e).size := by rw [g3]; simpa using g4
      have h0 : 0 < z.cells.size := by
        rw [hs]; rcases Nat.eq_zero_or_pos (T e).size with h0 | h0
        · rw [h0] at hi; simp at hi
        · exact h0
      have hlt : i % z.cells.size < z.cells.size := Nat.mod_lt _ h0
      rw [getElem!_pos z.cells _ hlt]
      refine g2 _ ?_
      have : z.cells.toList = zs := by rw [g3]
      rw [← this]; simp
    have hbr : RepL w m I (List.replicate (len * (T e).size) .any) base := by rw [← hbl]; exact RepL.any base
    obtain ⟨cs, us, k1, k2, k3, k4, k5⟩ := fillK_sound hE hk hbr hb1
    obtain ⟨hs, he⟩ := h.alloc (t := e) (xs := cs) (ys := us) ⟨us, [], by simp, k2⟩ k3
    refine ⟨_, .slice (some ⟨w.heap.size, 0, none⟩) len len, _, _, I, _, k1, ?_, hs, he, ?_⟩
    · simp only [Rep]
      rw [← h.n, Mu.push_new.1, Mu.push_new.2]
      refine ⟨by simp [Mu.push], .inr ⟨_, len, 0, rfl, by simp, by omega, by rw [k4, hbl]; omega, fun _ => rfl⟩⟩
    · simp only [Instr.buildSlice, Sem.run_bind, und_slice hT hU, Result.andThen_ok, run_sizeOf_tab hT hne, Sem.run_ite]
      rw [if_neg (by omega)]
      simp only [Sem.run_pure, Result.andThen_ok, Sem.run_bind, Sem.run_ite]
      by_cases h0 : len * (T e).size = 0
      · have hb0 : base = [] := List.eq_nil_of_length_eq_zero (by rw [hbl, h0])
        rw [if_pos h0]
        have harr : (Array.range (len * (T e).size)).map (fun x => (#[] : Array Value)[x % (#[] : Array Value).size]!) = ⟨base⟩ := by
          rw [hb0, h0]; apply Array.ext'; simp
        simp only [harr, Array.toList_map, k5, newRow, Sem.run_bind, run_newObj, Sem.run_pure, Result.andThen_ok]
        rfl
      · rw [if_neg h0]
        have harr : (Array.range (len * (T e).size)).map (fun x => z.cells[x % z.cells.size]!) = ⟨base⟩ := by
          apply Array.ext'; simp [base]
        simp only [g5, harr, Array.toList_map, k5, newRow, Sem.run_bind, run_newObj, Sem.run_pure, Result.andThen_ok]
        rfl
  | _ => rw [hU] at hk; exact hk.elim

theorem AOp.sliceO {E : List AV} {K : AV → List ABlk → Prop} {t n : Nat} {ps : Array (Nat × Operand)} (hT : TOk P T) (k : buildSliceO T t n E ps.toList H K) : AOp P (.buildSlice t n ps) E H K := by
  rw [AOp.iff]
  intro C m I w a d type pos after guard Q hs hE
  have hm := buildSliceO_sound (P := P) (C := C) hT hs hE (ps := ps) (K := K) k
  exact wp_mem (s := Instr.buildSlice t n (ps.map fun (i, x) => (i, a.eval x))) hm rfl
end
end Go.Aw

set_option linter.unusedSimpArgs false
set_option linter.unusedVariables false
set_option maxHeartbeats 4000000
set_option maxRecDepth 8000
namespace Go.Aw.U1
open Go Go.Proofs
theorem eqNd2 {st way a b : Int} {K : AV → Prop} (k : K (bV (decide (st = a) && decide (way = b)))) : AEqs P .eql 28 (.agg [nV st, nV way]) (.agg [nV a, nV b]) K :=
  AEqs.eql (ks := [.int .i64, .int .i64]) (vx := [.int .i64 st, .int .i64 way]) (vy := [.int .i64 a, .int .i64 b]) (by kernel_rfl) (by kernel_rfl) rfl rfl rfl rfl (by rw [show eqL [Value.int .i64 st, .int .i64 way] [.int .i64 a, .int .i64 b] = (decide (st = a) && decide (way = b)) by simp [eqL, eqv]]; exact k)
theorem f134 (S : List Nd) (n : Nd) (hS : S.length ≤ 1000000) : Fun P 134 [ndsV S, ndA n.1 n.2] (nV (idxF (fun x => decide (n.1 = x.1) && decide (n.2 = x.2)) S 0)) := by
  refine spec_of hT (f := 134) (fn := Go.Proofs.Tryz.f134) (c := body Go.Proofs.Tryz.f134) (by kernel_rfl) (by kernel_rfl) ?_
  generalize hR : idxF (fun x : Nd => decide (n.1 = x.1) && decide (n.2 = x.2)) S 0 = R
  conv => whnf
  repeat (first | refine go ?_ | (refine AW.plan (id := 4) hm (.one 1 (.one 2 (.one 3 (.one 0 (.one 4 (.one 5 .nil)))))) (by kernel_rfl) ?_; conv => whnf))
  refine ALoop.mk (fun k E H => ∃ (i : Nat), k = S.length - i ∧ i ≤ S.length ∧ idxF (fun x => decide (n.1 = x.1) && decide (n.2 = x.2)) (S.drop i) i = R ∧
      E = pad [ndsV S, ndA n.1 n.2, .any, .ptr 0 0, nV 0, .any, .any, nV S.length, nV i] 19 ∧ H = [.cells 28 (ndC n)]) (n := S.length) _ _
    ⟨0, rfl, Nat.zero_le _, hR, rfl, rfl⟩ (Conv.fit (by repeat' (first | exact Fit.nil | refine Fit.any ?_ | refine Fit.same ?_))) ?_
  rintro _ _ _ ⟨i, rfl, hi, hI, rfl, rfl⟩
  conv => whnf
  repeat (first | refine go ?_ | (refine AW.plan (id := 4) hm (.one 1 (.one 2 (.one 3 (.one 0 (.one 4 (.one 5 .nil)))))) (by kernel_rfl) ?_; conv => whnf))
  refine ACond.dec (fun h1 => ?_) (fun h1 => ?_)
  · have hil : i < S.length := by omega
    have w1 : IntKind.wrap .i64 ((i : Int) + 1) = ((i + 1 : Nat) : Int) := by rw [wrap_i64 _ (by omega) (by omega)]; omega
    rw [idxF_drop hil] at hI
    conv => whnf
    repeat (first | refine go ?_ | ((first | refine AW.plan (id := 4) hm (.one 1 (.one 2 (.one 3 (.one 0 (.one 4 (.one 5 .nil)))))) (by kernel_rfl) ?_ | refine AReq.mk (by omega) ?_ | refine AIdx.flat (enc := ndC) ndC_len (xs := S) (i := i) hil ?_ | refine eqNd2 ?_); conv => whnf))
    refine ACond.mk (fun h4 => ?_) (fun h4 => ?_)
    · conv => whnf
      repeat (first | refine go ?_ | ((first | refine AW.plan (id := 4) hm (.one 1 (.one 2 (.one 3 (.one 0 (.one 4 (.one 5 .nil)))))) (by kernel_rfl) ?_ | refine AReq.mk (by omega) ?_ | refine AIdx.flat (enc := ndC) ndC_len (xs := S) (i := i) hil ?_ | refine eqNd2 ?_); conv => whnf))
      refine AOut.stay ?_
      conv => whnf
      repeat (first | refine go ?_ | ((first | refine AW.plan (id := 4) hm (.one 1 (.one 2 (.one 3 (.one 0 (.one 4 (.one 5 .nil)))))) (by kernel_rfl) ?_ | refine AReq.mk (by omega) ?_ | refine AIdx.flat (enc := ndC) ndC_len (xs := S) (i := i) hil ?_ | refine eqNd2 ?_); conv => whnf))
      refine AFin.val rfl ⟨?_, rfl⟩
      rw [if_pos h4] at hI
      rw [hI]
    · conv => whnf
      repeat (first | refine go ?_ | ((first | refine AW.plan (id := 4) hm (.one 1 (.one 2 (.one 3 (.one 0 (.one 4 (.one 5 .nil)))))) (by kernel_rfl) ?_ | refine AReq.mk (by omega) ?_ | refine AIdx.flat (enc := ndC) ndC_len (xs := S) (i := i) hil ?_ | refine eqNd2 ?_); conv => whnf))
      rw [w1]
      exact AHead.mk (S.length - (i + 1)) _ _ (by omega) ⟨i + 1, rfl, by omega, by rw [← hI]; exact (if_neg (fun h5 => Bool.noConfusion (h5.symm.trans h4))).symm, rfl, rfl⟩ (Conv.fit (by repeat' (first | exact Fit.nil | refine Fit.any ?_ | refine Fit.same ?_)))
  · rw [idxF_end (by omega)] at hI
    conv => whnf
    repeat (first | refine go ?_ | (refine AW.plan (id := 4) hm (.one 1 (.one 2 (.one 3 (.one 0 (.one 4 (.one 5 .nil)))))) (by kernel_rfl) ?_; conv => whnf))
    refine AOut.stay ?_
    conv => whnf
    repeat (first | refine go ?_ | (refine AW.plan (id := 4) hm (.one 1 (.one 2 (.one 3 (.one 0 (.one 4 (.one 5 .nil)))))) (by kernel_rfl) ?_; conv => whnf))
    exact AFin.val rfl ⟨congrArg nV hI, rfl⟩
theorem any_nd (S : List Nd) (n : Nd) : (S.any fun x => decide (n.1 = x.1) && decide (n.2 = x.2)) = S.contains n := by
  rw [Bool.eq_iff_iff, List.any_eq_true, List.contains_iff_mem]
  constructor
  · rintro ⟨x, hx, h⟩
    simp only [Bool.and_eq_true, decide_eq_true_eq] at h
    rw [show n = x from Prod.ext h.1 h.2]; exact hx
  · intro h; exact ⟨n, h, by simp⟩
theorem f52 (S : List Nd) (n : Nd) (hS : S.length ≤ 1000000) : Fun P 52 [ndsV S, ndA n.1 n.2] (bV (S.contains n)) := by
  refine spec_of hT (f := 52) (fn := Go.Proofs.Tryz.f52) (c := body Go.Proofs.Tryz.f52) (by kernel_rfl) (by kernel_rfl) ?_
  conv => whnf
  repeat refine go ?_
  refine ACall.val (args := [ndsV S, ndA n.1 n.2]) (by kernel_rfl) (f134 S n hS) (by simp only [renL, ndsV_ren]; rfl) rfl ?_
  conv => whnf
  repeat refine go ?_
  exact AFin.val rfl ⟨congrArg bV (by rw [← any_nd, ← idxF_any]), rfl⟩
theorem flatE {α : Type} {enc : α → List AV} {sz : Nat} (hs : ∀ x, (enc x).length = sz) {xs : List α} {i : Nat} {x : α} {K : List AV → Prop} (h : xs[i]? = some x) (k : K (enc x)) : AIdx (xs.flatMap enc) sz i K := by
  obtain ⟨hi, e⟩ := List.getElem?_eq_some_iff.1 h
  exact AIdx.flat hs hi (by rw [e]; exact k)
theorem pre_some {S S' : List Nd} (h : S <+: S') {i : Nat} {x : Nd} (hi : S[i]? = some x) : S'[i]? = some x := by
  obtain ⟨t, rfl⟩ := h
  obtain ⟨h1, h2⟩ := List.getElem?_eq_some_iff.1 hi
  rw [List.getElem?_append_left h1]; exact hi
theorem add1_pre (S : List Nd) (r : Nd × Int) : S <+: add1 S r := by
  unfold add1; split
  · exact List.prefix_append _ _
  · exact List.prefix_rfl
theorem addW_pre (n : Nd) (act : Int) : ∀ (k : Nat) (w : Int) (S : List Nd), S <+: addW n act k w S
  | 0, _, _ => List.prefix_rfl
  | k + 1, w, S => by
    rw [addW]; split
    · exact (add1_pre S _).trans (addW_pre n act k (w + 1) _)
    · exact List.prefix_rfl
theorem addA_pre (n : Nd) : ∀ (l : List Int) (S : List Nd), S <+: addA n l S
  | [], _ => List.prefix_rfl
  | a :: l, S => (addW_pre n a 5 1 S).trans (addA_pre n l _)
theorem pre_at {S S' : List Nd} (h : S <+: S') {i : Nat} (hi : i < S.length) : ∃ hi' : i < S'.length, S'[i] = S[i] := by
  have hl := h.length_le
  exact ⟨by omega, (List.IsPrefix.getElem h hi).symm⟩
theorem f12 (a b : Nd) : Fun P 12 [ndA a.1 a.2, ndA b.1 b.2] (bV (reachB a b)) := by
  refine spec_of hT (f := 12) (fn := Go.Proofs.Tryz.f12) (c := body Go.Proofs.Tryz.f12) (by kernel_rfl) (by kernel_rfl) ?_
  unfold reachB
  conv => whnf
  repeat (first | refine go ?_ | (refine AW.plan (id := 7) hm (.one 0 (.one 1 (.one 2 (.one 3 (.one 4 (.one 5 .nil)))))) (by kernel_rfl) ?_; conv => whnf))
  refine ACall.val (args := [ndA a.1 a.2]) (by kernel_rfl) (f49 a.1 a.2) rfl rfl ?_
  unfold lifeC
  cases ha : nodeB a.1 a.2 with
  | false =>
    conv => whnf
    repeat (first | refine ru ?_ | (refine AW.plan (id := 7) hm (.one 0 (.one 1 (.one 2 (.one 3 (.one 4 (.one 5 .nil)))))) (by kernel_rfl) ?_; conv => whnf))
    exact AFin.val rfl ⟨rfl, rfl⟩
  | true =>
  conv => whnf
  repeat (first | refine ru ?_ | (refine AW.plan (id := 7) hm (.one 0 (.one 1 (.one 2 (.one 3 (.one 4 (.one 5 .nil)))))) (by kernel_rfl) ?_; conv => whnf))
  refine ACall.val (args := [ndA b.1 b.2]) (by kernel_rfl) (f49 b.1 b.2) rfl rfl ?_
  unfold lifeC
  cases hb : nodeB b.1 b.2 with
  | false =>
    conv => whnf
    repeat (first | refine ru ?_ | (refine AW.plan (id := 7) hm (.one 0 (.one 1 (.one 2 (.one 3 (.one 4 (.one 5 .nil)))))) (by kernel_rfl) ?_; conv => whnf))
    exact AFin.val rfl ⟨rfl, rfl⟩
  | true =>
  obtain ⟨hC, hCl⟩ := closure_ok a (node_mem ha)
  generalize closure a = C at hC hCl
  conv => whnf
  iterate 9 ((first | refine AO.cons hT ?_ | refine AO.nil ?_ | refine AW.seq ?_ | refine AW.region ?_ | refine AW.cond ?_ | refine AW.block ?_ | refine AW.skip ?_ | refine ASplit.no rfl ?_ | refine ACond.no rfl ?_); conv => whnf)
  refine AO.consA rfl ?_
  refine AOp.sliceO hT ?_
  conv => whnf
  conv => whnf
  repeat (first | refine ru ?_ | (refine AW.plan (id := 7) hm (.one 0 (.one 1 (.one 2 (.one 3 (.one 4 (.one 5 .nil)))))) (by kernel_rfl) ?_; conv => whnf))
  refine ALoop.mk (fun n E H => ∃ (S : List Nd) (i : Nat), bfsO n S i = some C ∧ (∀ k (hk : k < S.length), k < i → S[k] ≠ b) ∧ i ≤ S.length ∧
      E = pad [ndA a.1 a.2, ndA b.1 b.2, .ptr 0 0, .ptr 1 0, bV false, .ms 2 2 0 S.length, nV i] 72 ∧ H = [.cells 28 (ndC a), .cells 28 (ndC b), .cells 28 (S.flatMap ndC)]) (n := 20) _ _
    ⟨[a], 0, hC, fun k _ hk => absurd hk (Nat.not_lt_zero _), Nat.zero_le _, rfl, rfl⟩ (Conv.fit (by repeat' (first | exact Fit.nil | refine Fit.any ?_ | refine Fit.same ?_))) ?_
  clear hC
  rintro n _ _ ⟨S, i, hC, hb', hi, rfl, rfl⟩
  have hSl := (bfs_sub hC).1
  conv => whnf
  repeat (first | refine go ?_ | (refine AW.plan (id := 7) hm (.one 0 (.one 1 (.one 2 (.one 3 (.one 4 (.one 5 .nil)))))) (by kernel_rfl) ?_; conv => whnf))
  refine ACond.dec (fun h1 => ?_) (fun h1 => ?_)
  · have hil : i < S.length := by omega
    obtain ⟨n, rfl⟩ : ∃ m, n = m + 1 := ⟨n - 1, by cases n with
      | zero => cases hC
      | succ n => rfl⟩
    rw [bfsO, List.getElem?_eq_getElem hil] at hC
    replace hC : bfsO n (addA S[i] (actF S[i].1 S[i].2) S) (i + 1) = some C := hC
    have fl := flat_len ndC_len S
    have hmemC : S[i] ∈ C := (bfs_sub hC).2 _ ((addA_sub _ _ _).2 _ (List.getElem_mem hil))
    have hl1 := (bfs_sub hC).1
    have hndi : S[i]? = some S[i] := List.getElem?_eq_getElem hil
    have hb2 : (decide (S[i].1 = b.1) && decide (S[i].2 = b.2)) = false → ∀ k x, k < i + 1 → S[k]? = some x → x ≠ b := fun hd k x hki hx => by
      obtain ⟨hk, rfl⟩ := List.getElem?_eq_some_iff.1 hx
      rcases Nat.lt_or_ge k i with g | g
      · exact hb' k hk g
      · obtain rfl : k = i := by omega
        intro e
        rw [e] at hd; simp at hd
    generalize S[i] = nd at hC hmemC hndi hb2 hl1
    conv => whnf
    repeat (first | refine go ?_ | ((first | refine AW.plan (id := 7) hm (.one 0 (.one 1 (.one 2 (.one 3 (.one 4 (.one 5 .nil)))))) (by kernel_rfl) ?_ | refine AReq.mk (by omega) ?_ | refine flatE (enc := ndC) ndC_len hndi ?_ | refine eqNd2 ?_); conv => whnf))
    refine ACond.mk (fun h4 => ?_) (fun h4 => ?_)
    · have e : nd = b := by
        simp only [Bool.and_eq_true, decide_eq_true_eq] at h4
        exact Prod.ext h4.1 h4.2
      conv => whnf
      repeat (first | refine ru ?_ | ((first | refine AW.plan (id := 7) hm (.one 0 (.one 1 (.one 2 (.one 3 (.one 4 (.one 5 .nil)))))) (by kernel_rfl) ?_ | refine AReq.mk (by omega) ?_ | refine flatE (enc := ndC) ndC_len hndi ?_ | refine eqNd2 ?_); conv => whnf))
      refine AOut.stay ?_
      conv => whnf
      repeat (first | refine ru ?_ | ((first | refine AW.plan (id := 7) hm (.one 0 (.one 1 (.one 2 (.one 3 (.one 4 (.one 5 .nil)))))) (by kernel_rfl) ?_ | refine AReq.mk (by omega) ?_ | refine flatE (enc := ndC) ndC_len hndi ?_ | refine eqNd2 ?_); conv => whnf))
      refine AFin.val rfl ⟨congrArg bV ?_, rfl⟩
      symm
      simp only [Bool.and_self, Bool.true_and]
      exact List.contains_iff_mem.2 (e ▸ hmemC)
    have hb3 := hb2 h4
    conv => whnf
    repeat (first | refine ru ?_ | ((first | refine AW.plan (id := 7) hm (.one 0 (.one 1 (.one 2 (.one 3 (.one 4 (.one 5 .nil)))))) (by kernel_rfl) ?_ | refine AReq.mk (by omega) ?_ | refine flatE (enc := ndC) ndC_len hndi ?_ | refine eqNd2 ?_); conv => whnf))
    refine ACall.val (args := [ndA nd.1 nd.2]) (by kernel_rfl) (f50 nd.1 nd.2) rfl (actV_ren _ _) ?_
    have hLl : (actF nd.1 nd.2).length ≤ 3 := by unfold actF; repeat' split
                                                 all_goals simp
    generalize hS1 : addA nd (actF nd.1 nd.2) S = S1 at hC hl1
    have hpre1 : S <+: S1 := hS1 ▸ addA_pre nd _ S
    have hb4 : ∀ k (hk : k < S1.length), k < i + 1 → S1[k] ≠ b := fun k hk hki => by
      refine hb3 k S1[k] hki ?_
      have hks : k < S.length := by omega
      obtain ⟨hk2, e⟩ := pre_at hpre1 hks
      rw [e]; exact List.getElem?_eq_getElem hks
    have hi1 : i + 1 ≤ S1.length := by have := hpre1.length_le; omega
    have w1 : IntKind.wrap .i64 ((i : Int) + 1) = ((i + 1 : Nat) : Int) := by rw [wrap_i64 _ (by omega) (by omega)]; omega
    generalize actF nd.1 nd.2 = L at hS1 hLl
    cases L with
    | nil =>
      obtain rfl : S = S1 := hS1
      unfold actV
      conv => whnf
      repeat (first | refine ru ?_ | ((first | refine AW.plan (id := 7) hm (.one 0 (.one 1 (.one 2 (.one 3 (.one 4 (.one 5 .nil)))))) (by kernel_rfl) ?_ | refine AReq.mk (by omega) ?_ | refine flatE (enc := ndC) ndC_len hndi ?_ | refine eqNd2 ?_); conv => whnf))
      refine ALoop.un ?_
      refine ALp.step (T := T) ?_
      conv => whnf
      repeat (first | refine ru ?_ | ((first | refine AW.plan (id := 7) hm (.one 0 (.one 1 (.one 2 (.one 3 (.one 4 (.one 5 .nil)))))) (by kernel_rfl) ?_ | refine AReq.mk (by omega) ?_ | refine flatE (enc := ndC) ndC_len hndi ?_ | refine eqNd2 ?_); conv => whnf))
      rw [w1]
      exact AHead.mk n _ _ (by omega) ⟨S, i + 1, hC, hb4, hi1, rfl, rfl⟩ (Conv.ren [0, 1, 2] _ (by simp) (by simp) (by simp only [pad, renL, AV.ren, rens]; repeat' (first | exact Fit.nil | refine Fit.any ?_ | refine Fit.same ?_)) (.same rfl (.same rfl (.same (by simp only [ABlk.ren, fr_nd]; rfl) .nil))))
    | cons x L' =>
      unfold actV isV
      conv => whnf
      repeat (first | refine ru ?_ | ((first | refine AW.plan (id := 7) hm (.one 0 (.one 1 (.one 2 (.one 3 (.one 4 (.one 5 .nil)))))) (by kernel_rfl) ?_ | refine AReq.mk (by omega) ?_ | refine flatE (enc := ndC) ndC_len hndi ?_ | refine eqNd2 ?_); conv => whnf))
      have hb28 : (T 28).bytes = 16 := by kernel_rfl
      refine ALoop.mk (fun n E H => ∃ (j : Nat) (S' : List Nd), n = (x :: L').length - j ∧ j ≤ (x :: L').length ∧ addA nd ((x :: L').drop j) S' = S1 ∧ S <+: S' ∧
          E = pad [ndA a.1 a.2, ndA b.1 b.2, .ptr 0 0, .ptr 1 0, bV false, .ms 2 2 0 S'.length, nV i, .any, .any, .any, .any, .any, .any, .any, .any, .any, .any, .any, .any, .any, .any, .any, .any, .any, .any, .any, .any, .any, .any, .any, .any, .any, .any, .any, .any, .any, .any, .any, isV (x :: L'), nV (x :: L').length, nV j] 72 ∧ H = [.cells 28 (ndC a), .cells 28 (ndC b), .cells 28 (S'.flatMap ndC)]) (n := (x :: L').length) _ _
        ⟨0, S, rfl, Nat.zero_le _, hS1, List.prefix_rfl, rfl, rfl⟩ (Conv.fit (by repeat' (first | exact Fit.nil | refine Fit.any ?_ | refine Fit.same ?_))) ?_
      generalize x :: L' = L at hS1 hLl
      rintro _ _ _ ⟨j, S', rfl, hj, hA, hpre, rfl, rfl⟩
      have hA2 := (addA_sub nd (L.drop j) S').1
      rw [hA] at hA2
      conv => whnf
      repeat (first | refine go ?_ | ((first | refine AW.plan (id := 7) hm (.one 0 (.one 1 (.one 2 (.one 3 (.one 4 (.one 5 .nil)))))) (by kernel_rfl) ?_ | refine AReq.mk (by omega) ?_ | refine flatE (enc := ndC) ndC_len hndi ?_ | refine eqNd2 ?_); conv => whnf))
      refine ACond.dec (fun h2 => ?_) (fun h2 => ?_)
      · have hjl : j < L.length := by omega
        have w2 : IntKind.wrap .i64 ((j : Int) + 1) = ((j + 1 : Nat) : Int) := by rw [wrap_i64 _ (by omega) (by omega)]; omega
        rw [List.drop_eq_getElem_cons hjl, addA] at hA
        conv => whnf
        repeat (first | refine go ?_ | ((first | refine AW.plan (id := 7) hm (.one 0 (.one 1 (.one 2 (.one 3 (.one 4 (.one 5 .nil)))))) (by kernel_rfl) ?_ | refine AReq.mk (by omega) ?_ | refine flatE (enc := ndC) ndC_len hndi ?_ | refine eqNd2 ?_ | refine AIdx.flat (enc := iC) iC_len (xs := L) (i := j) hjl ?_); conv => whnf))
        generalize L[j] = act at hA
        generalize hS2 : addW nd act 5 1 S' = S2 at hA
        have hA3 := (addA_sub nd (L.drop (j + 1)) S2).1
        rw [hA] at hA3
        have hpre2 : S <+: S2 := hpre.trans (hS2 ▸ addW_pre nd act 5 1 S')
        clear hA2
        refine ALoop.mk (fun n E H => ∃ (w : Int) (S3 : List Nd), (n : Int) = 6 - w ∧ 1 ≤ w ∧ addW nd act n w S3 = S2 ∧ S <+: S3 ∧
            E = pad [ndA a.1 a.2, ndA b.1 b.2, .ptr 0 0, .ptr 1 0, bV false, .ms 2 2 0 S3.length, nV i, .any, nV act, nV w, .any, .any, .any, .any, .any, .any, .any, .any, .any, .any, .any, .any, .any, .any, .any, .any, .any, .any, .any, .any, .any, .any, .any, .any, .any, .any, .any, .any, isV L, nV L.length, nV j] 72 ∧ H = [.cells 28 (ndC a), .cells 28 (ndC b), .cells 28 (S3.flatMap ndC)]) (n := 5) _ _
          ⟨1, S', rfl, by decide, hS2, hpre, rfl, rfl⟩ (Conv.fit (by repeat' (first | exact Fit.nil | refine Fit.any ?_ | refine Fit.same ?_))) ?_
        clear hS2 hpre
        clear S'
        rintro m _ _ ⟨w, S', hm5, hw1, hW, hpre, rfl, rfl⟩
        have hW2 := (addW_sub nd act m w S').1
        rw [hW] at hW2
        have hnd' : S'[i]? = some nd := pre_some hpre hndi
        have fl2 := flat_len ndC_len S'
        have hpl := hpre.length_le
        conv => whnf
        repeat (first | refine go ?_ | ((first | refine AW.plan (id := 7) hm (.one 0 (.one 1 (.one 2 (.one 3 (.one 4 (.one 5 .nil)))))) (by kernel_rfl) ?_ | refine AReq.mk (by omega) ?_ | refine flatE (enc := ndC) ndC_len hndi ?_ | refine eqNd2 ?_ | refine AIdx.flat (enc := iC) iC_len (xs := L) (i := j) hjl ?_); conv => whnf))
        refine ACond.dec (fun h3 => ?_) (fun h3 => ?_)
        · obtain ⟨m, rfl⟩ : ∃ k, m = k + 1 := ⟨m - 1, by omega⟩
          have w3 : IntKind.wrap .i64 (w + 1) = w + 1 := by rw [wrap_i64 _ (by omega) (by omega)]
          rw [addW, if_pos h3] at hW
          have hf51 := f51 nd act w
          have hf52 := f52 S' (nextF nd act w).1 (by omega)
          generalize hr : nextF nd act w = r at hW hf51 hf52
          conv => whnf
          repeat (first | refine go ?_ | ((first | refine AW.plan (id := 7) hm (.one 0 (.one 1 (.one 2 (.one 3 (.one 4 (.one 5 .nil)))))) (by kernel_rfl) ?_ | refine AReq.mk (by omega) ?_ | refine flatE (enc := ndC) ndC_len hndi ?_ | refine eqNd2 ?_ | refine AIdx.flat (enc := iC) iC_len (xs := L) (i := j) hjl ?_ | refine flatE (enc := ndC) ndC_len hnd' ?_ | refine ACall.val (args := [ndA nd.1 nd.2, .agg [nV act, nV w]]) (by kernel_rfl) hf51 rfl rfl ?_); conv => whnf))
          refine ASplit.dec (fun h5 => ?_) (fun h5 => ?_)
          · conv => whnf
            repeat (first | refine ru ?_ | ((first | refine AW.plan (id := 7) hm (.one 0 (.one 1 (.one 2 (.one 3 (.one 4 (.one 5 .nil)))))) (by kernel_rfl) ?_ | refine AReq.mk (by omega) ?_ | refine flatE (enc := ndC) ndC_len hndi ?_ | refine eqNd2 ?_ | refine AIdx.flat (enc := iC) iC_len (xs := L) (i := j) hjl ?_ | refine flatE (enc := ndC) ndC_len hnd' ?_ | refine ACall.val (args := [ndA nd.1 nd.2, .agg [nV act, nV w]]) (by kernel_rfl) hf51 rfl rfl ?_); conv => whnf))
            refine ACall.fun (args0 := [ndsV S', ndA r.1.1 r.1.2]) (by kernel_rfl) hf52 [2] (by intro l' hl'; simp at hl'; subst hl'; exact ⟨_, _, rfl⟩) (.cons (.ms (.inl ⟨by simp, rfl⟩) (by omega) ?_) (.cons (.same rfl) .nil)) (.inr trivial) rfl ?_
            · rw [fr_nd, List.drop_zero, List.take_of_length_le (by omega)]
            cases hc : S'.contains r.1 with
            | true =>
              have e1 : add1 S' r = S' := by rw [add1, if_neg (by rw [hc]; simp)]
              rw [e1] at hW
              conv => whnf
              repeat (first | refine ru ?_ | ((first | refine AW.plan (id := 7) hm (.one 0 (.one 1 (.one 2 (.one 3 (.one 4 (.one 5 .nil)))))) (by kernel_rfl) ?_ | refine AReq.mk (by omega) ?_ | refine flatE (enc := ndC) ndC_len hndi ?_ | refine eqNd2 ?_ | refine AIdx.flat (enc := iC) iC_len (xs := L) (i := j) hjl ?_ | refine flatE (enc := ndC) ndC_len hnd' ?_ | refine ACall.val (args := [ndA nd.1 nd.2, .agg [nV act, nV w]]) (by kernel_rfl) hf51 rfl rfl ?_); conv => whnf))
              rw [w3]
              exact AHead.mk m _ _ (by omega) ⟨w + 1, S', by omega, by omega, hW, hpre, rfl, rfl⟩ (Conv.ren [0, 1, 2] _ (by simp) (by simp) (by simp only [pad, renL, AV.ren, rens]; repeat' (first | exact Fit.nil | refine Fit.any ?_ | refine Fit.same ?_)) (.same rfl (.same rfl (.same (by simp only [ABlk.ren, fr_nd]; rfl) .nil))))
            | false =>
              have e1 : add1 S' r = S' ++ [r.1] := by rw [add1, if_pos ⟨h5, hc⟩]
              rw [e1] at hW
              conv => whnf
              repeat (first | refine ru ?_ | ((first | refine AW.plan (id := 7) hm (.one 0 (.one 1 (.one 2 (.one 3 (.one 4 (.one 5 .nil)))))) (by kernel_rfl) ?_ | refine AReq.mk (by omega) ?_ | refine flatE (enc := ndC) ndC_len hndi ?_ | refine eqNd2 ?_ | refine AIdx.flat (enc := iC) iC_len (xs := L) (i := j) hjl ?_ | refine flatE (enc := ndC) ndC_len hnd' ?_ | refine ACall.val (args := [ndA nd.1 nd.2, .agg [nV act, nV w]]) (by kernel_rfl) hf51 rfl rfl ?_ | refine AReq.mk (by rw [hb28]; omega) ?_); conv => whnf))
              rw [w3]
              refine AHead.mk m _ _ (by omega) ⟨w + 1, S' ++ [r.1], by omega, by omega, hW, hpre.trans (List.prefix_append _ _), rfl, rfl⟩ ?_
              rw [List.length_append, List.flatMap_append]
              exact Conv.ren [0, 1, 4] _ (by simp) (by decide) (by simp only [pad, renL, AV.ren, rens]; repeat' (first | exact Fit.nil | refine Fit.any ?_ | refine Fit.same ?_)) (.same rfl (.same rfl (.same (by simp only [ABlk.ren, renL_append, fr_nd]; rfl) .nil)))
          · have e1 : add1 S' r = S' := by rw [add1, if_neg (fun h => h5 h.1)]
            rw [e1] at hW
            conv => whnf
            repeat (first | refine ru ?_ | ((first | refine AW.plan (id := 7) hm (.one 0 (.one 1 (.one 2 (.one 3 (.one 4 (.one 5 .nil)))))) (by kernel_rfl) ?_ | refine AReq.mk (by omega) ?_ | refine flatE (enc := ndC) ndC_len hndi ?_ | refine eqNd2 ?_ | refine AIdx.flat (enc := iC) iC_len (xs := L) (i := j) hjl ?_ | refine flatE (enc := ndC) ndC_len hnd' ?_ | refine ACall.val (args := [ndA nd.1 nd.2, .agg [nV act, nV w]]) (by kernel_rfl) hf51 rfl rfl ?_ | refine AReq.mk (by rw [hb28]; omega) ?_); conv => whnf))
            rw [w3]
            exact AHead.mk m _ _ (by omega) ⟨w + 1, S', by omega, by omega, hW, hpre, rfl, rfl⟩ (Conv.ren [0, 1, 2] _ (by simp) (by simp) (by simp only [pad, renL, AV.ren, rens]; repeat' (first | exact Fit.nil | refine Fit.any ?_ | refine Fit.same ?_)) (.same rfl (.same rfl (.same (by simp only [ABlk.ren, fr_nd]; rfl) .nil))))
        · obtain rfl : m = 0 := by omega
          obtain rfl : S' = S2 := hW
          conv => whnf
          repeat (first | refine go ?_ | ((first | refine AW.plan (id := 7) hm (.one 0 (.one 1 (.one 2 (.one 3 (.one 4 (.one 5 .nil)))))) (by kernel_rfl) ?_ | refine AReq.mk (by omega) ?_ | refine flatE (enc := ndC) ndC_len hndi ?_ | refine eqNd2 ?_ | refine AIdx.flat (enc := iC) iC_len (xs := L) (i := j) hjl ?_ | refine flatE (enc := ndC) ndC_len hnd' ?_ | refine ACall.val (args := [ndA nd.1 nd.2, .agg [nV act, nV w]]) (by kernel_rfl) hf51 rfl rfl ?_ | refine AReq.mk (by rw [hb28]; omega) ?_); conv => whnf))
          refine AOut.stay ?_
          conv => whnf
          repeat (first | refine go ?_ | ((first | refine AW.plan (id := 7) hm (.one 0 (.one 1 (.one 2 (.one 3 (.one 4 (.one 5 .nil)))))) (by kernel_rfl) ?_ | refine AReq.mk (by omega) ?_ | refine flatE (enc := ndC) ndC_len hndi ?_ | refine eqNd2 ?_ | refine AIdx.flat (enc := iC) iC_len (xs := L) (i := j) hjl ?_ | refine flatE (enc := ndC) ndC_len hnd' ?_ | refine ACall.val (args := [ndA nd.1 nd.2, .agg [nV act, nV w]]) (by kernel_rfl) hf51 rfl rfl ?_ | refine AReq.mk (by rw [hb28]; omega) ?_); conv => whnf))
          rw [w2]
          exact AHead.mk (L.length - (j + 1)) _ _ (by omega) ⟨j + 1, S', rfl, by omega, hA, hpre, rfl, rfl⟩ (Conv.ren [0, 1, 2] _ (by simp) (by simp) (by simp only [pad, renL, AV.ren, rens]; repeat' (first | exact Fit.nil | refine Fit.any ?_ | refine Fit.same ?_)) (.same rfl (.same rfl (.same (by simp only [ABlk.ren, fr_nd]; rfl) .nil))))
      · rw [List.drop_of_length_le (by omega)] at hA
        obtain rfl : S' = S1 := hA
        conv => whnf
        repeat (first | refine go ?_ | ((first | refine AW.plan (id := 7) hm (.one 0 (.one 1 (.one 2 (.one 3 (.one 4 (.one 5 .nil)))))) (by kernel_rfl) ?_ | refine AReq.mk (by omega) ?_ | refine flatE (enc := ndC) ndC_len hndi ?_ | refine eqNd2 ?_ | refine AIdx.flat (enc := iC) iC_len (xs := L) (i := j) hjl ?_ | refine flatE (enc := ndC) ndC_len hnd' ?_ | refine ACall.val (args := [ndA nd.1 nd.2, .agg [nV act, nV w]]) (by kernel_rfl) hf51 rfl rfl ?_ | refine AReq.mk (by rw [hb28]; omega) ?_); conv => whnf))
        refine AOut.stay ?_
        conv => whnf
        repeat (first | refine go ?_ | ((first | refine AW.plan (id := 7) hm (.one 0 (.one 1 (.one 2 (.one 3 (.one 4 (.one 5 .nil)))))) (by kernel_rfl) ?_ | refine AReq.mk (by omega) ?_ | refine flatE (enc := ndC) ndC_len hndi ?_ | refine eqNd2 ?_ | refine AIdx.flat (enc := iC) iC_len (xs := L) (i := j) hjl ?_ | refine flatE (enc := ndC) ndC_len hnd' ?_ | refine ACall.val (args := [ndA nd.1 nd.2, .agg [nV act, nV w]]) (by kernel_rfl) hf51 rfl rfl ?_ | refine AReq.mk (by rw [hb28]; omega) ?_); conv => whnf))
        rw [w1]
        exact AHead.mk n _ _ (by omega) ⟨S', i + 1, hC, hb4, hi1, rfl, rfl⟩ (Conv.ren [0, 1, 2] _ (by simp) (by simp) (by simp only [pad, renL, AV.ren, rens]; repeat' (first | exact Fit.nil | refine Fit.any ?_ | refine Fit.same ?_)) (.same rfl (.same rfl (.same (by simp only [ABlk.ren, fr_nd]; rfl) .nil))))
  · conv => whnf
    repeat (first | refine go ?_ | (refine AW.plan (id := 7) hm (.one 0 (.one 1 (.one 2 (.one 3 (.one 4 (.one 5 .nil)))))) (by kernel_rfl) ?_; conv => whnf))
    refine AOut.stay ?_
    conv => whnf
    repeat (first | refine go ?_ | (refine AW.plan (id := 7) hm (.one 0 (.one 1 (.one 2 (.one 3 (.one 4 (.one 5 .nil)))))) (by kernel_rfl) ?_; conv => whnf))
    refine AFin.val rfl ⟨congrArg bV ?_, rfl⟩
    symm
    simp only [Bool.and_self, Bool.true_and]
    have hSC : S = C := by
      cases n with
      | zero => cases hC
      | succ n =>
        rw [bfsO, List.getElem?_eq_none (by omega)] at hC
        exact Option.some.inj hC
    rw [← Bool.not_eq_true, List.contains_iff_mem, ← hSC]
    intro hm
    obtain ⟨k, hk, hk2⟩ := List.mem_iff_getElem.1 hm
    exact hb' k hk (by omega) hk2
end Go.Aw.U1

