/-
  The statement StateBounds: of a state that may be, of no line more is authorised, received or paid back than was shipped and paid, without any condition.
-/
import Derived.Test.YtnfbiphfhkfnaaaGreatUgJ
import Derived.Test.YtnfbiphfhkfnaaaGreatRows
set_option linter.unusedSimpArgs false
set_option linter.unusedVariables false
set_option linter.unusedSimpArgs false
set_option linter.unusedVariables false
set_option maxHeartbeats 4000000
set_option maxRecDepth 8000
namespace Go.Aw.U1
open Go Go.Proofs

theorem bl_irr : ∀ a : List UInt8, Op.bytesLess a a = false
  | [] => rfl
  | a :: x => by simp [Op.bytesLess, bl_irr x]
theorem bl_trans : ∀ {a b c : List UInt8}, Op.bytesLess a b = true → Op.bytesLess b c = true → Op.bytesLess a c = true
  | _, [], _, h, _ => by simp [Op.bytesLess] at h
  | _, _ :: _, [], _, h => by simp [Op.bytesLess] at h
  | [], _ :: _, _ :: _, _, _ => rfl
  | a :: x, b :: y, c :: z, h1, h2 => by
    simp only [Op.bytesLess, Bool.or_eq_true, Bool.and_eq_true, decide_eq_true_eq, beq_iff_eq] at h1 h2 ⊢
    rcases h1 with h1 | ⟨rfl, h1⟩
    · rcases h2 with h2 | ⟨rfl, h2⟩
      · exact .inl (UInt8.lt_trans h1 h2)
      · exact .inl h1
    · rcases h2 with h2 | ⟨rfl, h2⟩
      · exact .inl h2
      · exact .inr ⟨rfl, bl_trans h1 h2⟩
theorem row_ris : ∀ {l : List ByteArray} {p : Option ByteArray}, rowT p l = 0 → (∀ a, p = some a → ∀ x ∈ l, Op.bytesLess a.toList x.toList = true) ∧ l.Pairwise (fun x y => Op.bytesLess x.toList y.toList = true)
  | [], p, _ => ⟨fun _ _ x hx => by simp at hx, .nil⟩
  | b :: l, p, h => by
    rw [rowT] at h
    split at h
    · split at h
      · rename_i h2
        obtain ⟨g1, g2⟩ := row_ris h
        have g1 := g1 b rfl
        refine ⟨fun a e x hx => ?_, .cons g1 g2⟩
        subst e
        rcases List.mem_cons.1 hx with rfl | hx
        · exact h2
        · exact bl_trans h2 (g1 x hx)
      · cases h
    · rename_i h0
      exact absurd h h0
theorem units_apart {s : Sta} (h : tablesB s = true) : s.units.Pairwise (fun u v => u.s.toList ≠ v.s.toList) := by
  simp only [tablesB, Bool.and_eq_true, decide_eq_true_eq] at h
  have := (row_ris h.2).2
  rw [serS, List.pairwise_map] at this
  exact this.imp fun {u v} e e' => by rw [e', bl_irr] at e; cases e
theorem At.two {s : Sta} {u : Un} {o o' : Od} {k k' j : Nat} (h : At s u o k j) (ht : tablesB s = true) (ho : o' ∈ s.orders) (hid : u.order = o'.id) (hl : u.line = k') : o = o' ∧ k = k' := by
  refine ⟨?_, by have := h.line; omega⟩
  have h1 := find_id (f := Od.id) (orders_ris ht) ho
  have h2 := h.find
  rw [hid, h1] at h2
  exact (Option.some.inj h2).symm
/-- the units of a line -/
def ofLn (id k : Int) (u : Un) : Bool := decide (u.order = id) && decide (u.line = k)
theorem came_le {s : Sta} (hb : Base s) {o : Od} (ho : o ∈ s.orders) {k : Nat} (hk : k < o.ls.length) : s.units.countP (ofLn o.id k) ≤ (o.ls[k]).ss.length := by
  rw [List.countP_eq_length_filter]
  have hat : ∀ u ∈ s.units.filter (ofLn o.id k), ∃ j, At s u o k j := fun u hu => by
    obtain ⟨hu1, hu2⟩ := List.mem_filter.1 hu
    simp only [ofLn, Bool.and_eq_true, decide_eq_true_eq] at hu2
    obtain ⟨o', k', j, h⟩ := came_at hb.tab (hb.came u hu1)
    obtain ⟨rfl, rfl⟩ := h.two hb.tab ho hu2.1 hu2.2
    exact ⟨j, h⟩
  have hnd : ((s.units.filter (ofLn o.id k)).map fun u => u.place.toNat).Nodup := by
    rw [List.Nodup, List.pairwise_map]
    refine ((units_apart hb.tab).filter _).imp_of_mem fun {u v} hu hv hne he => hne ?_
    obtain ⟨j, h1⟩ := hat u hu
    obtain ⟨j', h2⟩ := hat v hv
    have e1 := h1.place
    have e2 := h2.place
    obtain rfl : j = j' := by omega
    rw [h1.serial, h2.serial]
  have := nodup_le hnd (l' := List.range (o.ls[k]).ss.length) (fun x hx => by
    obtain ⟨u, hu, rfl⟩ := List.mem_map.1 hx
    obtain ⟨j, h1⟩ := hat u hu
    have e1 := h1.place
    have e2 := h1.jlt
    exact List.mem_range.2 (by omega))
  simpa using this
theorem held_le {s : Sta} (ht : tablesB s = true) (ha : authB s = true) {o : Od} (ho : o ∈ s.orders) {k : Nat} (hk : k < o.ls.length) : heldT o.id k s.rmas 0 ≤ ((o.ls[k]).ss.length : Int) := by
  simp only [authB, Bool.and_eq_true, List.all_eq_true] at ha
  have h := ha.2 o ho
  simp only [freeOk, List.all_eq_true, decide_eq_true_eq] at h
  have h := h k (List.mem_range.2 hk)
  have hf : findO s o.id = some o := find_id (f := Od.id) (orders_ris ht) ho
  simp only [freeF, hf, Int.toNat_natCast, List.getElem?_eq_getElem hk] at h
  rw [if_pos (Int.natCast_nonneg k)] at h
  omega

/-! what is paid back -/
theorem sum_le (f : Nat → Nat) : ∀ (n : Nat) {L : List Nat}, L.Nodup → (∀ x ∈ L, x < n) → (L.map f).sum ≤ ((List.range n).map f).sum
  | 0, L, _, h => by
    cases L with
    | nil => simp
    | cons a L => exact absurd (h a (by simp)) (Nat.not_lt_zero _)
  | n + 1, L, hn, h => by
    rw [List.range_succ, List.map_append, List.sum_append]
    by_cases hm : n ∈ L
    · have hp := List.perm_cons_erase hm
      rw [(hp.map f).sum_nat, List.map_cons, List.sum_cons]
      have := sum_le f n (L := L.erase n) (hn.erase n) (fun x hx => by
        have h1 := (hn.mem_erase_iff).1 hx
        have := h x h1.2
        have := h1.1
        omega)
      simp only [List.map_cons, List.map_nil, List.sum_cons, List.sum_nil]
      omega
    · have := sum_le f n hn (fun x hx => by
        have := h x hx
        have : x ≠ n := fun e => hm (by rw [← e]; exact hx)
        omega)
      omega
theorem sh_sum (q r : Nat) : ∀ n, ((List.range n).map fun i => q + if i < r then 1 else 0).sum = n * q + min n r
  | 0 => by simp
  | n + 1 => by
    rw [List.range_succ, List.map_append, List.sum_append, sh_sum q r n, Nat.succ_mul]
    simp only [List.map_cons, List.map_nil, List.sum_cons, List.sum_nil]
    split <;> omega
theorem shN_sum {t n : Nat} (h : 0 < n) : ((List.range n).map (shN t n)).sum = t := by
  have h1 := sh_sum (t / n) (t % n) n
  have h2 := Nat.mod_lt t h
  have h3 := Nat.div_add_mod t n
  rw [show (shN t n) = fun i => t / n + if i < t % n then 1 else 0 from rfl, h1]
  omega
theorem map_add (f g : Nat → Nat) : ∀ L : List Nat, (L.map fun i => f i + g i).sum = (L.map f).sum + (L.map g).sum
  | [] => rfl
  | a :: L => by simp only [List.map_cons, List.sum_cons, map_add f g L]; omega
/-- what one place of a line cost -/
def costN (l : Ln) (j : Nat) : Nat := shN l.net.toNat l.ss.length j + shN l.tax.toNat l.ss.length j
theorem cost_sum {l : Ln} (h : lineC l = 0) : ((List.range l.ss.length).map (costN l)).sum = l.net.toNat + l.tax.toNat := by
  have := lineC_ok h
  rw [show (costN l) = fun j => shN l.net.toNat l.ss.length j + shN l.tax.toNat l.ss.length j from rfl, map_add, shN_sum (by omega), shN_sum (by omega)]
theorem val_le {l : Ln} (h : lineC l = 0) {j : Nat} (hj : j < l.ss.length) {fees : List Int} {g a : Int} (hv : valF l j fees g = (a, 0)) : 0 ≤ a ∧ a ≤ (costN l j : Int) := by
  have hf : (fullF l j).1 ≤ (costN l j : Int) := by
    unfold fullF
    split
    · simp only [unitF, if_pos h, Int.toNat_natCast]
      rw [if_neg (by omega)]
      simp only [addT]
      have : (0 : Int) ≤ costN l j := Int.natCast_nonneg _
      repeat' split
      all_goals first | exact this | (dsimp only; simp only [costN]; omega)
    · exact Int.natCast_nonneg _
  have hb := full_bd l j
  unfold valF at hv
  split at hv
  · unfold gradeF at hv
    split at hv
    · split at hv
      · rename_i hfe hg
        simp only [Prod.mk.injEq] at hv
        have hlen : g.toNat < fees.length := by
          have := hfe
          simp only [UT.feeB, decide_eq_true_eq] at this
          omega
        have hgt := feeB_get hfe hlen
        have hle := halfN_le (a := (fullF l j).1.toNat) (b := (fees.getD g.toNat 0).toNat) ⟨by omega, by decide, by decide, by rw [List.getD_eq_getElem?_getD, List.getElem?_eq_getElem hlen]; simp only [Option.getD_some]; omega⟩
        omega
      · simp at hv
    · simp at hv
  · rename_i h2
    simp only [Prod.mk.injEq] at hv
    exact absurd hv.2 h2
end Go.Aw.U1

set_option linter.unusedSimpArgs false
set_option linter.unusedVariables false
set_option maxHeartbeats 4000000
set_option maxRecDepth 8000
namespace Go.Aw.U1
open Go Go.Proofs

theorem find_none' {α : Type} {p : α → Bool} {l : List α} (h : ∀ k (hk : k < l.length), p l[k] = false) : l.find? p = none := by
  rw [List.find?_eq_none]
  intro x hx
  obtain ⟨k, hk, rfl⟩ := List.mem_iff_getElem.1 hx
  simp [h k hk]
theorem find_some' {α : Type} {p : α → Bool} : ∀ {l : List α} {i : Nat} (hi : i < l.length), (∀ k (hk : k < l.length), k < i → p l[k] = false) → p l[i] = true → l.find? p = some l[i]
  | a :: l, 0, _, _, h => List.find?_cons_of_pos (show p a = true from h)
  | a :: l, i + 1, hi, h0, h => by
    rw [List.find?_cons_of_neg (by have := h0 0 (by simp) (by omega); simp at this; simp [this])]
    exact find_some' (by simpa using hi) (fun k hk hki => by have := h0 (k + 1) (by simpa using hk) (by omega); simpa using this) h
theorem f126 (s : Sta) (x : ByteArray) (h : s.units.length ≤ 1000000) : Fun P 126 [stA s, sV x] (.tup [unA ((findU s x).getD unZ), bV (findU s x).isSome]) := by
  refine spec_of hT (f := 126) (fn := Go.Proofs.Tryz.f126) (c := body Go.Proofs.Tryz.f126) (by kernel_rfl) (by kernel_rfl) ?_
  conv => whnf
  repeat refine go ?_
  refine ALoop.mk (fun n E H => ∃ (i : Nat), n = s.units.length - i ∧ i ≤ s.units.length ∧ (∀ k (hk : k < s.units.length), k < i → (s.units[k].s.toList == x.toList) = false) ∧
      E = pad [stA s, sV x, .ptr 0 0, .any, .ptr 1 0, .any, nV i] 28 ∧ H = [.cells 36 (stC s), .cells 50 (unC unZ)]) (n := s.units.length) _ _
    ⟨0, rfl, Nat.zero_le _, fun k _ hk => absurd hk (Nat.not_lt_zero _), rfl, rfl⟩ (Conv.fit (by repeat' (first | exact Fit.nil | refine Fit.any ?_ | refine Fit.same ?_))) ?_
  rintro _ _ _ ⟨i, rfl, hi, hI, rfl, rfl⟩
  conv => whnf
  repeat refine go ?_
  refine ACond.dec (fun h1 => ?_) (fun h1 => ?_)
  · have hil : i < s.units.length := by omega
    have w1 : IntKind.wrap .i64 ((i : Int) + 1) = ((i + 1 : Nat) : Int) := by rw [wrap_i64 _ (by omega) (by omega)]; omega
    conv => whnf
    repeat (first | refine go ?_ | ((first | refine AReq.mk (by omega) ?_ | refine AIdx.flat (enc := unC) unC_len (xs := s.units) (i := i) hil ?_); conv => whnf))
    refine ACond.mk (fun h4 => ?_) (fun h4 => ?_)
    · have hf : findU s x = some s.units[i] := find_some' hil hI h4
      conv => whnf
      repeat (first | refine go ?_ | ((first | refine AReq.mk (by omega) ?_ | refine AIdx.flat (enc := unC) unC_len (xs := s.units) (i := i) hil ?_); conv => whnf))
      refine AOut.stay ?_
      conv => whnf
      repeat (first | refine go ?_ | ((first | refine AReq.mk (by omega) ?_ | refine AIdx.flat (enc := unC) unC_len (xs := s.units) (i := i) hil ?_); conv => whnf))
      refine AFin.val rfl ⟨by rw [hf]; rfl, rfl⟩
    · conv => whnf
      repeat (first | refine go ?_ | ((first | refine AReq.mk (by omega) ?_ | refine AIdx.flat (enc := unC) unC_len (xs := s.units) (i := i) hil ?_); conv => whnf))
      rw [w1]
      refine AHead.mk (s.units.length - (i + 1)) _ _ (by omega) ⟨i + 1, rfl, by omega, fun k hk hki => ?_, rfl, rfl⟩ (Conv.fit (by repeat' (first | exact Fit.nil | refine Fit.any ?_ | refine Fit.same ?_)))
      rcases Nat.lt_or_ge k i with g | g
      · exact hI k hk g
      · obtain rfl : k = i := by omega
        exact h4
  · have hf : findU s x = none := find_none' fun k hk => hI k hk (by omega)
    conv => whnf
    repeat refine go ?_
    refine AOut.stay ?_
    conv => whnf
    repeat refine go ?_
    refine AFin.val rfl ⟨by rw [hf]; rfl, rfl⟩
theorem f49 (s : Sta) (id k : Int) (h : s.units.length ≤ 1000000) : Fun P 49 [stA s, nV id, nV k] (nV (s.units.countP fun u => decide (u.order = id) && decide (u.line = k) : Nat)) := by
  refine spec_of hT (f := 49) (fn := Go.Proofs.Tryz.f49) (c := body Go.Proofs.Tryz.f49) (by kernel_rfl) (by kernel_rfl) ?_
  conv => whnf
  repeat refine go ?_
  refine ALoop.mk (fun n E H => ∃ (i : Nat), n = s.units.length - i ∧ i ≤ s.units.length ∧
      E = pad [stA s, nV id, nV k, .ptr 0 0, .any, .any, .any, nV ((s.units.take i).countP (fun u => decide (u.order = id) && decide (u.line = k)) : Nat), nV i] 37 ∧ H = [.cells 36 (stC s)]) (n := s.units.length) _ _
    ⟨0, rfl, Nat.zero_le _, rfl, rfl⟩ (Conv.fit (by repeat' (first | exact Fit.nil | refine Fit.any ?_ | refine Fit.same ?_))) ?_
  rintro _ _ _ ⟨i, rfl, hi, rfl, rfl⟩
  conv => whnf
  repeat refine go ?_
  refine ACond.dec (fun h1 => ?_) (fun h1 => ?_)
  · have hil : i < s.units.length := by omega
    have w1 : IntKind.wrap .i64 ((i : Int) + 1) = ((i + 1 : Nat) : Int) := by rw [wrap_i64 _ (by omega) (by omega)]; omega
    have hc : (s.units.take (i + 1)).countP (fun u => decide (u.order = id) && decide (u.line = k)) = (s.units.take i).countP (fun u => decide (u.order = id) && decide (u.line = k)) + if s.units[i].order = id ∧ s.units[i].line = k then 1 else 0 := by
      rw [List.take_add_one, List.getElem?_eq_getElem hil, List.countP_append]
      simp [List.countP_cons]
    have hle := List.countP_le_length (p := fun u : Un => decide (u.order = id) && decide (u.line = k)) (l := s.units.take i)
    rw [List.length_take] at hle
    generalize (s.units.take i).countP (fun u => decide (u.order = id) && decide (u.line = k)) = c at hc hle ⊢
    have w2 : IntKind.wrap .i64 ((c : Int) + 1) = ((c + 1 : Nat) : Int) := by rw [wrap_i64 _ (by omega) (by omega)]; omega
    conv => whnf
    repeat (first | refine go ?_ | ((first | refine AReq.mk (by omega) ?_ | refine AIdx.flat (enc := unC) unC_len (xs := s.units) (i := i) hil ?_); conv => whnf))
    refine ASplit.dec (fun h2 => ?_) (fun h2 => ?_)
    · conv => whnf
      repeat (first | refine go ?_ | ((first | refine AReq.mk (by omega) ?_ | refine AIdx.flat (enc := unC) unC_len (xs := s.units) (i := i) hil ?_); conv => whnf))
      refine ACond.dec (fun h3 => ?_) (fun h3 => ?_)
      · rw [if_pos ⟨h2, h3⟩] at hc
        conv => whnf
        repeat (first | refine go ?_ | ((first | refine AReq.mk (by omega) ?_ | refine AIdx.flat (enc := unC) unC_len (xs := s.units) (i := i) hil ?_); conv => whnf))
        rw [w1, w2]
        exact AHead.mk (s.units.length - (i + 1)) _ _ (by omega) ⟨i + 1, rfl, by omega, rfl, rfl⟩ (Conv.fit (by rw [hc]; repeat' (first | exact Fit.nil | refine Fit.any ?_ | refine Fit.same ?_)))
      · rw [if_neg (fun e => h3 e.2)] at hc
        conv => whnf
        repeat (first | refine go ?_ | ((first | refine AReq.mk (by omega) ?_ | refine AIdx.flat (enc := unC) unC_len (xs := s.units) (i := i) hil ?_); conv => whnf))
        rw [w1]
        exact AHead.mk (s.units.length - (i + 1)) _ _ (by omega) ⟨i + 1, rfl, by omega, rfl, rfl⟩ (Conv.fit (by rw [hc]; repeat' (first | exact Fit.nil | refine Fit.any ?_ | refine Fit.same ?_)))
    · rw [if_neg (fun e => h2 e.1)] at hc
      conv => whnf
      repeat (first | refine ru ?_ | ((first | refine AReq.mk (by omega) ?_ | refine AIdx.flat (enc := unC) unC_len (xs := s.units) (i := i) hil ?_); conv => whnf))
      rw [w1]
      exact AHead.mk (s.units.length - (i + 1)) _ _ (by omega) ⟨i + 1, rfl, by omega, rfl, rfl⟩ (Conv.fit (by rw [hc]; repeat' (first | exact Fit.nil | refine Fit.any ?_ | refine Fit.same ?_)))
  · obtain rfl : i = s.units.length := by omega
    rw [List.take_length]
    conv => whnf
    repeat refine go ?_
    refine AOut.stay ?_
    conv => whnf
    repeat refine go ?_
    exact AFin.val rfl ⟨rfl, rfl⟩
def payF (l : Ln) : Int × Int := if lineC l = 0 then addT [l.net, l.tax] 0 else (0, lineC l)
theorem f48 (l : Ln) (hl : lnOk l) : Fun P 48 [lnA l] (numE (payF l)) := by
  refine spec_of hT (f := 48) (fn := Go.Proofs.Tryz.f48) (c := body Go.Proofs.Tryz.f48) (by kernel_rfl) (by kernel_rfl) ?_
  unfold payF
  conv => whnf
  repeat (first | refine go ?_ | (refine ACall.val (args := [lnA l]) (by kernel_rfl) (f41 l hl) (by (first | rfl | (simp only [renL, AV.ren, List.nil_append, List.cons_append, rens]; try rfl))) (by (first | rfl | (simp only [renL, AV.ren, List.nil_append, List.cons_append, rens]; try rfl))) ?_; conv => whnf))
  refine ACond.ndec (fun h1 => ?_) (fun h1 => ?_)
  · rw [if_neg h1]
    conv => whnf
    repeat refine ru ?_
    exact AFin.val rfl ⟨rfl, rfl⟩
  rw [if_pos h1]
  conv => whnf
  repeat (first | refine ru ?_ | (refine ACall.fun (args0 := [isV [l.net, l.tax]]) (by kernel_rfl) (f122 [l.net, l.tax] (by simp)) [] (by simp) (.cons (.vx rfl) .nil) (.inl rfl) rfl ?_; conv => whnf))
  exact AFin.val rfl ⟨rfl, rfl⟩
theorem pay_ok {l : Ln} (h : lineC l = 0) : payF l = (l.net + l.tax, 0) := by
  have hl := lineC_ok h
  simp only [payF, if_pos h, addT]
  rw [if_pos (inB_iff.2 ⟨by omega, by omega⟩), if_pos (inB_iff.2 ⟨by omega, by omega⟩), if_pos (inB_iff.2 ⟨by omega, by omega⟩), if_pos (inB_iff.2 ⟨by omega, by omega⟩)]
  rw [Int.zero_add]
end Go.Aw.U1

set_option linter.unusedSimpArgs false
set_option linter.unusedVariables false
set_option maxHeartbeats 4000000
set_option maxRecDepth 8000
namespace Go.Aw.U1
open Go Go.Proofs

theorem bs_ext {x y : ByteArray} (h : x.toList = y.toList) : x = y := by
  rw [ByteArray.toList_eq, ByteArray.toList_eq] at h
  cases x; cases y
  simp only [ByteArray.mk.injEq]
  exact Array.toList_inj.1 h
theorem mvS_void : ∀ (l : List ByteArray) (g : ByteArray → Bool), mvS true l g = some g
  | [], _ => rfl
  | x :: l, g => by
    have e : upd g x (g x || !true) = g := by
      funext y
      simp only [upd, Bool.not_true, Bool.or_false]
      split
      · rename_i h; rw [h]
      · rfl
    rw [mvS, e, mvS_void l g]
    simp
theorem find_ser {s : Sta} {x : ByteArray} {u : Un} (h : findU s x = some u) : u ∈ s.units ∧ u.s.toList = x.toList := by
  have := List.find?_some h
  exact ⟨List.mem_of_find?_eq_some h, by simpa using this⟩
/-- the place of a serial on its line -/
def plcF (s : Sta) (x : ByteArray) : Nat := ((findU s x).getD unZ).place.toNat
/-- what was paid back so far on a line -/
structure PayOk (s : Sta) (l : Ln) (g : ByteArray → Bool) (S : List ByteArray) (n : Int) : Prop where
  nd : (S.map (plcF s)).Nodup
  plc : ∀ x ∈ S, plcF s x < l.ss.length ∧ ∀ (h : plcF s x < l.ss.length), x.toList = l.ss[plcF s x].toList
  lo : 0 ≤ n
  hi : n ≤ ((S.map fun x => costN l (plcF s x)).sum : Nat)
  old : ∀ x ∈ S, g x = true
theorem PayOk.nil {s : Sta} {l : Ln} {g : ByteArray → Bool} : PayOk s l g [] 0 := ⟨by simp, by simp, by simp, by simp, by simp⟩
theorem PayOk.len {s : Sta} {l : Ln} {g : ByteArray → Bool} {S : List ByteArray} {n : Int} (h : PayOk s l g S n) : S.length ≤ l.ss.length := by
  have := nodup_le h.nd (l' := List.range l.ss.length) (fun x hx => by
    obtain ⟨y, hy, rfl⟩ := List.mem_map.1 hx
    exact List.mem_range.2 (h.plc y hy).1)
  simpa using this
theorem PayOk.le {s : Sta} {l : Ln} {g : ByteArray → Bool} {S : List ByteArray} {n : Int} (h : PayOk s l g S n) (hl : lineC l = 0) : n ≤ l.net + l.tax := by
  have h1 := sum_le (costN l) l.ss.length h.nd (fun x hx => by
    obtain ⟨y, hy, rfl⟩ := List.mem_map.1 hx
    exact (h.plc y hy).1)
  rw [cost_sum hl, List.map_map] at h1
  have h2 := h.hi
  have h3 : (S.map fun x => costN l (plcF s x)) = S.map (costN l ∘ plcF s) := rfl
  rw [h3] at h2
  have := lineC_ok hl
  omega
theorem PayOk.skip {s : Sta} {l : Ln} {g g' : ByteArray → Bool} {S : List ByteArray} {n : Int} (h : PayOk s l g S n) (hg : ∀ x, g x = true → g' x = true) : PayOk s l g' S n := ⟨h.nd, h.plc, h.lo, h.hi, fun x hx => hg x (h.old x hx)⟩
theorem upd_ge (g : ByteArray → Bool) (x : ByteArray) : ∀ y, g y = true → upd g x (g x || !false) y = true := fun y hy => by
  simp only [upd, Bool.not_false, Bool.or_true]
  split
  · rfl
  · exact hy
theorem PayOk.add {s : Sta} {o : Od} {k j : Nat} {u : Un} {g : ByteArray → Bool} {S : List ByteArray} {n a : Int} {x : ByteArray} (hk : k < o.ls.length) (h : PayOk s o.ls[k] g S n) (hx : g x = false) (hu : findU s x = some u) (hat : At s u o k j)
    (hl : lineC o.ls[k] = 0) {fees : List Int} (hv : valF o.ls[k] u.place fees u.grade = (a, 0)) : PayOk s o.ls[k] (upd g x (g x || !false)) (S ++ [x]) (n + a) := by
  have e1 := hat.place
  have e2 := hat.jlt
  have hp : plcF s x = j := by simp only [plcF, hu, Option.getD_some]; omega
  have hs : x.toList = o.ls[k].ss[j].toList := by rw [← (find_ser hu).2, hat.serial]
  rw [e1] at hv
  have hval := val_le hl e2 hv
  refine ⟨?_, fun y hy => ?_, by have := h.lo; omega, ?_, fun y hy => ?_⟩
  · rw [List.map_append, List.map_cons, List.map_nil, List.nodup_append]
    refine ⟨h.nd, by simp, fun b hb c hc => ?_⟩
    obtain ⟨y, hy, rfl⟩ := List.mem_map.1 hb
    simp only [List.mem_singleton] at hc
    intro e
    have he : plcF s y = j := by rw [e, hc, hp]
    have h1 := (h.plc y hy).2 (h.plc y hy).1
    have h2 : y.toList = x.toList := by rw [h1, hs]; simp only [he]
    have h3 := h.old y hy
    rw [bs_ext h2, hx] at h3
    cases h3
  · rcases List.mem_append.1 hy with hy | hy
    · exact h.plc y hy
    · simp only [List.mem_singleton] at hy
      subst hy
      exact ⟨by rw [hp]; exact e2, fun hh => by rw [hs]; simp only [hp]⟩
  · rw [List.map_append, List.sum_append, List.map_cons, List.map_nil, List.sum_cons, List.sum_nil, hp]
    have := h.hi
    omega
  · rcases List.mem_append.1 hy with hy | hy
    · exact upd_ge g x y (h.old y hy)
    · simp only [List.mem_singleton] at hy
      subst hy
      simp [upd]
end Go.Aw.U1

set_option linter.unusedSimpArgs false
set_option linter.unusedVariables false
set_option maxHeartbeats 4000000
set_option maxRecDepth 8000
namespace Go.Aw.U1
open Go Go.Proofs

theorem f47 (s : Sta) (h : StaOk s) (hC : CheckOk s) {o : Od} (ho : o ∈ s.orders) {q : Nat} (hq : q < o.ls.length) (hl : lineC o.ls[q] = 0) :
    Spec P 47 [stA s, nV o.id, nV q] [] (fun r H => (∃ n : Int, r = .tup [nV n, bV true] ∧ 0 ≤ n ∧ n ≤ o.ls[q].net + o.ls[q].tax) ∧ H = []) := by
  refine spec_of hT (f := 47) (fn := Go.Proofs.Tryz.f47) (c := body Go.Proofs.Tryz.f47) (by kernel_rfl) (by kernel_rfl) ?_
  have hm1 := h.memos.1
  have hu1 := h.units.1
  have hlc := lineC_ok hl
  have hb9 : (T 9).bytes = 16 := by kernel_rfl
  conv => whnf
  repeat (first | refine go ?_ | (refine AW.plan (id := 15) hm (.one 0 (.one 1 (.one 2 (.one 4 (.one 6 (.one 5 (.one 7 (.one 3 (.one 8 (.one 9 .nil)))))))))) (by kernel_rfl) ?_; conv => whnf))
  refine ALoop.mk (fun n E H => ∃ (i : Nat) (g : ByteArray → Bool) (S : List ByteArray) (c : Int), n = s.memos.length - i ∧ i ≤ s.memos.length ∧ PayOk s o.ls[q] g S c ∧ crT (s.memos.drop i) g = true ∧
      E = pad [stA s, nV o.id, nV q, .ptr 0 0, .any, .any, .any, .any, nV c, .ms 1 1 0 S.length, nV i] 92 ∧ H = [.cells 36 (stC s), .cells 9 (S.flatMap sC)]) (n := s.memos.length) _ _
    ⟨0, _, [], 0, rfl, Nat.zero_le _, PayOk.nil, hC.once, rfl, rfl⟩ (Conv.own (sz := 1) 9 (by repeat' (first | exact FitN.nil | refine FitN.any ?_ | refine FitN.own ?_ | refine FitN.same ?_))) ?_
  rintro _ _ _ ⟨i, g, S, c, rfl, hi, hP, hcr, rfl, rfl⟩
  conv => whnf
  repeat (first | refine go ?_ | (refine AW.plan (id := 15) hm (.one 0 (.one 1 (.one 2 (.one 4 (.one 6 (.one 5 (.one 7 (.one 3 (.one 8 (.one 9 .nil)))))))))) (by kernel_rfl) ?_; conv => whnf))
  refine ACond.dec (fun h1 => ?_) (fun h1 => ?_)
  · have hil : i < s.memos.length := by omega
    have w1 : IntKind.wrap .i64 ((i : Int) + 1) = ((i + 1 : Nat) : Int) := by rw [wrap_i64 _ (by omega) (by omega)]; omega
    have hmo := h.memos.2 _ (List.getElem_mem hil)
    have hM := hC.memos _ (List.getElem_mem hil)
    rw [List.drop_eq_getElem_cons hil, crT] at hcr
    have hmn := hmo.1.1
    conv => whnf
    repeat (first | refine go ?_ | ((first | refine AW.plan (id := 15) hm (.one 0 (.one 1 (.one 2 (.one 4 (.one 6 (.one 5 (.one 7 (.one 3 (.one 8 (.one 9 .nil)))))))))) (by kernel_rfl) ?_ | refine AReq.mk (by omega) ?_ | refine AIdx.flat (enc := moC) moC_len (xs := s.memos) (i := i) hil ?_); conv => whnf))
    generalize s.memos[i] = m at hmo hM hcr hmn
    refine ALoop.mk (fun n E H => ∃ (k : Nat) (g : ByteArray → Bool) (S : List ByteArray) (c : Int), n = m.ss.length - k ∧ k ≤ m.ss.length ∧ PayOk s o.ls[q] g S c ∧ shipsM (mvS m.void (m.ss.drop k) g) (crT (s.memos.drop (i + 1))) = true ∧
        E = pad [stA s, nV o.id, nV q, .ptr 0 0, .any, .any, .any, .any, nV c, .ms 1 1 0 S.length, nV i, .ptr 2 0, nV k] 92 ∧ H = [.cells 36 (stC s), .cells 9 (S.flatMap sC), .cells 57 (moC m)]) (n := m.ss.length) _ _
      ⟨0, g, S, c, rfl, Nat.zero_le _, hP, hcr, rfl, rfl⟩ (Conv.fit (by repeat' (first | exact Fit.nil | refine Fit.any ?_ | refine Fit.same ?_))) ?_
    clear hP hcr g S c
    rintro _ _ _ ⟨k, g, S, c, rfl, hk, hP, hcr, rfl, rfl⟩
    conv => whnf
    repeat (first | refine go ?_ | (refine AW.plan (id := 15) hm (.one 0 (.one 1 (.one 2 (.one 4 (.one 6 (.one 5 (.one 7 (.one 3 (.one 8 (.one 9 .nil)))))))))) (by kernel_rfl) ?_; conv => whnf))
    refine ASplit.dec (fun h2 => ?_) (fun h2 => ?_)
    · have hkl : k < m.ss.length := by omega
      have w2 : IntKind.wrap .i64 ((k : Int) + 1) = ((k + 1 : Nat) : Int) := by rw [wrap_i64 _ (by omega) (by omega)]; omega
      conv => whnf
      repeat (first | refine go ?_ | (refine AW.plan (id := 15) hm (.one 0 (.one 1 (.one 2 (.one 4 (.one 6 (.one 5 (.one 7 (.one 3 (.one 8 (.one 9 .nil)))))))))) (by kernel_rfl) ?_; conv => whnf))
      cases hv : m.void with
      | true =>
        rw [hv, mvS_void] at hcr
        conv => whnf
        repeat (first | refine ru ?_ | (refine AW.plan (id := 15) hm (.one 0 (.one 1 (.one 2 (.one 4 (.one 6 (.one 5 (.one 7 (.one 3 (.one 8 (.one 9 .nil)))))))))) (by kernel_rfl) ?_; conv => whnf))
        refine AOut.stay ?_
        conv => whnf
        repeat (first | refine ru ?_ | (refine AW.plan (id := 15) hm (.one 0 (.one 1 (.one 2 (.one 4 (.one 6 (.one 5 (.one 7 (.one 3 (.one 8 (.one 9 .nil)))))))))) (by kernel_rfl) ?_; conv => whnf))
        rw [w1]
        refine AHead.mk (s.memos.length - (i + 1)) _ _ (by omega) ⟨i + 1, g, S, c, rfl, by omega, hP, hcr, rfl, rfl⟩ ?_
        exact Conv.ren [0, 1] _ (by simp) (by simp) (by simp only [pad, renL, AV.ren, rens]; repeat' (first | exact Fit.nil | refine Fit.any ?_ | refine Fit.same ?_)) (.same (by simp only [ABlk.ren, stC_ren]; rfl) (.same (by simp only [ABlk.ren, fr_s]; rfl) .nil))
      | false =>
      rw [hv, List.drop_eq_getElem_cons hkl, mvS] at hcr
      have hx : g m.ss[k] = false := by
        cases e : g m.ss[k] with
        | false => rfl
        | true => rw [if_pos (by simp [e])] at hcr; cases hcr
      rw [if_neg (by simp [hx])] at hcr
      obtain ⟨u, hum, hfu, huo, o', q', j, hat, l, hol, hval⟩ := hM.one k hkl (by have := hM.len; omega)
      have hf := f126 s m.ss[k] hu1
      rw [hfu] at hf
      simp only [Option.getD_some, Option.isSome_some] at hf
      have hkam : k < m.am.length := by have := hM.len; omega
      conv => whnf
      repeat (first | refine ru ?_ | (refine AW.plan (id := 15) hm (.one 0 (.one 1 (.one 2 (.one 4 (.one 6 (.one 5 (.one 7 (.one 3 (.one 8 (.one 9 .nil)))))))))) (by kernel_rfl) ?_; conv => whnf))
      refine AW.plan hm (.one 1 (.one 3 (.one 2 (.one 4 (.one 0 (.one 5 (.fork 6 (.one 7 (.one 8 (.one 9 (.one 10 .nil)))) 10 (.one 6 (.one 7 (.one 8 (.one 9 .nil)))) (.one 11 (.one 12 .nil))))))))) (by kernel_rfl) ?_
      conv => whnf
      repeat (first | refine go ?_ | ((first | refine AW.plan (id := 15) hm (.one 0 (.one 1 (.one 2 (.one 4 (.one 6 (.one 5 (.one 7 (.one 3 (.one 8 (.one 9 .nil)))))))))) (by kernel_rfl) ?_ | refine AReq.mk (by omega) ?_ | refine AIdx.flat (enc := sC) sC_len (xs := m.ss) (i := k) hkl ?_ | refine ACall.val (args := [stA s, sV m.ss[k]]) (by kernel_rfl) hf (by (first | rfl | (simp only [renL, AV.ren, List.nil_append, List.cons_append, rens]; try rfl))) (by (first | rfl | (simp only [renL, AV.ren, List.nil_append, List.cons_append, rens]; try rfl))) ?_); conv => whnf))
      apply AF.meet
      · conv => whnf
        repeat (first | refine go ?_ | ((first | refine AW.plan (id := 15) hm (.one 0 (.one 1 (.one 2 (.one 4 (.one 6 (.one 5 (.one 7 (.one 3 (.one 8 (.one 9 .nil)))))))))) (by kernel_rfl) ?_ | refine AReq.mk (by omega) ?_ | refine AIdx.flat (enc := sC) sC_len (xs := m.ss) (i := k) hkl ?_ | refine ACall.val (args := [stA s, sV m.ss[k]]) (by kernel_rfl) hf (by (first | rfl | (simp only [renL, AV.ren, List.nil_append, List.cons_append, rens]; try rfl))) (by (first | rfl | (simp only [renL, AV.ren, List.nil_append, List.cons_append, rens]; try rfl))) ?_); conv => whnf))
        exact ⟨rfl, rfl, rfl⟩
      · conv => whnf
        repeat (first | refine go ?_ | ((first | refine AW.plan (id := 15) hm (.one 0 (.one 1 (.one 2 (.one 4 (.one 6 (.one 5 (.one 7 (.one 3 (.one 8 (.one 9 .nil)))))))))) (by kernel_rfl) ?_ | refine AReq.mk (by omega) ?_ | refine AIdx.flat (enc := sC) sC_len (xs := m.ss) (i := k) hkl ?_ | refine ACall.val (args := [stA s, sV m.ss[k]]) (by kernel_rfl) hf (by (first | rfl | (simp only [renL, AV.ren, List.nil_append, List.cons_append, rens]; try rfl))) (by (first | rfl | (simp only [renL, AV.ren, List.nil_append, List.cons_append, rens]; try rfl))) ?_); conv => whnf))
        exact ⟨rfl, rfl, rfl⟩
      conv => whnf
      repeat (first | refine go ?_ | ((first | refine AW.plan (id := 15) hm (.one 0 (.one 1 (.one 2 (.one 4 (.one 6 (.one 5 (.one 7 (.one 3 (.one 8 (.one 9 .nil)))))))))) (by kernel_rfl) ?_ | refine AReq.mk (by omega) ?_ | refine AIdx.flat (enc := sC) sC_len (xs := m.ss) (i := k) hkl ?_ | refine ACall.val (args := [stA s, sV m.ss[k]]) (by kernel_rfl) hf (by (first | rfl | (simp only [renL, AV.ren, List.nil_append, List.cons_append, rens]; try rfl))) (by (first | rfl | (simp only [renL, AV.ren, List.nil_append, List.cons_append, rens]; try rfl))) ?_); conv => whnf))
      refine ASplit.ndec (fun h4 => ?_) (fun h4 => ?_)
      · conv => whnf
        repeat (first | refine ru ?_ | (refine AW.plan (id := 15) hm (.one 0 (.one 1 (.one 2 (.one 4 (.one 6 (.one 5 (.one 7 (.one 3 (.one 8 (.one 9 .nil)))))))))) (by kernel_rfl) ?_; conv => whnf))
        rw [w2]
        refine AHead.mk (m.ss.length - (k + 1)) _ _ (by omega) ⟨k + 1, _, S, c, rfl, by omega, hP.skip (upd_ge g m.ss[k]), hcr, rfl, rfl⟩ ?_
        exact Conv.ren [0, 1, 2] _ (by simp) (by simp) (by simp only [pad, renL, AV.ren, rens]; repeat' (first | exact Fit.nil | refine Fit.any ?_ | refine Fit.same ?_)) (.same (by simp only [ABlk.ren, stC_ren]; rfl) (.same (by simp only [ABlk.ren, fr_s]; rfl) (.same (by simp only [ABlk.ren, moC_ren]; rfl) .nil)))
      · conv => whnf
        repeat (first | refine ru ?_ | (refine AW.plan (id := 15) hm (.one 0 (.one 1 (.one 2 (.one 4 (.one 6 (.one 5 (.one 7 (.one 3 (.one 8 (.one 9 .nil)))))))))) (by kernel_rfl) ?_; conv => whnf))
        refine ACond.ndec (fun h5 => ?_) (fun h5 => ?_)
        · conv => whnf
          repeat (first | refine ru ?_ | (refine AW.plan (id := 15) hm (.one 0 (.one 1 (.one 2 (.one 4 (.one 6 (.one 5 (.one 7 (.one 3 (.one 8 (.one 9 .nil)))))))))) (by kernel_rfl) ?_; conv => whnf))
          rw [w2]
          refine AHead.mk (m.ss.length - (k + 1)) _ _ (by omega) ⟨k + 1, _, S, c, rfl, by omega, hP.skip (upd_ge g m.ss[k]), hcr, rfl, rfl⟩ ?_
          exact Conv.ren [0, 1, 2] _ (by simp) (by simp) (by simp only [pad, renL, AV.ren, rens]; repeat' (first | exact Fit.nil | refine Fit.any ?_ | refine Fit.same ?_)) (.same (by simp only [ABlk.ren, stC_ren]; rfl) (.same (by simp only [ABlk.ren, fr_s]; rfl) (.same (by simp only [ABlk.ren, moC_ren]; rfl) .nil)))
        · obtain ⟨rfl, rfl⟩ := hat.two hC.base.tab ho (by omega) h5
          rw [List.getElem?_eq_getElem hat.klt] at hol
          obtain rfl := Option.some.inj hol
          have hP2 := hP.add hat.klt hx hfu hat hl hval
          have hSl := hP.len
          have w3 : IntKind.wrap .i64 (c + m.am[k]) = c + m.am[k] := by
            have h6 := hP2.le hl
            have h7 := hP2.lo
            rw [wrap_i64 _ (by omega) (by omega)]
          conv => whnf
          repeat (first | refine ru ?_ | (refine AW.plan (id := 15) hm (.one 0 (.one 1 (.one 2 (.one 4 (.one 6 (.one 5 (.one 7 (.one 3 (.one 8 (.one 9 .nil)))))))))) (by kernel_rfl) ?_; conv => whnf))
          refine ALoop.mk (fun n E H => ∃ (t : Nat), n = S.length - t ∧ t ≤ S.length ∧
              E = pad [stA s, nV o'.id, nV q', .ptr 0 0, .any, .any, .any, .any, nV c, .ms 1 1 0 S.length, nV i, .ptr 2 0, nV k, .ptr 3 0, .any, nV t] 92 ∧ H = [.cells 36 (stC s), .cells 9 (S.flatMap sC), .cells 57 (moC m), .cells 50 (unC u)]) (n := S.length) _ _
            ⟨0, rfl, Nat.zero_le _, rfl, rfl⟩ (Conv.fit (by repeat' (first | exact Fit.nil | refine Fit.any ?_ | refine Fit.same ?_))) ?_
          rintro _ _ _ ⟨t, rfl, ht, rfl, rfl⟩
          conv => whnf
          repeat (first | refine go ?_ | (refine AW.plan (id := 15) hm (.one 0 (.one 1 (.one 2 (.one 4 (.one 6 (.one 5 (.one 7 (.one 3 (.one 8 (.one 9 .nil)))))))))) (by kernel_rfl) ?_; conv => whnf))
          refine ACond.dec (fun h8 => ?_) (fun h8 => ?_)
          · have htl : t < S.length := by omega
            have w4 : IntKind.wrap .i64 ((t : Int) + 1) = ((t + 1 : Nat) : Int) := by rw [wrap_i64 _ (by omega) (by omega)]; omega
            have hne : (S[t].toList == m.ss[k].toList) = false := by
              cases e : (S[t].toList == m.ss[k].toList) with
              | false => rfl
              | true =>
                have e1 := bs_ext (beq_iff_eq.1 e)
                have e2 := hP.old _ (List.getElem_mem htl)
                rw [e1, hx] at e2
                cases e2
            conv => whnf
            repeat (first | refine go ?_ | ((first | refine AW.plan (id := 15) hm (.one 0 (.one 1 (.one 2 (.one 4 (.one 6 (.one 5 (.one 7 (.one 3 (.one 8 (.one 9 .nil)))))))))) (by kernel_rfl) ?_ | refine AReq.mk (by omega) ?_ | refine AIdx.at sC_len t (by omega) htl ?_ | refine AIdx.at sC_len k (by omega) hkl ?_); conv => whnf))
            refine ACond.no hne ?_
            conv => whnf
            repeat (first | refine go ?_ | (refine AW.plan (id := 15) hm (.one 0 (.one 1 (.one 2 (.one 4 (.one 6 (.one 5 (.one 7 (.one 3 (.one 8 (.one 9 .nil)))))))))) (by kernel_rfl) ?_; conv => whnf))
            rw [w4]
            exact AHead.mk (S.length - (t + 1)) _ _ (by omega) ⟨t + 1, rfl, by omega, rfl, rfl⟩ (Conv.fit (by repeat' (first | exact Fit.nil | refine Fit.any ?_ | refine Fit.same ?_)))
          · have fl1 := flat_len sC_len S
            conv => whnf
            repeat (first | refine go ?_ | (refine AW.plan (id := 15) hm (.one 0 (.one 1 (.one 2 (.one 4 (.one 6 (.one 5 (.one 7 (.one 3 (.one 8 (.one 9 .nil)))))))))) (by kernel_rfl) ?_; conv => whnf))
            refine AOut.stay ?_
            conv => whnf
            repeat (first | refine go ?_ | ((first | refine AW.plan (id := 15) hm (.one 0 (.one 1 (.one 2 (.one 4 (.one 6 (.one 5 (.one 7 (.one 3 (.one 8 (.one 9 .nil)))))))))) (by kernel_rfl) ?_ | refine AReq.mk (by omega) ?_ | refine AReq.mk (by rw [hb9]; omega) ?_ | refine AIdx.at sC_len k (by omega) hkl ?_ | refine AIdx.at iC_len k (by omega) hkam ?_); conv => whnf))
            rw [w2, w3]
            refine AHead.mk (m.ss.length - (k + 1)) _ _ (by omega) ⟨k + 1, _, S ++ [m.ss[k]], c + m.am[k], rfl, by omega, hP2, hcr, rfl, rfl⟩ ?_
            rw [List.length_append, List.flatMap_append]
            exact Conv.ren [0, 4, 2] _ (by simp) (by decide) (by simp only [pad, renL, AV.ren, rens]; repeat' (first | exact Fit.nil | refine Fit.any ?_ | refine Fit.same ?_)) (.same (by simp only [ABlk.ren, stC_ren]; rfl) (.same (by simp only [ABlk.ren, renL_append, fr_s]; rfl) (.same (by simp only [ABlk.ren, moC_ren]; rfl) .nil)))
    · rw [List.drop_of_length_le (by omega), mvS] at hcr
      conv => whnf
      repeat (first | refine ru ?_ | (refine AW.plan (id := 15) hm (.one 0 (.one 1 (.one 2 (.one 4 (.one 6 (.one 5 (.one 7 (.one 3 (.one 8 (.one 9 .nil)))))))))) (by kernel_rfl) ?_; conv => whnf))
      refine AOut.stay ?_
      conv => whnf
      repeat (first | refine ru ?_ | (refine AW.plan (id := 15) hm (.one 0 (.one 1 (.one 2 (.one 4 (.one 6 (.one 5 (.one 7 (.one 3 (.one 8 (.one 9 .nil)))))))))) (by kernel_rfl) ?_; conv => whnf))
      rw [w1]
      refine AHead.mk (s.memos.length - (i + 1)) _ _ (by omega) ⟨i + 1, g, S, c, rfl, by omega, hP, hcr, rfl, rfl⟩ ?_
      exact Conv.ren [0, 1] _ (by simp) (by simp) (by simp only [pad, renL, AV.ren, rens]; repeat' (first | exact Fit.nil | refine Fit.any ?_ | refine Fit.same ?_)) (.same (by simp only [ABlk.ren, stC_ren]; rfl) (.same (by simp only [ABlk.ren, fr_s]; rfl) .nil))
  · conv => whnf
    repeat (first | refine go ?_ | (refine AW.plan (id := 15) hm (.one 0 (.one 1 (.one 2 (.one 4 (.one 6 (.one 5 (.one 7 (.one 3 (.one 8 (.one 9 .nil)))))))))) (by kernel_rfl) ?_; conv => whnf))
    refine AOut.stay ?_
    conv => whnf
    repeat (first | refine go ?_ | (refine AW.plan (id := 15) hm (.one 0 (.one 1 (.one 2 (.one 4 (.one 6 (.one 5 (.one 7 (.one 3 (.one 8 (.one 9 .nil)))))))))) (by kernel_rfl) ?_; conv => whnf))
    exact AFin.val rfl ⟨⟨c, rfl, hP.lo, hP.le hl⟩, rfl⟩
end Go.Aw.U1

set_option linter.unusedSimpArgs false
set_option linter.unusedVariables false
set_option maxHeartbeats 4000000
set_option maxRecDepth 8000
namespace Go.Aw.U1
open Go Go.Proofs

theorem held_drop {id k : Int} {l : List Rm} {i : Nat} {c : Int} (h : i < l.length) : heldT id k (l.drop i) c = if l[i].order = id then heldT id k (l.drop (i + 1)) (c + holdF l[i] k) else heldT id k (l.drop (i + 1)) c := by
  rw [List.drop_eq_getElem_cons h, heldT]
theorem f13 (s : Sta) (h : StaOk s) (hC : CheckOk s) : Spec P 13 [stA s] [] (fun r H => r = bV true ∧ H = []) := by
  refine spec_of hT (f := 13) (fn := Go.Proofs.Tryz.f13) (c := body Go.Proofs.Tryz.f13) (by kernel_rfl) (by kernel_rfl) ?_
  have ho1 := h.orders.1
  have hr1 := h.rmas.1
  have hu1 := h.units.1
  have hord := ships_all hC.ships
  conv => whnf
  repeat (first | refine go ?_ | (refine AW.plan (id := 12) hm (.one 0 (.one 2 (.one 6 (.one 1 (.one 3 (.one 4 (.one 5 (.one 7 (.one 8 .nil))))))))) (by kernel_rfl) ?_; conv => whnf))
  refine ALoop.mk (fun n E H => ∃ (i : Nat), n = s.orders.length - i ∧ i ≤ s.orders.length ∧
      E = pad [stA s, .ptr 0 0, bV false, nV i] 110 ∧ H = [.cells 36 (stC s)]) (n := s.orders.length) _ _
    ⟨0, rfl, Nat.zero_le _, rfl, rfl⟩ (Conv.fit (by repeat' (first | exact Fit.nil | refine Fit.any ?_ | refine Fit.same ?_))) ?_
  rintro _ _ _ ⟨i, rfl, hi, rfl, rfl⟩
  conv => whnf
  repeat (first | refine go ?_ | (refine AW.plan (id := 12) hm (.one 0 (.one 2 (.one 6 (.one 1 (.one 3 (.one 4 (.one 5 (.one 7 (.one 8 .nil))))))))) (by kernel_rfl) ?_; conv => whnf))
  refine ACond.dec (fun h1 => ?_) (fun h1 => ?_)
  · have hil : i < s.orders.length := by omega
    have w1 : IntKind.wrap .i64 ((i : Int) + 1) = ((i + 1 : Nat) : Int) := by rw [wrap_i64 _ (by omega) (by omega)]; omega
    have hmem := List.getElem_mem hil
    have hoo := h.orders.2 _ hmem
    have hoc := hord _ hmem
    conv => whnf
    repeat (first | refine go ?_ | ((first | refine AW.plan (id := 12) hm (.one 0 (.one 2 (.one 6 (.one 1 (.one 3 (.one 4 (.one 5 (.one 7 (.one 8 .nil))))))))) (by kernel_rfl) ?_ | refine AReq.mk (by omega) ?_ | refine AIdx.flat (enc := odC) odC_len (xs := s.orders) (i := i) hil ?_); conv => whnf))
    generalize s.orders[i] = o at hmem hoo hoc
    have hol := hoo.1
    refine ALoop.mk (fun n E H => ∃ (q : Nat), n = o.ls.length - q ∧ q ≤ o.ls.length ∧
        E = pad [stA s, .ptr 0 0, bV false, nV i, .ptr 1 0, nV q] 110 ∧ H = [.cells 36 (stC s), .cells 46 (odC o)]) (n := o.ls.length) _ _
      ⟨0, rfl, Nat.zero_le _, rfl, rfl⟩ (Conv.fit (by repeat' (first | exact Fit.nil | refine Fit.any ?_ | refine Fit.same ?_))) ?_
    rintro _ _ _ ⟨q, rfl, hq, rfl, rfl⟩
    conv => whnf
    repeat (first | refine go ?_ | (refine AW.plan (id := 12) hm (.one 0 (.one 2 (.one 6 (.one 1 (.one 3 (.one 4 (.one 5 (.one 7 (.one 8 .nil))))))))) (by kernel_rfl) ?_; conv => whnf))
    refine ACond.dec (fun h2 => ?_) (fun h2 => ?_)
    · have hql : q < o.ls.length := by omega
      have w2 : IntKind.wrap .i64 ((q : Int) + 1) = ((q + 1 : Nat) : Int) := by rw [wrap_i64 _ (by omega) (by omega)]; omega
      have hlc := ordB_lines hoc (List.getElem_mem hql)
      have hheld := held_le hC.base.tab hC.auth hmem hql
      have hcame : (s.units.countP fun u => decide (u.order = o.id) && decide (u.line = (q : Int))) ≤ (o.ls[q]).ss.length := came_le hC.base hmem hql
      have hpay := pay_ok hlc
      have hf47 := f47 s h hC hmem hql hlc
      have hf48 := f48 o.ls[q] (hoo.2 _ (List.getElem_mem hql))
      rw [hpay] at hf48
      have hf49 := f49 s o.id q hu1
      conv => whnf
      repeat (first | refine go ?_ | (refine AW.plan (id := 12) hm (.one 0 (.one 2 (.one 6 (.one 1 (.one 3 (.one 4 (.one 5 (.one 7 (.one 8 .nil))))))))) (by kernel_rfl) ?_; conv => whnf))
      refine ALoop.mk (fun n E H => ∃ (k : Nat) (c : Int), n = s.rmas.length - k ∧ k ≤ s.rmas.length ∧ 0 ≤ c ∧ c ≤ 20 * k ∧ heldT o.id q (s.rmas.drop k) c = heldT o.id q s.rmas 0 ∧
          E = pad [stA s, .ptr 0 0, bV false, nV i, .ptr 1 0, nV q, nV c, nV k] 110 ∧ H = [.cells 36 (stC s), .cells 46 (odC o)]) (n := s.rmas.length) _ _
        ⟨0, 0, rfl, Nat.zero_le _, by omega, by omega, rfl, rfl, rfl⟩ (Conv.fit (by repeat' (first | exact Fit.nil | refine Fit.any ?_ | refine Fit.same ?_))) ?_
      rintro _ _ _ ⟨k, c, rfl, hk, hc0, hc1, hI, rfl, rfl⟩
      conv => whnf
      repeat (first | refine go ?_ | (refine AW.plan (id := 12) hm (.one 0 (.one 2 (.one 6 (.one 1 (.one 3 (.one 4 (.one 5 (.one 7 (.one 8 .nil))))))))) (by kernel_rfl) ?_; conv => whnf))
      refine ACond.dec (fun h3 => ?_) (fun h3 => ?_)
      · have hkl : k < s.rmas.length := by omega
        have w3 : IntKind.wrap .i64 ((k : Int) + 1) = ((k + 1 : Nat) : Int) := by rw [wrap_i64 _ (by omega) (by omega)]; omega
        have hb := holdF_bd s.rmas[k] q
        have hfr := f46 s.rmas[k] q (h.rmas.2 _ (List.getElem_mem hkl))
        rw [held_drop hkl] at hI
        conv => whnf
        repeat (first | refine go ?_ | ((first | refine AW.plan (id := 12) hm (.one 0 (.one 2 (.one 6 (.one 1 (.one 3 (.one 4 (.one 5 (.one 7 (.one 8 .nil))))))))) (by kernel_rfl) ?_ | refine AReq.mk (by omega) ?_ | refine AIdx.flat (enc := rmC) rmC_len (xs := s.rmas) (i := k) hkl ?_ | refine ACall.val (args := [rmA s.rmas[k], nV q]) (by kernel_rfl) hfr (by (first | rfl | (simp only [renL, AV.ren, List.nil_append, List.cons_append, rens]; try rfl))) rfl ?_); conv => whnf))
        refine ACond.dec (fun h4 => ?_) (fun h4 => ?_)
        · rw [if_pos h4] at hI
          have w4 : IntKind.wrap .i64 (c + holdF s.rmas[k] q) = c + holdF s.rmas[k] q := by rw [wrap_i64 _ (by omega) (by omega)]
          conv => whnf
          repeat (first | refine go ?_ | ((first | refine AW.plan (id := 12) hm (.one 0 (.one 2 (.one 6 (.one 1 (.one 3 (.one 4 (.one 5 (.one 7 (.one 8 .nil))))))))) (by kernel_rfl) ?_ | refine AReq.mk (by omega) ?_ | refine AIdx.flat (enc := rmC) rmC_len (xs := s.rmas) (i := k) hkl ?_ | refine ACall.val (args := [rmA s.rmas[k], nV q]) (by kernel_rfl) hfr (by (first | rfl | (simp only [renL, AV.ren, List.nil_append, List.cons_append, rens]; try rfl))) rfl ?_); conv => whnf))
          rw [w3, w4]
          refine AHead.mk (s.rmas.length - (k + 1)) _ _ (by omega) ⟨k + 1, _, rfl, by omega, by omega, by omega, hI, rfl, rfl⟩ ?_
          exact Conv.ren [0, 1] _ (by simp) (by simp) (by simp only [pad, renL, AV.ren, rens]; repeat' (first | exact Fit.nil | refine Fit.any ?_ | refine Fit.same ?_)) (.same (by simp only [ABlk.ren, stC_ren]; rfl) (.same (by simp only [ABlk.ren, odC_ren]; rfl) .nil))
        · rw [if_neg h4] at hI
          conv => whnf
          repeat (first | refine go ?_ | ((first | refine AW.plan (id := 12) hm (.one 0 (.one 2 (.one 6 (.one 1 (.one 3 (.one 4 (.one 5 (.one 7 (.one 8 .nil))))))))) (by kernel_rfl) ?_ | refine AReq.mk (by omega) ?_ | refine AIdx.flat (enc := rmC) rmC_len (xs := s.rmas) (i := k) hkl ?_ | refine ACall.val (args := [rmA s.rmas[k], nV q]) (by kernel_rfl) hfr (by (first | rfl | (simp only [renL, AV.ren, List.nil_append, List.cons_append, rens]; try rfl))) rfl ?_); conv => whnf))
          rw [w3]
          refine AHead.mk (s.rmas.length - (k + 1)) _ _ (by omega) ⟨k + 1, _, rfl, by omega, hc0, by omega, hI, rfl, rfl⟩ ?_
          exact Conv.ren [0, 1] _ (by simp) (by simp) (by simp only [pad, renL, AV.ren, rens]; repeat' (first | exact Fit.nil | refine Fit.any ?_ | refine Fit.same ?_)) (.same (by simp only [ABlk.ren, stC_ren]; rfl) (.same (by simp only [ABlk.ren, odC_ren]; rfl) .nil))
      · rw [List.drop_of_length_le (by omega), heldT] at hI
        rw [← hI] at hheld
        conv => whnf
        repeat (first | refine go ?_ | (refine AW.plan (id := 12) hm (.one 0 (.one 2 (.one 6 (.one 1 (.one 3 (.one 4 (.one 5 (.one 7 (.one 8 .nil))))))))) (by kernel_rfl) ?_; conv => whnf))
        refine AOut.stay ?_
        conv => whnf
        repeat (first | refine go ?_ | (refine AW.plan (id := 12) hm (.one 0 (.one 2 (.one 6 (.one 1 (.one 3 (.one 4 (.one 5 (.one 7 (.one 8 .nil))))))))) (by kernel_rfl) ?_; conv => whnf))
        refine ACall.spec (args := [stA s, nV o.id, nV q]) (by kernel_rfl) hf47 (by (first | rfl | (simp only [renL, AV.ren, List.nil_append, List.cons_append, rens]; try rfl))) ?_
        rintro _ _ ⟨⟨n, rfl, hn0, hn1⟩, rfl⟩
        conv => whnf
        repeat (first | refine go ?_ | ((first | refine AW.plan (id := 12) hm (.one 0 (.one 2 (.one 6 (.one 1 (.one 3 (.one 4 (.one 5 (.one 7 (.one 8 .nil))))))))) (by kernel_rfl) ?_ | refine AReq.mk (by omega) ?_ | refine AIdx.flat (enc := lnC) lnC_len (xs := o.ls) (i := q) hql ?_ | refine ACall.val (args := [lnA o.ls[q]]) (by kernel_rfl) hf48 (by (first | rfl | (simp only [renL, AV.ren, List.nil_append, List.cons_append, rens]; try rfl))) rfl ?_); conv => whnf))
        refine ASplit.no (decide_eq_false (by omega)) ?_
        conv => whnf
        repeat (first | refine ru ?_ | ((first | refine AW.plan (id := 12) hm (.one 0 (.one 2 (.one 6 (.one 1 (.one 3 (.one 4 (.one 5 (.one 7 (.one 8 .nil))))))))) (by kernel_rfl) ?_ | refine AReq.mk (by omega) ?_ | refine AIdx.flat (enc := lnC) lnC_len (xs := o.ls) (i := q) hql ?_ | refine ACall.val (args := [lnA o.ls[q]]) (by kernel_rfl) hf48 (by (first | rfl | (simp only [renL, AV.ren, List.nil_append, List.cons_append, rens]; try rfl))) rfl ?_ | refine ACall.val (args := [stA s, nV o.id, nV q]) (by kernel_rfl) hf49 (by (first | rfl | (simp only [renL, AV.ren, List.nil_append, List.cons_append, rens]; try rfl))) rfl ?_); conv => whnf))
        refine ASplit.no (decide_eq_false (by omega)) ?_
        conv => whnf
        repeat (first | refine ru ?_ | ((first | refine AW.plan (id := 12) hm (.one 0 (.one 2 (.one 6 (.one 1 (.one 3 (.one 4 (.one 5 (.one 7 (.one 8 .nil))))))))) (by kernel_rfl) ?_ | refine AReq.mk (by omega) ?_ | refine AIdx.flat (enc := lnC) lnC_len (xs := o.ls) (i := q) hql ?_ | refine ACall.val (args := [lnA o.ls[q]]) (by kernel_rfl) hf48 (by (first | rfl | (simp only [renL, AV.ren, List.nil_append, List.cons_append, rens]; try rfl))) rfl ?_ | refine ACall.val (args := [stA s, nV o.id, nV q]) (by kernel_rfl) hf49 (by (first | rfl | (simp only [renL, AV.ren, List.nil_append, List.cons_append, rens]; try rfl))) rfl ?_); conv => whnf))
        refine ASplit.no (decide_eq_false (by omega)) ?_
        conv => whnf
        repeat (first | refine ru ?_ | ((first | refine AW.plan (id := 12) hm (.one 0 (.one 2 (.one 6 (.one 1 (.one 3 (.one 4 (.one 5 (.one 7 (.one 8 .nil))))))))) (by kernel_rfl) ?_ | refine AReq.mk (by omega) ?_ | refine AIdx.flat (enc := lnC) lnC_len (xs := o.ls) (i := q) hql ?_ | refine ACall.val (args := [lnA o.ls[q]]) (by kernel_rfl) hf48 (by (first | rfl | (simp only [renL, AV.ren, List.nil_append, List.cons_append, rens]; try rfl))) rfl ?_ | refine ACall.val (args := [stA s, nV o.id, nV q]) (by kernel_rfl) hf49 (by (first | rfl | (simp only [renL, AV.ren, List.nil_append, List.cons_append, rens]; try rfl))) rfl ?_); conv => whnf))
        refine ACond.no (decide_eq_false (by omega)) ?_
        conv => whnf
        repeat (first | refine ru ?_ | ((first | refine AW.plan (id := 12) hm (.one 0 (.one 2 (.one 6 (.one 1 (.one 3 (.one 4 (.one 5 (.one 7 (.one 8 .nil))))))))) (by kernel_rfl) ?_ | refine AReq.mk (by omega) ?_ | refine AIdx.flat (enc := lnC) lnC_len (xs := o.ls) (i := q) hql ?_ | refine ACall.val (args := [lnA o.ls[q]]) (by kernel_rfl) hf48 (by (first | rfl | (simp only [renL, AV.ren, List.nil_append, List.cons_append, rens]; try rfl))) rfl ?_ | refine ACall.val (args := [stA s, nV o.id, nV q]) (by kernel_rfl) hf49 (by (first | rfl | (simp only [renL, AV.ren, List.nil_append, List.cons_append, rens]; try rfl))) rfl ?_); conv => whnf))
        rw [w2]
        refine AHead.mk (o.ls.length - (q + 1)) _ _ (by omega) ⟨q + 1, rfl, by omega, rfl, rfl⟩ ?_
        exact Conv.ren [0, 1] _ (by simp) (by simp) (by simp only [pad, renL, AV.ren, rens]; repeat' (first | exact Fit.nil | refine Fit.any ?_ | refine Fit.same ?_)) (.same (by simp only [ABlk.ren, stC_ren]; rfl) (.same (by simp only [ABlk.ren, odC_ren]; rfl) .nil))
    · conv => whnf
      repeat (first | refine go ?_ | (refine AW.plan (id := 12) hm (.one 0 (.one 2 (.one 6 (.one 1 (.one 3 (.one 4 (.one 5 (.one 7 (.one 8 .nil))))))))) (by kernel_rfl) ?_; conv => whnf))
      refine AOut.stay ?_
      conv => whnf
      repeat (first | refine go ?_ | (refine AW.plan (id := 12) hm (.one 0 (.one 2 (.one 6 (.one 1 (.one 3 (.one 4 (.one 5 (.one 7 (.one 8 .nil))))))))) (by kernel_rfl) ?_; conv => whnf))
      rw [w1]
      refine AHead.mk (s.orders.length - (i + 1)) _ _ (by omega) ⟨i + 1, rfl, by omega, rfl, rfl⟩ ?_
      exact Conv.ren [0] _ (by simp) (by simp) (by simp only [pad, renL, AV.ren, rens]; repeat' (first | exact Fit.nil | refine Fit.any ?_ | refine Fit.same ?_)) (.same (by simp only [ABlk.ren, stC_ren]; rfl) .nil)
  · conv => whnf
    repeat (first | refine go ?_ | (refine AW.plan (id := 12) hm (.one 0 (.one 2 (.one 6 (.one 1 (.one 3 (.one 4 (.one 5 (.one 7 (.one 8 .nil))))))))) (by kernel_rfl) ?_; conv => whnf))
    refine AOut.stay ?_
    conv => whnf
    repeat (first | refine go ?_ | (refine AW.plan (id := 12) hm (.one 0 (.one 2 (.one 6 (.one 1 (.one 3 (.one 4 (.one 5 (.one 7 (.one 8 .nil))))))))) (by kernel_rfl) ?_; conv => whnf))
    exact AFin.val rfl ⟨rfl, rfl⟩
theorem f4 (hA : Fun P 7 [] (bV true)) (s : Sta) (hw : Wf s) : Spec P 4 [stA s] [] (fun r _ => r = bV true) := by
  refine spec_of hT (f := 4) (fn := Go.Proofs.Tryz.f4) (c := body Go.Proofs.Tryz.f4) (by kernel_rfl) (by kernel_rfl) ?_
  conv => whnf
  repeat refine go ?_
  refine ACall.spec (args := [stA s]) (by kernel_rfl) (f5 s) (by (first | rfl | (simp only [renL, AV.ren, List.nil_append, List.cons_append, rens]; try rfl))) ?_
  rintro _ _ ⟨⟨b, rfl, hb⟩, rfl⟩
  cases b with
  | false =>
    conv => whnf
    repeat refine ru ?_
    refine ACall.val (args := []) (by kernel_rfl) hA rfl rfl ?_
    conv => whnf
    repeat refine ru ?_
    exact AFin.mk rfl
  | true =>
  have hs := hw.sta (hb rfl)
  conv => whnf
  repeat refine ru ?_
  refine ACall.spec (args := [stA s]) (by kernel_rfl) (f6 s hs hw.ids) (by (first | rfl | (simp only [renL, AV.ren, List.nil_append, List.cons_append, rens]; try rfl))) ?_
  rintro _ _ ⟨⟨n, rfl, hck, _, _⟩, rfl⟩
  conv => whnf
  repeat refine ru ?_
  refine ACond.ndec (fun h1 => ?_) (fun h1 => ?_)
  · conv => whnf
    repeat refine ru ?_
    refine ACall.val (args := []) (by kernel_rfl) hA rfl rfl ?_
    conv => whnf
    repeat refine ru ?_
    exact AFin.mk rfl
  have hC := hck h1
  conv => whnf
  repeat refine ru ?_
  refine ACall.spec (args := [stA s]) (by kernel_rfl) (f13 s hs hC) (by (first | rfl | (simp only [renL, AV.ren, List.nil_append, List.cons_append, rens]; try rfl))) ?_
  rintro _ _ ⟨rfl, rfl⟩
  conv => whnf
  repeat refine ru ?_
  refine ACall.val (args := []) (by kernel_rfl) hA rfl rfl ?_
  conv => whnf
  repeat refine ru ?_
  exact AFin.mk rfl
end Go.Aw.U1

set_option linter.unusedSimpArgs false
set_option linter.unusedVariables false
set_option maxRecDepth 20000
namespace Go.Aw.U1
open Go Go.Proofs
theorem und4 : P.underlying 4 = some .bool := by kernel_rfl
theorem maxLen_eq : maxLen = 9223372036854775807 := by decide
theorem o_i : Opens P 3 iC nOk := (opens_int und3).map iC nOk id (fun _ _ => rfl) (fun _ h => h)
theorem o_s : Opens P 9 sC sOk := (opens_string und9).map sC sOk id (fun _ _ => rfl) (fun _ h => by rw [maxLen_eq] at h; exact h)
theorem o_b : Opens P 4 (fun b : Bool => [bV b]) (fun _ => True) := opens_bool und4
/-- a slice of what opens -/
theorem o_sl {t e sz : Nat} {α : Type} {enc : α → List AV} {wf : α → Prop} (ht : P.underlying t = some (.slice e)) (hz : P.cellsOf e = sz) (hp : 0 < sz) (h : Opens P e enc wf) :
    Opens P t (fun l : List α => [.vs sz l.length (l.flatMap enc)]) (fun l => l.length ≤ 9223372036854775807 ∧ ∀ x ∈ l, wf x) :=
  (opens_slice ht hz hp h).map _ _ id (fun _ _ => rfl) (fun l h => ⟨by have := h.1; rw [maxLen_eq] at this; exact this, fun x hx => (h.2 x hx).1⟩)
theorem o_is : Opens P 30 (fun l => [isV l]) (fun l => l.length ≤ 9223372036854775807) := (o_sl Tryz.underlying30 (sz := 1) (by kernel_rfl) (by decide) o_i).map _ _ id (fun _ _ => rfl) (fun _ h => h.1)
theorem o_ss : Opens P 51 (fun l => [ssV l]) ssOk := (o_sl Tryz.underlying51 (sz := 1) (by kernel_rfl) (by decide) o_s).map _ _ id (fun _ _ => rfl) (fun _ h => h)
theorem o_it : Opens P 78 itC (fun _ => True) :=
  Opens.map (opens_struct Tryz.underlying78 (by kernel_rfl) (opensF_cons (sz := 1) rfl (by kernel_rfl) o_i (opensF_cons (sz := 1) rfl (by kernel_rfl) o_i (opensF_cons (sz := 1) rfl (by kernel_rfl) o_i (opensF_cons (sz := 1) rfl (by kernel_rfl) o_i opensF_nil))))) itC (fun _ => True) (fun x => (⟨x.1, x.2.1, x.2.2.1, x.2.2.2.1⟩ : It)) (fun x _ => rfl) (fun _ _ => trivial)
theorem o_its : Opens P 22 (fun l => [itsV l]) (fun l => l.length ≤ 9223372036854775807 ∧ ∀ x ∈ l, (fun _ => True) x) := (o_sl Tryz.underlying22 (sz := 4) (by kernel_rfl) (by decide) o_it).map _ _ id (fun _ _ => rfl) (fun _ h => h)
def lnW (l : Ln) : Prop := ssOk l.ss
theorem o_ln : Opens P 53 lnC lnW :=
  Opens.map (opens_struct Tryz.underlying53 (by kernel_rfl) (opensF_cons (sz := 1) rfl (by kernel_rfl) o_i (opensF_cons (sz := 1) rfl (by kernel_rfl) o_i (opensF_cons (sz := 1) rfl (by kernel_rfl) o_i (opensF_cons (sz := 1) rfl (by kernel_rfl) o_i (opensF_cons (sz := 1) rfl (by kernel_rfl) o_ss opensF_nil)))))) lnC lnW (fun x => (⟨x.1, x.2.1, x.2.2.1, x.2.2.2.1, x.2.2.2.2.1⟩ : Ln)) (fun x _ => rfl) (fun x h => h.2.2.2.2.1)
theorem o_lns : Opens P 44 (fun l => [lnsV l]) (fun l => l.length ≤ 9223372036854775807 ∧ ∀ x ∈ l, lnW x) := (o_sl Tryz.underlying44 (sz := 5) (by kernel_rfl) (by decide) o_ln).map _ _ id (fun _ _ => rfl) (fun _ h => h)
def odW (o : Od) : Prop := ∀ x ∈ o.ls, lnW x
theorem o_od : Opens P 46 odC odW :=
  Opens.map (opens_struct Tryz.underlying46 (by kernel_rfl) (opensF_cons (sz := 1) rfl (by kernel_rfl) o_i (opensF_cons (sz := 1) rfl (by kernel_rfl) o_i (opensF_cons (sz := 1) rfl (by kernel_rfl) o_lns opensF_nil)))) odC odW (fun x => (⟨x.1, x.2.1, x.2.2.1⟩ : Od)) (fun x _ => rfl) (fun x h => h.2.2.1.2)
theorem o_ods : Opens P 23 (fun l => [odsV l]) (fun l => l.length ≤ 9223372036854775807 ∧ ∀ x ∈ l, odW x) := (o_sl Tryz.underlying23 (sz := 3) (by kernel_rfl) (by decide) o_od).map _ _ id (fun _ _ => rfl) (fun _ h => h)
def wnW (w : Wn) : Prop := nOk w.line
theorem o_wn : Opens P 133 wnC wnW :=
  Opens.map (opens_struct Tryz.underlying133 (by kernel_rfl) (opensF_cons (sz := 1) rfl (by kernel_rfl) o_i (opensF_cons (sz := 1) rfl (by kernel_rfl) o_i (opensF_cons (sz := 1) rfl (by kernel_rfl) o_i opensF_nil)))) wnC wnW (fun x => (⟨x.1, x.2.1, x.2.2.1⟩ : Wn)) (fun x _ => rfl) (fun x h => h.1)
theorem o_wns : Opens P 64 (fun l => [wnsV l]) (fun l => l.length ≤ 9223372036854775807 ∧ ∀ x ∈ l, wnW x) := (o_sl Tryz.underlying64 (sz := 3) (by kernel_rfl) (by decide) o_wn).map _ _ id (fun _ _ => rfl) (fun _ h => h)
def rmW (r : Rm) : Prop := nOk r.id ∧ rmOk r ∧ ∀ w ∈ r.ws, wnW w
theorem o_rm : Opens P 66 rmC rmW :=
  Opens.map (opens_struct Tryz.underlying66 (by kernel_rfl) (opensF_cons (sz := 1) rfl (by kernel_rfl) o_i (opensF_cons (sz := 1) rfl (by kernel_rfl) o_i (opensF_cons (sz := 1) rfl (by kernel_rfl) o_i (opensF_cons (sz := 1) rfl (by kernel_rfl) o_i (opensF_cons (sz := 1) rfl (by kernel_rfl) o_wns opensF_nil)))))) rmC rmW (fun x => (⟨x.1, x.2.1, x.2.2.1, x.2.2.2.1, x.2.2.2.2.1⟩ : Rm)) (fun x _ => rfl) (fun x h => ⟨h.1, h.2.2.2.2.1.1, h.2.2.2.2.1.2⟩)
theorem o_rms : Opens P 24 (fun l => [rmsV l]) (fun l => l.length ≤ 9223372036854775807 ∧ ∀ x ∈ l, rmW x) := (o_sl Tryz.underlying24 (sz := 5) (by kernel_rfl) (by decide) o_rm).map _ _ id (fun _ _ => rfl) (fun _ h => h)
def unW' (u : Un) : Prop := sOk u.s
theorem o_un : Opens P 50 unC unW' :=
  Opens.map (opens_struct Tryz.underlying50 (by kernel_rfl) (opensF_cons (sz := 1) rfl (by kernel_rfl) o_s (opensF_cons (sz := 1) rfl (by kernel_rfl) o_i (opensF_cons (sz := 1) rfl (by kernel_rfl) o_i (opensF_cons (sz := 1) rfl (by kernel_rfl) o_i (opensF_cons (sz := 1) rfl (by kernel_rfl) o_i (opensF_cons (sz := 1) rfl (by kernel_rfl) o_i (opensF_cons (sz := 1) rfl (by kernel_rfl) o_i (opensF_cons (sz := 1) rfl (by kernel_rfl) o_i (opensF_cons (sz := 1) rfl (by kernel_rfl) o_i (opensF_cons (sz := 1) rfl (by kernel_rfl) o_i opensF_nil))))))))))) unC unW' (fun x => (⟨x.1, x.2.1, x.2.2.1, x.2.2.2.1, x.2.2.2.2.1, x.2.2.2.2.2.1, x.2.2.2.2.2.2.1, x.2.2.2.2.2.2.2.1, x.2.2.2.2.2.2.2.2.1, x.2.2.2.2.2.2.2.2.2.1⟩ : Un)) (fun x _ => rfl) (fun x h => h.1)
theorem o_uns : Opens P 25 (fun l => [unsV l]) (fun l => l.length ≤ 9223372036854775807 ∧ ∀ x ∈ l, unW' x) := (o_sl Tryz.underlying25 (sz := 10) (by kernel_rfl) (by decide) o_un).map _ _ id (fun _ _ => rfl) (fun _ h => h)
def wkW (u : Wk) : Prop := sOk u.s
theorem o_wk : Opens P 107 wkC wkW :=
  Opens.map (opens_struct Tryz.underlying107 (by kernel_rfl) (opensF_cons (sz := 1) rfl (by kernel_rfl) o_i (opensF_cons (sz := 1) rfl (by kernel_rfl) o_s (opensF_cons (sz := 1) rfl (by kernel_rfl) o_i (opensF_cons (sz := 1) rfl (by kernel_rfl) o_i (opensF_cons (sz := 1) rfl (by kernel_rfl) o_i opensF_nil)))))) wkC wkW (fun x => (⟨x.1, x.2.1, x.2.2.1, x.2.2.2.1, x.2.2.2.2.1⟩ : Wk)) (fun x _ => rfl) (fun x h => h.2.1)
theorem o_wks : Opens P 26 (fun l => [wksV l]) (fun l => l.length ≤ 9223372036854775807 ∧ ∀ x ∈ l, wkW x) := (o_sl Tryz.underlying26 (sz := 5) (by kernel_rfl) (by decide) o_wk).map _ _ id (fun _ _ => rfl) (fun _ h => h)
def clW (u : Cl) : Prop := ssOk u.ss
theorem o_cl : Opens P 68 clC clW :=
  Opens.map (opens_struct Tryz.underlying68 (by kernel_rfl) (opensF_cons (sz := 1) rfl (by kernel_rfl) o_i (opensF_cons (sz := 1) rfl (by kernel_rfl) o_i (opensF_cons (sz := 1) rfl (by kernel_rfl) o_i (opensF_cons (sz := 1) rfl (by kernel_rfl) o_ss opensF_nil))))) clC clW (fun x => (⟨x.1, x.2.1, x.2.2.1, x.2.2.2.1⟩ : Cl)) (fun x _ => rfl) (fun x h => h.2.2.2.1)
theorem o_cls : Opens P 27 (fun l => [clsV l]) (fun l => l.length ≤ 9223372036854775807 ∧ ∀ x ∈ l, clW x) := (o_sl Tryz.underlying27 (sz := 4) (by kernel_rfl) (by decide) o_cl).map _ _ id (fun _ _ => rfl) (fun _ h => h)
def moW (u : Mo) : Prop := ssOk u.ss ∧ u.am.length ≤ 9223372036854775807
theorem o_mo : Opens P 57 moC moW :=
  Opens.map (opens_struct Tryz.underlying57 (by kernel_rfl) (opensF_cons (sz := 1) rfl (by kernel_rfl) o_i (opensF_cons (sz := 1) rfl (by kernel_rfl) o_i (opensF_cons (sz := 1) rfl (by kernel_rfl) o_ss (opensF_cons (sz := 1) rfl (by kernel_rfl) o_is (opensF_cons (sz := 1) rfl (by kernel_rfl) o_b opensF_nil)))))) moC moW (fun x => (⟨x.1, x.2.1, x.2.2.1, x.2.2.2.1, x.2.2.2.2.1⟩ : Mo)) (fun x _ => rfl) (fun x h => ⟨h.2.2.1, h.2.2.2.1⟩)
theorem o_mos : Opens P 28 (fun l => [mosV l]) (fun l => l.length ≤ 9223372036854775807 ∧ ∀ x ∈ l, moW x) := (o_sl Tryz.underlying28 (sz := 5) (by kernel_rfl) (by decide) o_mo).map _ _ id (fun _ _ => rfl) (fun _ h => h)
theorem o_mv : Opens P 144 mvC (fun _ => True) :=
  Opens.map (opens_struct Tryz.underlying144 (by kernel_rfl) (opensF_cons (sz := 1) rfl (by kernel_rfl) o_b (opensF_cons (sz := 1) rfl (by kernel_rfl) o_i (opensF_cons (sz := 1) rfl (by kernel_rfl) o_i opensF_nil)))) mvC (fun _ => True) (fun x => (⟨x.1, x.2.1, x.2.2.1⟩ : Mv)) (fun x _ => rfl) (fun _ _ => trivial)
theorem o_mvs : Opens P 29 (fun l => [mvs l]) (fun l => l.length ≤ 9223372036854775807 ∧ ∀ x ∈ l, (fun _ => True) x) := (o_sl Tryz.underlying29 (sz := 3) (by kernel_rfl) (by decide) o_mv).map _ _ id (fun _ _ => rfl) (fun _ h => h)
theorem o_ro : Opens P 175 roC (fun _ => True) :=
  Opens.map (opens_struct Tryz.underlying175 (by kernel_rfl) (opensF_cons (sz := 1) rfl (by kernel_rfl) o_i (opensF_cons (sz := 1) rfl (by kernel_rfl) o_i (opensF_cons (sz := 1) rfl (by kernel_rfl) o_i (opensF_cons (sz := 1) rfl (by kernel_rfl) o_i (opensF_cons (sz := 1) rfl (by kernel_rfl) o_i opensF_nil)))))) roC (fun _ => True) (fun x => (⟨x.1, x.2.1, x.2.2.1, x.2.2.2.1, x.2.2.2.2.1⟩ : Ro)) (fun x _ => rfl) (fun _ _ => trivial)
theorem o_ros : Opens P 31 (fun l => [roV l]) (fun l => l.length ≤ 9223372036854775807 ∧ ∀ x ∈ l, (fun _ => True) x) := (o_sl Tryz.underlying31 (sz := 5) (by kernel_rfl) (by decide) o_ro).map _ _ id (fun _ _ => rfl) (fun _ h => h)
theorem o_ru : Opens P 33 ruC (fun _ => True) :=
  Opens.map (opens_struct Tryz.underlying33 (by kernel_rfl) (opensF_cons (sz := 1) rfl (by kernel_rfl) o_is (opensF_cons (sz := 1) rfl (by kernel_rfl) o_is (opensF_cons (sz := 1) rfl (by kernel_rfl) o_is (opensF_cons (sz := 1) rfl (by kernel_rfl) o_ros opensF_nil))))) ruC (fun _ => True) (fun x => (⟨x.1, x.2.1, x.2.2.1, x.2.2.2.1⟩ : Ru)) (fun x _ => rfl) (fun _ _ => trivial)
theorem o_dn : Opens P 70 dnC (fun _ => True) :=
  Opens.map (opens_struct Tryz.underlying70 (by kernel_rfl) (opensF_cons (sz := 1) rfl (by kernel_rfl) o_i (opensF_cons (sz := 1) rfl (by kernel_rfl) o_s (opensF_cons (sz := 1) rfl (by kernel_rfl) o_s opensF_nil)))) dnC (fun _ => True) (fun x => (⟨x.1, x.2.1, x.2.2.1⟩ : Dn)) (fun x _ => rfl) (fun _ _ => trivial)
theorem o_dns : Opens P 34 (fun l => [dnsV l]) (fun l => l.length ≤ 9223372036854775807 ∧ ∀ x ∈ l, (fun _ => True) x) := (o_sl Tryz.underlying34 (sz := 3) (by kernel_rfl) (by decide) o_dn).map _ _ id (fun _ _ => rfl) (fun _ h => h)
theorem o_st : Opens P 36 stC Wf :=
  Opens.map (opens_struct Tryz.underlying36 (by kernel_rfl) (opensF_cons (sz := 1) rfl (by kernel_rfl) o_i (opensF_cons (sz := 1) rfl (by kernel_rfl) o_i (opensF_cons (sz := 1) rfl (by kernel_rfl) o_i (opensF_cons (sz := 1) rfl (by kernel_rfl) o_i (opensF_cons (sz := 1) rfl (by kernel_rfl) o_i (opensF_cons (sz := 1) rfl (by kernel_rfl) o_its (opensF_cons (sz := 1) rfl (by kernel_rfl) o_ods (opensF_cons (sz := 1) rfl (by kernel_rfl) o_rms (opensF_cons (sz := 1) rfl (by kernel_rfl) o_uns (opensF_cons (sz := 1) rfl (by kernel_rfl) o_wks (opensF_cons (sz := 1) rfl (by kernel_rfl) o_cls (opensF_cons (sz := 1) rfl (by kernel_rfl) o_mos (opensF_cons (sz := 1) rfl (by kernel_rfl) o_mvs (opensF_cons (sz := 4) rfl (by kernel_rfl) o_ru (opensF_cons (sz := 1) rfl (by kernel_rfl) o_dns opensF_nil)))))))))))))))) stC Wf (fun x => (⟨x.1, x.2.1, x.2.2.1, x.2.2.2.1, x.2.2.2.2.1, x.2.2.2.2.2.1, x.2.2.2.2.2.2.1, x.2.2.2.2.2.2.2.1, x.2.2.2.2.2.2.2.2.1, x.2.2.2.2.2.2.2.2.2.1, x.2.2.2.2.2.2.2.2.2.2.1, x.2.2.2.2.2.2.2.2.2.2.2.1, x.2.2.2.2.2.2.2.2.2.2.2.2.1, x.2.2.2.2.2.2.2.2.2.2.2.2.2.1, x.2.2.2.2.2.2.2.2.2.2.2.2.2.2.1⟩ : Sta)) (fun x _ => rfl) (fun x h => {
    ids := fun r hr => ⟨(h.2.2.2.2.2.2.2.1.2 r hr).1, (h.2.2.2.2.2.2.2.1.2 r hr).2.2⟩
    ords := fun o ho x hx => (h.2.2.2.2.2.2.1.2 o ho x hx).2
    rmas := fun r hr => (h.2.2.2.2.2.2.2.1.2 r hr).2.1
    units := fun u hu => h.2.2.2.2.2.2.2.2.1.2 u hu
    works := fun u hu => h.2.2.2.2.2.2.2.2.2.1.2 u hu
    claims := fun u hu => h.2.2.2.2.2.2.2.2.2.2.1.2 u hu
    memos := fun u hu => h.2.2.2.2.2.2.2.2.2.2.2.1.2 u hu })
theorem oV_st : OpenV P 36 (fun s : Sta => stA s) Wf := openV_struct Tryz.underlying36 o_st
end Go.Aw.U1

set_option linter.unusedSimpArgs false
set_option linter.unusedVariables false
namespace Go.Proofs.YtnfbiphfhkfnaaaGreat
open Go Go.Aw Go.Aw.U1 Go.ChangeShapes Go.WideShapes Go.ChangeAt Go.RowKit

theorem bounds_own : ownKnob Tryz.prog.godebug = none := by kernel_rfl
theorem bounds_laid : laidOutB Tryz.prog = true := by kernel_rfl

theorem bounds_open : OpenA Tryz.prog [36] (fun x : Sta × Unit => [stA x.1]) (fun x => Wf x.1 ∧ True) :=
  openA_cons (oV_st) (openA_nil)

set_option maxRecDepth 100000 in
theorem bounds_contract (H : Type) (enc : TypeId × Value → H) (W : World) (base : Nat) (args : Array Value) (ds gs : List (DataW H)) (before : List MemPlace)
    (hval : ∀ (j : Nat) t v, Tryz.f4.params[j]? = some t → args[j]? = some v → Value.okWide Tryz.prog W .any base t v)
    (hW : DataW.Whole enc Tryz.prog Tryz.f4.params.toList Rows.stateBoundsSpec.vars false W args.toList ds gs before) :
    Calls Tryz.prog 4 args W fun e W' => ∃ v, e = .returned v ∧ Rows.stateBoundsSpec.post enc Tryz.prog Tryz.f4 false true false false W args v W' :=
  law_contract bounds_laid (by kernel_rfl) (t0 := 4) (by kernel_rfl) Tryz.underlying4 rfl (by rw [Tryz.params4]; exact bounds_open)
    (fun a ha => by
      exact f4 f7 a.1 ha.1)
    (fun H ds h => by
      rw [Tryz.params4] at h
      match ds, h with
      | [d0], _ => rfl) hval hW

set_option maxRecDepth 100000 in
theorem bounds_lifted (os : Os) (started : os.Started) (H : Type) (enc : TypeId × Value → H) :
    ReturnsInHanded {} Tryz.checked os 4 .any (Rows.stateBoundsSpec.pre6 enc Tryz.prog Tryz.f4 Rows.stateBoundsRow.domain false) (Rows.stateBoundsSpec.post enc Tryz.prog Tryz.f4 false true false false) := by
  refine returnsInHanded_of_change (C := Tryz.checked) bounds_own started (by kernel_rfl) Tryz.func4
    (ChangeSpec.witness6 (enc := enc) (C := Tryz.checked) false ⟨#[], #[.agg ⟨[.int .i64 0, .int .i64 0, .int .i64 0, .int .i64 0, .int .i64 0, .slice none 0 0, .slice none 0 0, .slice none 0 0, .slice none 0 0, .slice none 0 0, .slice none 0 0, .slice none 0 0, .slice none 0 0, .slice none 0 0, .slice none 0 0, .slice none 0 0, .slice none 0 0, .slice none 0 0]⟩], []⟩ 8 (by kernel_rfl) (by kernel_rfl) (by kernel_rfl) (by kernel_rfl)) ?_
  intro W base args ds gs before hval hW hcnd _
  exact bounds_contract H enc W base args ds gs before hval hW

theorem bounds_over : Rows.stateBoundsRow.holds Tryz.pinned (OpenSpec.ofChange Rows.stateBoundsSpec) :=
  OpenClaim.holds_of_wide 4 Tryz.f4 rfl rfl rfl rfl rfl rfl rfl ⟨rfl, rfl, rfl, rfl, rfl⟩ rfl rfl rfl rfl rfl (by kernel_rfl) Tryz.func4 (by kernel_rfl)
    (of_decide_eq_true (by kernel_rfl)) (by unfold Func.isWrapper; first | (rw [if_pos (by decide +kernel)]; kernel_rfl) | (rw [if_neg (by decide +kernel)]; exact ⟨rfl, rfl⟩))
    (fun os started H enc _ => bounds_lifted os started H enc)

theorem stateBounds : Rows.StateBoundsSaid := bounds_over
#print axioms stateBounds
end Go.Proofs.YtnfbiphfhkfnaaaGreat

