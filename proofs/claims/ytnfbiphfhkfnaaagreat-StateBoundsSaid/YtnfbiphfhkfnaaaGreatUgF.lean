/-
  The statement StateBounds: of a state that may be, of no line more is authorised, received or paid back than was shipped and paid, without any condition.
-/
import Derived.Test.YtnfbiphfhkfnaaaGreatUgE
import Derived.Shelf.Bits.Mul64
import Derived.Test.YtnfbiphfhkfnaaaGreatShelfP
set_option linter.unusedSimpArgs false
set_option linter.unusedVariables false
set_option linter.unusedSimpArgs false
set_option linter.unusedVariables false
set_option maxHeartbeats 4000000
namespace Go.Aw.U1
open Go Go.Proofs

def clS (s : Sta) (c : Cl) (o : Option Un) : Prop :=
  o.isSome = true ∧ (o.getD unZ).way = 3 ∧ vendF s (o.getD unZ) = c.vendor ∧ (((o.getD unZ).state = 5 ∧ (o.getD unZ).in_ = c.id) ↔ c.state = 1) ∧ (c.state = 2 → doneB (o.getD unZ) = true)
noncomputable instance (s : Sta) (c : Cl) (o : Option Un) : Decidable (clS s c o) := Classical.propDecidable _
def clHead (c : Cl) : Bool := decide (1 ≤ c.vendor) && decide (c.vendor ≤ 999999) && decide (1 ≤ (c.ss.length : Int)) && decide ((c.ss.length : Int) ≤ 20) && decide (rowF c.ss = 0)
noncomputable def clB (s : Sta) (c : Cl) : Bool := clHead c && c.ss.all (fun x => decide (clS s c (findU s x))) && (decide (c.state = 1) || decide (c.state = 2))
theorem unZ_ok : sOk unZ.s := by simp [sOk, unZ]
theorem findU_ok {s : Sta} (h : StaOk s) (x : ByteArray) : sOk ((findU s x).getD unZ).s := by
  cases e : findU s x with
  | none => exact unZ_ok
  | some u => exact h.units.2 _ (List.mem_of_find?_eq_some e)
theorem f73 (s : Sta) (c : Cl) (h : StaOk s) (hc : ssOk c.ss) : Fun P 73 [stA s, clA c] (bV (clB s c)) := by
  refine spec_of hT (f := 73) (fn := Go.Proofs.Tryz.f73) (c := body Go.Proofs.Tryz.f73) (by kernel_rfl) (by kernel_rfl) ?_
  unfold clB
  have hc1 := hc.1
  have hhead : clHead c = true ↔ 1 ≤ c.vendor ∧ c.vendor ≤ 999999 ∧ 1 ≤ (c.ss.length : Int) ∧ (c.ss.length : Int) ≤ 20 ∧ rowF c.ss = 0 := by simp [clHead, and_assoc]
  generalize clHead c = B at hhead
  have hno : ∀ {q : Prop}, q → (q → B = true → False) → B = false := fun q h => by
    cases B with
    | false => rfl
    | true => exact (h q rfl).elim
  conv => whnf
  repeat refine go ?_
  refine ASplit.dec (fun h1 => ?_) (fun h1 => ?_)
  · conv => whnf
    repeat refine ru ?_
    exact AFin.val rfl ⟨by rw [hno h1 (fun h1 e => by have := hhead.1 e; omega)]; rfl, rfl⟩
  conv => whnf
  repeat refine ru ?_
  refine ASplit.dec (fun h2 => ?_) (fun h2 => ?_)
  · conv => whnf
    repeat refine ru ?_
    exact AFin.val rfl ⟨by rw [hno h2 (fun h1 e => by have := hhead.1 e; omega)]; rfl, rfl⟩
  conv => whnf
  repeat refine ru ?_
  refine ASplit.dec (fun h3 => ?_) (fun h3 => ?_)
  · conv => whnf
    repeat refine ru ?_
    exact AFin.val rfl ⟨by rw [hno h3 (fun h1 e => by have := hhead.1 e; omega)]; rfl, rfl⟩
  conv => whnf
  repeat refine ru ?_
  refine ASplit.dec (fun h4 => ?_) (fun h4 => ?_)
  · conv => whnf
    repeat refine ru ?_
    exact AFin.val rfl ⟨by rw [hno h4 (fun h1 e => by have := hhead.1 e; omega)]; rfl, rfl⟩
  conv => whnf
  repeat refine ru ?_
  refine ACall.val (args := [ssV c.ss]) (by kernel_rfl) (f63 c.ss hc) (by (first | rfl | (simp only [renL, AV.ren, List.nil_append, List.cons_append, rens]; try rfl))) rfl ?_
  conv => whnf
  repeat refine ru ?_
  refine ACond.ndec (fun h5 => ?_) (fun h5 => ?_)
  · conv => whnf
    repeat refine ru ?_
    exact AFin.val rfl ⟨by rw [hno h5 (fun h1 e => by have := hhead.1 e; omega)]; rfl, rfl⟩
  have hB : B = true := hhead.2 ⟨by omega, by omega, by omega, by omega, h5⟩
  rw [hB]
  conv => whnf
  repeat refine ru ?_
  refine ALoop.mk (fun n E H => ∃ (i : Nat), n = c.ss.length - i ∧ i ≤ c.ss.length ∧ (∀ k (hk : k < c.ss.length), k < i → decide (clS s c (findU s c.ss[k])) = true) ∧
      E = pad [stA s, clA c, .ptr 0 0, .ptr 1 0, bV false, .any, .any, .any, .any, .any, .any, .any, .any, .any, .any, .any, .any, .any, .any, .any, .any, .any, .any, .any, .any, .any, .any, .any, .any, .any, .any, .any, .any, .any, .any, .any, ssV c.ss, nV c.ss.length, nV i] 97 ∧ H = [.cells 72 (stC s), .cells 68 (clC c)]) (n := c.ss.length) _ _
    ⟨0, rfl, Nat.zero_le _, fun k _ hk => absurd hk (Nat.not_lt_zero _), rfl, rfl⟩ (Conv.fit (by repeat' (first | exact Fit.nil | refine Fit.any ?_ | refine Fit.same ?_))) ?_
  rintro _ _ _ ⟨i, rfl, hi, hI, rfl, rfl⟩
  conv => whnf
  repeat refine go ?_
  refine ACond.dec (fun h1 => ?_) (fun h1 => ?_)
  · have hil : i < c.ss.length := by omega
    have w1 : IntKind.wrap .i64 ((i : Int) + 1) = ((i + 1 : Nat) : Int) := by rw [wrap_i64 _ (by omega) (by omega)]; omega
    have hfo := findU_ok h c.ss[i]
    have hff := f10' s c.ss[i] h
    have hno : ¬ clS s c (findU s c.ss[i]) → c.ss.all (fun x => decide (clS s c (findU s x))) = false := fun e => all_get hil (decide_eq_false e)
    have hyes : clS s c (findU s c.ss[i]) → ∀ k (hk : k < c.ss.length), k < i + 1 → decide (clS s c (findU s c.ss[k])) = true := fun hc k hk hki => by
      rcases Nat.lt_or_ge k i with g | g
      · exact hI k hk g
      · obtain rfl : k = i := by omega
        exact decide_eq_true hc
    conv => whnf
    repeat (first | refine go ?_ | ((first | refine AReq.mk (by omega) ?_ | refine AIdx.flat (enc := sC) sC_len (xs := c.ss) (i := i) hil ?_); conv => whnf))
    generalize c.ss.all (fun x => decide (clS s c (findU s x))) = A at hno
    generalize c.ss[i] = x at hfo hff hno hyes
    refine ACall.val (args := [stA s, sV x]) (by kernel_rfl) hff (by (first | rfl | (simp only [renL, AV.ren, List.nil_append, List.cons_append, rens]; try rfl))) (by (first | rfl | (simp only [renL, AV.ren, List.nil_append, List.cons_append, rens]; try rfl))) ?_
    generalize findU s x = o at hfo hno hyes
    unfold clS at hno
    have hyes' : (o.isSome = true ∧ (o.getD unZ).way = 3 ∧ vendF s (o.getD unZ) = c.vendor ∧ (((o.getD unZ).state = 5 ∧ (o.getD unZ).in_ = c.id) ↔ c.state = 1) ∧ (c.state = 2 → doneB (o.getD unZ) = true)) → ∀ k (hk : k < c.ss.length), k < i + 1 → decide (clS s c (findU s c.ss[k])) = true := hyes
    clear hyes
    conv => whnf
    repeat refine go ?_
    cases ho : o.isSome with
    | false =>
      rw [ho] at hno
      refine AW.plan hm (.one 0 (.one 1 (.one 2 (.one 3 (.one 4 (.one 5 (.one 6 (.one 7 (.one 11 (.one 8 (.one 9 (.fork 10 (.one 12 .nil) 12 (.one 10 .nil) (.one 13 (.one 14 .nil)))))))))))))) (by kernel_rfl) ?_
      conv => whnf
      repeat refine ru ?_
      apply AF.meet
      · conv => whnf
        repeat refine ru ?_
        exact ⟨rfl, rfl, rfl⟩
      · conv => whnf
        repeat refine ru ?_
        exact ⟨rfl, rfl, rfl⟩
      conv => whnf
      repeat refine ru ?_
      refine AOut.stay ?_
      conv => whnf
      repeat refine ru ?_
      exact AFin.val rfl ⟨by rw [hno (by simp)]; rfl, rfl⟩
    | true =>
    rw [ho] at hno hyes'
    generalize o.getD unZ = u at hfo hno hyes'
    refine AW.plan hm (.one 0 (.one 1 (.one 2 (.one 3 (.one 4 (.one 5 (.one 6 (.one 7 (.one 11 (.one 8 (.one 9 (.fork 10 (.one 12 .nil) 12 (.one 10 .nil) (.one 13 (.one 14 .nil)))))))))))))) (by kernel_rfl) ?_
    conv => whnf
    repeat refine ru ?_
    refine ASplit.ndec (fun h6 => ?_) (fun h6 => ?_)
    · conv => whnf
      repeat refine ru ?_
      apply AF.meet
      · conv => whnf
        repeat refine ru ?_
        exact ⟨rfl, rfl, rfl⟩
      · conv => whnf
        repeat refine ru ?_
        exact ⟨rfl, rfl, rfl⟩
      conv => whnf
      repeat refine ru ?_
      refine AOut.stay ?_
      conv => whnf
      repeat refine ru ?_
      exact AFin.val rfl ⟨by rw [hno (fun hn => h6 hn.2.1)]; rfl, rfl⟩
    conv => whnf
    repeat refine ru ?_
    apply AF.meet
    · conv => whnf
      repeat refine ru ?_
      refine ACall.val (args := [stA s, unA u]) (by kernel_rfl) (f138 s u h) (by (first | rfl | (simp only [renL, AV.ren, List.nil_append, List.cons_append, rens]; try rfl))) rfl ?_
      conv => whnf
      repeat refine ru ?_
      exact ⟨rfl, rfl, rfl⟩
    · conv => whnf
      repeat refine ru ?_
      refine ACall.val (args := [stA s, unA u]) (by kernel_rfl) (f138 s u h) (by (first | rfl | (simp only [renL, AV.ren, List.nil_append, List.cons_append, rens]; try rfl))) rfl ?_
      conv => whnf
      repeat refine ru ?_
      exact ⟨rfl, rfl, rfl⟩
    conv => whnf
    repeat refine ru ?_
    refine ACond.ndec (fun h7 => ?_) (fun h7 => ?_)
    · conv => whnf
      repeat refine ru ?_
      refine AOut.stay ?_
      conv => whnf
      repeat refine ru ?_
      exact AFin.val rfl ⟨by rw [hno (fun hn => h7 hn.2.2.1)]; rfl, rfl⟩
    conv => whnf
    repeat' (first | refine go ?_ | ((first | refine ASplit.yes rfl ?_ | refine ASplit.no rfl ?_ | refine ACond.yes rfl ?_ | refine ACond.no rfl ?_ | refine ASplit.dec (fun _ => ?_) (fun _ => ?_) | refine ASplit.ndec (fun _ => ?_) (fun _ => ?_) | refine ACond.dec (fun _ => ?_) (fun _ => ?_) | refine ACond.ndec (fun _ => ?_) (fun _ => ?_) | refine ACall.val (args := [unA u]) (by kernel_rfl) (f139 u hfo) (by (first | rfl | (simp only [renL, AV.ren, List.nil_append, List.cons_append, rens]; try rfl))) rfl ?_ | (refine ASplit.mk (fun _ => ?_) (fun _ => ?_)) | (refine ACond.mk (fun _ => ?_) (fun _ => ?_))) <;> conv => whnf))
    all_goals simp only [Bool.not_eq_true', Bool.not_eq_false', beq_eq_false_iff_ne, ne_eq, beq_iff_eq, decide_eq_true_eq, decide_eq_false_iff_not, Bool.and_eq_true, Bool.and_false, Bool.false_and, Bool.true_and, Bool.and_true, eq_self, not_true_eq_false, decide_eq_decide, true_iff, false_iff, iff_true, iff_false, Classical.not_not, Bool.true_eq, Bool.false_eq] at *
    all_goals first
      | (refine AOut.stay ?_
         conv => whnf
         repeat ((first | refine AO.cons hT ?_ | refine AO.nil ?_ | refine AW.seq ?_ | refine AW.region ?_ | refine AW.ret ?_); conv => whnf)
         refine AFin.val rfl ⟨?_, rfl⟩
         rw [hno (by rintro ⟨-, -, -, e1, e2⟩; first | omega | simp_all)]; rfl)
      | (rw [w1]
         exact AHead.mk (c.ss.length - (i + 1)) _ _ (by omega) ⟨i + 1, rfl, by omega, hyes' ⟨trivial, by omega, by omega, by omega, by first | (intro; omega) | (intro; assumption)⟩, rfl, rfl⟩ (Conv.ren [0, 1] _ (by simp) (by simp) (by simp only [pad, renL, AV.ren, rens]; repeat' (first | exact Fit.nil | refine Fit.any ?_ | refine Fit.same ?_)) (.same (by simp only [ABlk.ren, stC_ren]; rfl) (.same (by simp only [ABlk.ren, clC_ren]; rfl) .nil))))
      | skip
  · rw [all_of (fun k hk => hI k hk (by omega))]
    conv => whnf
    repeat refine go ?_
    refine AOut.stay ?_
    conv => whnf
    repeat' (first | refine go ?_ | ((first | refine ASplit.yes rfl ?_ | refine ASplit.no rfl ?_ | refine ACond.yes rfl ?_ | refine ACond.no rfl ?_ | refine ASplit.dec (fun _ => ?_) (fun _ => ?_) | refine ASplit.ndec (fun _ => ?_) (fun _ => ?_) | refine ACond.dec (fun _ => ?_) (fun _ => ?_) | refine ACond.ndec (fun _ => ?_) (fun _ => ?_) | (refine ASplit.mk (fun _ => ?_) (fun _ => ?_))) <;> conv => whnf))
    all_goals refine AFin.val rfl ⟨congrArg bV ?_, rfl⟩
    all_goals simp_all
end Go.Aw.U1

set_option linter.unusedSimpArgs false
set_option linter.unusedVariables false
set_option maxHeartbeats 4000000
namespace Go.Aw.U1
open Go Go.Proofs

def clM (o : Option (ByteArray → Bool)) (k : (ByteArray → Bool) → Option Int) : Option Int :=
  match o with
  | none => none
  | some g => k g
noncomputable def clT (s : Sta) : List Cl → (ByteArray → Bool) → Int → Option Int
  | [], _, n => some n
  | c :: l, g, n => if clB s c = true then clM (twS c.ss g) (fun g => clT s l g (if c.state = 1 then n + c.ss.length else n)) else none
noncomputable def claimedB (s : Sta) : Bool := eqO (clT s s.claims (fun _ => false) 0) (allT 5 s.units 0)
theorem f22 (s : Sta) (h : StaOk s) : Fun P 22 [stA s] (bV (claimedB s)) := by
  refine spec_of hT (f := 22) (fn := Go.Proofs.Tryz.f22) (c := body Go.Proofs.Tryz.f22) (by kernel_rfl) (by kernel_rfl) ?_
  unfold claimedB
  have hc1 := h.claims.1
  have hall := f72 s 5 h
  generalize allT 5 s.units 0 = A at hall
  generalize hR : clT s s.claims (fun _ => false) 0 = R
  conv => whnf
  repeat refine go ?_
  refine AOp.makeMap ?_
  conv => whnf
  repeat refine go ?_
  refine ALoop.mk (fun n E H => ∃ (i : Nat) (m : Int) (g : ByteArray → Bool) (L : List (ByteArray × Bool)) (bs : List Nat) (clk : Nat), n = s.claims.length - i ∧ i ≤ s.claims.length ∧ 0 ≤ m ∧ m ≤ 20 * i ∧ MapIs sOk L false g ∧ clT s (s.claims.drop i) g m = R ∧
      E = pad [stA s, .ptr 0 0, bV false, .mp 1, nV m, .any, .any, .any, .any, .any, .any, .any, clsV s.claims, nV s.claims.length, nV i] 48 ∧ H = [.cells 72 (stC s), .map (em sV bV L) bs clk]) (n := s.claims.length) _ _
    ⟨0, 0, _, [], [], 0, rfl, Nat.zero_le _, by omega, by omega, MapIs.nil, hR, rfl, rfl⟩ (Conv.fit (by repeat' (first | exact Fit.nil | refine Fit.any ?_ | refine Fit.same ?_))) ?_
  rintro _ _ _ ⟨i, m, g, L, bs, clk, rfl, hi, hm0, hm1, hM, hI, rfl, rfl⟩
  conv => whnf
  repeat refine go ?_
  refine ACond.dec (fun h1 => ?_) (fun h1 => ?_)
  · have hil : i < s.claims.length := by omega
    have w1 : IntKind.wrap .i64 ((i : Int) + 1) = ((i + 1 : Nat) : Int) := by rw [wrap_i64 _ (by omega) (by omega)]; omega
    have hss := h.claims.2 _ (List.getElem_mem hil)
    rw [List.drop_eq_getElem_cons hil, clT] at hI
    conv => whnf
    repeat (first | refine go ?_ | ((first | refine AReq.mk (by omega) ?_ | refine AIdx.flat (enc := clC) clC_len (xs := s.claims) (i := i) hil ?_); conv => whnf))
    generalize s.claims[i] = c at hI hss
    refine ACall.val (args := [stA s, clA c]) (by kernel_rfl) (f73 s c h hss) (by (first | rfl | (simp only [renL, AV.ren, List.nil_append, List.cons_append, rens]; try rfl))) rfl ?_
    cases hcb : clB s c with
    | false =>
      rw [hcb, if_neg (by decide)] at hI
      conv => whnf
      repeat refine ru ?_
      refine AOut.stay ?_
      conv => whnf
      repeat refine ru ?_
      exact AFin.val rfl ⟨by rw [← hI]; rfl, rfl⟩
    | true =>
    rw [hcb, if_pos rfl] at hI
    have hlen : (c.ss.length : Int) ≤ 20 := by
      simp only [clB, clHead, Bool.and_eq_true, decide_eq_true_eq] at hcb
      omega
    conv => whnf
    repeat refine ru ?_
    refine ALoop.mk (fun n E H => ∃ (k : Nat) (g : ByteArray → Bool) (L : List (ByteArray × Bool)) (bs : List Nat) (clk : Nat), n = c.ss.length - k ∧ k ≤ c.ss.length ∧ MapIs sOk L false g ∧ clM (twS (c.ss.drop k) g) (fun g => clT s (s.claims.drop (i + 1)) g (if c.state = 1 then m + c.ss.length else m)) = R ∧
        E = pad [stA s, .ptr 0 0, bV false, .mp 1, nV m, .any, .ptr 2 0, .any, .any, .any, .any, .any, clsV s.claims, nV s.claims.length, nV i, .any, .any, .any, .any, .any, .any, .any, .any, ssV c.ss, nV c.ss.length, nV k] 48 ∧ H = [.cells 72 (stC s), .map (em sV bV L) bs clk, .cells 68 (clC c)]) (n := c.ss.length) _ _
      ⟨0, g, L, bs, clk, rfl, Nat.zero_le _, hM, hI, rfl, rfl⟩ (Conv.fit (by repeat' (first | exact Fit.nil | refine Fit.any ?_ | refine Fit.same ?_))) ?_
    rintro _ _ _ ⟨k, g, L, bs, clk, rfl, hk, hM, hI, rfl, rfl⟩
    conv => whnf
    repeat refine go ?_
    refine ACond.dec (fun h2 => ?_) (fun h2 => ?_)
    · have hkl : k < c.ss.length := by omega
      have w2 : IntKind.wrap .i64 ((k : Int) + 1) = ((k + 1 : Nat) : Int) := by rw [wrap_i64 _ (by omega) (by omega)]; omega
      rw [List.drop_eq_getElem_cons hkl, twS] at hI
      conv => whnf
      repeat refine go ?_
      refine AReq.mk (by omega) ?_
      conv => whnf
      repeat refine go ?_
      refine AIdx.flat (enc := sC) sC_len (xs := c.ss) (i := k) hkl ?_
      conv => whnf
      repeat refine go ?_
      refine AOp.getM 1 c.ss[k] hT sK und126 hne4 (eb := bV) rfl hM (hss.2 _ (List.getElem_mem hkl)) rfl rfl rfl ?_
      conv => whnf
      repeat refine go ?_
      refine ACond.mk (fun h4 => ?_) (fun h4 => ?_)
      · rw [if_pos h4] at hI
        conv => whnf
        repeat refine go ?_
        refine AOut.stay ?_
        conv => whnf
        repeat refine go ?_
        refine AOut.stay ?_
        conv => whnf
        repeat refine go ?_
        exact AFin.val rfl ⟨by rw [← hI]; rfl, rfl⟩
      · rw [if_neg (by rw [h4]; decide)] at hI
        conv => whnf
        repeat refine go ?_
        refine AOp.putM 1 c.ss[k] true sK und126 hM (hss.2 _ (List.getElem_mem hkl)) rfl rfl rfl rfl ?_
        intro L' bs' clk' hM'
        conv => whnf
        repeat refine go ?_
        rw [w2]
        exact AHead.mk (c.ss.length - (k + 1)) _ _ (by omega) ⟨k + 1, _, L', bs', clk', rfl, by omega, hM', hI, rfl, rfl⟩ (Conv.fit (by repeat' (first | exact Fit.nil | refine Fit.any ?_ | refine Fit.same ?_)))
    · rw [List.drop_of_length_le (by omega)] at hI
      have w3 : IntKind.wrap .i64 (m + (c.ss.length : Int)) = m + (c.ss.length : Int) := by rw [wrap_i64 _ (by omega) (by omega)]
      conv => whnf
      repeat refine go ?_
      refine AOut.stay ?_
      conv => whnf
      repeat refine go ?_
      refine ACond.dec (fun h5 => ?_) (fun h5 => ?_)
      · have hI2 : clT s (s.claims.drop (i + 1)) g (m + c.ss.length) = R := by rw [← hI]; simp [twS, clM, h5]
        conv => whnf
        repeat refine go ?_
        rw [w1, w3]
        exact AHead.mk (s.claims.length - (i + 1)) _ _ (by omega) ⟨i + 1, _, g, L, bs, clk, rfl, by omega, by omega, by omega, hM, hI2, rfl, rfl⟩ (Conv.ren [0, 1] _ (by simp) (by simp) (by simp only [pad, renL, AV.ren, rens]; repeat' (first | exact Fit.nil | refine Fit.any ?_ | refine Fit.same ?_)) (.same (by simp only [ABlk.ren, stC_ren]; rfl) (.same (by simp only [ABlk.ren, ren_emS]; rfl) .nil)))
      · have hI2 : clT s (s.claims.drop (i + 1)) g m = R := by rw [← hI]; simp [twS, clM, h5]
        conv => whnf
        repeat refine go ?_
        rw [w1]
        exact AHead.mk (s.claims.length - (i + 1)) _ _ (by omega) ⟨i + 1, _, g, L, bs, clk, rfl, by omega, by omega, by omega, hM, hI2, rfl, rfl⟩ (Conv.ren [0, 1] _ (by simp) (by simp) (by simp only [pad, renL, AV.ren, rens]; repeat' (first | exact Fit.nil | refine Fit.any ?_ | refine Fit.same ?_)) (.same (by simp only [ABlk.ren, stC_ren]; rfl) (.same (by simp only [ABlk.ren, ren_emS]; rfl) .nil)))
  · rw [List.drop_of_length_le (by omega)] at hI
    conv => whnf
    repeat refine go ?_
    refine AOut.stay ?_
    conv => whnf
    repeat refine go ?_
    refine ACall.val (args := [stA s, nV 5]) (by kernel_rfl) hall (by (first | rfl | (simp only [renL, AV.ren, List.nil_append, List.cons_append, rens]; try rfl))) rfl ?_
    conv => whnf
    repeat refine go ?_
    exact AFin.val rfl ⟨by rw [← hI]; rfl, rfl⟩
end Go.Aw.U1

set_option linter.unusedSimpArgs false
set_option linter.unusedVariables false
set_option maxHeartbeats 4000000
namespace Go.Aw.U1
open Go Go.Proofs

theorem wrap_u64 (n : Int) (h1 : 0 ≤ n) (h2 : n ≤ 18446744073709551615) : IntKind.wrap .u64 n = n := by
  simp only [IntKind.wrap, IntKind.bits, IntKind.signed, Bool.false_and]
  simp only [show ((2 : Int) ^ 64) = 18446744073709551616 from rfl]
  simp
  omega
abbrev uV (n : Nat) : AV := .v (.int .u64 (n : Int))
theorem f242 (x y : Nat) (hx : x < 18446744073709551616) (hy : y < 18446744073709551616) : Fun P 242 [uV x, uV y] (.tup [uV (x * y / 18446744073709551616), uV (x * y % 18446744073709551616)]) := by
  intro C m I w ys hs hr
  simp only [RepL, Rep] at hr
  obtain ⟨y1, zs, rfl, rfl, y2, z2, rfl, rfl, rfl⟩ := hr
  have := Any.bits_Mul64 Tryz.mul64 x y hx hy w
  change Calls Tryz.prog 242 _ _ _ at this
  refine this.mono fun e w' ⟨he, hw⟩ => ?_
  subst hw
  exact ⟨_, _, _, m, I, he, ⟨rfl, rfl⟩, by simp only [Rep, RepL]; exact ⟨_, rfl, _, _, rfl, rfl, _, _, rfl, rfl, rfl⟩, hs, .refl _ _ _⟩
def wideA (n : Nat) : AV := .agg [uV (n / 18446744073709551616), uV (n % 18446744073709551616)]
theorem f234 (x y : Nat) (hx : x < 18446744073709551616) (hy : y < 18446744073709551616) : Fun P 234 [uV x, uV y] (wideA (x * y)) := by
  refine spec_of hT (f := 234) (fn := Go.Proofs.Tryz.f234) (c := body Go.Proofs.Tryz.f234) (by kernel_rfl) (by kernel_rfl) ?_
  conv => whnf
  repeat (first | refine go ?_ | (refine ACall.val (args := [uV x, uV y]) (by kernel_rfl) (f242 x y hx hy) (by (first | rfl | (simp only [renL, AV.ren, List.nil_append, List.cons_append, rens]; try rfl))) rfl ?_; conv => whnf))
  exact AFin.val rfl ⟨rfl, rfl⟩
theorem f235 (a b c d : Int) (h : c ≤ a) (hab : a = c → b ≤ d) (hh : a = c) : Fun P 235 [.agg [.v (.int .u64 a), .v (.int .u64 b)], .agg [.v (.int .u64 c), .v (.int .u64 d)]] (bV false) := by
  refine spec_of hT (f := 235) (fn := Go.Proofs.Tryz.f235) (c := body Go.Proofs.Tryz.f235) (by kernel_rfl) (by kernel_rfl) ?_
  conv => whnf
  repeat' (first | refine go ?_ | ((first | refine ASplit.yes rfl ?_ | refine ASplit.no rfl ?_ | refine ACond.yes rfl ?_ | refine ACond.no rfl ?_ | refine ASplit.dec (fun _ => ?_) (fun _ => ?_) | refine ASplit.ndec (fun _ => ?_) (fun _ => ?_) | refine ACond.dec (fun _ => ?_) (fun _ => ?_) | refine ACond.ndec (fun _ => ?_) (fun _ => ?_)) <;> conv => whnf))
  all_goals first | omega | (refine AFin.val rfl ⟨congrArg bV ?_, rfl⟩)
  all_goals first | rfl | (exact decide_eq_false (by omega)) | omega
theorem f236 (lo y : Nat) (hlo : lo < 18446744073709551616) (hy0 : 0 < y) (hy : y < 18446744073709551616) : Fun P 236 [.v (.int .u64 0), uV lo, uV y] (.tup [uV (lo / y), uV (lo % y)]) := by
  refine spec_of hT (f := 236) (fn := Go.Proofs.Tryz.f236) (c := body Go.Proofs.Tryz.f236) (by kernel_rfl) (by kernel_rfl) ?_
  conv => whnf
  repeat (first | refine go ?_ | (refine AW.plan (id := 6) hm (.one 0 (.one 1 (.one 2 (.one 3 (.one 4 (.one 5 (.one 6 (.one 7 .nil)))))))) (by kernel_rfl) ?_; conv => whnf))
  refine ACond.no (decide_eq_false (by omega)) ?_
  conv => whnf
  repeat (first | refine go ?_ | (refine AW.plan (id := 6) hm (.one 0 (.one 1 (.one 2 (.one 3 (.one 4 (.one 5 (.one 6 (.one 7 .nil)))))))) (by kernel_rfl) ?_; conv => whnf))
  refine ACond.no (decide_eq_false (by omega)) ?_
  conv => whnf
  repeat (first | refine go ?_ | (refine AW.plan (id := 6) hm (.one 0 (.one 1 (.one 2 (.one 3 (.one 4 (.one 5 (.one 6 (.one 7 .nil)))))))) (by kernel_rfl) ?_; conv => whnf))
  refine ACond.yes rfl ?_
  conv => whnf
  repeat (first | refine go ?_ | ((first | refine AW.plan (id := 6) hm (.one 0 (.one 1 (.one 2 (.one 3 (.one 4 (.one 5 (.one 6 (.one 7 .nil)))))))) (by kernel_rfl) ?_ | refine AReq.mk (by omega) ?_); conv => whnf))
  refine AFin.val rfl ⟨?_, rfl⟩
  have h1 : IntKind.wrap .u64 ((lo : Int).tdiv y) = ((lo / y : Nat) : Int) := by
    rw [Int.tdiv_eq_ediv_of_nonneg (by omega)]
    have : (lo : Int) / y = ((lo / y : Nat) : Int) := by simp
    rw [this]
    have hle : lo / y ≤ lo := Nat.div_le_self _ _
    generalize lo / y = q at hle ⊢
    exact wrap_u64 _ (by omega) (by omega)
  have h2 : (lo : Int).tmod y = ((lo % y : Nat) : Int) := by
    rw [Int.tmod_eq_emod_of_nonneg (by omega)]; simp
  rw [h1, h2]
/-! ### amounts that are divided -/
structure DivOk (a b c : Nat) : Prop where
  ha : a ≤ 1000000000000
  hc0 : 0 < c
  hc : c ≤ 10000
  hb : b ≤ c
theorem DivOk.ab {a b c : Nat} (h : DivOk a b c) : a * b ≤ 10000000000000000 ∧ a * b ≤ c * 1000000000000 ∧ a * b / c ≤ 1000000000000 ∧ a * b % c < c := by
  have h1 : a * b ≤ 1000000000000 * c := Nat.mul_le_mul h.ha h.hb
  have h2 := h.hc
  have h3 := h.hc0
  refine ⟨by omega, by omega, ?_, Nat.mod_lt _ h.hc0⟩
  rw [Nat.div_le_iff_le_mul_add_pred h.hc0]
  have : c * 1000000000000 = 1000000000000 * c := Nat.mul_comm _ _
  omega
theorem f224 (a b c : Nat) (h : DivOk a b c) : Fun P 224 [nV a, nV b, nV c] (.tup [nV (a * b / c : Nat), nV (a * b % c : Nat), nV 0]) := by
  refine spec_of hT (f := 224) (fn := Go.Proofs.Tryz.f224) (c := body Go.Proofs.Tryz.f224) (by kernel_rfl) (by kernel_rfl) ?_
  obtain ⟨hab, hac, hq, hr⟩ := h.ab
  have h1 := h.ha
  have h2 := h.hc0
  have h3 := h.hc
  have h4 := h.hb
  have i1 : inB (a : Int) = true := inB_iff.2 ⟨by omega, by omega⟩
  have i2 : inB (b : Int) = true := inB_iff.2 ⟨by omega, by omega⟩
  have i3 : inB (c : Int) = true := inB_iff.2 ⟨by omega, by omega⟩
  have w1 : IntKind.wrap .u64 (a : Int) = a := wrap_u64 _ (by omega) (by omega)
  have w2 : IntKind.wrap .u64 (b : Int) = b := wrap_u64 _ (by omega) (by omega)
  have w3 : IntKind.wrap .u64 (c : Int) = c := wrap_u64 _ (by omega) (by omega)
  conv => whnf
  repeat refine go ?_
  refine ACond.no (decide_eq_false (by omega)) ?_
  conv => whnf
  repeat refine go ?_
  refine ASplit.no (decide_eq_false (by omega)) ?_
  conv => whnf
  repeat refine go ?_
  refine ASplit.no (decide_eq_false (by omega)) ?_
  conv => whnf
  repeat refine go ?_
  refine ACall.val (by kernel_rfl) (f159 a) rfl rfl ?_
  rw [i1]
  conv => whnf
  repeat refine ru ?_
  refine ACall.val (by kernel_rfl) (f159 b) rfl rfl ?_
  rw [i2]
  conv => whnf
  repeat refine ru ?_
  refine ACall.val (by kernel_rfl) (f159 c) rfl rfl ?_
  rw [i3]
  conv => whnf
  repeat refine ru ?_
  rw [w1, w2]
  refine ACall.val (args := [uV a, uV b]) (by kernel_rfl) (f234 a b (by omega) (by omega)) (by (first | rfl | (simp only [renL, AV.ren, List.nil_append, List.cons_append, rens]; try rfl))) rfl ?_
  conv => whnf
  repeat refine go ?_
  refine AW.conv _ _ (Conv.freeze 0 rfl) ?_
  refine AW.plan hm (.one 1 (.imm 0 (.one 2 (.one 3 (.one 4 (.one 5 (.one 6 (.one 8 (.fork 7 (.one 9 .nil) 9 (.one 7 .nil) (.one 10 (.one 11 .nil))))))))))) (by kernel_rfl) ?_
  conv => whnf
  repeat refine go ?_
  rw [w3]
  refine ACall.val (args := [uV c, uV 1000000000001]) (by kernel_rfl) (f234 c 1000000000001 (by omega) (by omega)) (by (first | rfl | (simp only [renL, AV.ren, List.nil_append, List.cons_append, rens]; try rfl))) rfl ?_
  have e1 : a * b / 18446744073709551616 = 0 := Nat.div_eq_of_lt (by omega)
  have e2 : a * b % 18446744073709551616 = a * b := Nat.mod_eq_of_lt (by omega)
  have e3 : c * 1000000000001 / 18446744073709551616 = 0 := Nat.div_eq_of_lt (by omega)
  have e4 : c * 1000000000001 % 18446744073709551616 = c * 1000000000001 := Nat.mod_eq_of_lt (by omega)
  conv => whnf
  repeat refine ru ?_
  rw [e1, e2, e3, e4]
  refine ACall.val (args := [.agg [.v (.int .u64 0), uV (a * b)], .agg [.v (.int .u64 0), uV (c * 1000000000001)]]) (by kernel_rfl) (f235 0 (a * b : Nat) 0 (c * 1000000000001 : Nat) (Int.le_refl _) (fun _ => by omega) rfl) (by (first | rfl | (simp only [renL, AV.ren, List.nil_append, List.cons_append, rens]; try rfl))) rfl ?_
  conv => whnf
  repeat refine ru ?_
  apply AF.meet
  · conv => whnf
    repeat refine ru ?_
    exact ⟨rfl, rfl, rfl⟩
  · conv => whnf
    repeat refine ru ?_
    exact ⟨rfl, rfl, rfl⟩
  conv => whnf
  repeat refine ru ?_
  rw [w3]
  refine ACond.no (decide_eq_false (by omega)) ?_
  conv => whnf
  repeat refine ru ?_
  rw [w3]
  refine ACall.val (args := [.v (.int .u64 0), uV (a * b), uV c]) (by kernel_rfl) (f236 (a * b) c (by omega) h2 (by omega)) (by (first | rfl | (simp only [renL, AV.ren, List.nil_append, List.cons_append, rens]; try rfl))) rfl ?_
  have w4 : IntKind.wrap .i64 ((a * b / c : Nat) : Int) = ((a * b / c : Nat) : Int) := by
    generalize a * b / c = q at hq ⊢
    exact wrap_i64 _ (by omega) (by omega)
  have w5 : IntKind.wrap .i64 ((a * b % c : Nat) : Int) = ((a * b % c : Nat) : Int) := by
    generalize a * b % c = q at hr ⊢
    exact wrap_i64 _ (by omega) (by omega)
  conv => whnf
  repeat refine ru ?_
  rw [w4, w5]
  exact AFin.val rfl ⟨rfl, rfl⟩
end Go.Aw.U1

set_option linter.unusedSimpArgs false
set_option linter.unusedVariables false
set_option maxHeartbeats 4000000
namespace Go.Aw.U1
open Go Go.Proofs

theorem f219 (n : Int) (h : inB n = true) : Fun P 219 [nV n] (numE (n, 0)) := by
  refine spec_of hT (f := 219) (fn := Go.Proofs.Tryz.f219) (c := body Go.Proofs.Tryz.f219) (by kernel_rfl) (by kernel_rfl) ?_
  have hf := f159 n
  rw [h] at hf
  conv => whnf
  repeat (first | refine ru ?_ | (refine ACall.val (args := [nV n]) (by kernel_rfl) hf (by (first | rfl | (simp only [renL, AV.ren, List.nil_append, List.cons_append, rens]; try rfl))) rfl ?_; conv => whnf))
  exact AFin.val rfl ⟨rfl, rfl⟩
theorem f214 (a b c : Nat) (h : DivOk a b c) : Fun P 214 [nV a, nV b, nV c] (numE ((a * b / c : Nat), 0)) := by
  refine spec_of hT (f := 214) (fn := Go.Proofs.Tryz.f214) (c := body Go.Proofs.Tryz.f214) (by kernel_rfl) (by kernel_rfl) ?_
  have hq := h.ab.2.2.1
  have hd := f224 a b c h
  generalize a * b / c = q at hq hd ⊢
  conv => whnf
  repeat (first | refine ru ?_ | ((first | refine ACall.val (args := [nV a, nV b, nV c]) (by kernel_rfl) hd (by (first | rfl | (simp only [renL, AV.ren, List.nil_append, List.cons_append, rens]; try rfl))) rfl ?_ | refine ACall.val (args := [nV q]) (by kernel_rfl) (f219 q (inB_iff.2 ⟨by omega, by omega⟩)) (by (first | rfl | (simp only [renL, AV.ren, List.nil_append, List.cons_append, rens]; try rfl))) rfl ?_); conv => whnf))
  exact AFin.val rfl ⟨rfl, rfl⟩
theorem f215 (a b c : Nat) (h : DivOk a b c) : Fun P 215 [nV a, nV b, nV c] (numE ((a * b % c : Nat), 0)) := by
  refine spec_of hT (f := 215) (fn := Go.Proofs.Tryz.f215) (c := body Go.Proofs.Tryz.f215) (by kernel_rfl) (by kernel_rfl) ?_
  have hq := h.ab.2.2.1
  have hd := f224 a b c h
  generalize a * b / c = q at hq hd ⊢
  conv => whnf
  repeat (first | refine ru ?_ | ((first | refine ACall.val (args := [nV a, nV b, nV c]) (by kernel_rfl) hd (by (first | rfl | (simp only [renL, AV.ren, List.nil_append, List.cons_append, rens]; try rfl))) rfl ?_ | refine ACall.val (args := [nV q]) (by kernel_rfl) (f219 q (inB_iff.2 ⟨by omega, by omega⟩)) (by (first | rfl | (simp only [renL, AV.ren, List.nil_append, List.cons_append, rens]; try rfl))) rfl ?_); conv => whnf))
  exact AFin.val rfl ⟨rfl, rfl⟩
def halfN (a b c : Nat) : Nat := if c - a * b % c ≤ a * b % c then a * b / c + 1 else a * b / c
theorem f218 (a b : Nat) (h : DivOk a b 10000) : Fun P 218 [nV a, nV b, nV 10000] (numE ((halfN a b 10000 : Nat), 0)) := by
  refine spec_of hT (f := 218) (fn := Go.Proofs.Tryz.f218) (c := body Go.Proofs.Tryz.f218) (by kernel_rfl) (by kernel_rfl) ?_
  have hq := h.ab.2.2.1
  have hr := h.ab.2.2.2
  have hd := f224 a b 10000 h
  have hq1 : (10000 - a * b % 10000 ≤ a * b % 10000) → a * b / 10000 + 1 ≤ 1000000000000 := by
    intro hge
    have hab := h.ab.2.1
    have h0 := Nat.div_add_mod (a * b) 10000
    omega
  unfold halfN
  generalize a * b / 10000 = q at hq hq1 hd ⊢
  generalize a * b % 10000 = r at hr hq1 hd ⊢
  have w1 : IntKind.wrap .i64 ((10000 : Int) - (r : Int)) = 10000 - (r : Int) := wrap_i64 _ (by omega) (by omega)
  conv => whnf
  repeat (first | refine ru ?_ | (refine ACall.val (args := [nV a, nV b, nV 10000]) (by kernel_rfl) hd (by (first | rfl | (simp only [renL, AV.ren, List.nil_append, List.cons_append, rens]; try rfl))) rfl ?_; conv => whnf))
  rw [w1]
  by_cases hc : 10000 - r ≤ r
  · rw [if_pos hc]
    have w2 : IntKind.wrap .i64 ((q : Int) + 1) = ((q + 1 : Nat) : Int) := by rw [wrap_i64 _ (by omega) (by omega)]; omega
    refine ACond.yes (decide_eq_true (by omega)) ?_
    conv => whnf
    repeat (first | refine ru ?_ | (refine ACall.val (args := [nV a, nV b, nV 10000]) (by kernel_rfl) hd (by (first | rfl | (simp only [renL, AV.ren, List.nil_append, List.cons_append, rens]; try rfl))) rfl ?_; conv => whnf))
    rw [w2]
    refine ACall.val (args := [nV (q + 1 : Nat)]) (by kernel_rfl) (f219 (q + 1 : Nat) (inB_iff.2 ⟨by omega, by have := hq1 hc; omega⟩)) (by (first | rfl | (simp only [renL, AV.ren, List.nil_append, List.cons_append, rens]; try rfl))) rfl ?_
    conv => whnf
    repeat (first | refine ru ?_ | (refine ACall.val (args := [nV a, nV b, nV 10000]) (by kernel_rfl) hd (by (first | rfl | (simp only [renL, AV.ren, List.nil_append, List.cons_append, rens]; try rfl))) rfl ?_; conv => whnf))
    exact AFin.val rfl ⟨rfl, rfl⟩
  · rw [if_neg hc]
    refine ACond.no (decide_eq_false (by omega)) ?_
    conv => whnf
    repeat (first | refine ru ?_ | (refine ACall.val (args := [nV a, nV b, nV 10000]) (by kernel_rfl) hd (by (first | rfl | (simp only [renL, AV.ren, List.nil_append, List.cons_append, rens]; try rfl))) rfl ?_; conv => whnf))
    refine ACall.val (args := [nV q]) (by kernel_rfl) (f219 q (inB_iff.2 ⟨by omega, by omega⟩)) (by (first | rfl | (simp only [renL, AV.ren, List.nil_append, List.cons_append, rens]; try rfl))) rfl ?_
    conv => whnf
    repeat (first | refine ru ?_ | (refine ACall.val (args := [nV a, nV b, nV 10000]) (by kernel_rfl) hd (by (first | rfl | (simp only [renL, AV.ren, List.nil_append, List.cons_append, rens]; try rfl))) rfl ?_; conv => whnf))
    exact AFin.val rfl ⟨rfl, rfl⟩
theorem halfN_le {a b : Nat} (h : DivOk a b 10000) : halfN a b 10000 ≤ a := by
  have h0 := Nat.div_add_mod (a * b) 10000
  have h1 : a * b ≤ a * 10000 := Nat.mul_le_mul (Nat.le_refl _) h.hb
  unfold halfN
  split <;> omega
theorem f206 (a b : Int) (h1 : inB a = true) (h2 : inB b = true) (h3 : inB (a - b) = true) : Fun P 206 [nV a, nV b] (numE (a - b, 0)) := by
  refine spec_of hT (f := 206) (fn := Go.Proofs.Tryz.f206) (c := body Go.Proofs.Tryz.f206) (by kernel_rfl) (by kernel_rfl) ?_
  have ha := f159 a
  have hb := f159 b
  rw [h1] at ha
  rw [h2] at hb
  have i1 := inB_iff.1 h1
  have i2 := inB_iff.1 h2
  have w1 : IntKind.wrap .i64 (a - b) = a - b := wrap_i64 _ (by omega) (by omega)
  conv => whnf
  repeat (first | refine ru ?_ | ((first | refine ACall.val (args := [nV a]) (by kernel_rfl) ha (by (first | rfl | (simp only [renL, AV.ren, List.nil_append, List.cons_append, rens]; try rfl))) rfl ?_ | refine ACall.val (args := [nV b]) (by kernel_rfl) hb (by (first | rfl | (simp only [renL, AV.ren, List.nil_append, List.cons_append, rens]; try rfl))) rfl ?_); conv => whnf))
  rw [w1]
  refine ACall.val (args := [nV (a - b)]) (by kernel_rfl) (f219 (a - b) h3) (by (first | rfl | (simp only [renL, AV.ren, List.nil_append, List.cons_append, rens]; try rfl))) rfl ?_
  conv => whnf
  repeat (first | refine ru ?_ | ((first | refine ACall.val (args := [nV a]) (by kernel_rfl) ha (by (first | rfl | (simp only [renL, AV.ren, List.nil_append, List.cons_append, rens]; try rfl))) rfl ?_ | refine ACall.val (args := [nV b]) (by kernel_rfl) hb (by (first | rfl | (simp only [renL, AV.ren, List.nil_append, List.cons_append, rens]; try rfl))) rfl ?_); conv => whnf))
  exact AFin.val rfl ⟨rfl, rfl⟩
theorem basisB_iff {n : Int} : basisB n = true ↔ 0 ≤ n ∧ n ≤ 10000 := by simp [basisB]
theorem f205 (a b : Nat) (ha : a ≤ 1000000000000) (hb : b ≤ 10000) : Fun P 205 [nV a, nV b] (numE ((halfN a b 10000 : Nat), 0)) := by
  refine spec_of hT (f := 205) (fn := Go.Proofs.Tryz.f205) (c := body Go.Proofs.Tryz.f205) (by kernel_rfl) (by kernel_rfl) ?_
  have hA := f159 a
  have hB := f168 b
  rw [(inB_iff (n := (a : Int))).2 ⟨by omega, by omega⟩] at hA
  rw [(basisB_iff (n := (b : Int))).2 ⟨by omega, by omega⟩] at hB
  conv => whnf
  repeat (first | refine ru ?_ | (refine ACall.val (args := [nV b]) (by kernel_rfl) hB (by (first | rfl | (simp only [renL, AV.ren, List.nil_append, List.cons_append, rens]; try rfl))) rfl ?_; conv => whnf))
  refine ACall.val (args := [nV a]) (by kernel_rfl) hA (by (first | rfl | (simp only [renL, AV.ren, List.nil_append, List.cons_append, rens]; try rfl))) rfl ?_
  conv => whnf
  repeat (first | refine ru ?_ | ((first | refine ACall.val (args := [nV b]) (by kernel_rfl) hB (by (first | rfl | (simp only [renL, AV.ren, List.nil_append, List.cons_append, rens]; try rfl))) rfl ?_ | refine ACall.val (args := [nV a, nV b, nV 10000]) (by kernel_rfl) (f218 a b ⟨ha, by decide, by decide, hb⟩) (by (first | rfl | (simp only [renL, AV.ren, List.nil_append, List.cons_append, rens]; try rfl))) rfl ?_); conv => whnf))
  exact AFin.val rfl ⟨rfl, rfl⟩
theorem f187 (a b : Nat) (ha : a ≤ 1000000000000) (hb : b ≤ 10000) : Fun P 187 [nV a, nV b] (numE ((a : Int) - (halfN a b 10000 : Nat), 0)) := by
  refine spec_of hT (f := 187) (fn := Go.Proofs.Tryz.f187) (c := body Go.Proofs.Tryz.f187) (by kernel_rfl) (by kernel_rfl) ?_
  have hle := halfN_le (a := a) (b := b) ⟨ha, by decide, by decide, hb⟩
  have hf := f205 a b ha hb
  generalize halfN a b 10000 = h at hle hf ⊢
  conv => whnf
  repeat (first | refine ru ?_ | ((first | refine ACall.val (args := [nV a, nV b]) (by kernel_rfl) hf (by (first | rfl | (simp only [renL, AV.ren, List.nil_append, List.cons_append, rens]; try rfl))) rfl ?_ | refine ACall.val (args := [nV a, nV h]) (by kernel_rfl) (f206 a h (inB_iff.2 ⟨by omega, by omega⟩) (inB_iff.2 ⟨by omega, by omega⟩) (inB_iff.2 ⟨by omega, by omega⟩)) (by (first | rfl | (simp only [renL, AV.ren, List.nil_append, List.cons_append, rens]; try rfl))) rfl ?_); conv => whnf))
  exact AFin.val rfl ⟨rfl, rfl⟩
theorem f162 (a b : Nat) (ha : a ≤ 1000000000000) (hb : b ≤ 10000) : Fun P 162 [nV a, nV b] (numE ((a : Int) - (halfN a b 10000 : Nat), 0)) := by
  refine spec_of hT (f := 162) (fn := Go.Proofs.Tryz.f162) (c := body Go.Proofs.Tryz.f162) (by kernel_rfl) (by kernel_rfl) ?_
  conv => whnf
  repeat (first | refine ru ?_ | (refine ACall.val (args := [nV a, nV b]) (by kernel_rfl) (f187 a b ha hb) (by (first | rfl | (simp only [renL, AV.ren, List.nil_append, List.cons_append, rens]; try rfl))) rfl ?_; conv => whnf))
  exact AFin.val rfl ⟨rfl, rfl⟩
theorem feeB_get {fees : List Int} (h : UT.feeB fees = true) {i : Nat} (hi : i < fees.length) : 0 ≤ fees[i] ∧ fees[i] ≤ 10000 := by
  simp only [UT.feeB, decide_eq_true_eq] at h
  obtain ⟨h0, h1, h2, h3, h4, h5⟩ := h
  rcases fees with _ | ⟨a, _ | ⟨b, _ | ⟨c, _ | ⟨d, _ | ⟨e, r⟩⟩⟩⟩⟩ <;> simp at h0
  simp only [List.getD_cons_zero, List.getD_cons_succ] at h1 h2 h3 h4 h5
  match i, hi with
  | 0, _ => exact ⟨by simpa using h1, by simp; omega⟩
  | 1, _ => exact ⟨by simp; omega, by simp; omega⟩
  | 2, _ => exact ⟨by simp; omega, by simp; omega⟩
  | 3, _ => exact ⟨by simp; omega, by simp; omega⟩
/-- what is left of an amount, of a grade -/
def gradeF (a : Int) (fees : List Int) (g : Int) : Int × Int :=
  if UT.feeB fees = true then if 0 ≤ g ∧ g < 4 then (a - (halfN a.toNat (fees.getD g.toNat 0).toNat 10000 : Nat), 0) else (0, 2) else (0, 36)
theorem f124 (a : Int) (fees : List Int) (g : Int) (ha : 0 ≤ a) (ha2 : a ≤ 1000000000000) : Fun P 124 [nV a, isV fees, nV g] (numE (gradeF a fees g)) := by
  refine spec_of hT (f := 124) (fn := Go.Proofs.Tryz.f124) (c := body Go.Proofs.Tryz.f124) (by kernel_rfl) (by kernel_rfl) ?_
  have hf := UT.f132 fees
  rw [isV_iVs] at hf
  generalize hR : gradeF a fees g = R
  unfold gradeF at hR
  conv => whnf
  repeat (first | refine go ?_ | (refine ACall.val (args := [isV fees]) (by kernel_rfl) hf (by (first | rfl | (simp only [renL, AV.ren, List.nil_append, List.cons_append, rens]; try rfl))) rfl ?_; conv => whnf))
  cases hb : UT.feeB fees with
  | false =>
    rw [hb, if_neg (by decide)] at hR
    conv => whnf
    repeat refine ru ?_
    exact AFin.val rfl ⟨congrArg numE hR, rfl⟩
  | true =>
  rw [hb, if_pos rfl] at hR
  conv => whnf
  repeat refine ru ?_
  by_cases h1 : g < 0
  · rw [if_neg (by omega)] at hR
    refine ASplit.yes (decide_eq_true h1) ?_
    conv => whnf
    repeat refine ru ?_
    exact AFin.val rfl ⟨congrArg numE hR, rfl⟩
  refine ASplit.no (decide_eq_false h1) ?_
  conv => whnf
  repeat refine ru ?_
  by_cases h2 : 4 ≤ g
  · rw [if_neg (by omega)] at hR
    refine ACond.yes (decide_eq_true h2) ?_
    conv => whnf
    repeat refine ru ?_
    exact AFin.val rfl ⟨congrArg numE hR, rfl⟩
  refine ACond.no (decide_eq_false h2) ?_
  rw [if_pos ⟨by omega, by omega⟩] at hR
  have hlen : fees.length = 4 := by simp only [UT.feeB, decide_eq_true_eq] at hb; exact hb.1
  have hlt : g.toNat < fees.length := by omega
  have hfb := feeB_get hb hlt
  have hgd : fees.getD g.toNat 0 = fees[g.toNat] := by simp [hlt]
  rw [hgd] at hR
  conv => whnf
  repeat refine ru ?_
  refine AReq.mk (by omega) ?_
  conv => whnf
  repeat refine ru ?_
  refine AIdx.flat (enc := iC) iC_len (xs := fees) (i := g.toNat) hlt ?_
  have hless := f162 a.toNat (fees[g.toNat]).toNat (by omega) (by omega)
  rw [Int.toNat_of_nonneg ha, Int.toNat_of_nonneg hfb.1] at hless
  conv => whnf
  repeat (first | refine ru ?_ | (refine ACall.val (args := [nV a, nV fees[g.toNat]]) (by kernel_rfl) hless (by (first | rfl | (simp only [renL, AV.ren, List.nil_append, List.cons_append, rens]; try rfl))) rfl ?_; conv => whnf))
  exact AFin.val rfl ⟨congrArg numE hR, rfl⟩
end Go.Aw.U1

set_option linter.unusedSimpArgs false
set_option linter.unusedVariables false
set_option maxHeartbeats 4000000
namespace Go.Aw.U1
open Go Go.Proofs

def ones (n : Nat) : List Int := List.replicate n 1
theorem ones_len (n : Nat) : (ones n).length = n := by simp [ones]
theorem ones_get {n i : Nat} (h : i < (ones n).length) : (ones n)[i] = 1 := by simp [ones]
theorem f186 (n : Nat) (hn : n ≤ 1000) : Fun P 186 [nV n] (isV (ones n)) := by
  refine spec_of hT (f := 186) (fn := Go.Proofs.Tryz.f186) (c := body Go.Proofs.Tryz.f186) (by kernel_rfl) (by kernel_rfl) ?_
  have hb3 : (T 3).bytes = 8 := by kernel_rfl
  have hml : (ones n).length = (List.replicate n (0 : Int)).length := by simp [ones]
  conv => whnf
  repeat (first | refine go ?_ | (refine AReq.mk (by rw [hb3]; omega) ?_; conv => whnf))
  refine ALoop.mk (fun m E H => ∃ i : Nat, m = n - i ∧ i ≤ n ∧
      E = pad [nV n, .any, .any, .ms 1 0 0 n, .any, .any, .any, .any, nV n, nV i] 17 ∧ H = [.cells 3 ((mix (ones n) (List.replicate n (0 : Int)) i).flatMap iC)]) (n := n) _ _
    ⟨0, rfl, Nat.zero_le _, rfl, ?_⟩ (Conv.fit (by repeat' (first | exact Fit.nil | refine Fit.any ?_ | refine Fit.same ?_))) ?_
  · rw [mix_zero, ← rep_flat]; rfl
  rintro _ _ _ ⟨i, rfl, hi, rfl, rfl⟩
  conv => whnf
  repeat refine go ?_
  refine ACond.dec (fun h => ?_) (fun h => ?_)
  · have hil : i < n := by omega
    have w1 : IntKind.wrap .i64 ((i : Int) + 1) = ((i + 1 : Nat) : Int) := by rw [wrap_i64 _ (by omega) (by omega)]; omega
    have hmx : (mix (ones n) (List.replicate n (0 : Int)) i).length = n := by rw [mix_len hml]; simp
    have hst := mix_set hml (i := i) (by simpa using hil)
    rw [ones_get] at hst
    conv => whnf
    repeat (first | refine go ?_ | (refine AReq.mk (by omega) ?_; conv => whnf))
    refine AReq.mk rfl ?_
    refine AUpd.flat iC_len i 1 ?_ (by rw [hmx]; exact hil) rfl ?_
    · simp
    rw [hst]
    conv => whnf
    repeat (first | refine go ?_ | (refine AReq.mk (by omega) ?_; conv => whnf))
    rw [w1]
    exact AHead.mk (n - (i + 1)) _ _ (by omega) ⟨i + 1, rfl, by omega, rfl, rfl⟩ (Conv.fit (by repeat' (first | exact Fit.nil | refine Fit.any ?_ | refine Fit.same ?_)))
  · obtain rfl : i = n := by omega
    rw [mix_all (by simp [ones]) (by simp)]
    conv => whnf
    repeat refine go ?_
    refine AOut.stay ?_
    conv => whnf
    repeat refine go ?_
    exact AFin.to (isV (ones i)) [] (Conv.out (.sm' rfl (by rw [flat_len iC_len]) rfl (by simp [ones])) (fun ρ => by (first | rfl | (simp only [renL, AV.ren, List.nil_append, List.cons_append, rens]; try rfl)))) ⟨rfl, rfl⟩
theorem add_ones : ∀ (n : Nat) (s : Int), 0 ≤ s → s + n ≤ 1000000 → addT (ones n) s = (s + n, 0)
  | 0, s, _, _ => by simp [ones, addT]
  | n + 1, s, h0, h => by
    have ih := add_ones n (s + 1) (by omega) (by omega)
    rw [show ones (n + 1) = 1 :: ones n from rfl, addT, if_pos (inB_iff.2 ⟨by omega, by omega⟩), if_pos (inB_iff.2 ⟨by omega, by omega⟩), ih]
    congr 1; omega
theorem f200 (n : Nat) (h1 : 1 ≤ n) (hn : n ≤ 200) : Fun P 200 [isV (ones n)] (numE (n, 0)) := by
  refine spec_of hT (f := 200) (fn := Go.Proofs.Tryz.f200) (c := body Go.Proofs.Tryz.f200) (by kernel_rfl) (by kernel_rfl) ?_
  have hl := ones_len n
  have hadd := add_ones n 0 (by omega) (by omega)
  have hf := f122 (ones n) (by omega)
  rw [hadd, Int.zero_add] at hf
  conv => whnf
  repeat refine go ?_
  refine ASplit.no (decide_eq_false (by omega)) ?_
  conv => whnf
  repeat refine go ?_
  refine ACond.no (decide_eq_false (by omega)) ?_
  conv => whnf
  repeat refine go ?_
  refine ALoop.mk (fun m E H => ∃ i : Nat, m = n - i ∧ i ≤ n ∧
      E = pad [isV (ones n), .any, nV 0, nV 0, .any, .any, .any, .any, .any, .any, .any, .any, .any, .any, .any, .any, isV (ones n), nV (ones n).length, nV i] 38 ∧ H = []) (n := n) _ _
    ⟨0, rfl, Nat.zero_le _, rfl, rfl⟩ (Conv.fit (by repeat' (first | exact Fit.nil | refine Fit.any ?_ | refine Fit.same ?_))) ?_
  rintro _ _ _ ⟨i, rfl, hi, rfl, rfl⟩
  conv => whnf
  repeat refine go ?_
  refine ACond.dec (fun h => ?_) (fun h => ?_)
  · have hil : i < (ones n).length := by omega
    have w1 : IntKind.wrap .i64 ((i : Int) + 1) = ((i + 1 : Nat) : Int) := by rw [wrap_i64 _ (by omega) (by omega)]; omega
    conv => whnf
    repeat (first | refine go ?_ | ((first | refine AReq.mk (by omega) ?_ | refine AIdx.flat (enc := iC) iC_len (xs := ones n) (i := i) hil ?_); conv => whnf))
    rw [ones_get]
    refine ACond.no rfl ?_
    conv => whnf
    repeat (first | refine go ?_ | ((first | refine AReq.mk (by omega) ?_ | refine AIdx.flat (enc := iC) iC_len (xs := ones n) (i := i) hil ?_); conv => whnf))
    rw [w1]
    exact AHead.mk (n - (i + 1)) _ _ (by omega) ⟨i + 1, rfl, by omega, rfl, rfl⟩ (Conv.fit (by repeat' (first | exact Fit.nil | refine Fit.any ?_ | refine Fit.same ?_)))
  · conv => whnf
    repeat refine go ?_
    refine AOut.stay ?_
    conv => whnf
    repeat (first | refine ru ?_ | (refine ACall.val (args := [isV (ones n)]) (by kernel_rfl) hf (by (first | rfl | (simp only [renL, AV.ren, List.nil_append, List.cons_append, rens]; try rfl))) rfl ?_; conv => whnf))
    refine ACond.no (decide_eq_false (by omega)) ?_
    conv => whnf
    repeat (first | refine ru ?_ | (refine ACall.val (args := [isV (ones n)]) (by kernel_rfl) hf (by (first | rfl | (simp only [renL, AV.ren, List.nil_append, List.cons_append, rens]; try rfl))) rfl ?_; conv => whnf))
    exact AFin.val rfl ⟨rfl, rfl⟩
theorem f201 (n : Nat) (h1 : 1 ≤ n) (hn : n ≤ 200) : Fun P 201 [isV (ones n)] (nV 1) := by
  refine spec_of hT (f := 201) (fn := Go.Proofs.Tryz.f201) (c := body Go.Proofs.Tryz.f201) (by kernel_rfl) (by kernel_rfl) ?_
  have hl := ones_len n
  conv => whnf
  repeat refine go ?_
  refine ACond.no (decide_eq_false (by omega)) ?_
  conv => whnf
  repeat (first | refine go ?_ | (refine AReq.mk (by omega) ?_; conv => whnf))
  refine AIdx.flat (enc := iC) iC_len (xs := ones n) (i := 0) (by omega) ?_
  conv => whnf
  repeat (first | refine go ?_ | (refine AReq.mk (by omega) ?_; conv => whnf))
  rw [ones_get]
  refine ALoop.mk (fun m E H => ∃ i : Nat, m = n - i ∧ i ≤ n ∧ 1 ≤ i ∧
      E = pad [isV (ones n), .any, nV 0, nV 1, nV i] 25 ∧ H = []) (n := n - 1) _ _
    ⟨1, rfl, h1, Nat.le_refl _, rfl, rfl⟩ (Conv.fit (by repeat' (first | exact Fit.nil | refine Fit.any ?_ | refine Fit.same ?_))) ?_
  rintro _ _ _ ⟨i, rfl, hi, hi1, rfl, rfl⟩
  conv => whnf
  repeat refine go ?_
  refine ACond.dec (fun h => ?_) (fun h => ?_)
  · have hil : i < (ones n).length := by omega
    have w1 : IntKind.wrap .i64 ((i : Int) + 1) = ((i + 1 : Nat) : Int) := by rw [wrap_i64 _ (by omega) (by omega)]; omega
    conv => whnf
    repeat (first | refine go ?_ | ((first | refine AReq.mk (by omega) ?_ | refine AIdx.flat (enc := iC) iC_len (xs := ones n) (i := i) hil ?_); conv => whnf))
    rw [ones_get]
    conv => whnf
    repeat (first | refine ru ?_ | ((first | refine AReq.mk (by omega) ?_ | refine AIdx.flat (enc := iC) iC_len (xs := ones n) (i := i) hil ?_); conv => whnf))
    rw [w1]
    exact AHead.mk (n - (i + 1)) _ _ (by omega) ⟨i + 1, rfl, by omega, by omega, rfl, rfl⟩ (Conv.fit (by repeat' (first | exact Fit.nil | refine Fit.any ?_ | refine Fit.same ?_)))
  · conv => whnf
    repeat refine go ?_
    refine AOut.stay ?_
    conv => whnf
    repeat refine ru ?_
    exact AFin.val rfl ⟨rfl, rfl⟩
/-! ### a sort of what is all alike -/
theorem f117 (a : Int) : Fun P 117 [nV a, nV a] (nV 0) := by
  refine spec_of hT (f := 117) (fn := Go.Proofs.Tryz.f117) (c := body Go.Proofs.Tryz.f117) (by kernel_rfl) (by kernel_rfl) ?_
  have hf := UT.f157 a
  conv => whnf
  repeat (first | refine ru ?_ | (refine ACall.val (args := [nV a]) (by kernel_rfl) hf (by (first | rfl | (simp only [renL, AV.ren, List.nil_append, List.cons_append, rens]; try rfl))) rfl ?_; conv => whnf))
  refine ACond.no (decide_eq_false (by omega)) ?_
  conv => whnf
  repeat (first | refine ru ?_ | (refine ACall.val (args := [nV a]) (by kernel_rfl) hf (by (first | rfl | (simp only [renL, AV.ren, List.nil_append, List.cons_append, rens]; try rfl))) rfl ?_; conv => whnf))
  refine ACond.no (decide_eq_false (by omega)) ?_
  conv => whnf
  repeat (first | refine ru ?_ | (refine ACall.val (args := [nV a]) (by kernel_rfl) hf (by (first | rfl | (simp only [renL, AV.ren, List.nil_append, List.cons_append, rens]; try rfl))) rfl ?_; conv => whnf))
  exact AFin.val rfl ⟨rfl, rfl⟩
def key1 (l : List Int) : AV := .fn 204 [] [.ip [isV l]]
def cmp1 (l : List Int) : AV := .fn 217 [] [.ip [key1 l]]
theorem key1_ren (ρ : Nat → Nat) (l : List Int) : (key1 l).ren ρ = key1 l := by simp only [key1, AV.ren, renL, isV_ren]
theorem cmp1_ren (ρ : Nat → Nat) (l : List Int) : (cmp1 l).ren ρ = cmp1 l := by simp only [cmp1, AV.ren, renL, key1_ren]
theorem f204 (l : List Int) (i : Nat) (h : i < l.length) : Fun P 204 [nV i, .ip [isV l]] (nV l[i]) := by
  refine spec_of hT (f := 204) (fn := Go.Proofs.Tryz.f204) (c := body Go.Proofs.Tryz.f204) (by kernel_rfl) (by kernel_rfl) ?_
  conv => whnf
  repeat (first | refine go ?_ | ((first | refine AReq.mk (by omega) ?_ | refine AIdx.flat (enc := iC) iC_len (xs := l) (i := i) h ?_); conv => whnf))
  exact AFin.val rfl ⟨rfl, rfl⟩
theorem f217 (l : List Int) (i j : Nat) (hi : i < l.length) (hj : j < l.length) (he : l[i] = l[j]) : Fun P 217 [nV i, nV j, .ip [key1 l]] (nV 0) := by
  refine spec_of hT (f := 217) (fn := Go.Proofs.Tryz.f217) (c := body Go.Proofs.Tryz.f217) (by kernel_rfl) (by kernel_rfl) ?_
  conv => whnf
  repeat (first | refine go ?_ | ((first | refine AW.plan (id := 1) hm (.one 1 (.one 4 (.one 0 (.imm 3 (.one 2 (.one 5 (.one 6 (.one 7 .nil)))))))) (by kernel_rfl) ?_ | refine ACall.val (args := [nV j, .ip [isV l]]) (by kernel_rfl) (f204 l j hj) (by (first | rfl | (simp only [renL, AV.ren, List.nil_append, List.cons_append, rens]; try rfl))) rfl ?_ | refine ACall.val (args := [nV i, .ip [isV l]]) (by kernel_rfl) (f204 l i hi) (by (first | rfl | (simp only [renL, AV.ren, List.nil_append, List.cons_append, rens]; try rfl))) rfl ?_); conv => whnf))
  rw [he]
  refine ACall.val (args := [nV l[j], nV l[j]]) (by kernel_rfl) (f117 l[j]) (by (first | rfl | (simp only [renL, AV.ren, List.nil_append, List.cons_append, rens]; try rfl))) rfl ?_
  conv => whnf
  repeat (first | refine go ?_ | ((first | refine AW.plan (id := 1) hm (.one 1 (.one 4 (.one 0 (.imm 3 (.one 2 (.one 5 (.one 6 (.one 7 .nil)))))))) (by kernel_rfl) ?_ | refine ACall.val (args := [nV j, .ip [isV l]]) (by kernel_rfl) (f204 l j hj) (by (first | rfl | (simp only [renL, AV.ren, List.nil_append, List.cons_append, rens]; try rfl))) rfl ?_ | refine ACall.val (args := [nV i, .ip [isV l]]) (by kernel_rfl) (f204 l i hi) (by (first | rfl | (simp only [renL, AV.ren, List.nil_append, List.cons_append, rens]; try rfl))) rfl ?_); conv => whnf))
  exact AFin.val rfl ⟨rfl, rfl⟩
end Go.Aw.U1

