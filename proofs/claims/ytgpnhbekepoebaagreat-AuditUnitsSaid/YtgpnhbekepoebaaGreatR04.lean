/-
  The statement AuditUnits: any unit may have come of any other one, or not, and any node is reached from any other one, or not, as the document says, without any condition.
-/
import Derived.Test.YtgpnhbekepoebaaGreatR03
import Derived.Test.YtgpnhbekepoebaaGreatR00
import Derived.Shelf.SlSortCmp.WholeK
import Derived.Shelf.SlSortCmp.NoneTotal
import Derived.Shelf.SlicesG.Cmp
import Derived.Test.YtgpnhbekepoebaaGreatShelfP
set_option linter.unusedSimpArgs false
set_option linter.unusedVariables false
set_option linter.unusedSimpArgs false
set_option linter.unusedVariables false
set_option maxHeartbeats 4000000
namespace Go.Aw.U1
open Go Go.Proofs

/-- a state that is not too large for the walk -/
structure StaOk (s : Sta) : Prop where
  items : s.items.length ≤ 1000000
  orders : odsOk s.orders
  rmas : rmsOk s.rmas
  units : s.units.length ≤ 1000000 ∧ ∀ u ∈ s.units, sOk u.s
  works : s.works.length ≤ 1000000 ∧ ∀ u ∈ s.works, sOk u.s
  claims : s.claims.length ≤ 1000000 ∧ ∀ u ∈ s.claims, ssOk u.ss
  memos : s.memos.length ≤ 1000000 ∧ ∀ u ∈ s.memos, ssOk u.ss ∧ u.am.length ≤ 9223372036854775807
  moves : s.moves.length ≤ 300
  asks : s.rules.asks.length ≤ 1000000
  cuts : s.rules.cuts.length ≤ 1000000
  fees : s.rules.fees.length ≤ 1000000
  rows : s.rules.rows.length ≤ 1000000
  keys : s.keys.length ≤ 1000000

def tablesB (s : Sta) : Bool :=
  timeB s.now && tabB (s.rmas.map (fun x : Rm => x.id)) s.nRma && tabB (s.works.map (fun x : Wk => x.id)) s.nWork && tabB (s.claims.map (fun x : Cl => x.id)) s.nClaim && tabB (s.memos.map (fun x : Mo => x.id)) s.nMemo &&
    tabB (s.items.map (fun x : It => x.id)) 1000000 && tabB (s.orders.map (fun x : Od => x.id)) 1000000 && decide ((s.units.length : Int) ≤ 400) && decide (rowF (serS s) = 0)
theorem f58 (s : Sta) (h : StaOk s) : Fun P 58 [stA s] (bV (tablesB s)) := by
  refine spec_of hT (f := 58) (fn := Go.Proofs.Tryz.f58) (c := body Go.Proofs.Tryz.f58) (by kernel_rfl) (by kernel_rfl) ?_
  have hser : ssOk (serS s) := ⟨by rw [serS, List.length_map]; have := h.units.1; omega, fun x hx => by
    obtain ⟨u, hu, rfl⟩ := List.mem_map.1 hx
    exact h.units.2 u hu⟩
  unfold tablesB
  conv => whnf
  repeat refine go ?_
  refine ACall.val (by kernel_rfl) (f139 s.works h.works.1) (by (first | rfl | (simp only [renL, AV.ren, List.nil_append, List.cons_append, rens]; try rfl))) (by (first | rfl | (simp only [renL, AV.ren, List.nil_append, List.cons_append, rens]; try rfl))) ?_
  conv => whnf
  repeat refine go ?_
  refine ACall.val (by kernel_rfl) (f141 s.claims h.claims.1) (by (first | rfl | (simp only [renL, AV.ren, List.nil_append, List.cons_append, rens]; try rfl))) (by (first | rfl | (simp only [renL, AV.ren, List.nil_append, List.cons_append, rens]; try rfl))) ?_
  conv => whnf
  repeat refine go ?_
  refine ACall.val (by kernel_rfl) (f143 s.memos h.memos.1) (by (first | rfl | (simp only [renL, AV.ren, List.nil_append, List.cons_append, rens]; try rfl))) (by (first | rfl | (simp only [renL, AV.ren, List.nil_append, List.cons_append, rens]; try rfl))) ?_
  conv => whnf
  repeat refine go ?_
  refine ACall.val (by kernel_rfl) (f145 s.rmas h.rmas.1) (by (first | rfl | (simp only [renL, AV.ren, List.nil_append, List.cons_append, rens]; try rfl))) (by (first | rfl | (simp only [renL, AV.ren, List.nil_append, List.cons_append, rens]; try rfl))) ?_
  conv => whnf
  repeat refine go ?_
  refine ACall.val (by kernel_rfl) (f147 s.now) rfl rfl ?_
  cases timeB s.now with
  | false =>
    conv => whnf
    repeat refine ru ?_
    exact AFin.val rfl ⟨rfl, rfl⟩
  | true =>
  conv => whnf
  repeat refine ru ?_
  refine ACall.val (by kernel_rfl) (f148 (s.rmas.map (fun x : Rm => x.id)) s.nRma (by rw [List.length_map]; exact h.rmas.1)) (by (first | rfl | (simp only [renL, AV.ren, List.nil_append, List.cons_append, rens]; try rfl))) (by (first | rfl | (simp only [renL, AV.ren, List.nil_append, List.cons_append, rens]; try rfl))) ?_
  cases tabB (s.rmas.map (fun x : Rm => x.id)) s.nRma with
  | false =>
    conv => whnf
    repeat refine ru ?_
    exact AFin.val rfl ⟨rfl, rfl⟩
  | true =>
  conv => whnf
  repeat refine ru ?_
  refine ACall.val (by kernel_rfl) (f148 (s.works.map (fun x : Wk => x.id)) s.nWork (by rw [List.length_map]; exact h.works.1)) (by (first | rfl | (simp only [renL, AV.ren, List.nil_append, List.cons_append, rens]; try rfl))) (by (first | rfl | (simp only [renL, AV.ren, List.nil_append, List.cons_append, rens]; try rfl))) ?_
  cases tabB (s.works.map (fun x : Wk => x.id)) s.nWork with
  | false =>
    conv => whnf
    repeat refine ru ?_
    exact AFin.val rfl ⟨rfl, rfl⟩
  | true =>
  conv => whnf
  repeat refine ru ?_
  refine ACall.val (by kernel_rfl) (f148 (s.claims.map (fun x : Cl => x.id)) s.nClaim (by rw [List.length_map]; exact h.claims.1)) (by (first | rfl | (simp only [renL, AV.ren, List.nil_append, List.cons_append, rens]; try rfl))) (by (first | rfl | (simp only [renL, AV.ren, List.nil_append, List.cons_append, rens]; try rfl))) ?_
  cases tabB (s.claims.map (fun x : Cl => x.id)) s.nClaim with
  | false =>
    conv => whnf
    repeat refine ru ?_
    exact AFin.val rfl ⟨rfl, rfl⟩
  | true =>
  conv => whnf
  repeat refine ru ?_
  refine ACall.val (by kernel_rfl) (f148 (s.memos.map (fun x : Mo => x.id)) s.nMemo (by rw [List.length_map]; exact h.memos.1)) (by (first | rfl | (simp only [renL, AV.ren, List.nil_append, List.cons_append, rens]; try rfl))) (by (first | rfl | (simp only [renL, AV.ren, List.nil_append, List.cons_append, rens]; try rfl))) ?_
  cases tabB (s.memos.map (fun x : Mo => x.id)) s.nMemo with
  | false =>
    conv => whnf
    repeat refine ru ?_
    exact AFin.val rfl ⟨rfl, rfl⟩
  | true =>
  conv => whnf
  repeat refine ru ?_
  refine ACall.val (by kernel_rfl) (f149 s.items h.items) (by (first | rfl | (simp only [renL, AV.ren, List.nil_append, List.cons_append, rens]; try rfl))) (by (first | rfl | (simp only [renL, AV.ren, List.nil_append, List.cons_append, rens]; try rfl))) ?_
  conv => whnf
  repeat refine ru ?_
  refine ACall.val (by kernel_rfl) (f151 s.orders h.orders.1) (by (first | rfl | (simp only [renL, AV.ren, List.nil_append, List.cons_append, rens]; try rfl))) (by (first | rfl | (simp only [renL, AV.ren, List.nil_append, List.cons_append, rens]; try rfl))) ?_
  conv => whnf
  repeat refine ru ?_
  refine ACall.val (by kernel_rfl) (f148 (s.items.map (fun x : It => x.id)) 1000000 (by rw [List.length_map]; exact h.items)) (by (first | rfl | (simp only [renL, AV.ren, List.nil_append, List.cons_append, rens]; try rfl))) (by (first | rfl | (simp only [renL, AV.ren, List.nil_append, List.cons_append, rens]; try rfl))) ?_
  cases tabB (s.items.map (fun x : It => x.id)) 1000000 with
  | false =>
    conv => whnf
    repeat refine ru ?_
    exact AFin.val rfl ⟨rfl, rfl⟩
  | true =>
  conv => whnf
  repeat refine ru ?_
  refine ACall.val (by kernel_rfl) (f148 (s.orders.map (fun x : Od => x.id)) 1000000 (by rw [List.length_map]; exact h.orders.1)) (by (first | rfl | (simp only [renL, AV.ren, List.nil_append, List.cons_append, rens]; try rfl))) (by (first | rfl | (simp only [renL, AV.ren, List.nil_append, List.cons_append, rens]; try rfl))) ?_
  cases tabB (s.orders.map (fun x : Od => x.id)) 1000000 with
  | false =>
    conv => whnf
    repeat refine ru ?_
    exact AFin.val rfl ⟨rfl, rfl⟩
  | true =>
  conv => whnf
  repeat refine ru ?_
  by_cases h1 : (s.units.length : Int) ≤ 400
  case neg =>
    refine ASplit.no (decide_eq_false h1) ?_
    rw [decide_eq_false h1]
    conv => whnf
    repeat refine ru ?_
    exact AFin.val rfl ⟨rfl, rfl⟩
  refine ASplit.yes (decide_eq_true h1) ?_
  rw [decide_eq_true h1]
  conv => whnf
  repeat refine ru ?_
  refine ACall.val (by kernel_rfl) (f154 s h.units.1) (by (first | rfl | (simp only [renL, AV.ren, List.nil_append, List.cons_append, rens]; try rfl))) (by (first | rfl | (simp only [renL, AV.ren, List.nil_append, List.cons_append, rens]; try rfl))) ?_
  conv => whnf
  repeat refine ru ?_
  refine ACall.val (by kernel_rfl) (f153 (serS s) hser) (by (first | rfl | (simp only [renL, AV.ren, List.nil_append, List.cons_append, rens]; try rfl))) (by (first | rfl | (simp only [renL, AV.ren, List.nil_append, List.cons_append, rens]; try rfl))) ?_
  conv => whnf
  repeat refine ru ?_
  exact AFin.val rfl ⟨rfl, rfl⟩
theorem und122 : P.underlying 230 = some (.map 3 4) := by kernel_rfl
def keyT : List Dn → (Int → Bool) → Bool
  | [], _ => true
  | d :: l, g => if idB d.key = true ∧ g d.key = false ∧ (d.cmd.size : Int) ≤ 2000 ∧ (d.reply.size : Int) ≤ 2000 then keyT l (upd g d.key true) else false
def keysB (s : Sta) : Bool := keyT s.keys (fun _ => false) && decide ((s.keys.length : Int) ≤ 32)
theorem idB_iff {n : Int} : idB n = true ↔ 1 ≤ n ∧ n ≤ 999999 := by simp [idB]
theorem f59 (s : Sta) (h : StaOk s) : Fun P 59 [stA s] (bV (keysB s)) := by
  refine spec_of hT (f := 59) (fn := Go.Proofs.Tryz.f59) (c := body Go.Proofs.Tryz.f59) (by kernel_rfl) (by kernel_rfl) ?_
  unfold keysB
  generalize hR : keyT s.keys (fun _ => false) = R
  have hl1 := h.keys
  conv => whnf
  repeat refine go ?_
  refine AOp.makeMap ?_
  conv => whnf
  repeat refine go ?_
  refine ALoop.mk (fun n E H => ∃ (i : Nat) (g : Int → Bool) (L : List (Int × Bool)) (bs : List Nat) (clk : Nat), n = s.keys.length - i ∧ i ≤ s.keys.length ∧ MapIs nOk L false g ∧ keyT (s.keys.drop i) g = R ∧
      E = pad [stA s, .ptr 0 0, bV false, .mp 1, .any, .any, .any, .any, .any, dnsV s.keys, nV s.keys.length, nV i] 50 ∧ H = [.cells 134 (stC s), .map (em nV bV L) bs clk]) (n := s.keys.length) _ _
    ⟨0, _, [], [], 0, rfl, Nat.zero_le _, MapIs.nil, hR, rfl, rfl⟩ (Conv.fit (by repeat' (first | exact Fit.nil | refine Fit.any ?_ | refine Fit.same ?_))) ?_
  rintro _ _ _ ⟨i, g, L, bs, clk, rfl, hi, hM, hI, rfl, rfl⟩
  conv => whnf
  repeat refine go ?_
  refine ACond.dec (fun h => ?_) (fun h => ?_)
  · have hil : i < s.keys.length := by omega
    have w1 : IntKind.wrap .i64 ((i : Int) + 1) = ((i + 1 : Nat) : Int) := by rw [wrap_i64 _ (by omega) (by omega)]; omega
    rw [List.drop_eq_getElem_cons hil, keyT] at hI
    generalize hd : s.keys[i] = d at hI
    have hno : ¬ (idB d.key = true ∧ g d.key = false ∧ (d.cmd.size : Int) ≤ 2000 ∧ (d.reply.size : Int) ≤ 2000) → false = R := fun hn => by rw [if_neg hn] at hI; exact hI
    conv => whnf
    repeat (first | refine go ?_ | ((first | refine AReq.mk (by omega) ?_ | refine AIdx.flat (enc := dnC) dnC_len (xs := s.keys) (i := i) hil ?_); conv => whnf))
    rw [hd]
    by_cases h1 : d.key < 1
    · refine ASplit.yes (decide_eq_true h1) ?_
      conv => whnf
      repeat (first | refine ru ?_ | ((first | refine AReq.mk (by omega) ?_ | refine AIdx.flat (enc := dnC) dnC_len (xs := s.keys) (i := i) hil ?_); conv => whnf))
      refine AOut.stay ?_
      conv => whnf
      repeat (first | refine ru ?_ | ((first | refine AReq.mk (by omega) ?_ | refine AIdx.flat (enc := dnC) dnC_len (xs := s.keys) (i := i) hil ?_); conv => whnf))
      exact AFin.val rfl ⟨by rw [← hno (fun hn => by have := idB_iff.1 hn.1; omega)]; rfl, rfl⟩
    refine ASplit.no (decide_eq_false h1) ?_
    conv => whnf
    repeat (first | refine go ?_ | ((first | refine AReq.mk (by omega) ?_ | refine AIdx.flat (enc := dnC) dnC_len (xs := s.keys) (i := i) hil ?_); conv => whnf))
    by_cases h2 : 999999 < d.key
    · refine ASplit.yes (decide_eq_true h2) ?_
      conv => whnf
      repeat (first | refine ru ?_ | ((first | refine AReq.mk (by omega) ?_ | refine AIdx.flat (enc := dnC) dnC_len (xs := s.keys) (i := i) hil ?_); conv => whnf))
      refine AOut.stay ?_
      conv => whnf
      repeat (first | refine ru ?_ | ((first | refine AReq.mk (by omega) ?_ | refine AIdx.flat (enc := dnC) dnC_len (xs := s.keys) (i := i) hil ?_); conv => whnf))
      exact AFin.val rfl ⟨by rw [← hno (fun hn => by have := idB_iff.1 hn.1; omega)]; rfl, rfl⟩
    refine ASplit.no (decide_eq_false h2) ?_
    have hok : nOk d.key := nOk_of (by omega) (by omega)
    conv => whnf
    repeat (first | refine go ?_ | ((first | refine AReq.mk (by omega) ?_ | refine AIdx.flat (enc := dnC) dnC_len (xs := s.keys) (i := i) hil ?_); conv => whnf))
    refine AOp.getM 1 d.key hT nK und122 hne4 (eb := bV) rfl hM hok rfl rfl rfl ?_
    rcases Bool.eq_false_or_eq_true (g d.key) with h3 | h3
    · rw [h3]
      conv => whnf
      repeat (first | refine ru ?_ | ((first | refine AReq.mk (by omega) ?_ | refine AIdx.flat (enc := dnC) dnC_len (xs := s.keys) (i := i) hil ?_); conv => whnf))
      refine AOut.stay ?_
      conv => whnf
      repeat (first | refine ru ?_ | ((first | refine AReq.mk (by omega) ?_ | refine AIdx.flat (enc := dnC) dnC_len (xs := s.keys) (i := i) hil ?_); conv => whnf))
      exact AFin.val rfl ⟨by rw [← hno (fun hn => by rw [h3] at hn; exact Bool.noConfusion hn.2.1)]; rfl, rfl⟩
    rw [h3]
    conv => whnf
    repeat (first | refine ru ?_ | ((first | refine AReq.mk (by omega) ?_ | refine AIdx.flat (enc := dnC) dnC_len (xs := s.keys) (i := i) hil ?_); conv => whnf))
    by_cases h4 : 2000 < (d.cmd.size : Int)
    · refine ASplit.yes (decide_eq_true h4) ?_
      conv => whnf
      repeat (first | refine ru ?_ | ((first | refine AReq.mk (by omega) ?_ | refine AIdx.flat (enc := dnC) dnC_len (xs := s.keys) (i := i) hil ?_); conv => whnf))
      refine AOut.stay ?_
      conv => whnf
      repeat (first | refine ru ?_ | ((first | refine AReq.mk (by omega) ?_ | refine AIdx.flat (enc := dnC) dnC_len (xs := s.keys) (i := i) hil ?_); conv => whnf))
      exact AFin.val rfl ⟨by rw [← hno (fun hn => by omega)]; rfl, rfl⟩
    refine ASplit.no (decide_eq_false h4) ?_
    conv => whnf
    repeat (first | refine ru ?_ | ((first | refine AReq.mk (by omega) ?_ | refine AIdx.flat (enc := dnC) dnC_len (xs := s.keys) (i := i) hil ?_); conv => whnf))
    by_cases h5 : 2000 < (d.reply.size : Int)
    · refine ACond.yes (decide_eq_true h5) ?_
      conv => whnf
      repeat (first | refine ru ?_ | ((first | refine AReq.mk (by omega) ?_ | refine AIdx.flat (enc := dnC) dnC_len (xs := s.keys) (i := i) hil ?_); conv => whnf))
      refine AOut.stay ?_
      conv => whnf
      repeat (first | refine ru ?_ | ((first | refine AReq.mk (by omega) ?_ | refine AIdx.flat (enc := dnC) dnC_len (xs := s.keys) (i := i) hil ?_); conv => whnf))
      exact AFin.val rfl ⟨by rw [← hno (fun hn => by omega)]; rfl, rfl⟩
    refine ACond.no (decide_eq_false h5) ?_
    rw [if_pos ⟨idB_iff.2 ⟨by omega, by omega⟩, h3, by omega, by omega⟩] at hI
    conv => whnf
    repeat (first | refine ru ?_ | ((first | refine AReq.mk (by omega) ?_ | refine AIdx.flat (enc := dnC) dnC_len (xs := s.keys) (i := i) hil ?_); conv => whnf))
    refine AOp.putM 1 d.key true nK und122 hM hok rfl rfl rfl rfl ?_
    intro L' bs' clk' hM'
    conv => whnf
    repeat (first | refine ru ?_ | ((first | refine AReq.mk (by omega) ?_ | refine AIdx.flat (enc := dnC) dnC_len (xs := s.keys) (i := i) hil ?_); conv => whnf))
    rw [w1]
    exact AHead.mk (s.keys.length - (i + 1)) _ _ (by omega) ⟨i + 1, _, L', bs', clk', rfl, by omega, hM', hI, rfl, rfl⟩ (Conv.ren [0, 1] _ (by simp) (by simp) (by simp only [pad, renL, AV.ren, rens]; repeat' (first | exact Fit.nil | refine Fit.any ?_ | refine Fit.same ?_)) (.same (by simp only [ABlk.ren, stC_ren]; rfl) (.same (by simp only [ABlk.ren, ren_emB]; rfl) .nil)))
  · rw [List.drop_of_length_le (by omega)] at hI
    conv => whnf
    repeat refine go ?_
    refine AOut.stay ?_
    conv => whnf
    repeat refine go ?_
    exact AFin.val rfl ⟨by rw [← hI]; rfl, rfl⟩
theorem f158 (s : Sta) : Fun P 158 [stA s] (bV (decide (0 < (s.rules.asks.length : Int)))) := by
  refine spec_of hT (f := 158) (fn := Go.Proofs.Tryz.f158) (c := body Go.Proofs.Tryz.f158) (by kernel_rfl) (by kernel_rfl) ?_
  conv => whnf
  repeat' (first | refine go ?_ | ((first | refine ASplit.yes rfl ?_ | refine ASplit.no rfl ?_ | refine ACond.yes rfl ?_ | refine ACond.no rfl ?_ | refine ASplit.dec (fun _ => ?_) (fun _ => ?_) | refine ASplit.ndec (fun _ => ?_) (fun _ => ?_) | refine ACond.dec (fun _ => ?_) (fun _ => ?_) | refine ACond.ndec (fun _ => ?_) (fun _ => ?_)) <;> conv => whnf))
  all_goals exact AFin.val rfl ⟨rfl, rfl⟩
end Go.Aw.U1

set_option linter.unusedSimpArgs false
set_option linter.unusedVariables false
set_option maxHeartbeats 4000000
namespace Go.Aw.U1
open Go Go.Proofs

theorem f235g (l : List It) (hl : l.length ≤ 1000000) :
    Fun P 235 [itsV l, .fn 156 [] []] (nV (idxF (fun x => !itB x) l 0)) := by
  refine spec_of hT (f := 235) (fn := Go.Proofs.Tryz.f235) (c := body Go.Proofs.Tryz.f235) (by kernel_rfl) (by kernel_rfl) ?_
  generalize hR : idxF (fun x => !itB x) l 0 = R
  conv => whnf
  repeat refine go ?_
  refine ALoop.mk (fun n E H => ∃ i : Nat, n = l.length - i ∧ i ≤ l.length ∧ idxF (fun x => !itB x) (l.drop i) i = R ∧
      E = pad [itsV l, .fn 156 [] [], .any, .any, nV 0, .any, .any, nV l.length, nV i] 19 ∧ H = []) (n := l.length) _ _
    ⟨0, rfl, Nat.zero_le _, hR, rfl, rfl⟩ (Conv.fit (by repeat' (first | exact Fit.nil | refine Fit.any ?_ | refine Fit.same ?_))) ?_
  rintro _ _ _ ⟨i, rfl, hi, hI, rfl, rfl⟩
  conv => whnf
  repeat refine go ?_
  refine ACond.dec (fun h1 => ?_) (fun h1 => ?_)
  · have hil : i < l.length := by omega
    have w1 : IntKind.wrap .i64 ((i : Int) + 1) = ((i + 1 : Nat) : Int) := by rw [wrap_i64 _ (by omega) (by omega)]; omega
    rw [idxF_drop hil] at hI
    conv => whnf
    repeat (first | refine go ?_ | ((first | refine AReq.mk (by omega) ?_ | refine AIdx.flat (enc := itC) itC_len (xs := l) (i := i) hil ?_ | refine ACall.val (args := [.agg (itC l[i])]) (by kernel_rfl) (f156 l[i]) (by (first | rfl | (simp only [renL, AV.ren, List.nil_append, List.cons_append, rens]; try rfl))) rfl ?_); conv => whnf))
    refine ACond.mk (fun h4 => ?_) (fun h4 => ?_)
    · conv => whnf
      repeat (first | refine go ?_ | ((first | refine AReq.mk (by omega) ?_ | refine AIdx.flat (enc := itC) itC_len (xs := l) (i := i) hil ?_ | refine ACall.val (args := [.agg (itC l[i])]) (by kernel_rfl) (f156 l[i]) (by (first | rfl | (simp only [renL, AV.ren, List.nil_append, List.cons_append, rens]; try rfl))) rfl ?_); conv => whnf))
      refine AOut.stay ?_
      refine AFin.val rfl ⟨?_, rfl⟩
      rw [if_pos h4] at hI
      rw [hI]
    · conv => whnf
      repeat (first | refine go ?_ | ((first | refine AReq.mk (by omega) ?_ | refine AIdx.flat (enc := itC) itC_len (xs := l) (i := i) hil ?_ | refine ACall.val (args := [.agg (itC l[i])]) (by kernel_rfl) (f156 l[i]) (by (first | rfl | (simp only [renL, AV.ren, List.nil_append, List.cons_append, rens]; try rfl))) rfl ?_); conv => whnf))
      rw [w1]
      exact AHead.mk (l.length - (i + 1)) _ _ (by omega) ⟨i + 1, rfl, by omega, by rw [← hI]; exact (if_neg (fun h5 => Bool.noConfusion (h5.symm.trans h4))).symm, rfl, rfl⟩ (Conv.fit (by repeat' (first | exact Fit.nil | refine Fit.any ?_ | refine Fit.same ?_)))
  · rw [idxF_end (by omega)] at hI
    conv => whnf
    repeat refine go ?_
    refine AOut.stay ?_
    conv => whnf
    repeat refine go ?_
    exact AFin.val rfl ⟨congrArg nV hI, rfl⟩
theorem f155 (l : List It) (hl : l.length ≤ 1000000) : Fun P 155 [itsV l, .fn 156 [] []] (bV (l.any (fun x => !itB x))) := by
  refine spec_of hT (f := 155) (fn := Go.Proofs.Tryz.f155) (c := body Go.Proofs.Tryz.f155) (by kernel_rfl) (by kernel_rfl) ?_
  conv => whnf
  repeat refine go ?_
  refine ACall.val (args := [itsV l, .fn 156 [] []]) (by kernel_rfl) (f235g l hl) (by (first | rfl | (simp only [renL, AV.ren, List.nil_append, List.cons_append, rens]; try rfl))) rfl ?_
  conv => whnf
  repeat refine go ?_
  exact AFin.val rfl ⟨congrArg bV (idxF_any _ l), rfl⟩
def shipsM (o : Option (ByteArray → Bool)) (k : (ByteArray → Bool) → Bool) : Bool :=
  match o with
  | none => false
  | some g => k g
def hasI (s : Sta) (id : Int) : Bool := (s.items.find? (fun x => decide (x.id = id))).isSome
def shipsT (s : Sta) : List Od → (ByteArray → Bool) → Bool
  | [], _ => true
  | o :: os, g => if ordC o = 0 ∧ o.at_ ≤ s.now ∧ o.ls.all (fun l => hasI s l.item) = true then shipsM (twS (serF o) g) (shipsT s os) else false
def shipsB (s : Sta) : Bool := !s.items.any (fun x => !itB x) && shipsT s s.orders (fun _ => false)
theorem serF_ok {o : Od} (ho : odOk o) : (serF o).length ≤ 8000000 ∧ ∀ x ∈ serF o, sOk x := by
  unfold serF
  split
  case isFalse => simp
  rename_i h
  have h8 : o.ls.length ≤ 8 := by
    unfold ordC at h
    split at h
    · rename_i h2
      simp only [ordB, headB, Bool.and_eq_true, decide_eq_true_eq] at h2
      omega
    · omega
  constructor
  · have : ∀ (l : List Ln), (∀ x ∈ l, x.ss.length ≤ 1000000) → (l.flatMap (·.ss)).length ≤ 1000000 * l.length := by
      intro l
      induction l with
      | nil => intro _; simp
      | cons a l ih => intro hx; rw [List.flatMap_cons, List.length_append, List.length_cons]; have := ih fun x hx' => hx x (by simp [hx']); have := hx a (by simp); omega
    have := this o.ls fun x hx => (ho.2 x hx).2
    omega
  · intro x hx
    obtain ⟨l, hl, hxl⟩ := List.mem_flatMap.1 hx
    exact (ho.2 l hl).1.2 x hxl
theorem f60 (s : Sta) (h : StaOk s) : Fun P 60 [stA s] (bV (shipsB s)) := by
  refine spec_of hT (f := 60) (fn := Go.Proofs.Tryz.f60) (c := body Go.Proofs.Tryz.f60) (by kernel_rfl) (by kernel_rfl) ?_
  unfold shipsB
  have hol := h.orders.1
  generalize hR : shipsT s s.orders (fun _ => false) = R
  conv => whnf
  repeat refine go ?_
  refine ACall.val (args := [itsV s.items, .fn 156 [] []]) (by kernel_rfl) (f155 s.items h.items) (by (first | rfl | (simp only [renL, AV.ren, List.nil_append, List.cons_append, rens]; try rfl))) rfl ?_
  cases s.items.any (fun x => !itB x) with
  | true =>
    conv => whnf
    repeat refine ru ?_
    exact AFin.val rfl ⟨rfl, rfl⟩
  | false =>
  conv => whnf
  repeat refine ru ?_
  refine AOp.makeMap ?_
  conv => whnf
  repeat refine go ?_
  refine ALoop.mk (fun n E H => ∃ (i : Nat) (g : ByteArray → Bool) (L : List (ByteArray × Bool)) (bs : List Nat) (clk : Nat), n = s.orders.length - i ∧ i ≤ s.orders.length ∧ MapIs sOk L false g ∧ shipsT s (s.orders.drop i) g = R ∧
      E = pad [stA s, .ptr 0 0, bV false, .mp 1, .any, .any, .any, .any, .any, .any, .any, .any, .any, .any, .any, .any, .any, .any, .any, odsV s.orders, nV s.orders.length, nV i] 68 ∧ H = [.cells 134 (stC s), .map (em sV bV L) bs clk]) (n := s.orders.length) _ _
    ⟨0, _, [], [], 0, rfl, Nat.zero_le _, MapIs.nil, hR, rfl, rfl⟩ (Conv.fit (by repeat' (first | exact Fit.nil | refine Fit.any ?_ | refine Fit.same ?_))) ?_
  rintro _ _ _ ⟨i, g, L, bs, clk, rfl, hi, hM, hI, rfl, rfl⟩
  conv => whnf
  repeat refine go ?_
  refine ACond.dec (fun h1 => ?_) (fun h1 => ?_)
  · have hil : i < s.orders.length := by omega
    have w1 : IntKind.wrap .i64 ((i : Int) + 1) = ((i + 1 : Nat) : Int) := by rw [wrap_i64 _ (by omega) (by omega)]; omega
    have hoo : odOk s.orders[i] := h.orders.2 _ (List.getElem_mem hil)
    rw [List.drop_eq_getElem_cons hil, shipsT] at hI
    generalize ho : s.orders[i] = o at hI hoo
    have hsf := serF_ok hoo
    have hls := hoo.1
    have hno : ¬ (ordC o = 0 ∧ o.at_ ≤ s.now ∧ o.ls.all (fun l => hasI s l.item) = true) → false = R := fun hn => by rw [if_neg hn] at hI; exact hI
    conv => whnf
    repeat (first | refine go ?_ | ((first | refine AReq.mk (by omega) ?_ | refine AIdx.flat (enc := odC) odC_len (xs := s.orders) (i := i) hil ?_); conv => whnf))
    rw [ho]
    refine ACall.val (by kernel_rfl) (f135 o hoo) (by (first | rfl | (simp only [renL, AV.ren, List.nil_append, List.cons_append, rens]; try rfl))) rfl ?_
    by_cases g1 : ordC o = 0
    case neg =>
      conv => whnf
      repeat refine go ?_
      refine ASplit.yes (by rw [decide_eq_false g1]; rfl) ?_
      conv => whnf
      repeat refine ru ?_
      refine AOut.stay ?_
      conv => whnf
      repeat refine ru ?_
      exact AFin.val rfl ⟨by rw [← hno (fun hn => g1 hn.1)]; rfl, rfl⟩
    conv => whnf
    repeat refine go ?_
    refine ASplit.no (by rw [decide_eq_true g1]; rfl) ?_
    conv => whnf
    repeat refine go ?_
    by_cases g2 : s.now < o.at_
    · refine ACond.yes (decide_eq_true g2) ?_
      conv => whnf
      repeat refine ru ?_
      refine AOut.stay ?_
      conv => whnf
      repeat refine ru ?_
      exact AFin.val rfl ⟨by rw [← hno (fun hn => by omega)]; rfl, rfl⟩
    refine ACond.no (decide_eq_false g2) ?_
    conv => whnf
    repeat refine go ?_
    refine ALoop.mk (fun n E H => ∃ (k : Nat), n = o.ls.length - k ∧ k ≤ o.ls.length ∧ (∀ j (hj : j < o.ls.length), j < k → hasI s o.ls[j].item = true) ∧
        E = pad [stA s, .ptr 0 0, bV false, .mp 1, .any, .ptr 2 0, .any, .any, .any, .any, .any, .any, .any, .any, .any, .any, .any, .any, .any, odsV s.orders, nV s.orders.length, nV i, .any, .any, .any, .any, .any, .any, .any, .any, .any, .any, .any, .any, .any, .any, .any, lnsV o.ls, nV o.ls.length, nV k] 68 ∧ H = [.cells 134 (stC s), .map (em sV bV L) bs clk, .cells 119 (odC o)]) (n := o.ls.length) _ _
      ⟨0, rfl, Nat.zero_le _, fun j _ hj => absurd hj (Nat.not_lt_zero _), rfl, rfl⟩ (Conv.fit (by repeat' (first | exact Fit.nil | refine Fit.any ?_ | refine Fit.same ?_))) ?_
    rintro _ _ _ ⟨k, rfl, hk, hall, rfl, rfl⟩
    conv => whnf
    repeat refine go ?_
    refine ACond.dec (fun h2 => ?_) (fun h2 => ?_)
    · have hkl : k < o.ls.length := by omega
      have w2 : IntKind.wrap .i64 ((k : Int) + 1) = ((k + 1 : Nat) : Int) := by rw [wrap_i64 _ (by omega) (by omega)]; omega
      conv => whnf
      repeat (first | refine go ?_ | ((first | refine AReq.mk (by omega) ?_ | refine AIdx.flat (enc := lnC) lnC_len (xs := o.ls) (i := k) hkl ?_ | refine ACall.val (by kernel_rfl) (f116 s o.ls[k].item h.items) (by (first | rfl | (simp only [renL, AV.ren, List.nil_append, List.cons_append, rens]; try rfl))) (by (first | rfl | (simp only [renL, AV.ren, List.nil_append, List.cons_append, rens]; try rfl))) ?_); conv => whnf))
      refine ACond.mk (fun h3 => ?_) (fun h3 => ?_)
      · have h4 : hasI s o.ls[k].item = false := nb1 h3
        conv => whnf
        repeat (first | refine go ?_ | ((first | refine AReq.mk (by omega) ?_ | refine AIdx.flat (enc := lnC) lnC_len (xs := o.ls) (i := k) hkl ?_ | refine ACall.val (by kernel_rfl) (f116 s o.ls[k].item h.items) (by (first | rfl | (simp only [renL, AV.ren, List.nil_append, List.cons_append, rens]; try rfl))) (by (first | rfl | (simp only [renL, AV.ren, List.nil_append, List.cons_append, rens]; try rfl))) ?_); conv => whnf))
        refine AOut.stay ?_
        conv => whnf
        repeat (first | refine go ?_ | ((first | refine AReq.mk (by omega) ?_ | refine AIdx.flat (enc := lnC) lnC_len (xs := o.ls) (i := k) hkl ?_ | refine ACall.val (by kernel_rfl) (f116 s o.ls[k].item h.items) (by (first | rfl | (simp only [renL, AV.ren, List.nil_append, List.cons_append, rens]; try rfl))) (by (first | rfl | (simp only [renL, AV.ren, List.nil_append, List.cons_append, rens]; try rfl))) ?_); conv => whnf))
        refine AOut.stay ?_
        conv => whnf
        repeat (first | refine go ?_ | ((first | refine AReq.mk (by omega) ?_ | refine AIdx.flat (enc := lnC) lnC_len (xs := o.ls) (i := k) hkl ?_ | refine ACall.val (by kernel_rfl) (f116 s o.ls[k].item h.items) (by (first | rfl | (simp only [renL, AV.ren, List.nil_append, List.cons_append, rens]; try rfl))) (by (first | rfl | (simp only [renL, AV.ren, List.nil_append, List.cons_append, rens]; try rfl))) ?_); conv => whnf))
        refine AFin.val rfl ⟨?_, rfl⟩
        rw [← hno (fun hn => by rw [all_get hkl h4] at hn; exact Bool.noConfusion hn.2.2)]; rfl
      · have h4 : hasI s o.ls[k].item = true := nb0 h3
        conv => whnf
        repeat (first | refine go ?_ | ((first | refine AReq.mk (by omega) ?_ | refine AIdx.flat (enc := lnC) lnC_len (xs := o.ls) (i := k) hkl ?_ | refine ACall.val (by kernel_rfl) (f116 s o.ls[k].item h.items) (by (first | rfl | (simp only [renL, AV.ren, List.nil_append, List.cons_append, rens]; try rfl))) (by (first | rfl | (simp only [renL, AV.ren, List.nil_append, List.cons_append, rens]; try rfl))) ?_); conv => whnf))
        rw [w2]
        refine AHead.mk (o.ls.length - (k + 1)) _ _ (by omega) ⟨k + 1, rfl, by omega, ?_, rfl, rfl⟩ (Conv.ren [0, 1, 2] _ (by simp) (by simp) (by simp only [pad, renL, AV.ren, rens]; repeat' (first | exact Fit.nil | refine Fit.any ?_ | refine Fit.same ?_)) (.same (by simp only [ABlk.ren, stC_ren]; rfl) (.same (by simp only [ABlk.ren, ren_emS]; rfl) (.same (by simp only [ABlk.ren, odC_ren]; rfl) .nil))))
        intro j hj hjk
        rcases Nat.lt_or_ge j k with g | g
        · exact hall j hj g
        · obtain rfl : j = k := by omega
          exact h4
    · have hal : o.ls.all (fun l => hasI s l.item) = true := by
        rw [List.all_eq_true]
        intro r hr
        obtain ⟨j, hj, rfl⟩ := List.mem_iff_getElem.1 hr
        exact hall j hj (by omega)
      rw [if_pos ⟨g1, by omega, hal⟩] at hI
      conv => whnf
      repeat refine go ?_
      refine AOut.stay ?_
      conv => whnf
      repeat refine go ?_
      refine ACall.val (by kernel_rfl) (f56 o hoo) (by (first | rfl | (simp only [renL, AV.ren, List.nil_append, List.cons_append, rens]; try rfl))) (by (first | rfl | (simp only [renL, AV.ren, List.nil_append, List.cons_append, rens]; try rfl))) ?_
      generalize hss : serF o = ss at hI hsf
      conv => whnf
      repeat refine go ?_
      refine ALoop.mk (fun n E H => ∃ (k : Nat) (g : ByteArray → Bool) (L : List (ByteArray × Bool)) (bs : List Nat) (clk : Nat), n = ss.length - k ∧ k ≤ ss.length ∧ MapIs sOk L false g ∧ shipsM (twS (ss.drop k) g) (shipsT s (s.orders.drop (i + 1))) = R ∧
          E = pad [stA s, .ptr 0 0, bV false, .mp 1, .any, .any, .any, .any, .any, .any, .any, .any, .any, .any, .any, .any, .any, .any, .any, odsV s.orders, nV s.orders.length, nV i, .any, .any, .any, .any, .any, .any, .any, .any, .any, .any, .any, .any, .any, .any, .any, .any, .any, .any, .any, .any, .any, .any, .any, .any, .any, .any, .any, .any, .any, .any, .any, .any, .any, ssV ss, nV ss.length, nV k] 68 ∧ H = [.cells 134 (stC s), .map (em sV bV L) bs clk]) (n := ss.length) _ _
        ⟨0, g, L, bs, clk, rfl, Nat.zero_le _, hM, hI, rfl, rfl⟩ (Conv.ren [0, 1] _ (by simp) (by simp) (by simp only [pad, renL, AV.ren, rens]; repeat' (first | exact Fit.nil | refine Fit.any ?_ | refine Fit.same ?_)) (.same (by simp only [ABlk.ren, stC_ren]; rfl) (.same (by simp only [ABlk.ren, ren_emS]; rfl) .nil))) ?_
      rintro _ _ _ ⟨k, g, L, bs, clk, rfl, hk, hM, hI, rfl, rfl⟩
      conv => whnf
      repeat refine go ?_
      refine ACond.dec (fun h2 => ?_) (fun h2 => ?_)
      · have hkl : k < ss.length := by omega
        have w2 : IntKind.wrap .i64 ((k : Int) + 1) = ((k + 1 : Nat) : Int) := by rw [wrap_i64 _ (by omega) (by omega)]; omega
        rw [List.drop_eq_getElem_cons hkl, twS] at hI
        conv => whnf
        repeat refine go ?_
        refine AReq.mk (by omega) ?_
        conv => whnf
        repeat refine go ?_
        refine AIdx.flat (enc := sC) sC_len (xs := ss) (i := k) hkl ?_
        conv => whnf
        repeat refine go ?_
        refine AOp.getM 1 ss[k] hT sK und126 hne4 (eb := bV) rfl hM (hsf.2 _ (List.getElem_mem hkl)) rfl rfl rfl ?_
        conv => whnf
        repeat refine go ?_
        refine ACond.mk (fun h4 => ?_) (fun h4 => ?_)
        · rw [if_pos h4] at hI
          conv => whnf
          repeat refine go ?_
          refine AOut.stay ?_
          conv => whnf
          repeat refine go ?_
          refine AOut.stay ?_
          conv => whnf
          repeat refine go ?_
          exact AFin.val rfl ⟨congrArg bV hI, rfl⟩
        · rw [if_neg (by rw [h4]; decide)] at hI
          conv => whnf
          repeat refine go ?_
          refine AOp.putM 1 ss[k] true sK und126 hM (hsf.2 _ (List.getElem_mem hkl)) rfl rfl rfl rfl ?_
          intro L' bs' clk' hM'
          conv => whnf
          repeat refine go ?_
          rw [w2]
          exact AHead.mk (ss.length - (k + 1)) _ _ (by omega) ⟨k + 1, _, L', bs', clk', rfl, by omega, hM', hI, rfl, rfl⟩ (Conv.fit (by repeat' (first | exact Fit.nil | refine Fit.any ?_ | refine Fit.same ?_)))
      · rw [List.drop_of_length_le (by omega)] at hI
        conv => whnf
        repeat refine go ?_
        refine AOut.stay ?_
        conv => whnf
        repeat refine go ?_
        rw [w1]
        exact AHead.mk (s.orders.length - (i + 1)) _ _ (by omega) ⟨i + 1, g, L, bs, clk, rfl, by omega, hM, hI, rfl, rfl⟩ (Conv.fit (by repeat' (first | exact Fit.nil | refine Fit.any ?_ | refine Fit.same ?_)))
  · rw [List.drop_of_length_le (by omega)] at hI
    conv => whnf
    repeat refine go ?_
    refine AOut.stay ?_
    conv => whnf
    repeat refine go ?_
    exact AFin.val rfl ⟨congrArg bV hI, rfl⟩
end Go.Aw.U1

namespace Go.Aw.UT
open Go
noncomputable abbrev P : Program := Go.Aw.U1.P
noncomputable abbrev T : Nat → TI := Go.Aw.U1.T
theorem hT : TOk P T := Go.Aw.U1.hT
theorem hm : P.follows .mixedOrders = true := Go.Aw.U1.hm
noncomputable def body (f : Func) : Code := match f.body with | some c => c | none => .skip
end Go.Aw.UT

set_option linter.unusedSimpArgs false
set_option linter.unusedVariables false
set_option maxHeartbeats 1000000
namespace Go.Aw.UT
open Go Go.Proofs

abbrev nV (n : Int) : AV := .v (.int .i64 n)
abbrev bV (b : Bool) : AV := .v (.bool b)
structure Ro where
  g : Int
  w : Int
  lo : Int
  hi : Int
  way : Int
def roC (r : Ro) : List AV := [nV r.g, nV r.w, nV r.lo, nV r.hi, nV r.way]
theorem roC_len (r : Ro) : (roC r).length = 5 := rfl
theorem ros_ren (ρ : Nat → Nat) (l : List Ro) : renL ρ (l.flatMap roC) = l.flatMap roC := by
  induction l with
  | nil => rfl
  | cons a l ih => rw [List.flatMap_cons, renL_append, ih]; rfl
def roV (l : List Ro) : AV := .vs 5 l.length (l.flatMap roC)
theorem roV_ren (ρ : Nat → Nat) (l : List Ro) : (roV l).ren ρ = roV l := by simp only [roV, AV.ren, ros_ren]
theorem roV1 (ρ : Nat → Nat) (l : List Ro) : renL ρ [roV l] = [roV l] := by show [(roV l).ren ρ] = _; rw [roV_ren]
structure Fc where
  g : Int
  w : Bool
  a : Int
def fcC (f : Fc) : List AV := [nV f.g, bV f.w, nV f.a]
abbrev roA (r : Ro) : AV := .agg (roC r)
abbrev fcA (f : Fc) : AV := .agg (fcC f)

theorem Fit.eq {x x' : AV} {xs xs' : List AV} (e : x' = x) (h : Fit xs xs') : Fit (x :: xs) (x' :: xs') := by
  rw [e]; exact .same h

theorem nb1 {b : Bool} (h : (!b) = true) : b = false := by cases b <;> first | rfl | cases h
theorem nb0 {b : Bool} (h : (!b) = false) : b = true := by cases b <;> first | rfl | cases h
def rowB (r : Ro) : Bool := decide (1 ≤ r.g) && decide (r.g < 16) && decide (1 ≤ r.w) && decide (r.w ≤ 3) && (decide (0 ≤ r.lo) && decide (r.lo ≤ r.hi) && decide (r.hi ≤ 1000000000000)) && (decide (1 ≤ r.way) && decide (r.way ≤ 5))
theorem f480 (r : Ro) : Fun P 480 [roA r] (bV (decide (1 ≤ r.g) && decide (r.g < 16) && decide (1 ≤ r.w) && decide (r.w ≤ 3))) := by
  refine spec_of hT (f := 480) (fn := Go.Proofs.Tryz.f480) (c := body Go.Proofs.Tryz.f480) (by kernel_rfl) (by kernel_rfl) ?_
  conv => whnf
  repeat refine go ?_
  refine ASplit.dec (fun h1 => ?_) (fun h1 => ?_)
  · rw [decide_eq_true h1]
    conv => whnf
    repeat refine go ?_
    refine ASplit.dec (fun h2 => ?_) (fun h2 => ?_)
    · rw [decide_eq_true h2]
      conv => whnf
      repeat refine go ?_
      refine ASplit.dec (fun h3 => ?_) (fun h3 => ?_)
      · rw [decide_eq_true h3]
        conv => whnf
        repeat refine go ?_
        exact AFin.val rfl ⟨rfl, rfl⟩
      · rw [decide_eq_false h3]
        conv => whnf
        repeat refine ru ?_
        exact AFin.val rfl ⟨rfl, rfl⟩
    · rw [decide_eq_false h2]
      conv => whnf
      repeat refine ru ?_
      exact AFin.val rfl ⟨rfl, rfl⟩
  · rw [decide_eq_false h1]
    conv => whnf
    repeat refine ru ?_
    exact AFin.val rfl ⟨rfl, rfl⟩
theorem f481 (r : Ro) : Fun P 481 [roA r] (bV (decide (0 ≤ r.lo) && decide (r.lo ≤ r.hi) && decide (r.hi ≤ 1000000000000))) := by
  refine spec_of hT (f := 481) (fn := Go.Proofs.Tryz.f481) (c := body Go.Proofs.Tryz.f481) (by kernel_rfl) (by kernel_rfl) ?_
  conv => whnf
  repeat refine go ?_
  refine ASplit.dec (fun h1 => ?_) (fun h1 => ?_)
  · rw [decide_eq_true h1]
    conv => whnf
    repeat refine go ?_
    refine ASplit.dec (fun h2 => ?_) (fun h2 => ?_)
    · rw [decide_eq_true h2]
      conv => whnf
      repeat refine go ?_
      exact AFin.val rfl ⟨rfl, rfl⟩
    · rw [decide_eq_false h2]
      conv => whnf
      repeat refine ru ?_
      exact AFin.val rfl ⟨rfl, rfl⟩
  · rw [decide_eq_false h1]
    conv => whnf
    repeat refine ru ?_
    exact AFin.val rfl ⟨rfl, rfl⟩
theorem f482 (r : Ro) : Fun P 482 [roA r] (bV (decide (1 ≤ r.way) && decide (r.way ≤ 5))) := by
  refine spec_of hT (f := 482) (fn := Go.Proofs.Tryz.f482) (c := body Go.Proofs.Tryz.f482) (by kernel_rfl) (by kernel_rfl) ?_
  conv => whnf
  repeat refine go ?_
  refine ASplit.dec (fun h1 => ?_) (fun h1 => ?_)
  · rw [decide_eq_true h1]
    conv => whnf
    repeat refine go ?_
    exact AFin.val rfl ⟨rfl, rfl⟩
  · rw [decide_eq_false h1]
    conv => whnf
    repeat refine ru ?_
    exact AFin.val rfl ⟨rfl, rfl⟩
theorem f443 (r : Ro) : Fun P 443 [roA r] (nV (if rowB r then 0 else 36)) := by
  refine spec_of hT (f := 443) (fn := Go.Proofs.Tryz.f443) (c := body Go.Proofs.Tryz.f443) (by kernel_rfl) (by kernel_rfl) ?_
  unfold rowB
  conv => whnf
  repeat (first | refine go ?_ | ((first | refine ALoop.un ?_ | refine ALp.step (T := T) ?_ | refine AIdx.sp rfl ?_ | refine AReq.mk (by decide) ?_ | refine ACall.val (by kernel_rfl) (f480 r) rfl rfl ?_ | refine ACall.val (by kernel_rfl) (f481 r) rfl rfl ?_ | refine ACall.val (by kernel_rfl) (f482 r) rfl rfl ?_ | refine ACond.yes (by decide) ?_ | refine ACond.no (by decide) ?_); conv => whnf))
  refine ACond.mk (fun h => ?_) (fun h => ?_)
  · have h : (decide (1 ≤ r.g) && decide (r.g < 16) && decide (1 ≤ r.w) && decide (r.w ≤ 3)) = false := nb1 h
    rw [h]
    conv => whnf
    repeat (first | refine go ?_ | ((first | refine ALoop.un ?_ | refine ALp.step (T := T) ?_ | refine AIdx.sp rfl ?_ | refine AReq.mk (by decide) ?_ | refine ACall.val (by kernel_rfl) (f480 r) rfl rfl ?_ | refine ACall.val (by kernel_rfl) (f481 r) rfl rfl ?_ | refine ACall.val (by kernel_rfl) (f482 r) rfl rfl ?_ | refine ACond.yes (by decide) ?_ | refine ACond.no (by decide) ?_); conv => whnf))
    exact AFin.val rfl ⟨rfl, rfl⟩
  have h : (decide (1 ≤ r.g) && decide (r.g < 16) && decide (1 ≤ r.w) && decide (r.w ≤ 3)) = true := nb0 h
  rw [h]
  conv => whnf
  repeat (first | refine go ?_ | ((first | refine ALoop.un ?_ | refine ALp.step (T := T) ?_ | refine AIdx.sp rfl ?_ | refine AReq.mk (by decide) ?_ | refine ACall.val (by kernel_rfl) (f480 r) rfl rfl ?_ | refine ACall.val (by kernel_rfl) (f481 r) rfl rfl ?_ | refine ACall.val (by kernel_rfl) (f482 r) rfl rfl ?_ | refine ACond.yes (by decide) ?_ | refine ACond.no (by decide) ?_); conv => whnf))
  refine ACond.mk (fun h => ?_) (fun h => ?_)
  · have h : (decide (0 ≤ r.lo) && decide (r.lo ≤ r.hi) && decide (r.hi ≤ 1000000000000)) = false := nb1 h
    rw [h]
    conv => whnf
    repeat (first | refine go ?_ | ((first | refine ALoop.un ?_ | refine ALp.step (T := T) ?_ | refine AIdx.sp rfl ?_ | refine AReq.mk (by decide) ?_ | refine ACall.val (by kernel_rfl) (f480 r) rfl rfl ?_ | refine ACall.val (by kernel_rfl) (f481 r) rfl rfl ?_ | refine ACall.val (by kernel_rfl) (f482 r) rfl rfl ?_ | refine ACond.yes (by decide) ?_ | refine ACond.no (by decide) ?_); conv => whnf))
    exact AFin.val rfl ⟨rfl, rfl⟩
  have h : (decide (0 ≤ r.lo) && decide (r.lo ≤ r.hi) && decide (r.hi ≤ 1000000000000)) = true := nb0 h
  rw [h]
  conv => whnf
  repeat (first | refine go ?_ | ((first | refine ALoop.un ?_ | refine ALp.step (T := T) ?_ | refine AIdx.sp rfl ?_ | refine AReq.mk (by decide) ?_ | refine ACall.val (by kernel_rfl) (f480 r) rfl rfl ?_ | refine ACall.val (by kernel_rfl) (f481 r) rfl rfl ?_ | refine ACall.val (by kernel_rfl) (f482 r) rfl rfl ?_ | refine ACond.yes (by decide) ?_ | refine ACond.no (by decide) ?_); conv => whnf))
  refine ACond.mk (fun h => ?_) (fun h => ?_)
  · have h : (decide (1 ≤ r.way) && decide (r.way ≤ 5)) = false := nb1 h
    rw [h]
    conv => whnf
    repeat (first | refine go ?_ | ((first | refine ALoop.un ?_ | refine ALp.step (T := T) ?_ | refine AIdx.sp rfl ?_ | refine AReq.mk (by decide) ?_ | refine ACall.val (by kernel_rfl) (f480 r) rfl rfl ?_ | refine ACall.val (by kernel_rfl) (f481 r) rfl rfl ?_ | refine ACall.val (by kernel_rfl) (f482 r) rfl rfl ?_ | refine ACond.yes (by decide) ?_ | refine ACond.no (by decide) ?_); conv => whnf))
    exact AFin.val rfl ⟨rfl, rfl⟩
  have h : (decide (1 ≤ r.way) && decide (r.way ≤ 5)) = true := nb0 h
  rw [h]
  conv => whnf
  repeat (first | refine go ?_ | ((first | refine ALoop.un ?_ | refine ALp.step (T := T) ?_ | refine AIdx.sp rfl ?_ | refine AReq.mk (by decide) ?_ | refine ACall.val (by kernel_rfl) (f480 r) rfl rfl ?_ | refine ACall.val (by kernel_rfl) (f481 r) rfl rfl ?_ | refine ACall.val (by kernel_rfl) (f482 r) rfl rfl ?_ | refine ACond.yes (by decide) ?_ | refine ACond.no (by decide) ?_); conv => whnf))
  exact AFin.val rfl ⟨rfl, rfl⟩

def tabB (l : List Ro) : Bool := decide (1 ≤ l.length) && decide (l.length ≤ 20) && l.all rowB
theorem all_get {l : List Ro} {i : Nat} (h : i < l.length) (hb : rowB l[i] = false) : l.all rowB = false := by
  rw [List.all_eq_false]; exact ⟨_, List.getElem_mem h, by simp [hb]⟩
theorem f393 (l : List Ro) : Fun P 393 [roV l] (nV (if tabB l then 0 else 36)) := by
  refine spec_of hT (f := 393) (fn := Go.Proofs.Tryz.f393) (c := body Go.Proofs.Tryz.f393) (by kernel_rfl) (by kernel_rfl) ?_
  unfold tabB
  conv => whnf
  repeat refine go ?_
  refine ASplit.dec (fun h1 => ?_) (fun h1 => ?_)
  · rw [decide_eq_false (show ¬ 1 ≤ l.length by omega)]
    conv => whnf
    repeat refine ru ?_
    exact AFin.val rfl ⟨rfl, rfl⟩
  conv => whnf
  repeat refine go ?_
  refine ACond.dec (fun h2 => ?_) (fun h2 => ?_)
  · rw [decide_eq_false (show ¬ l.length ≤ 20 by omega), Bool.and_false]
    conv => whnf
    repeat refine ru ?_
    exact AFin.val rfl ⟨rfl, rfl⟩
  rw [decide_eq_true (show 1 ≤ l.length by omega), decide_eq_true (show l.length ≤ 20 by omega), Bool.true_and, Bool.true_and]
  conv => whnf
  repeat refine go ?_
  refine ALoop.mk (fun j E H => ∃ i : Nat, j + i = l.length ∧ (∀ k (h : k < l.length), k < i → rowB l[k] = true) ∧ E = pad ([.any, .any, .v (.int .i64 0)] ++ List.replicate 11 .any ++ [roV l, nV l.length, nV i]) 26 ∧ H = [])
    (n := l.length) _ _ ⟨0, rfl, fun _ _ h => absurd h (Nat.not_lt_zero _), rfl, rfl⟩ (Conv.fit (by repeat' (first | exact Fit.nil | refine Fit.any ?_ | refine Fit.same ?_))) ?_
  rintro j _ _ ⟨i, hj, hok, rfl, rfl⟩
  conv => whnf
  repeat refine go ?_
  refine ACond.dec (fun h3 => ?_) (fun h3 => ?_)
  · have hil : i < l.length := by omega
    have w1 : IntKind.wrap .i64 ((i : Int) + 1) = ((i + 1 : Nat) : Int) := by rw [wrap_i64 _ (by omega) (by omega)]; omega
    conv => whnf
    repeat (first | refine go ?_ | ((first | refine AReq.mk (by omega) ?_ | refine AIdx.flat (enc := roC) roC_len (xs := l) (i := i) hil ?_ | refine ACall.val (by kernel_rfl) (f443 l[i]) rfl rfl ?_); conv => whnf))
    refine ACond.mk (fun h4 => ?_) (fun h4 => ?_)
    · have hb : rowB l[i] = false := by
        rcases Bool.eq_false_or_eq_true (rowB l[i]) with g | g
        · rw [g] at h4; simp at h4
        · exact g
      rw [all_get hil hb, hb]
      conv => whnf
      repeat (first | refine go ?_ | ((first | refine AReq.mk (by omega) ?_ | refine AIdx.flat (enc := roC) roC_len (xs := l) (i := i) hil ?_ | refine ACall.val (by kernel_rfl) (f443 l[i]) rfl rfl ?_); conv => whnf))
      refine AOut.stay ?_
      conv => whnf
      repeat (first | refine go ?_ | ((first | refine AReq.mk (by omega) ?_ | refine AIdx.flat (enc := roC) roC_len (xs := l) (i := i) hil ?_ | refine ACall.val (by kernel_rfl) (f443 l[i]) rfl rfl ?_); conv => whnf))
      exact AFin.val rfl ⟨rfl, rfl⟩
    · have hb : rowB l[i] = true := by
        rcases Bool.eq_false_or_eq_true (rowB l[i]) with g | g
        · exact g
        · rw [g] at h4; simp at h4
      conv => whnf
      repeat (first | refine go ?_ | ((first | refine AReq.mk (by omega) ?_ | refine AIdx.flat (enc := roC) roC_len (xs := l) (i := i) hil ?_ | refine ACall.val (by kernel_rfl) (f443 l[i]) rfl rfl ?_); conv => whnf))
      rw [w1]
      refine AHead.mk (j - 1) _ _ (by omega) ⟨i + 1, by omega, ?_, rfl, rfl⟩ (Conv.ren [] _ (fun _ h => absurd h (Nat.not_lt_zero _)) (by decide) ?_ .nil)
      · intro k hk hki
        rcases Nat.lt_or_ge k i with g | g
        · exact hok k hk g
        · obtain rfl : k = i := by omega
          exact hb
      · repeat' (first | exact Fit.nil | refine Fit.any ?_ | refine Fit.same ?_ | refine Fit.eq (roV_ren _ _) ?_)
  · have hall : l.all rowB = true := by
      rw [List.all_eq_true]
      intro r hr
      obtain ⟨k, hk, rfl⟩ := List.mem_iff_getElem.1 hr
      exact hok k hk (by omega)
    rw [hall]
    conv => whnf
    repeat (first | refine go ?_ | ((first | refine AReq.mk (by omega) ?_ | refine AIdx.flat (enc := roC) roC_len (xs := l) (i := i) hil ?_ | refine ACall.val (by kernel_rfl) (f443 l[i]) rfl rfl ?_); conv => whnf))
    refine AOut.stay ?_
    conv => whnf
    repeat (first | refine go ?_ | ((first | refine AReq.mk (by omega) ?_ | refine AIdx.flat (enc := roC) roC_len (xs := l) (i := i) hil ?_ | refine ACall.val (by kernel_rfl) (f443 l[i]) rfl rfl ?_); conv => whnf))
    exact AFin.val rfl ⟨rfl, rfl⟩
end Go.Aw.UT

set_option linter.unusedSimpArgs false
set_option linter.unusedVariables false
set_option maxHeartbeats 1000000
namespace Go.Aw.UT
open Go Go.Proofs

def bitI (n : Int) (k : Nat) : Bool := decide (n / 2 ^ k % 2 = 1)
theorem rowB_iff {r : Ro} : rowB r = true ↔ 1 ≤ r.g ∧ r.g < 16 ∧ 1 ≤ r.w ∧ r.w ≤ 3 ∧ 0 ≤ r.lo ∧ r.lo ≤ r.hi ∧ r.hi ≤ 1000000000000 ∧ 1 ≤ r.way ∧ r.way ≤ 5 := by
  unfold rowB
  simp only [Bool.and_eq_true, decide_eq_true_eq]
  constructor
  · rintro ⟨⟨⟨⟨⟨a, b⟩, c⟩, d⟩, ⟨e, f⟩, g⟩, h, i⟩; exact ⟨a, b, c, d, e, f, g, h, i⟩
  · rintro ⟨a, b, c, d, e, f, g, h, i⟩; exact ⟨⟨⟨⟨⟨a, b⟩, c⟩, d⟩, ⟨e, f⟩, g⟩, h, i⟩
theorem bit_tab : ∀ g : Fin 16, ∀ k : Fin 4, decide (bitop .and .i64 (((g : Nat) : Int).fdiv (2 ^ min (k : Nat) 64)) 1 = 1) = bitI ((g : Nat) : Int) (k : Nat) := by decide +kernel
theorem bit_g {g : Int} {k : Int} (h1 : 0 ≤ g) (h2 : g < 16) (h3 : 0 ≤ k) (h4 : k < 4) : decide (bitop .and .i64 (g.fdiv (2 ^ min k.toNat IntKind.i64.bits)) 1 = 1) = bitI g k.toNat := by
  have := bit_tab ⟨g.toNat, by omega⟩ ⟨k.toNat, by omega⟩
  simp only at this
  rw [Int.toNat_of_nonneg h1] at this
  exact this
theorem tabB_row {l : List Ro} (h : tabB l = true) : l.length ≤ 20 ∧ 1 ≤ l.length ∧ ∀ r ∈ l, rowB r = true := by
  unfold tabB at h
  simp only [Bool.and_eq_true, decide_eq_true_eq, List.all_eq_true] at h
  exact ⟨h.1.2, h.1.1, h.2⟩
end Go.Aw.UT

set_option linter.unusedSimpArgs false
set_option linter.unusedVariables false
set_option maxHeartbeats 1000000
namespace Go.Aw.UT
open Go Go.Proofs

def fcOf (c : Nat) (a : Int) : Fc := ⟨((c / 2 : Nat) : Int), decide (c % 2 = 1), a⟩
def iVs (l : List Int) : AV := .vs 1 l.length (l.map nV)
theorem nVs_ren (ρ : Nat → Nat) (l : List Int) : renL ρ (l.map nV) = l.map nV := by rw [renL_map, List.map_map]; rfl
theorem iVs_ren (ρ : Nat → Nat) (l : List Int) : (iVs l).ren ρ = iVs l := by simp only [iVs, AV.ren, nVs_ren]
end Go.Aw.UT

set_option linter.unusedSimpArgs false
set_option linter.unusedVariables false
set_option maxHeartbeats 1000000
namespace Go.Aw.UT
open Go Go.Proofs

def inB (r : Ro) (c : Nat) : Bool := bitI r.g (c / 2) && bitI r.w (c % 2)
theorem f444 (r : Ro) (c : Nat) (hr : rowB r = true) (hc : c < 8) : Fun P 444 [roA r, nV c] (bV (inB r c)) := by
  obtain ⟨a1, a2, a3, a4, a5, a6, a7, a8, a9⟩ := rowB_iff.1 hr
  have hg := bit_g (g := r.g) (k := ((c / 2 : Nat) : Int)) (by omega) a2 (by omega) (by omega)
  have hw := bit_g (g := r.w) (k := ((c % 2 : Nat) : Int)) (by omega) (by omega) (by omega) (by omega)
  rw [Int.toNat_natCast] at hg hw
  refine spec_of hT (f := 444) (fn := Go.Proofs.Tryz.f444) (c := body Go.Proofs.Tryz.f444) (by kernel_rfl) (by kernel_rfl) ?_
  unfold inB
  rw [← hg, ← hw]
  clear hg hw
  have h : c = 0 ∨ c = 1 ∨ c = 2 ∨ c = 3 ∨ c = 4 ∨ c = 5 ∨ c = 6 ∨ c = 7 := by omega
  rcases h with rfl | rfl | rfl | rfl | rfl | rfl | rfl | rfl <;>
  · conv => whnf
    repeat (first | refine go ?_ | (refine AReq.mk (by decide) ?_; conv => whnf))
    refine ASplit.mk (fun h3 => ?_) (fun h3 => ?_)
    · conv => whnf
      repeat (first | refine go ?_ | (refine AReq.mk (by decide) ?_; conv => whnf))
      refine AFin.val rfl ⟨congrArg bV ?_, rfl⟩
      refine (Eq.trans ?_ (congrArg (fun x => x && _) h3.symm))
      rfl
    · conv => whnf
      repeat (first | refine ru ?_ | (refine AReq.mk (by decide) ?_; conv => whnf))
      refine AFin.val rfl ⟨congrArg bV ?_, rfl⟩
      exact (congrArg (fun x => x && _) h3.symm)
/-- amounts -/
def spC (s : Int × Int) : List AV := [nV s.1, nV s.2]
theorem spC_len (s : Int × Int) : (spC s).length = 2 := rfl
theorem sps_ren (ρ : Nat → Nat) (l : List (Int × Int)) : renL ρ (l.flatMap spC) = l.flatMap spC := by
  induction l with
  | nil => rfl
  | cons a l ih => rw [List.flatMap_cons, renL_append, ih]; rfl
def spV (l : List (Int × Int)) : AV := .vs 2 l.length (l.flatMap spC)
theorem spV_ren (ρ : Nat → Nat) (l : List (Int × Int)) : (spV l).ren ρ = spV l := by simp only [spV, AV.ren, sps_ren]
def holF : List (Int × Int) → Int → Int
  | [], n => n
  | s :: ss, n => if s.1 > n then n else holF ss (if s.2 + 1 > n then s.2 + 1 else n)
theorem f395 (l : List (Int × Int)) (lo hi : Int) (hl : l.length ≤ 9223372036854775807) (hs : ∀ s ∈ l, -1 ≤ s.2 ∧ s.2 ≤ 1000000000000) : Fun P 395 [spV l, .agg [nV lo, nV hi]] (.tup [nV (holF l lo), bV (decide (holF l lo ≤ hi))]) := by
  refine spec_of hT (f := 395) (fn := Go.Proofs.Tryz.f395) (c := body Go.Proofs.Tryz.f395) (by kernel_rfl) (by kernel_rfl) ?_
  conv => whnf
  repeat (first | refine go ?_ | (refine AW.plan (id := 8) hm (.one 0 (.one 1 (.one 2 (.one 5 (.one 3 (.one 4 (.one 6 .nil))))))) (by kernel_rfl) ?_; conv => whnf))
  refine ALoop.mk (fun j E H => ∃ (i : Nat) (n : Int), j + i = l.length ∧ holF (l.drop i) n = holF l lo ∧ E = pad [.any, .any, .any, .ptr 0 0, .any, .any, nV n, .any, .any, .any, .any, spV l, nV l.length, nV i] 32 ∧ H = [.cells 439 [nV lo, nV hi]])
    (n := l.length) _ _ ⟨0, lo, rfl, rfl, rfl, rfl⟩ (Conv.fit (by repeat' (first | exact Fit.nil | refine Fit.any ?_ | refine Fit.same ?_))) ?_
  rintro j _ _ ⟨i, n, hj, hh, rfl, rfl⟩
  conv => whnf
  repeat (first | refine go ?_ | (refine AW.plan (id := 8) hm (.one 0 (.one 1 (.one 2 (.one 5 (.one 3 (.one 4 (.one 6 .nil))))))) (by kernel_rfl) ?_; conv => whnf))
  refine ACond.dec (fun h3 => ?_) (fun h3 => ?_)
  · have hil : i < l.length := by omega
    have w1 : IntKind.wrap .i64 ((i : Int) + 1) = ((i + 1 : Nat) : Int) := by rw [wrap_i64 _ (by omega) (by omega)]; omega
    have hsi := hs _ (List.getElem_mem hil)
    have w2 : IntKind.wrap .i64 (l[i].2 + 1) = l[i].2 + 1 := wrap_i64 _ (by omega) (by omega)
    rw [List.drop_eq_getElem_cons hil, holF] at hh
    conv => whnf
    repeat (first | refine go ?_ | ((first | refine AW.plan (id := 8) hm (.one 0 (.one 1 (.one 2 (.one 5 (.one 3 (.one 4 (.one 6 .nil))))))) (by kernel_rfl) ?_ | refine AReq.mk (by omega) ?_ | refine AIdx.flat (enc := spC) spC_len (xs := l) (i := i) hil ?_); conv => whnf))
    refine ACond.dec (fun h4 => ?_) (fun h4 => ?_)
    · rw [if_pos h4] at hh
      rw [← hh]
      conv => whnf
      repeat (first | refine go ?_ | ((first | refine AW.plan (id := 8) hm (.one 0 (.one 1 (.one 2 (.one 5 (.one 3 (.one 4 (.one 6 .nil))))))) (by kernel_rfl) ?_ | refine AReq.mk (by omega) ?_ | refine AIdx.flat (enc := spC) spC_len (xs := l) (i := i) hil ?_); conv => whnf))
      refine AOut.stay ?_
      conv => whnf
      repeat (first | refine go ?_ | ((first | refine AW.plan (id := 8) hm (.one 0 (.one 1 (.one 2 (.one 5 (.one 3 (.one 4 (.one 6 .nil))))))) (by kernel_rfl) ?_ | refine AReq.mk (by omega) ?_ | refine AIdx.flat (enc := spC) spC_len (xs := l) (i := i) hil ?_); conv => whnf))
      exact AFin.val rfl ⟨rfl, rfl⟩
    · rw [if_neg h4] at hh
      conv => whnf
      repeat (first | refine go ?_ | ((first | refine AW.plan (id := 8) hm (.one 0 (.one 1 (.one 2 (.one 5 (.one 3 (.one 4 (.one 6 .nil))))))) (by kernel_rfl) ?_ | refine AReq.mk (by omega) ?_ | refine AIdx.flat (enc := spC) spC_len (xs := l) (i := i) hil ?_); conv => whnf))
      rw [w1, w2]
      refine AHead.mk (j - 1) _ _ (by omega) ⟨i + 1, _, by omega, hh, rfl, rfl⟩ (Conv.ren [0] _ (fun _ h => absurd h (Nat.not_lt_zero _)) (by decide) ?_ (.same rfl .nil))
      repeat' (first | exact Fit.nil | refine Fit.any ?_ | refine Fit.same ?_ | refine Fit.eq (spV_ren _ _) ?_)
  · rw [List.drop_eq_nil_of_le (by omega), holF] at hh
    subst hh
    conv => whnf
    repeat (first | refine go ?_ | (refine AW.plan (id := 8) hm (.one 0 (.one 1 (.one 2 (.one 5 (.one 3 (.one 4 (.one 6 .nil))))))) (by kernel_rfl) ?_; conv => whnf))
    refine AOut.stay ?_
    conv => whnf
    repeat (first | refine go ?_ | (refine AW.plan (id := 8) hm (.one 0 (.one 1 (.one 2 (.one 5 (.one 3 (.one 4 (.one 6 .nil))))))) (by kernel_rfl) ?_; conv => whnf))
    exact AFin.val rfl ⟨rfl, rfl⟩
end Go.Aw.UT

set_option linter.unusedSimpArgs false
set_option linter.unusedVariables false
namespace Go.Proofs
open Go.Shelf Go.RowKit Go.Lib Go.Sort

def spVv (x : Int × Int) : List Value := [.int .i64 x.1, .int .i64 x.2]
def spLt (x y : Int × Int) : Bool := decide (x.1 < y.1)
def spOrd (x y : Int × Int) : Int := Lib.compareInt x.1 y.1

set_option maxHeartbeats 1000000 in
theorem Tryz.order446 (x y : Int × Int) (W : World) : Calls Tryz.prog 446 #[.agg #[.int .i64 x.1, .int .i64 x.2], .agg #[.int .i64 y.1, .int .i64 y.2]] W fun e w' => e = .returned (.int .i64 (spOrd x y)) ∧ ∃ q os', w' = grow (W.drewN q) os' := by
  have hcon := fun W' => AnyG.cmp_Compare_int Tryz.cmpInt x.1 y.1 W'
  change ∀ W', Calls Tryz.prog 232 _ _ _ at hcon
  obtain ⟨ix, qx⟩ := x
  obtain ⟨iy, qy⟩ := y
  simp only [spOrd] at *
  generalize Lib.compareInt ix iy = r at hcon ⊢
  go_enter Tryz.func446, Tryz.ntmps446
  go_wp2_with (go_at_call 232; refine (hcon _).mono ?_; rintro e w' ⟨rfl, rfl⟩)
  go_ret
  exact ⟨rfl, 0, _, by rw [alloc_eq_grow, alloc_eq_grow, grow_grow]; rfl⟩

theorem sp_lt (x y : Int × Int) : ltOf spOrd x y = spLt x y := by
  unfold ltOf spOrd spLt Lib.compareInt
  by_cases h1 : x.1 < y.1
  · simp [h1]
  · by_cases h2 : y.1 < x.1 <;> simp [h1, h2]
theorem sp_swo : SWO (ltOf spOrd) where
  irrefl x := by rw [sp_lt]; simp [spLt]
  trans x y z h1 h2 := by
    rw [sp_lt] at *
    simp only [spLt, decide_eq_true_eq] at *; omega
  ntrans x y z h1 h2 := by
    rw [sp_lt] at *
    simp only [spLt, decide_eq_false_iff_not] at *; omega

theorem sort40 (blk cap : Nat) (d : Array (Int × Int)) (w : World) (hH : HoldsK spVv 2 w blk 0 d) (hblk : blk < w.heap.size) (hsz : d.size < 4611686018427387904) :
    Calls Tryz.prog 445 #[.slice (some ⟨blk, 0, none⟩) d.size cap, .func (.func 446) #[] #[]] w fun e w' => e = .returned (.tuple #[]) ∧ ∃ d' n os, PermIn 0 d.size d d' ∧ SortedIn spLt 0 d.size d' ∧ w' = sortWorldK spVv 2 w blk 0 n d' os := by
  have eg : ∀ args w, (callFunc 446 args).run Tryz.prog w = .ok (.enter 446 args) w := enters_of Tryz.func446 (by kernel_rfl) rfl
  have hcon := AnyQ.slices_SortFunc Tryz.sortSp 2 Tryz.isAgg439 Tryz.sizeOf439 spVv (fun _ => rfl) (fun x v hv => by simp [spVv] at hv; rcases hv with rfl | rfl <;> rfl) spOrd sp_swo 446 #[] blk 0 cap d w eg (fun _ _ _ _ x y => Tryz.order446 x y _) hH hblk hsz
  change Calls Tryz.prog 445 _ _ _ at hcon
  refine hcon.mono fun e w' ⟨he, d', n, os, hp, hs, hw⟩ => ⟨he, d', n, os, hp, ?_, hw⟩
  intro i j h1 h2 h3
  rw [← sp_lt]
  exact hs i j h1 h2 h3
end Go.Proofs

namespace Go.Aw.UT
open Go Go.Proofs
theorem f445 (l : List (Int × Int)) (hl : l ≠ []) (hsz : l.length < 4611686018427387904) : Spec P 445 [.ms 2 0 0 l.length, .fn 446 [] []] [.cells 439 (l.flatMap spC)] (fun r H => r = .tup [] ∧ ∃ l' : List (Int × Int), l'.Perm l ∧ l'.Pairwise (fun x y => spLt y x = false) ∧ H = [.cells 439 (l'.flatMap spC)]) :=
  Spec.sort (encV := spVv) (encA := spC) (fun _ => rfl) (by decide) (fun x v hv => by simp [spVv] at hv; rcases hv with rfl | rfl <;> rfl)
    (fun w m I x => by simp only [spC, spVv, RepL, Rep]; exact ⟨_, _, rfl, rfl, _, _, rfl, rfl, rfl⟩)
    (fun w m I x ys h => by
      simp only [spC, RepL, Rep] at h
      obtain ⟨y, zs, rfl, rfl, y2, z2, rfl, rfl, rfl⟩ := h
      rfl) spLt sort40 l hl hsz
theorem f445n : Fun P 445 [.v (.slice none 0 0), .fn 446 [] []] (.tup []) := by
  refine Fun.tupBelow (vs := [.slice none 0 0, .func (.func 446) #[] #[]]) (fun w m I ys h => ?_) (fun w => ?_)
  · simp only [RepL, Rep] at h
    obtain ⟨y, zs, rfl, rfl, y2, z2, rfl, ⟨us, ys, rfl, rfl, rfl⟩, rfl⟩ := h
    rfl
  · have := AnyF.slices_SortFunc_none Tryz.sortSp none 0 (.func (.func 446) #[] #[]) w
    change Calls Tryz.prog 445 _ _ _ at this
    exact this.mono fun e w' ⟨he, hw⟩ => ⟨he, by rw [hw]; exact .refl _, by rw [hw]; exact ⟨rfl, rfl⟩⟩
end Go.Aw.UT

set_option linter.unusedSimpArgs false
set_option linter.unusedVariables false
set_option maxHeartbeats 2000000
namespace Go.Aw.UT
open Go Go.Proofs

abbrev nilV : AV := .v (.slice none 0 0)
/-- the amounts of the rows that have a cell -/
def spc (l : List Ro) (c : Nat) : List (Int × Int) := (l.filter fun r => inB r c).map fun r => (r.lo, r.hi)
theorem spc_step (l : List Ro) (c i : Nat) (h : i < l.length) : spc (l.take (i + 1)) c = if inB l[i] c then spc (l.take i) c ++ [(l[i].lo, l[i].hi)] else spc (l.take i) c := by
  unfold spc
  rw [List.take_add_one, List.getElem?_eq_getElem h, List.filter_append, List.map_append]
  by_cases g : inB l[i] c = true
  · rw [if_pos g]; simp [g]
  · rw [if_neg g]; simp [g]
theorem spc_le (l : List Ro) (c : Nat) : (spc l c).length ≤ l.length := by
  unfold spc; rw [List.length_map]; exact List.length_filter_le _ _
def spOk (l : List Ro) (S : List (List (Int × Int))) (n : Nat) : Prop := S.length = n ∧ ∀ c (h : c < S.length), S[c].Perm (spc l c) ∧ S[c].Pairwise (fun x y => spLt y x = false)
theorem spsR (ρ : Nat → Nat) (S : List (List (Int × Int))) : renL ρ (S.map spV) = S.map spV := by
  rw [renL_map, List.map_map]
  exact List.map_congr_left fun s _ => spV_ren ρ s
theorem nilsR (ρ : Nat → Nat) (m : Nat) : renL ρ (List.replicate m nilV) = List.replicate m nilV := by
  rw [renL_map, List.map_replicate]; rfl
theorem renMid (ρ : Nat → Nat) (S : List (List (Int × Int))) (l n m : Nat) : renL ρ (S.map spV ++ .ms 2 l 0 n :: List.replicate m nilV) = S.map spV ++ .ms 2 (ρ l) 0 n :: List.replicate m nilV := by
  rw [renL_append, spsR, renL, nilsR]; rfl
theorem renMidN (ρ : Nat → Nat) (S : List (List (Int × Int))) (m : Nat) : renL ρ (S.map spV ++ nilV :: List.replicate m nilV) = S.map spV ++ nilV :: List.replicate m nilV := by
  rw [renL_append, spsR, renL, nilsR]; rfl
theorem spOk_step {l : List Ro} {S : List (List (Int × Int))} {c : Nat} (h : spOk l S c) {L : List (Int × Int)} (hp : L.Perm (spc l c)) (hs : L.Pairwise (fun x y => spLt y x = false)) : spOk l (S ++ [L]) (c + 1) := by
  obtain ⟨h1, h2⟩ := h
  refine ⟨by simp [h1], fun k hk => ?_⟩
  rw [List.length_append] at hk
  by_cases e : k < S.length
  · rw [List.getElem_append_left e]; exact h2 k e
  · have : k = S.length := by simp at hk; omega
    subst this
    rw [List.getElem_append_right (by omega)]
    simp only [Nat.sub_self, List.getElem_cons_zero]
    rw [h1]
    exact ⟨hp, hs⟩
theorem f394 (l : List Ro) (hl : l.length ≤ 20) (hr : ∀ r ∈ l, rowB r = true) : Spec P 394 [roV l] [] fun r H' => (∃ S, spOk l S 8 ∧ r = .agg (S.map spV)) ∧ H' = [] := by
  refine spec_of hT (f := 394) (fn := Go.Proofs.Tryz.f394) (c := body Go.Proofs.Tryz.f394) (by kernel_rfl) (by kernel_rfl) ?_
  conv => whnf
  repeat (first | refine go ?_ | (refine AW.plan (id := 9) hm (.one 0 (.one 1 (.one 2 (.one 4 (.one 6 (.one 5 (.one 7 (.one 8 (.one 3 (.one 9 (.one 10 (.one 11 (.one 12 .nil))))))))))))) (by kernel_rfl) ?_; conv => whnf))
  refine ALoop.mk (fun j E H => ∃ (c : Nat) (S : List (List (Int × Int))), j + c = 8 ∧ spOk l S c ∧ E = pad [roV l, .any, .ptr 0 0, .ptr 1 0, .any, .any, .any, nV c] 38 ∧ H = [.cells 435 (List.replicate 8 nilV), .cells 435 (S.map spV ++ List.replicate (8 - c) nilV)])
    (n := 8) _ _ ⟨0, [], rfl, ⟨rfl, fun c h => absurd h (Nat.not_lt_zero _)⟩, rfl, rfl⟩ (Conv.fit (by repeat' (first | exact Fit.nil | refine Fit.any ?_ | refine Fit.same ?_))) ?_
  rintro j _ _ ⟨c, S, hj, hS, rfl, rfl⟩
  conv => whnf
  repeat (first | refine go ?_ | (refine AW.plan (id := 9) hm (.one 0 (.one 1 (.one 2 (.one 4 (.one 6 (.one 5 (.one 7 (.one 8 (.one 3 (.one 9 (.one 10 (.one 11 (.one 12 .nil))))))))))))) (by kernel_rfl) ?_; conv => whnf))
  refine ACond.dec (fun h1 => ?_) (fun h1 => ?_)
  · have hc8 : c < 8 := by omega
    have hSl : S.length = c := hS.1
    obtain ⟨m, hm8⟩ : ∃ m, 8 - c = m + 1 := ⟨7 - c, by omega⟩
    rw [hm8, List.replicate_succ]
    have w0 : IntKind.wrap .i64 ((c : Int) + 1) = ((c + 1 : Nat) : Int) := by rw [wrap_i64 _ (by omega) (by omega)]; omega
    conv => whnf
    repeat (first | refine go ?_ | (refine AW.plan (id := 9) hm (.one 0 (.one 1 (.one 2 (.one 4 (.one 6 (.one 5 (.one 7 (.one 8 (.one 3 (.one 9 (.one 10 (.one 11 (.one 12 .nil))))))))))))) (by kernel_rfl) ?_; conv => whnf))
    refine ALoop.mk (fun k E H => ∃ i : Nat, k + i = l.length ∧ E = pad [roV l, .any, .ptr 0 0, .ptr 1 0, nV c, .any, .any, nV c, .any, .any, roV l, nV l.length, nV i] 38 ∧
        ((spc (l.take i) c = [] ∧ H = [.cells 435 (List.replicate 8 nilV), .cells 435 (S.map spV ++ nilV :: List.replicate m nilV)]) ∨
         (spc (l.take i) c ≠ [] ∧ H = [.cells 435 (List.replicate 8 nilV), .cells 435 (S.map spV ++ .ms 2 2 0 (spc (l.take i) c).length :: List.replicate m nilV), .cells 439 ((spc (l.take i) c).flatMap spC)])))
      (n := l.length) _ _ ⟨0, rfl, rfl, .inl ⟨rfl, rfl⟩⟩ (Conv.fit (by repeat' (first | exact Fit.nil | refine Fit.any ?_ | refine Fit.same ?_))) ?_
    rintro k _ _ ⟨i, hk, rfl, hH⟩
    rcases hH with ⟨hnil, rfl⟩ | ⟨hne, rfl⟩
    · conv => whnf
      repeat (first | refine go ?_ | (refine AW.plan (id := 9) hm (.one 0 (.one 1 (.one 2 (.one 4 (.one 6 (.one 5 (.one 7 (.one 8 (.one 3 (.one 9 (.one 10 (.one 11 (.one 12 .nil))))))))))))) (by kernel_rfl) ?_; conv => whnf))
      refine ACond.dec (fun h2 => ?_) (fun h2 => ?_)
      · have hil : i < l.length := by omega
        have w1 : IntKind.wrap .i64 ((i : Int) + 1) = ((i + 1 : Nat) : Int) := by rw [wrap_i64 _ (by omega) (by omega)]; omega
        have hst := spc_step l c i hil
        conv => whnf
        repeat (first | refine go ?_ | ((first | refine AW.plan (id := 9) hm (.one 0 (.one 1 (.one 2 (.one 4 (.one 6 (.one 5 (.one 7 (.one 8 (.one 3 (.one 9 (.one 10 (.one 11 (.one 12 .nil))))))))))))) (by kernel_rfl) ?_ | refine AReq.mk (by omega) ?_ | refine AIdx.flat (enc := roC) roC_len (xs := l) (i := i) hil ?_ | refine ACall.val (by kernel_rfl) (f444 l[i] c (hr _ (List.getElem_mem hil)) hc8) rfl rfl ?_); conv => whnf))
        refine ACond.mk (fun h3 => ?_) (fun h3 => ?_)
        · rw [if_pos h3, hnil, List.nil_append] at hst
          refine AW.conv _ _ (Conv.ownIn (sz := 2) 439 (l := 1) rfl (FitN.mid (S.map spV) _)) ?_
          conv => whnf
          repeat (first | refine go ?_ | ((first | refine AW.plan (id := 9) hm (.one 0 (.one 1 (.one 2 (.one 4 (.one 6 (.one 5 (.one 7 (.one 8 (.one 3 (.one 9 (.one 10 (.one 11 (.one 12 .nil))))))))))))) (by kernel_rfl) ?_ | refine AReq.mk (by omega) ?_ | refine AIdx.flat (enc := roC) roC_len (xs := l) (i := i) hil ?_ | refine ACall.val (by kernel_rfl) (f444 l[i] c (hr _ (List.getElem_mem hil)) hc8) rfl rfl ?_ | refine AIdx.mid (by simp [hSl]) ?_ | refine AReq.mk ⟨rfl, by show (0 + 1) * 16 ≤ _; omega⟩ ?_ | refine AReq.mk rfl ?_ | refine AUpd.mid (by rw [List.length_map, hSl]; show 0 + Int.toNat (c : Int) * 1 + 0 = c; omega) ?_); conv => whnf))
          rw [w1]
          refine AHead.mk (k - 1) (pad [roV l, .any, .ptr 0 0, .ptr 1 0, nV c, .any, .any, nV c, .any, .any, roV l, nV l.length, nV ((i + 1 : Nat) : Int)] 38) [.cells 435 (List.replicate 8 nilV), .cells 435 (S.map spV ++ .ms 2 2 0 (spc (l.take (i + 1)) c).length :: List.replicate m nilV), .cells 439 ((spc (l.take (i + 1)) c).flatMap spC)] (by omega) ⟨i + 1, by omega, rfl, .inr ⟨by rw [hst]; simp, rfl⟩⟩ ?_
          rw [hst]
          refine Conv.ren [0, 1, 4] _ (fun _ h => absurd h (Nat.not_lt_zero _)) (by decide) ?_ (.same rfl (.same ?_ (.same rfl .nil)))
          · repeat' (first | exact Fit.nil | refine Fit.any ?_ | refine Fit.same ?_ | refine Fit.eq (roV_ren _ _) ?_)
          · rw [ABlk.ren, renMid]; rfl
        · rw [if_neg (by rw [h3]; simp)] at hst
          conv => whnf
          repeat (first | refine go ?_ | ((first | refine AW.plan (id := 9) hm (.one 0 (.one 1 (.one 2 (.one 4 (.one 6 (.one 5 (.one 7 (.one 8 (.one 3 (.one 9 (.one 10 (.one 11 (.one 12 .nil))))))))))))) (by kernel_rfl) ?_ | refine AReq.mk (by omega) ?_); conv => whnf))
          rw [w1]
          refine AHead.mk (k - 1) _ _ (by omega) ⟨i + 1, by omega, rfl, .inl ⟨hst.trans hnil, rfl⟩⟩ (Conv.ren [0, 1] _ (fun _ h => absurd h (Nat.not_lt_zero _)) (by decide) ?_ (.same rfl (.same ?_ .nil)))
          · repeat' (first | exact Fit.nil | refine Fit.any ?_ | refine Fit.same ?_ | refine Fit.eq (roV_ren _ _) ?_)
          · rw [ABlk.ren, renMidN]; rfl
      · have hil : i = l.length := by omega
        rw [hil, List.take_length] at hnil
        conv => whnf
        repeat (first | refine go ?_ | (refine AW.plan (id := 9) hm (.one 0 (.one 1 (.one 2 (.one 4 (.one 6 (.one 5 (.one 7 (.one 8 (.one 3 (.one 9 (.one 10 (.one 11 (.one 12 .nil))))))))))))) (by kernel_rfl) ?_; conv => whnf))
        refine AOut.stay ?_
        conv => whnf
        repeat (first | refine go ?_ | ((first | refine AW.plan (id := 9) hm (.one 0 (.one 1 (.one 2 (.one 4 (.one 6 (.one 5 (.one 7 (.one 8 (.one 3 (.one 9 (.one 10 (.one 11 (.one 12 .nil))))))))))))) (by kernel_rfl) ?_ | refine AReq.mk (by omega) ?_ | refine AIdx.mid (by simp [hSl]) ?_); conv => whnf))
        refine ACall.val (by kernel_rfl) f445n rfl rfl ?_
        conv => whnf
        repeat (first | refine go ?_ | ((first | refine AW.plan (id := 9) hm (.one 0 (.one 1 (.one 2 (.one 4 (.one 6 (.one 5 (.one 7 (.one 8 (.one 3 (.one 9 (.one 10 (.one 11 (.one 12 .nil))))))))))))) (by kernel_rfl) ?_ | refine AReq.mk (by omega) ?_ | refine AIdx.mid (by simp [hSl]) ?_); conv => whnf))
        rw [w0]
        refine AHead.mk (j - 1) (pad [roV l, .any, .ptr 0 0, .ptr 1 0, .any, .any, .any, nV ((c + 1 : Nat) : Int)] 38) [.cells 435 (List.replicate 8 nilV), .cells 435 ((S ++ [[]]).map spV ++ List.replicate (8 - (c + 1)) nilV)] (by omega) ⟨c + 1, S ++ [[]], by omega, spOk_step hS (by rw [hnil]) .nil, rfl, rfl⟩ ?_
        rw [show 8 - (c + 1) = m by omega, List.map_append, List.append_assoc]
        exact Conv.trans (Conv.fit (by repeat' (first | exact Fit.nil | refine Fit.any ?_ | refine Fit.same ?_))) (Conv.seeIn (l := 1) rfl (LendL.mid .nil (S.map spV) (List.replicate m nilV)))
    · have hmn : ((spc (l.take i) c).flatMap spC).length = (spc (l.take i) c).length * 2 := flat_length spC_len _
      have hle := spc_le (l.take i) c
      rw [List.length_take] at hle
      conv => whnf
      repeat (first | refine go ?_ | (refine AW.plan (id := 9) hm (.one 0 (.one 1 (.one 2 (.one 4 (.one 6 (.one 5 (.one 7 (.one 8 (.one 3 (.one 9 (.one 10 (.one 11 (.one 12 .nil))))))))))))) (by kernel_rfl) ?_; conv => whnf))
      refine ACond.dec (fun h2 => ?_) (fun h2 => ?_)
      · have hil : i < l.length := by omega
        have w1 : IntKind.wrap .i64 ((i : Int) + 1) = ((i + 1 : Nat) : Int) := by rw [wrap_i64 _ (by omega) (by omega)]; omega
        have hst := spc_step l c i hil
        conv => whnf
        repeat (first | refine go ?_ | ((first | refine AW.plan (id := 9) hm (.one 0 (.one 1 (.one 2 (.one 4 (.one 6 (.one 5 (.one 7 (.one 8 (.one 3 (.one 9 (.one 10 (.one 11 (.one 12 .nil))))))))))))) (by kernel_rfl) ?_ | refine AReq.mk (by omega) ?_ | refine AIdx.flat (enc := roC) roC_len (xs := l) (i := i) hil ?_ | refine ACall.val (by kernel_rfl) (f444 l[i] c (hr _ (List.getElem_mem hil)) hc8) rfl rfl ?_); conv => whnf))
        refine ACond.mk (fun h3 => ?_) (fun h3 => ?_)
        · rw [if_pos h3] at hst
          conv => whnf
          repeat (first | refine go ?_ | ((first | refine AW.plan (id := 9) hm (.one 0 (.one 1 (.one 2 (.one 4 (.one 6 (.one 5 (.one 7 (.one 8 (.one 3 (.one 9 (.one 10 (.one 11 (.one 12 .nil))))))))))))) (by kernel_rfl) ?_ | refine AReq.mk (by omega) ?_ | refine AIdx.flat (enc := roC) roC_len (xs := l) (i := i) hil ?_ | refine ACall.val (by kernel_rfl) (f444 l[i] c (hr _ (List.getElem_mem hil)) hc8) rfl rfl ?_ | refine AIdx.mid (by simp [hSl]) ?_ | refine AReq.mk ⟨hmn, by show (_ + 1) * 16 ≤ _; omega⟩ ?_ | refine AReq.mk rfl ?_ | refine AUpd.mid (by rw [List.length_map, hSl]; show 0 + Int.toNat (c : Int) * 1 + 0 = c; omega) ?_); conv => whnf))
          rw [w1]
          refine AHead.mk (k - 1) (pad [roV l, .any, .ptr 0 0, .ptr 1 0, nV c, .any, .any, nV c, .any, .any, roV l, nV l.length, nV ((i + 1 : Nat) : Int)] 38) [.cells 435 (List.replicate 8 nilV), .cells 435 (S.map spV ++ .ms 2 2 0 (spc (l.take (i + 1)) c).length :: List.replicate m nilV), .cells 439 ((spc (l.take (i + 1)) c).flatMap spC)] (by omega) ⟨i + 1, by omega, rfl, .inr ⟨by rw [hst]; simp, rfl⟩⟩ ?_
          rw [hst, List.flatMap_append, List.length_append]
          refine Conv.ren [0, 1, 4] _ (fun _ h => absurd h (Nat.not_lt_zero _)) (by decide) ?_ (.same rfl (.same ?_ (.same ?_ .nil)))
          · repeat' (first | exact Fit.nil | refine Fit.any ?_ | refine Fit.same ?_ | refine Fit.eq (roV_ren _ _) ?_)
          · rw [ABlk.ren, renMid]; rfl
          · rw [ABlk.ren, renL_append, sps_ren]; rfl
        · rw [if_neg (by rw [h3]; simp)] at hst
          conv => whnf
          repeat (first | refine go ?_ | ((first | refine AW.plan (id := 9) hm (.one 0 (.one 1 (.one 2 (.one 4 (.one 6 (.one 5 (.one 7 (.one 8 (.one 3 (.one 9 (.one 10 (.one 11 (.one 12 .nil))))))))))))) (by kernel_rfl) ?_ | refine AReq.mk (by omega) ?_); conv => whnf))
          rw [w1]
          refine AHead.mk (k - 1) (pad [roV l, .any, .ptr 0 0, .ptr 1 0, nV c, .any, .any, nV c, .any, .any, roV l, nV l.length, nV ((i + 1 : Nat) : Int)] 38) [.cells 435 (List.replicate 8 nilV), .cells 435 (S.map spV ++ .ms 2 2 0 (spc (l.take (i + 1)) c).length :: List.replicate m nilV), .cells 439 ((spc (l.take (i + 1)) c).flatMap spC)] (by omega) ⟨i + 1, by omega, rfl, .inr ⟨by rw [hst]; exact hne, rfl⟩⟩ ?_
          rw [hst]
          refine Conv.ren [0, 1, 2] _ (fun _ h => absurd h (Nat.not_lt_zero _)) (by decide) ?_ (.same rfl (.same ?_ (.same ?_ .nil)))
          · repeat' (first | exact Fit.nil | refine Fit.any ?_ | refine Fit.same ?_ | refine Fit.eq (roV_ren _ _) ?_)
          · rw [ABlk.ren, renMid]; rfl
          · rw [ABlk.ren, sps_ren]; rfl
      · have hil : i = l.length := by omega
        rw [hil, List.take_length] at hne hle hmn ⊢
        conv => whnf
        repeat (first | refine go ?_ | (refine AW.plan (id := 9) hm (.one 0 (.one 1 (.one 2 (.one 4 (.one 6 (.one 5 (.one 7 (.one 8 (.one 3 (.one 9 (.one 10 (.one 11 (.one 12 .nil))))))))))))) (by kernel_rfl) ?_; conv => whnf))
        refine AOut.stay ?_
        conv => whnf
        repeat (first | refine go ?_ | ((first | refine AW.plan (id := 9) hm (.one 0 (.one 1 (.one 2 (.one 4 (.one 6 (.one 5 (.one 7 (.one 8 (.one 3 (.one 9 (.one 10 (.one 11 (.one 12 .nil))))))))))))) (by kernel_rfl) ?_ | refine AReq.mk (by omega) ?_ | refine AIdx.mid (by simp [hSl]) ?_); conv => whnf))
        refine ACall.of (by kernel_rfl) (f445 (spc l c) hne (by omega)) [2] [] (by decide) (.same (by rw [ABlk.ren, sps_ren]; rfl) .nil) (by simp) (by simp) (.cons (.same rfl) (.cons (.same rfl) .nil)) (.inl rfl) ?_
        rintro _ _ ⟨rfl, L, hp, hs, rfl⟩
        simp only [mergeH, ABlk.ren, sps_ren, List.map_nil, List.append_nil, List.set_cons_zero, List.set_cons_succ]
        conv => whnf
        repeat (first | refine go ?_ | (refine AW.plan (id := 9) hm (.one 0 (.one 1 (.one 2 (.one 4 (.one 6 (.one 5 (.one 7 (.one 8 (.one 3 (.one 9 (.one 10 (.one 11 (.one 12 .nil))))))))))))) (by kernel_rfl) ?_; conv => whnf))
        rw [w0]
        refine AHead.mk (j - 1) (pad [roV l, .any, .ptr 0 0, .ptr 1 0, .any, .any, .any, nV ((c + 1 : Nat) : Int)] 38) [.cells 435 (List.replicate 8 nilV), .cells 435 ((S ++ [L]).map spV ++ List.replicate (8 - (c + 1)) nilV)] (by omega) ⟨c + 1, S ++ [L], by omega, spOk_step hS hp hs, rfl, rfl⟩ ?_
        rw [show 8 - (c + 1) = m by omega, List.map_append, List.append_assoc]
        refine Conv.trans (Conv.fit (xs' := pad [roV l, .any, .ptr 0 0, .ptr 1 0, .any, .any, .any, nV ((c + 1 : Nat) : Int)] 38) (by repeat' (first | exact Fit.nil | refine Fit.any ?_ | refine Fit.same ?_))) (Conv.trans (Conv.freeze 2 (t := 439) (cs := L.flatMap spC) rfl) (Conv.trans (Conv.seeIn (l := 1) rfl (LendL.mid (x' := spV L) (.sm' rfl (flat_length spC_len L).symm rfl hp.length_eq.symm) (S.map spV) (List.replicate m nilV))) ?_))
        refine Conv.ren [0, 1] _ (fun _ h => absurd h (Nat.not_lt_zero _)) (by decide) ?_ (.same rfl (.same ?_ .nil))
        · repeat' (first | exact Fit.nil | refine Fit.any ?_ | refine Fit.same ?_ | refine Fit.eq (roV_ren _ _) ?_)
        · rw [ABlk.ren, renL_append, spsR, renL_append, nilsR]
          show _ = some (ABlk.cells 435 (S.map spV ++ ((spV L).ren _ :: List.replicate m nilV)))
          rw [spV_ren]; rfl
  · obtain rfl : c = 8 := by omega
    have hSl : S.length = 8 := hS.1
    conv => whnf
    repeat (first | refine go ?_ | (refine AW.plan (id := 9) hm (.one 0 (.one 1 (.one 2 (.one 4 (.one 6 (.one 5 (.one 7 (.one 8 (.one 3 (.one 9 (.one 10 (.one 11 (.one 12 .nil))))))))))))) (by kernel_rfl) ?_; conv => whnf))
    refine AOut.stay ?_
    rw [Nat.sub_self, List.replicate_zero, List.append_nil]
    have hcut : ∀ {K : List AV → Prop}, K (S.map spV) → ACut (drp (S.map spV) 0) 0 (T 435).size K := fun q => by
      rw [drp_zero]; exact ACut.all (by rw [List.length_map, hSl]; rfl) q
    have hcut' : ∀ {K : List AV → Prop}, K (S.map spV) → ACut (S.map spV) 0 (T 435).size K := fun q => ACut.all (by rw [List.length_map, hSl]; rfl) q
    conv => whnf
    repeat (first | refine go ?_ | ((first | refine AW.plan (id := 9) hm (.one 0 (.one 1 (.one 2 (.one 4 (.one 6 (.one 5 (.one 7 (.one 8 (.one 3 (.one 9 (.one 10 (.one 11 (.one 12 .nil))))))))))))) (by kernel_rfl) ?_ | refine hcut ?_ | refine hcut' ?_ | refine AReq.mk (by rw [List.length_map, hSl]; rfl) ?_ | refine AUpd.to (S.map spV) (by rw [List.length_map, hSl]; decide) (by unfold spl; rw [List.take_zero, List.nil_append, List.drop_eq_nil_of_le (by rw [List.length_map, hSl]; decide), List.append_nil]) ?_); conv => whnf))
    exact AFin.val (by show AV.agg (renL _ (S.map spV)) = _; rw [spsR]) ⟨⟨S, hS, rfl⟩, rfl⟩
end Go.Aw.UT

set_option linter.unusedSimpArgs false
set_option linter.unusedVariables false
set_option maxHeartbeats 1000000
namespace Go.Aw.UT
open Go Go.Proofs

/-! ### the first amount that no span has -/
def covS (l : List (Int × Int)) (m : Int) : Prop := ∃ s ∈ l, s.1 ≤ m ∧ m ≤ s.2
theorem hol_spec : ∀ (S : List (Int × Int)) (n : Int), S.Pairwise (fun x y => spLt y x = false) → (∀ s ∈ S, s.1 ≤ s.2) → n ≤ holF S n ∧ ¬ covS S (holF S n) ∧ ∀ m, n ≤ m → m < holF S n → covS S m
  | [], n, _, _ => by
    rw [holF]
    exact ⟨Int.le_refl _, by rintro ⟨s, hs, _⟩; simp at hs, fun m h1 h2 => by omega⟩
  | s :: ss, n, hp, hs => by
    rw [List.pairwise_cons] at hp
    have hs1 := hs s (by simp)
    rw [holF]
    split
    · rename_i h
      refine ⟨Int.le_refl _, ?_, fun m h1 h2 => by omega⟩
      rintro ⟨t, ht, h1, h2⟩
      rcases List.mem_cons.1 ht with rfl | ht
      · omega
      · have := hp.1 t ht
        simp only [spLt, decide_eq_false_iff_not] at this
        omega
    · rename_i h
      obtain ⟨g1, g2, g3⟩ := hol_spec ss (if s.2 + 1 > n then s.2 + 1 else n) hp.2 (fun t ht => hs t (by simp [ht]))
      have hn : n ≤ (if s.2 + 1 > n then s.2 + 1 else n) ∧ s.2 + 1 ≤ (if s.2 + 1 > n then s.2 + 1 else n) := by split <;> omega
      refine ⟨by omega, ?_, fun m h1 h2 => ?_⟩
      · rintro ⟨t, ht, h1, h2⟩
        rcases List.mem_cons.1 ht with rfl | ht
        · omega
        · exact g2 ⟨t, ht, h1, h2⟩
      · by_cases hm : m ≤ s.2
        · exact ⟨s, by simp, by omega, hm⟩
        · have : (if s.2 + 1 > n then s.2 + 1 else n) ≤ m := by split <;> omega
          obtain ⟨t, ht, h3⟩ := g3 m this h2
          exact ⟨t, by simp [ht], h3⟩
theorem hol_uniq {S S' : List (Int × Int)} {n : Int} (hp : S.Pairwise (fun x y => spLt y x = false)) (hp' : S'.Pairwise (fun x y => spLt y x = false)) (hs : ∀ s ∈ S, s.1 ≤ s.2) (h : S.Perm S') : holF S n = holF S' n := by
  obtain ⟨a1, a2, a3⟩ := hol_spec S n hp hs
  obtain ⟨b1, b2, b3⟩ := hol_spec S' n hp' (fun s h' => hs s (h.mem_iff.2 h'))
  have hc : ∀ m, covS S m ↔ covS S' m := fun m => ⟨fun ⟨s, hs, h1⟩ => ⟨s, h.mem_iff.1 hs, h1⟩, fun ⟨s, hs, h1⟩ => ⟨s, h.mem_iff.2 hs, h1⟩⟩
  rcases Int.lt_trichotomy (holF S n) (holF S' n) with h1 | h1 | h1
  · exact absurd ((hc _).2 (b3 _ a1 h1)) a2
  · exact h1
  · exact absurd ((hc _).1 (a3 _ b1 h1)) b2
def srt (l : List (Int × Int)) : List (Int × Int) := l.mergeSort fun x y => decide (x.1 ≤ y.1)
theorem srt_ok (l : List (Int × Int)) : (srt l).Perm l ∧ (srt l).Pairwise (fun x y => spLt y x = false) := by
  refine ⟨List.mergeSort_perm _ _, ?_⟩
  have := List.pairwise_mergeSort (le := fun (x y : Int × Int) => decide (x.1 ≤ y.1)) (fun a b c h1 h2 => by simp at *; omega) (fun a b => by simp; omega) l
  exact this.imp (by intro a b h; simp [spLt] at *; omega)
/-- the first amount from n on that no row with a cell has -/
def holC (l : List Ro) (c : Nat) (n : Int) : Int := holF (srt (spc l c)) n
theorem spc_mem {l : List Ro} {c : Nat} {s : Int × Int} (h : s ∈ spc l c) : ∃ r ∈ l, inB r c = true ∧ s = (r.lo, r.hi) := by
  unfold spc at h
  obtain ⟨r, hr, rfl⟩ := List.mem_map.1 h
  rw [List.mem_filter] at hr
  exact ⟨r, hr.1, hr.2, rfl⟩
theorem spc_ok {l : List Ro} (hr : ∀ r ∈ l, rowB r = true) {c : Nat} {s : Int × Int} (h : s ∈ spc l c) : s.1 ≤ s.2 ∧ 0 ≤ s.1 ∧ s.2 ≤ 1000000000000 := by
  obtain ⟨r, h1, _, rfl⟩ := spc_mem h
  have := rowB_iff.1 (hr r h1)
  exact ⟨this.2.2.2.2.2.1, this.2.2.2.2.1, this.2.2.2.2.2.2.1⟩
theorem hol_eq {l : List Ro} {S : List (List (Int × Int))} (hS : spOk l S 8) (hr : ∀ r ∈ l, rowB r = true) {c : Nat} (hc : c < 8) (n : Int) : holF (S[c]'(by rw [hS.1]; exact hc)) n = holC l c n := by
  have hc' : c < S.length := by rw [hS.1]; exact hc
  obtain ⟨h1, h2⟩ := hS.2 c hc'
  obtain ⟨h3, h4⟩ := srt_ok (spc l c)
  exact hol_uniq h2 h4 (fun s hs => (spc_ok hr (h1.mem_iff.1 hs)).1) (h1.trans h3.symm)
def gapG (l : List Ro) : List Nat → Fc × Bool
  | [] => (⟨0, false, 0⟩, false)
  | c :: cs => if holC l c 0 ≤ 1000000000000 then (fcOf c (holC l c 0), true) else gapG l cs
def gapF (l : List Ro) : Fc × Bool := if tabB l then gapG l (List.range 8) else (⟨0, false, 0⟩, true)
theorem aggS_ren (ρ : Nat → Nat) (S : List (List (Int × Int))) : (AV.agg (S.map spV)).ren ρ = .agg (S.map spV) := by
  show AV.agg (renL ρ (S.map spV)) = _
  rw [spsR]
theorem spans_call {H : List ABlk} {K : AV → List ABlk → Prop} (l : List Ro) (hl : l.length ≤ 20) (hr : ∀ r ∈ l, rowB r = true) (k : ∀ S, spOk l S 8 → K (.agg (S.map spV)) H) : ACall P 394 [roV l] H K := by
  refine ACall.out (by kernel_rfl) (f394 l hl hr) (roV1 _ _) ?_
  rintro r ⟨S, hS, rfl⟩
  rw [aggS_ren]
  exact k S hS
theorem half_c {c : Nat} (h : c < 8) : IntKind.wrap .i64 ((c : Int).tdiv 2) = ((c / 2 : Nat) : Int) ∧ decide ((c : Int).tmod 2 = 1) = decide (c % 2 = 1) := by
  rw [Int.tdiv_eq_ediv_of_nonneg (by omega), Int.tmod_eq_emod_of_nonneg (by omega), wrap_i64 _ (by omega) (by omega)]
  refine ⟨by omega, ?_⟩
  congr 1
  exact propext ⟨fun h => by omega, fun h => by omega⟩
theorem f323 (l : List Ro) : Fun P 323 [roV l] (.tup [fcA (gapF l).1, bV (gapF l).2]) := by
  refine spec_of hT (f := 323) (fn := Go.Proofs.Tryz.f323) (c := body Go.Proofs.Tryz.f323) (by kernel_rfl) (by kernel_rfl) ?_
  unfold gapF
  conv => whnf
  repeat refine go ?_
  refine ACall.val (by kernel_rfl) (f393 l) (roV1 _ _) rfl ?_
  rcases Bool.eq_false_or_eq_true (tabB l) with g | g
  case inr =>
    simp only [g, Bool.false_eq_true, if_false]
    conv => whnf
    repeat refine go ?_
    refine ACond.yes rfl ?_
    conv => whnf
    repeat refine go ?_
    exact AFin.val rfl ⟨rfl, rfl⟩
  obtain ⟨t1, t2, t3⟩ := tabB_row g
  simp only [g, if_true]
  conv => whnf
  repeat refine go ?_
  refine ACond.no rfl ?_
  conv => whnf
  repeat refine go ?_
  refine spans_call l t1 t3 (fun S hS => ?_)
  have hSl := hS.1
  conv => whnf
  repeat refine go ?_
  refine ALoop.mk (fun j E H => ∃ (c : Nat), j + c = 8 ∧ gapG l ((List.range 8).drop c) = gapG l (List.range 8) ∧ E = pad ([.any, .any, .ptr 0 0, .v (.bool false)] ++ List.replicate 9 .any ++ [.agg (S.map spV), nV c]) 34 ∧ H = [.cells 86 (fcC ⟨0, false, 0⟩)])
    (n := 8) _ _ ⟨0, rfl, rfl, rfl, rfl⟩ (Conv.fit (by repeat' (first | exact Fit.nil | refine Fit.any ?_ | refine Fit.same ?_))) ?_
  rintro j _ _ ⟨c, hj, hg, rfl, rfl⟩
  conv => whnf
  repeat refine go ?_
  refine ACond.dec (fun h1 => ?_) (fun h1 => ?_)
  · have hc8 : c < 8 := by omega
    have hcS : c < S.length := by omega
    have w0 : IntKind.wrap .i64 ((c : Int) + 1) = ((c + 1 : Nat) : Int) := by rw [wrap_i64 _ (by omega) (by omega)]; omega
    have hdr : (List.range 8).drop c = c :: (List.range 8).drop (c + 1) := by
      rw [List.drop_eq_getElem_cons (by simpa using hc8), List.getElem_range]
    have hpm := (hS.2 c hcS).1
    have hall : ∀ s ∈ S[c], s.1 ≤ s.2 ∧ 0 ≤ s.1 ∧ s.2 ≤ 1000000000000 := fun s hs => spc_ok t3 (hpm.mem_iff.1 hs)
    have hlen : S[c].length ≤ 20 := by rw [hpm.length_eq]; exact Nat.le_trans (spc_le l c) t1
    have h24 := f395 S[c] 0 1000000000000 (by omega) (fun s hs => by have := hall s hs; omega)
    rw [hol_eq hS t3 hc8] at h24
    rw [hdr, gapG] at hg
    conv => whnf
    repeat (first | refine go ?_ | ((first | refine AReq.mk (by omega) ?_ | refine AIdx.map1 (f := spV) (xs := S) (i := c) hcS ?_ | refine ACall.val (by kernel_rfl) h24 (show renL _ [spV S[c], .agg [nV 0, nV 1000000000000]] = [spV S[c], .agg [nV 0, nV 1000000000000]] by show [(spV S[c]).ren _, _] = _; rw [spV_ren]; rfl) rfl ?_); conv => whnf))
    refine ACond.dec (fun h2 => ?_) (fun h2 => ?_)
    · rw [if_pos h2] at hg
      rw [← hg]
      unfold fcOf
      conv => whnf
      repeat (first | refine go ?_ | ((first | refine AReq.mk (by omega) ?_ | refine AIdx.map1 (f := spV) (xs := S) (i := c) hcS ?_ | refine ACall.val (by kernel_rfl) h24 (show renL _ [spV S[c], .agg [nV 0, nV 1000000000000]] = [spV S[c], .agg [nV 0, nV 1000000000000]] by show [(spV S[c]).ren _, _] = _; rw [spV_ren]; rfl) rfl ?_ | refine AReq.mk (by decide) ?_); conv => whnf))
      rw [(half_c hc8).1, (half_c hc8).2]
      refine AOut.stay ?_
      conv => whnf
      repeat (first | refine go ?_ | ((first | refine AReq.mk (by omega) ?_ | refine AIdx.map1 (f := spV) (xs := S) (i := c) hcS ?_ | refine ACall.val (by kernel_rfl) h24 (show renL _ [spV S[c], .agg [nV 0, nV 1000000000000]] = [spV S[c], .agg [nV 0, nV 1000000000000]] by show [(spV S[c]).ren _, _] = _; rw [spV_ren]; rfl) rfl ?_ | refine AReq.mk (by decide) ?_); conv => whnf))
      exact AFin.val rfl ⟨rfl, rfl⟩
    · rw [if_neg h2] at hg
      conv => whnf
      repeat (first | refine go ?_ | ((first | refine AReq.mk (by omega) ?_ | refine AIdx.map1 (f := spV) (xs := S) (i := c) hcS ?_ | refine ACall.val (by kernel_rfl) h24 (show renL _ [spV S[c], .agg [nV 0, nV 1000000000000]] = [spV S[c], .agg [nV 0, nV 1000000000000]] by show [(spV S[c]).ren _, _] = _; rw [spV_ren]; rfl) rfl ?_ | refine AReq.mk (by decide) ?_); conv => whnf))
      rw [w0]
      refine AHead.mk (j - 1) _ _ (by omega) ⟨c + 1, by omega, hg, rfl, rfl⟩ (Conv.fit (by repeat' (first | exact Fit.nil | refine Fit.any ?_ | refine Fit.same ?_)))
  · obtain rfl : c = 8 := by omega
    have hg' : gapG l [] = gapG l (List.range 8) := hg
    rw [← hg', gapG]
    conv => whnf
    repeat refine go ?_
    refine AOut.stay ?_
    conv => whnf
    repeat refine go ?_
    exact AFin.val rfl ⟨rfl, rfl⟩
theorem f239 (l : List Ro) : Fun P 239 [roV l] (bV (!(gapF l).2)) := by
  refine spec_of hT (f := 239) (fn := Go.Proofs.Tryz.f239) (c := body Go.Proofs.Tryz.f239) (by kernel_rfl) (by kernel_rfl) ?_
  conv => whnf
  repeat refine go ?_
  refine ACall.val (by kernel_rfl) (f323 l) (roV1 _ _) rfl ?_
  conv => whnf
  repeat refine go ?_
  exact AFin.val rfl ⟨rfl, rfl⟩
end Go.Aw.UT

set_option linter.unusedSimpArgs false
set_option linter.unusedVariables false
set_option maxHeartbeats 1000000
namespace Go.Aw.UT
open Go Go.Proofs

def quizB (l : List Int) : Bool := decide (1 ≤ l.length ∧ l.length ≤ 8 ∧ ∀ n ∈ l, 0 ≤ n ∧ n ≤ 1000)
def cutB (l : List Int) : Bool := decide (l.length = 3 ∧ 0 ≤ l.getD 0 0 ∧ l.getD 0 0 ≤ l.getD 1 0 ∧ l.getD 1 0 ≤ l.getD 2 0 ∧ l.getD 2 0 ≤ 8000)
def feeB (l : List Int) : Bool := decide (l.length = 4 ∧ 0 ≤ l.getD 0 0 ∧ l.getD 0 0 ≤ l.getD 1 0 ∧ l.getD 1 0 ≤ l.getD 2 0 ∧ l.getD 2 0 ≤ l.getD 3 0 ∧ l.getD 3 0 ≤ 10000)
theorem iVs1 (ρ : Nat → Nat) (l : List Int) : renL ρ [iVs l] = [iVs l] := by show [(iVs l).ren ρ] = _; rw [iVs_ren]
theorem f236 (l : List Int) : Fun P 236 [iVs l] (nV (if quizB l then 0 else 36)) := by
  refine spec_of hT (f := 236) (fn := Go.Proofs.Tryz.f236) (c := body Go.Proofs.Tryz.f236) (by kernel_rfl) (by kernel_rfl) ?_
  have hbad : ∀ {H : List ABlk}, quizB l = false → AFin 0 (nV 36) H (fun r' H' => r' = nV (if quizB l then 0 else 36) ∧ H' = []) := fun h => by
    rw [h]; exact AFin.val rfl ⟨rfl, rfl⟩
  conv => whnf
  repeat refine go ?_
  refine ASplit.dec (fun h1 => ?_) (fun h1 => ?_)
  · conv => whnf
    repeat refine ru ?_
    exact hbad (decide_eq_false (fun h => by omega))
  conv => whnf
  repeat refine go ?_
  refine ACond.dec (fun h2 => ?_) (fun h2 => ?_)
  · conv => whnf
    repeat refine ru ?_
    exact hbad (decide_eq_false (fun h => by omega))
  conv => whnf
  repeat refine go ?_
  refine ALoop.mk (fun j E H => ∃ i : Nat, j + i = l.length ∧ (∀ k (h : k < l.length), k < i → 0 ≤ l[k] ∧ l[k] ≤ 1000) ∧ E = pad ([.any, .any, .v (.int .i64 0)] ++ List.replicate 10 .any ++ [iVs l, nV l.length, nV i]) 26 ∧ H = [])
    (n := l.length) _ _ ⟨0, rfl, fun _ _ h => absurd h (Nat.not_lt_zero _), rfl, rfl⟩ (Conv.fit (by repeat' (first | exact Fit.nil | refine Fit.any ?_ | refine Fit.same ?_))) ?_
  rintro j _ _ ⟨i, hj, hok, rfl, rfl⟩
  conv => whnf
  repeat refine go ?_
  refine ACond.dec (fun h3 => ?_) (fun h3 => ?_)
  · have hil : i < l.length := by omega
    have w1 : IntKind.wrap .i64 ((i : Int) + 1) = ((i + 1 : Nat) : Int) := by rw [wrap_i64 _ (by omega) (by omega)]; omega
    have hb : ¬ (0 ≤ l[i] ∧ l[i] ≤ 1000) → quizB l = false := fun h => decide_eq_false (fun g => h (g.2.2 _ (List.getElem_mem hil)))
    conv => whnf
    repeat (first | refine go ?_ | ((first | refine AReq.mk (by omega) ?_ | refine AIdx.map1 (f := nV) (xs := l) (i := i) hil ?_); conv => whnf))
    refine ASplit.dec (fun h4 => ?_) (fun h4 => ?_)
    · conv => whnf
      repeat (first | refine go ?_ | ((first | refine AReq.mk (by omega) ?_ | refine AIdx.map1 (f := nV) (xs := l) (i := i) hil ?_); conv => whnf))
      refine ACond.yes rfl ?_
      conv => whnf
      repeat (first | refine go ?_ | ((first | refine AReq.mk (by omega) ?_ | refine AIdx.map1 (f := nV) (xs := l) (i := i) hil ?_); conv => whnf))
      refine AOut.stay ?_
      conv => whnf
      repeat (first | refine go ?_ | ((first | refine AReq.mk (by omega) ?_ | refine AIdx.map1 (f := nV) (xs := l) (i := i) hil ?_); conv => whnf))
      exact hbad (hb (by omega))
    conv => whnf
    repeat (first | refine go ?_ | ((first | refine AReq.mk (by omega) ?_ | refine AIdx.map1 (f := nV) (xs := l) (i := i) hil ?_); conv => whnf))
    refine ACond.dec (fun h5 => ?_) (fun h5 => ?_)
    · conv => whnf
      repeat (first | refine go ?_ | ((first | refine AReq.mk (by omega) ?_ | refine AIdx.map1 (f := nV) (xs := l) (i := i) hil ?_); conv => whnf))
      refine AOut.stay ?_
      conv => whnf
      repeat (first | refine go ?_ | ((first | refine AReq.mk (by omega) ?_ | refine AIdx.map1 (f := nV) (xs := l) (i := i) hil ?_); conv => whnf))
      exact hbad (hb (by omega))
    · conv => whnf
      repeat (first | refine go ?_ | ((first | refine AReq.mk (by omega) ?_ | refine AIdx.map1 (f := nV) (xs := l) (i := i) hil ?_); conv => whnf))
      rw [w1]
      refine AHead.mk (j - 1) _ _ (by omega) ⟨i + 1, by omega, ?_, rfl, rfl⟩ (Conv.fit (by repeat' (first | exact Fit.nil | refine Fit.any ?_ | refine Fit.same ?_)))
      intro k hk hki
      rcases Nat.lt_or_ge k i with g | g
      · exact hok k hk g
      · obtain rfl : k = i := by omega
        exact ⟨by omega, by omega⟩
  · have hall : quizB l = true := by
      refine decide_eq_true ⟨by omega, by omega, fun n hn => ?_⟩
      obtain ⟨k, hk, rfl⟩ := List.mem_iff_getElem.1 hn
      exact hok k hk (by omega)
    rw [hall]
    conv => whnf
    repeat (first | refine go ?_ | ((first | refine AReq.mk (by omega) ?_ | refine AIdx.map1 (f := nV) (xs := l) (i := i) hil ?_); conv => whnf))
    refine AOut.stay ?_
    conv => whnf
    repeat (first | refine go ?_ | ((first | refine AReq.mk (by omega) ?_ | refine AIdx.map1 (f := nV) (xs := l) (i := i) hil ?_); conv => whnf))
    exact AFin.val rfl ⟨rfl, rfl⟩
theorem len3 {l : List Int} (h : l.length = 3) : ∃ a b c, l = [a, b, c] := by
  match l, h with
  | [a, b, c], _ => exact ⟨a, b, c, rfl⟩
theorem len4 {l : List Int} (h : l.length = 4) : ∃ a b c d, l = [a, b, c, d] := by
  match l, h with
  | [a, b, c, d], _ => exact ⟨a, b, c, d, rfl⟩
theorem f320 (n : Int) : Fun P 320 [nV n] (bV false) := by
  refine spec_of hT (f := 320) (fn := Go.Proofs.Tryz.f320) (c := body Go.Proofs.Tryz.f320) (by kernel_rfl) (by kernel_rfl) ?_
  conv => whnf
  repeat refine go ?_
  exact AFin.val rfl ⟨by simp, rfl⟩
theorem f392 (a b : Int) : Fun P 392 [nV a, nV b] (bV (decide (a < b))) := by
  refine spec_of hT (f := 392) (fn := Go.Proofs.Tryz.f392) (c := body Go.Proofs.Tryz.f392) (by kernel_rfl) (by kernel_rfl) ?_
  conv => whnf
  repeat (first | refine go ?_ | ((first | refine ACall.val (by kernel_rfl) (f320 a) rfl rfl ?_ | refine ASplit.no rfl ?_); conv => whnf))
  exact AFin.val rfl ⟨rfl, rfl⟩
theorem f321 (a b c : Int) : Fun P 321 [iVs [a, b, c]] (bV (decide (a ≤ b ∧ b ≤ c))) := by
  refine spec_of hT (f := 321) (fn := Go.Proofs.Tryz.f321) (c := body Go.Proofs.Tryz.f321) (by kernel_rfl) (by kernel_rfl) ?_
  conv => whnf
  repeat (first | refine go ?_ | ((first | refine AW.plan (id := 4) hm (.one 0 (.one 1 (.one 2 (.one 4 (.one 5 (.one 6 (.one 7 (.one 3 (.one 8 (.one 9 .nil)))))))))) (by kernel_rfl) ?_ | refine ALoop.un ?_ | refine ALp.step (T := T) ?_ | refine AReq.mk (of_decide_eq_true rfl) ?_ | refine AIdx.sp rfl ?_ | refine ACond.yes rfl ?_ | refine ACond.no rfl ?_ | refine ACall.val (by kernel_rfl) (f392 c b) rfl rfl ?_ | refine ACall.val (by kernel_rfl) (f392 b a) rfl rfl ?_); conv => whnf))
  refine ACond.dec (fun h => ?_) (fun h => ?_)
  · rw [decide_eq_false (fun g => by omega)]
    conv => whnf
    repeat (first | refine go ?_ | ((first | refine AW.plan (id := 4) hm (.one 0 (.one 1 (.one 2 (.one 4 (.one 5 (.one 6 (.one 7 (.one 3 (.one 8 (.one 9 .nil)))))))))) (by kernel_rfl) ?_ | refine ALoop.un ?_ | refine ALp.step (T := T) ?_ | refine AReq.mk (of_decide_eq_true rfl) ?_ | refine AIdx.sp rfl ?_ | refine ACond.yes rfl ?_ | refine ACond.no rfl ?_ | refine ACall.val (by kernel_rfl) (f392 c b) rfl rfl ?_ | refine ACall.val (by kernel_rfl) (f392 b a) rfl rfl ?_); conv => whnf))
    exact AFin.val rfl ⟨rfl, rfl⟩
  conv => whnf
  repeat (first | refine go ?_ | ((first | refine AW.plan (id := 4) hm (.one 0 (.one 1 (.one 2 (.one 4 (.one 5 (.one 6 (.one 7 (.one 3 (.one 8 (.one 9 .nil)))))))))) (by kernel_rfl) ?_ | refine ALoop.un ?_ | refine ALp.step (T := T) ?_ | refine AReq.mk (of_decide_eq_true rfl) ?_ | refine AIdx.sp rfl ?_ | refine ACond.yes rfl ?_ | refine ACond.no rfl ?_ | refine ACall.val (by kernel_rfl) (f392 c b) rfl rfl ?_ | refine ACall.val (by kernel_rfl) (f392 b a) rfl rfl ?_); conv => whnf))
  refine ACond.dec (fun h2 => ?_) (fun h2 => ?_)
  · rw [decide_eq_false (fun g => by omega)]
    conv => whnf
    repeat (first | refine go ?_ | ((first | refine AW.plan (id := 4) hm (.one 0 (.one 1 (.one 2 (.one 4 (.one 5 (.one 6 (.one 7 (.one 3 (.one 8 (.one 9 .nil)))))))))) (by kernel_rfl) ?_ | refine ALoop.un ?_ | refine ALp.step (T := T) ?_ | refine AReq.mk (of_decide_eq_true rfl) ?_ | refine AIdx.sp rfl ?_ | refine ACond.yes rfl ?_ | refine ACond.no rfl ?_ | refine ACall.val (by kernel_rfl) (f392 c b) rfl rfl ?_ | refine ACall.val (by kernel_rfl) (f392 b a) rfl rfl ?_); conv => whnf))
    exact AFin.val rfl ⟨rfl, rfl⟩
  rw [decide_eq_true (by omega)]
  conv => whnf
  repeat (first | refine go ?_ | ((first | refine AW.plan (id := 4) hm (.one 0 (.one 1 (.one 2 (.one 4 (.one 5 (.one 6 (.one 7 (.one 3 (.one 8 (.one 9 .nil)))))))))) (by kernel_rfl) ?_ | refine ALoop.un ?_ | refine ALp.step (T := T) ?_ | refine AReq.mk (of_decide_eq_true rfl) ?_ | refine AIdx.sp rfl ?_ | refine ACond.yes rfl ?_ | refine ACond.no rfl ?_ | refine ACall.val (by kernel_rfl) (f392 c b) rfl rfl ?_ | refine ACall.val (by kernel_rfl) (f392 b a) rfl rfl ?_); conv => whnf))
  exact AFin.val rfl ⟨rfl, rfl⟩
theorem f237 (l : List Int) : Fun P 237 [iVs l] (nV (if cutB l then 0 else 36)) := by
  refine spec_of hT (f := 237) (fn := Go.Proofs.Tryz.f237) (c := body Go.Proofs.Tryz.f237) (by kernel_rfl) (by kernel_rfl) ?_
  have hbad : ∀ {H : List ABlk}, cutB l = false → AFin 0 (nV 36) H (fun r' H' => r' = nV (if cutB l then 0 else 36) ∧ H' = []) := fun h => by
    rw [h]; exact AFin.val rfl ⟨rfl, rfl⟩
  by_cases hl : l.length = 3
  case neg =>
    conv => whnf
    repeat refine go ?_
    refine ASplit.ndec (fun h1 => ?_) (fun h1 => absurd h1 (by omega))
    conv => whnf
    repeat refine ru ?_
    exact hbad (decide_eq_false (fun h => by omega))
  obtain ⟨a, b, c, rfl⟩ := len3 hl
  have hcb : cutB [a, b, c] = decide (0 ≤ a ∧ a ≤ b ∧ b ≤ c ∧ c ≤ 8000) := by unfold cutB; simp
  conv => whnf
  repeat (first | refine go ?_ | ((first | refine AReq.mk (of_decide_eq_true rfl) ?_ | refine AIdx.sp rfl ?_ | refine ACall.val (by kernel_rfl) (f321 a b c) rfl rfl ?_); conv => whnf))
  refine ASplit.no rfl ?_
  conv => whnf
  repeat (first | refine go ?_ | ((first | refine AReq.mk (of_decide_eq_true rfl) ?_ | refine AIdx.sp rfl ?_ | refine ACall.val (by kernel_rfl) (f321 a b c) rfl rfl ?_); conv => whnf))
  refine ASplit.ndec (fun h1 => ?_) (fun h1 => ?_)
  · conv => whnf
    repeat (first | refine ru ?_ | ((first | refine AReq.mk (of_decide_eq_true rfl) ?_ | refine AIdx.sp rfl ?_ | refine ACall.val (by kernel_rfl) (f321 a b c) rfl rfl ?_); conv => whnf))
    exact hbad (by rw [hcb]; exact decide_eq_false (fun h => h1 ⟨h.2.1, h.2.2.1⟩))
  conv => whnf
  repeat (first | refine go ?_ | ((first | refine AReq.mk (of_decide_eq_true rfl) ?_ | refine AIdx.sp rfl ?_ | refine ACall.val (by kernel_rfl) (f321 a b c) rfl rfl ?_); conv => whnf))
  refine ASplit.dec (fun h2 => ?_) (fun h2 => ?_)
  · conv => whnf
    repeat (first | refine ru ?_ | ((first | refine AReq.mk (of_decide_eq_true rfl) ?_ | refine AIdx.sp rfl ?_ | refine ACall.val (by kernel_rfl) (f321 a b c) rfl rfl ?_); conv => whnf))
    exact hbad (by rw [hcb]; exact decide_eq_false (fun h => by omega))
  conv => whnf
  repeat (first | refine go ?_ | ((first | refine AReq.mk (of_decide_eq_true rfl) ?_ | refine AIdx.sp rfl ?_ | refine ACall.val (by kernel_rfl) (f321 a b c) rfl rfl ?_); conv => whnf))
  refine ACond.dec (fun h3 => ?_) (fun h3 => ?_)
  · conv => whnf
    repeat (first | refine ru ?_ | ((first | refine AReq.mk (of_decide_eq_true rfl) ?_ | refine AIdx.sp rfl ?_ | refine ACall.val (by kernel_rfl) (f321 a b c) rfl rfl ?_); conv => whnf))
    exact hbad (by rw [hcb]; exact decide_eq_false (fun h => by omega))
  rw [hcb, decide_eq_true ⟨by omega, h1.1, h1.2, by omega⟩]
  conv => whnf
  repeat (first | refine go ?_ | ((first | refine AReq.mk (of_decide_eq_true rfl) ?_ | refine AIdx.sp rfl ?_ | refine ACall.val (by kernel_rfl) (f321 a b c) rfl rfl ?_); conv => whnf))
  exact AFin.val rfl ⟨rfl, rfl⟩
theorem f322 (n : Int) : Fun P 322 [nV n] (bV (decide (0 ≤ n ∧ n ≤ 10000))) := by
  refine spec_of hT (f := 322) (fn := Go.Proofs.Tryz.f322) (c := body Go.Proofs.Tryz.f322) (by kernel_rfl) (by kernel_rfl) ?_
  conv => whnf
  repeat' (first | refine go ?_ | ((first | refine ASplit.yes rfl ?_ | refine ASplit.no rfl ?_ | refine ACond.yes rfl ?_ | refine ACond.no rfl ?_ | refine ASplit.dec (fun _ => ?_) (fun _ => ?_) | refine ASplit.ndec (fun _ => ?_) (fun _ => ?_) | refine ACond.dec (fun _ => ?_) (fun _ => ?_) | refine ACond.ndec (fun _ => ?_) (fun _ => ?_)) <;> conv => whnf))
  all_goals refine AFin.val rfl ⟨congrArg bV ?_, rfl⟩
  all_goals first
    | (exact decide_eq_decide.2 (by omega))
    | (exact (decide_eq_false (by omega)).symm)
end Go.Aw.UT

set_option linter.unusedSimpArgs false
set_option linter.unusedVariables false
set_option maxHeartbeats 1000000
namespace Go.Aw.UT
open Go Go.Proofs

theorem f238 (l : List Int) : Fun P 238 [iVs l] (nV (if feeB l then 0 else 36)) := by
  refine spec_of hT (f := 238) (fn := Go.Proofs.Tryz.f238) (c := body Go.Proofs.Tryz.f238) (by kernel_rfl) (by kernel_rfl) ?_
  have hbad : ∀ {H : List ABlk}, feeB l = false → AFin 0 (nV 36) H (fun r' H' => r' = nV (if feeB l then 0 else 36) ∧ H' = []) := fun h => by
    rw [h]; exact AFin.val rfl ⟨rfl, rfl⟩
  by_cases hl : l.length = 4
  case neg =>
    conv => whnf
    repeat refine go ?_
    refine ACond.ndec (fun h1 => ?_) (fun h1 => absurd h1 (by omega))
    conv => whnf
    repeat refine ru ?_
    exact hbad (decide_eq_false (fun h => by omega))
  obtain ⟨a, b, c, d, rfl⟩ := len4 hl
  have hcb : feeB [a, b, c, d] = decide (0 ≤ a ∧ a ≤ b ∧ b ≤ c ∧ c ≤ d ∧ d ≤ 10000) := by unfold feeB; simp
  conv => whnf
  repeat (first | refine go ?_ | ((first | refine ALoop.un ?_ | refine ALp.step (T := T) ?_ | refine AReq.mk (of_decide_eq_true rfl) ?_ | refine AIdx.sp rfl ?_ | refine ACond.yes rfl ?_ | refine ACond.no rfl ?_ | refine ACall.val (by kernel_rfl) (f322 a) rfl rfl ?_ | refine ACall.val (by kernel_rfl) (f322 b) rfl rfl ?_ | refine ACall.val (by kernel_rfl) (f322 c) rfl rfl ?_ | refine ACall.val (by kernel_rfl) (f322 d) rfl rfl ?_); conv => whnf))
  refine ASplit.ndec (fun h1 => ?_) (fun h1 => ?_)
  · conv => whnf
    repeat (first | refine go ?_ | ((first | refine ALoop.un ?_ | refine ALp.step (T := T) ?_ | refine AReq.mk (of_decide_eq_true rfl) ?_ | refine AIdx.sp rfl ?_ | refine ACond.yes rfl ?_ | refine ACond.no rfl ?_ | refine ACall.val (by kernel_rfl) (f322 a) rfl rfl ?_ | refine ACall.val (by kernel_rfl) (f322 b) rfl rfl ?_ | refine ACall.val (by kernel_rfl) (f322 c) rfl rfl ?_ | refine ACall.val (by kernel_rfl) (f322 d) rfl rfl ?_); conv => whnf))
    exact hbad (by rw [hcb]; exact decide_eq_false (fun h => h1 (by omega)))
  conv => whnf
  repeat (first | refine go ?_ | ((first | refine ALoop.un ?_ | refine ALp.step (T := T) ?_ | refine AReq.mk (of_decide_eq_true rfl) ?_ | refine AIdx.sp rfl ?_ | refine ACond.yes rfl ?_ | refine ACond.no rfl ?_ | refine ACall.val (by kernel_rfl) (f322 a) rfl rfl ?_ | refine ACall.val (by kernel_rfl) (f322 b) rfl rfl ?_ | refine ACall.val (by kernel_rfl) (f322 c) rfl rfl ?_ | refine ACall.val (by kernel_rfl) (f322 d) rfl rfl ?_); conv => whnf))
  refine ACond.dec (fun h2 => ?_) (fun h2 => ?_)
  · omega
  conv => whnf
  repeat (first | refine go ?_ | ((first | refine ALoop.un ?_ | refine ALp.step (T := T) ?_ | refine AReq.mk (of_decide_eq_true rfl) ?_ | refine AIdx.sp rfl ?_ | refine ACond.yes rfl ?_ | refine ACond.no rfl ?_ | refine ACall.val (by kernel_rfl) (f322 a) rfl rfl ?_ | refine ACall.val (by kernel_rfl) (f322 b) rfl rfl ?_ | refine ACall.val (by kernel_rfl) (f322 c) rfl rfl ?_ | refine ACall.val (by kernel_rfl) (f322 d) rfl rfl ?_); conv => whnf))
  refine ASplit.ndec (fun h3 => ?_) (fun h3 => ?_)
  · conv => whnf
    repeat (first | refine go ?_ | ((first | refine ALoop.un ?_ | refine ALp.step (T := T) ?_ | refine AReq.mk (of_decide_eq_true rfl) ?_ | refine AIdx.sp rfl ?_ | refine ACond.yes rfl ?_ | refine ACond.no rfl ?_ | refine ACall.val (by kernel_rfl) (f322 a) rfl rfl ?_ | refine ACall.val (by kernel_rfl) (f322 b) rfl rfl ?_ | refine ACall.val (by kernel_rfl) (f322 c) rfl rfl ?_ | refine ACall.val (by kernel_rfl) (f322 d) rfl rfl ?_); conv => whnf))
    exact hbad (by rw [hcb]; exact decide_eq_false (fun h => h3 (by omega)))
  conv => whnf
  repeat (first | refine go ?_ | ((first | refine ALoop.un ?_ | refine ALp.step (T := T) ?_ | refine AReq.mk (of_decide_eq_true rfl) ?_ | refine AIdx.sp rfl ?_ | refine ACond.yes rfl ?_ | refine ACond.no rfl ?_ | refine ACall.val (by kernel_rfl) (f322 a) rfl rfl ?_ | refine ACall.val (by kernel_rfl) (f322 b) rfl rfl ?_ | refine ACall.val (by kernel_rfl) (f322 c) rfl rfl ?_ | refine ACall.val (by kernel_rfl) (f322 d) rfl rfl ?_); conv => whnf))
  refine ACond.dec (fun h4 => ?_) (fun h4 => ?_)
  · conv => whnf
    repeat (first | refine go ?_ | ((first | refine ALoop.un ?_ | refine ALp.step (T := T) ?_ | refine AReq.mk (of_decide_eq_true rfl) ?_ | refine AIdx.sp rfl ?_ | refine ACond.yes rfl ?_ | refine ACond.no rfl ?_ | refine ACall.val (by kernel_rfl) (f322 a) rfl rfl ?_ | refine ACall.val (by kernel_rfl) (f322 b) rfl rfl ?_ | refine ACall.val (by kernel_rfl) (f322 c) rfl rfl ?_ | refine ACall.val (by kernel_rfl) (f322 d) rfl rfl ?_); conv => whnf))
    exact hbad (by rw [hcb]; exact decide_eq_false (fun h => by omega))
  conv => whnf
  repeat (first | refine go ?_ | ((first | refine ALoop.un ?_ | refine ALp.step (T := T) ?_ | refine AReq.mk (of_decide_eq_true rfl) ?_ | refine AIdx.sp rfl ?_ | refine ACond.yes rfl ?_ | refine ACond.no rfl ?_ | refine ACall.val (by kernel_rfl) (f322 a) rfl rfl ?_ | refine ACall.val (by kernel_rfl) (f322 b) rfl rfl ?_ | refine ACall.val (by kernel_rfl) (f322 c) rfl rfl ?_ | refine ACall.val (by kernel_rfl) (f322 d) rfl rfl ?_); conv => whnf))
  refine ASplit.ndec (fun h5 => ?_) (fun h5 => ?_)
  · conv => whnf
    repeat (first | refine go ?_ | ((first | refine ALoop.un ?_ | refine ALp.step (T := T) ?_ | refine AReq.mk (of_decide_eq_true rfl) ?_ | refine AIdx.sp rfl ?_ | refine ACond.yes rfl ?_ | refine ACond.no rfl ?_ | refine ACall.val (by kernel_rfl) (f322 a) rfl rfl ?_ | refine ACall.val (by kernel_rfl) (f322 b) rfl rfl ?_ | refine ACall.val (by kernel_rfl) (f322 c) rfl rfl ?_ | refine ACall.val (by kernel_rfl) (f322 d) rfl rfl ?_); conv => whnf))
    exact hbad (by rw [hcb]; exact decide_eq_false (fun h => h5 (by omega)))
  conv => whnf
  repeat (first | refine go ?_ | ((first | refine ALoop.un ?_ | refine ALp.step (T := T) ?_ | refine AReq.mk (of_decide_eq_true rfl) ?_ | refine AIdx.sp rfl ?_ | refine ACond.yes rfl ?_ | refine ACond.no rfl ?_ | refine ACall.val (by kernel_rfl) (f322 a) rfl rfl ?_ | refine ACall.val (by kernel_rfl) (f322 b) rfl rfl ?_ | refine ACall.val (by kernel_rfl) (f322 c) rfl rfl ?_ | refine ACall.val (by kernel_rfl) (f322 d) rfl rfl ?_); conv => whnf))
  refine ACond.dec (fun h6 => ?_) (fun h6 => ?_)
  · conv => whnf
    repeat (first | refine go ?_ | ((first | refine ALoop.un ?_ | refine ALp.step (T := T) ?_ | refine AReq.mk (of_decide_eq_true rfl) ?_ | refine AIdx.sp rfl ?_ | refine ACond.yes rfl ?_ | refine ACond.no rfl ?_ | refine ACall.val (by kernel_rfl) (f322 a) rfl rfl ?_ | refine ACall.val (by kernel_rfl) (f322 b) rfl rfl ?_ | refine ACall.val (by kernel_rfl) (f322 c) rfl rfl ?_ | refine ACall.val (by kernel_rfl) (f322 d) rfl rfl ?_); conv => whnf))
    exact hbad (by rw [hcb]; exact decide_eq_false (fun h => by omega))
  conv => whnf
  repeat (first | refine go ?_ | ((first | refine ALoop.un ?_ | refine ALp.step (T := T) ?_ | refine AReq.mk (of_decide_eq_true rfl) ?_ | refine AIdx.sp rfl ?_ | refine ACond.yes rfl ?_ | refine ACond.no rfl ?_ | refine ACall.val (by kernel_rfl) (f322 a) rfl rfl ?_ | refine ACall.val (by kernel_rfl) (f322 b) rfl rfl ?_ | refine ACall.val (by kernel_rfl) (f322 c) rfl rfl ?_ | refine ACall.val (by kernel_rfl) (f322 d) rfl rfl ?_); conv => whnf))
  refine ASplit.ndec (fun h7 => ?_) (fun h7 => ?_)
  · conv => whnf
    repeat (first | refine go ?_ | ((first | refine ALoop.un ?_ | refine ALp.step (T := T) ?_ | refine AReq.mk (of_decide_eq_true rfl) ?_ | refine AIdx.sp rfl ?_ | refine ACond.yes rfl ?_ | refine ACond.no rfl ?_ | refine ACall.val (by kernel_rfl) (f322 a) rfl rfl ?_ | refine ACall.val (by kernel_rfl) (f322 b) rfl rfl ?_ | refine ACall.val (by kernel_rfl) (f322 c) rfl rfl ?_ | refine ACall.val (by kernel_rfl) (f322 d) rfl rfl ?_); conv => whnf))
    exact hbad (by rw [hcb]; exact decide_eq_false (fun h => h7 (by omega)))
  conv => whnf
  repeat (first | refine go ?_ | ((first | refine ALoop.un ?_ | refine ALp.step (T := T) ?_ | refine AReq.mk (of_decide_eq_true rfl) ?_ | refine AIdx.sp rfl ?_ | refine ACond.yes rfl ?_ | refine ACond.no rfl ?_ | refine ACall.val (by kernel_rfl) (f322 a) rfl rfl ?_ | refine ACall.val (by kernel_rfl) (f322 b) rfl rfl ?_ | refine ACall.val (by kernel_rfl) (f322 c) rfl rfl ?_ | refine ACall.val (by kernel_rfl) (f322 d) rfl rfl ?_); conv => whnf))
  refine ACond.dec (fun h8 => ?_) (fun h8 => ?_)
  · conv => whnf
    repeat (first | refine go ?_ | ((first | refine ALoop.un ?_ | refine ALp.step (T := T) ?_ | refine AReq.mk (of_decide_eq_true rfl) ?_ | refine AIdx.sp rfl ?_ | refine ACond.yes rfl ?_ | refine ACond.no rfl ?_ | refine ACall.val (by kernel_rfl) (f322 a) rfl rfl ?_ | refine ACall.val (by kernel_rfl) (f322 b) rfl rfl ?_ | refine ACall.val (by kernel_rfl) (f322 c) rfl rfl ?_ | refine ACall.val (by kernel_rfl) (f322 d) rfl rfl ?_); conv => whnf))
    exact hbad (by rw [hcb]; exact decide_eq_false (fun h => by omega))
  rw [hcb, decide_eq_true (by omega)]
  conv => whnf
  repeat (first | refine go ?_ | ((first | refine ALoop.un ?_ | refine ALp.step (T := T) ?_ | refine AReq.mk (of_decide_eq_true rfl) ?_ | refine AIdx.sp rfl ?_ | refine ACond.yes rfl ?_ | refine ACond.no rfl ?_ | refine ACall.val (by kernel_rfl) (f322 a) rfl rfl ?_ | refine ACall.val (by kernel_rfl) (f322 b) rfl rfl ?_ | refine ACall.val (by kernel_rfl) (f322 c) rfl rfl ?_ | refine ACall.val (by kernel_rfl) (f322 d) rfl rfl ?_); conv => whnf))
  exact AFin.val rfl ⟨rfl, rfl⟩
structure Ru where
  asks : List Int
  cuts : List Int
  fees : List Int
  rows : List Ro
def ruC (r : Ru) : List AV := [iVs r.asks, iVs r.cuts, iVs r.fees, roV r.rows]
def checkB (r : Ru) : Bool := quizB r.asks && cutB r.cuts && feeB r.fees && !(gapF r.rows).2
theorem f159 (r : Ru) : Fun P 159 [.agg (ruC r)] (nV (if checkB r then 0 else 36)) := by
  refine spec_of hT (f := 159) (fn := Go.Proofs.Tryz.f159) (c := body Go.Proofs.Tryz.f159) (by kernel_rfl) (by kernel_rfl) ?_
  unfold checkB
  conv => whnf
  repeat refine go ?_
  refine ACall.val (by kernel_rfl) (f236 r.asks) (iVs1 _ _) rfl ?_
  rcases Bool.eq_false_or_eq_true (quizB r.asks) with g | g <;> simp only [g, Bool.false_eq_true, if_false, if_true]
  case inr =>
    conv => whnf
    repeat refine ru ?_
    exact AFin.val rfl ⟨rfl, rfl⟩
  conv => whnf
  repeat refine ru ?_
  refine ACall.val (by kernel_rfl) (f237 r.cuts) (iVs1 _ _) rfl ?_
  rcases Bool.eq_false_or_eq_true (cutB r.cuts) with g | g <;> simp only [g, Bool.false_eq_true, if_false, if_true]
  case inr =>
    conv => whnf
    repeat refine ru ?_
    exact AFin.val rfl ⟨rfl, rfl⟩
  conv => whnf
  repeat refine ru ?_
  refine ACall.val (by kernel_rfl) (f238 r.fees) (iVs1 _ _) rfl ?_
  rcases Bool.eq_false_or_eq_true (feeB r.fees) with g | g <;> simp only [g, Bool.false_eq_true, if_false, if_true]
  case inr =>
    conv => whnf
    repeat refine ru ?_
    exact AFin.val rfl ⟨rfl, rfl⟩
  conv => whnf
  repeat refine ru ?_
  refine ACall.val (by kernel_rfl) (f239 r.rows) (roV1 _ _) rfl ?_
  rcases Bool.eq_false_or_eq_true (gapF r.rows).2 with g | g <;> simp only [g, Bool.false_eq_true, if_false, if_true]
  · conv => whnf
    repeat refine ru ?_
    exact AFin.val rfl ⟨rfl, rfl⟩
  · conv => whnf
    repeat refine ru ?_
    exact AFin.val rfl ⟨rfl, rfl⟩
end Go.Aw.UT

