/-
  The statement TrailFalls: wherever the power goes while a frame is appended, the frames ahead are loaded, and that one, or not, without any condition.
-/
import Derived.Test.YtllchkemgjmjiaaGreatDoorVfB
set_option linter.unusedSimpArgs false
set_option linter.unusedVariables false
set_option linter.unusedSimpArgs false
set_option linter.unusedVariables false
set_option maxHeartbeats 1000000
namespace Go.Aw.VE
open Go Go.Proofs

/-- a sector that begins no frame of the second epoch -/
def quiet (c : List UInt8) : Prop := c[0]? ≠ some 1 ∨ VD.beVal ((c.drop 1).take 8) = 1
theorem fput_cell (e q : Nat) (b : ByteArray) (i : Nat) (hi : i < VD.pcs b.size) : cellOf (VD.fputB e q b).data.toList i = VD.mk i :: VD.piece (VD.frT e q b) i := by
  have hl := VD.frT_len e q b
  obtain ⟨r, hr⟩ := VD.layF_split (VD.frT e q b) (VD.pcs b.size) i hi
  have hp := VD.piece_len (VD.frT e q b) (VD.pcs b.size) i hl hi
  rw [VD.fputB_list, hr]
  unfold cellOf
  rw [List.drop_left' (by rw [VD.layF_len _ _ hl i (by omega)]), List.take_left' (by rw [List.length_cons, hp])]
theorem frT_head (e q : Nat) (b : ByteArray) : (VD.piece (VD.frT e q b) 0).take 8 = VD.be 8 e := by
  have hb : (VD.be 8 e).length = 8 := VD.be_len 8 e
  unfold VD.piece
  rw [Nat.mul_zero, List.drop_zero, List.take_take, show min 8 63 = 8 from rfl, VD.frT_eq, List.take_left' hb]
theorem quiet_old (q : Nat) (b : ByteArray) (i : Nat) (hi : i < VD.pcs b.size) : quiet (cellOf (VD.fputB 1 q b).data.toList i) := by
  rw [fput_cell _ _ _ _ hi]
  unfold quiet
  by_cases h : i = 0
  · subst h
    refine .inr ?_
    rw [List.drop_succ_cons, List.drop_zero, frT_head]
    exact VD.be_of 8 1 (by decide)
  · refine .inl ?_
    unfold VD.mk
    rw [if_neg h]
    intro e
    exact absurd (Option.some.inj e) (by decide)
theorem quiet_new (q : Nat) (b : ByteArray) : ¬ quiet (cellOf (VD.fputB 2 q b).data.toList 0) := by
  rw [fput_cell _ _ _ _ (VD.pcs_bound b.size).2.2]
  unfold quiet
  rintro (h | h)
  · exact h rfl
  · rw [List.drop_succ_cons, List.drop_zero, frT_head, show VD.beVal (VD.be 8 2) = 2 from VD.be_of 8 2 (by decide)] at h
    cases h
theorem quiet_zero : quiet (List.replicate 64 0) := .inl (by decide)
theorem cell_of_take {s t : List UInt8} {a p : Nat} (hp : 1 ≤ p) (h : (s.drop (64 * a)).take (64 * p) = t) : cellOf s a = cellOf t 0 := by
  subst h
  unfold cellOf
  rw [Nat.mul_zero, List.drop_zero, List.take_take, Nat.min_eq_left (by omega)]
theorem quiet_stops (s : ByteArray) (a : Nat) (h : quiet (cellOf s.data.toList a)) : (VD.fgetF s a).2.2 ≠ 0 ∨ (VD.fgetF s a).1.1 ≠ 2 := by
  by_cases h0 : (VD.fgetF s a).2.2 = 0
  · refine .inr ?_
    obtain ⟨a', e, q, b, ha, hg, hm, h64, hle, hs⟩ := VD.fget_of s a h0
    obtain rfl : a' = a := by omega
    rw [hg]
    intro (he : e = 2)
    subst he
    rw [cell_of_take (VD.pcs_bound b.size).2.2 hs] at h
    exact quiet_new q b h
  · exact .inl h0
theorem cell_putC {cs t : List UInt8} {k m : Nat} (ht : t.length = 64 * m) (h : 64 * (k + m) ≤ cs.length) (j : Nat) : cellOf (putC cs k t) j = if k ≤ j ∧ j < k + m then cellOf t (j - k) else cellOf cs j := by
  have hP : (cs.take (64 * k)).length = 64 * k := by rw [List.length_take]; omega
  unfold putC cellOf
  rw [List.append_assoc]
  by_cases h1 : j < k
  · rw [if_neg (by omega), List.drop_append, List.take_append, hP, List.drop_take, List.take_take, List.length_take, List.length_drop, show 64 * j - 64 * k = 0 by omega, List.drop_zero, show 64 - min (64 * k - 64 * j) (cs.length - 64 * j) = 0 by omega, List.take_zero, List.append_nil, Nat.min_eq_left (by omega)]
  · rw [List.drop_append, List.drop_eq_nil_of_le (by omega), hP, List.nil_append, List.drop_append, ht]
    by_cases h2 : j < k + m
    · rw [if_pos ⟨by omega, h2⟩, List.take_append_of_le_length (by rw [List.length_drop]; omega)]
      congr 2; omega
    · rw [if_neg (by omega), List.drop_eq_nil_of_le (by omega), List.nil_append, List.drop_drop]
      congr 2; omega
theorem cells_take {s t : List UInt8} : ∀ n : Nat, 64 * n ≤ s.length → 64 * n ≤ t.length → (∀ j, j < n → cellOf s j = cellOf t j) → s.take (64 * n) = t.take (64 * n)
  | 0, _, _, _ => rfl
  | n + 1, h1, h2, h => by
    have ih := cells_take (s := s) (t := t) n (by omega) (by omega) (fun j hj => h j (by omega))
    have hn := h n (by omega)
    unfold cellOf at hn
    rw [show 64 * (n + 1) = 64 * n + 64 by omega, List.take_add, List.take_add, ih, hn]
end Go.Aw.VE

set_option linter.unusedSimpArgs false
set_option linter.unusedVariables false
set_option maxHeartbeats 1000000
namespace Go.Aw.VE
open Go Go.Proofs

theorem put_at {cs t : List UInt8} {k m : Nat} (ht : t.length = 64 * m) (h : 64 * (k + m) ≤ cs.length) : ((putC cs k t).drop (64 * k)).take (64 * m) = t := by
  unfold putC
  rw [List.append_assoc, List.drop_left' (by rw [List.length_take]; omega), List.take_left' ht]
theorem ar_all {cs : List UInt8} (h : cs.length = 12800) : arS cs 0 200 = ofL cs := by
  unfold arS arL
  rw [Nat.mul_zero, List.drop_zero, List.take_of_length_le (by omega)]
/-- frames of the second epoch, and none of them behind -/
structure Kq (x : Dd) (cs : List UInt8) (l : List ByteArray) (z : Nat) : Prop where
  cl : Cl x cs
  n : x.n = 200
  ch : VD.chain (ofL cs) 2 0 0 l z
  zN : z ≤ 200
  quiet : ∀ j, z ≤ j → j < 200 → quiet (cellOf cs j)
theorem Kq.len {x : Dd} {cs : List UInt8} {l : List ByteArray} {z : Nat} (h : Kq x cs l z) : cs.length = 12800 := by
  have := h.cl.ok.len
  rw [h.cl.cs, h.n] at this
  omega
theorem app_eq {x : Dd} (hn : x.n = 200) {z q : Nat} {b : ByteArray} (hm : VD.mayF 2 (q : Nat) b.size = 0) (hz : z + VD.pcs b.size ≤ 200) :
    appF x 0 200 z 2 q b = (if (lastF x z (VD.fputB 2 q b)).2 ≠ 0 then ((0, (lastF x z (VD.fputB 2 q b)).2), (lastF x z (VD.fputB 2 q b)).1) else ((((z + VD.pcs b.size : Nat) : Int), 0), (lastF x z (VD.fputB 2 q b)).1)) := by
  unfold appF
  rw [show checkF x 0 200 = 0 from check_ok (A := 0) (N := 200) (by decide) (by omega), if_neg (by decide), show VD.fputF 2 q b = (VD.fputB 2 q b, 0) from VD.fputF_ok (e := 2) hm, if_neg (fun e => e rfl), if_neg (by
    unfold roomF
    rw [decide_eq_true (by omega)]; decide), Int.zero_add]
  rw [show (z : Int) + (VD.pcs b.size : Nat) = ((z + VD.pcs b.size : Nat) : Int) by omega]
theorem app_kq {x : Dd} {cs : List UInt8} {l : List ByteArray} {z : Nat} (h : Kq x cs l z) (b : ByteArray) (hm : VD.mayF 2 (l.length + 1 : Nat) b.size = 0) (hz : z + VD.pcs b.size ≤ 200) :
    (appF x 0 200 z 2 ((l.length + 1 : Nat) : Int) b).1 = (((z + VD.pcs b.size : Nat) : Int), 0) ∧ Kq (appF x 0 200 z 2 ((l.length + 1 : Nat) : Int) b).2 (putC cs z (VD.fputB 2 (l.length + 1) b).data.toList) (l ++ [b]) (z + VD.pcs b.size) := by
  have hpb := VD.pcs_bound b.size
  have hlen := h.len
  have ht := fput_len 2 (l.length + 1) b
  have hx := h.n
  obtain ⟨h1, h2, h3⟩ := last_cl h.cl z (VD.pcs b.size) (VD.fputB 2 (l.length + 1) b) (VD.fputB_size _ _ _) hpb.2.2 (by omega)
  rw [app_eq h.n hm hz, if_neg (fun e => e h1)]
  refine ⟨rfl, h2, h3.trans h.n, ?_, hz, fun j hj hj2 => ?_⟩
  · have hl2 : (ofL (putC cs z (VD.fputB 2 (l.length + 1) b).data.toList)).size = 12800 := by rw [ofL_size, putC_len (by omega), hlen]
    have h4 := VD.chain_other (ofL cs) (ofL (putC cs z (VD.fputB 2 (l.length + 1) b).data.toList)) 2 z (by omega) (by rw [ofL_size, hlen]; have := h.zN; omega)
      (put_take cs _ z z (Nat.le_refl _) (by omega)) l 0 0 z h.ch (by omega) (Nat.le_refl _)
    refine VD.chain_snoc _ _ b l 0 0 z h4 ⟨2, rfl, ?_⟩
    rw [Nat.zero_add]
    exact VD.fget_put _ z 2 (l.length + 1) b (by omega) hm (put_at ht (by omega))
  · rw [cell_putC ht (by omega), if_neg (by omega)]
    exact h.quiet j (by omega) hj2

/-- before the first flush -/
structure Kr (y : Dd) : Prop where
  ok : Dok y
  a : y.a = 0
  f : y.f = false
  n : y.n = 200
  q : ∀ j, j < 200 → quiet (cellOf y.cs j)
theorem kr_new : Kr (newD 200) := by
  refine ⟨new_ok (by decide) (by decide), rfl, rfl, rfl, fun j hj => ?_⟩
  have : cellOf (newD 200).cs j = List.replicate 64 0 := by
    unfold cellOf newD
    simp only
    rw [List.drop_replicate, List.take_replicate]
    congr 1; omega
  rw [this]
  exact quiet_zero
theorem kr_write {y : Dd} (h : Kr y) (k q : Nat) (b : ByteArray) (hk : k + VD.pcs b.size ≤ 200) : Kr (writeF y k (VD.fputB 1 q b)).1 := by
  have hpb := VD.pcs_bound b.size
  have hsz := VD.fputB_size 1 q b
  have ht := fput_len 1 q b
  have hl := h.ok.len
  have hn := h.n
  have hw : writeF y k (VD.fputB 1 q b) = wrF (VD.pcs b.size) y k (VD.fputB 1 q b).data.toList := by
    unfold writeF
    rw [h.f, if_neg (by decide), if_neg (by omega), if_pos (by omega), show (VD.fputB 1 q b).size / 64 = VD.pcs b.size by omega, Int.toNat_natCast]
  obtain ⟨g1, g2, g3, g4⟩ := wrF0 (VD.pcs b.size) y k (VD.fputB 1 q b).data.toList h.a ht (by omega)
  have hok := write_ok h.ok k (VD.fputB 1 q b)
  rw [hw] at hok ⊢
  refine ⟨hok.1, g2, g3.trans h.f, hok.2.trans h.n, fun j hj => ?_⟩
  rw [g4, cell_putC ht (by omega)]
  split
  · exact quiet_old q b _ (by omega)
  · exact h.q j hj
theorem kr_flush {y : Dd} (h : Kr y) : Kq (flushD y) y.cs [] 0 := by
  obtain ⟨f1, f2⟩ := flush0 h.a h.f
  have hok := flush_ok h.ok
  refine ⟨⟨hok.1, ?_, ?_, ?_, ?_⟩, hok.2.trans h.n, rfl, by omega, fun j _ hj => h.q j hj⟩
  · rw [f1]; exact h.a
  · rw [f1]; exact h.f
  · rw [f1]
  · rw [f1]

theorem wrF_done : ∀ (m : Nat) (x : Dd) (k : Nat) (t : List UInt8), t.length = 64 * m → 64 * (k + m) ≤ x.cs.length → (wrF m x k t).2 = 0 → (wrF m x k t).1.cs = putC x.cs k t
  | 0, x, k, t, ht, hk, _ => by
    have : t = [] := List.eq_nil_of_length_eq_zero (by omega)
    subst this
    show x.cs = x.cs.take (64 * k) ++ [] ++ x.cs.drop (64 * k + 0)
    rw [List.append_nil, Nat.add_zero, List.take_append_drop]
  | m + 1, x, k, t, ht, hk, h => by
    unfold wrF at h ⊢
    rcases hb : lastB x with _ | _
    · rw [hb] at h
      simp only [Bool.false_eq_true, if_false] at h ⊢
      have hl : (t.take 64).length = 64 := by rw [List.length_take]; omega
      have hcs : (putD (lastD x) k (t.take 64)).cs = putC x.cs k (t.take 64) := by
        show putC (lastD x).cs k (t.take 64) = _
        rw [lastD_cs]
      refine (wrF_done m (putD (lastD x) k (t.take 64)) (k + 1) (t.drop 64) (by rw [List.length_drop]; omega) (by rw [hcs, putC_len (by omega)]; omega) h).trans ?_
      rw [hcs, putC_two _ _ _ _ hl (by omega), List.take_append_drop]
    · rw [hb] at h
      simp only [if_true] at h
      exact absurd h (by decide)
end Go.Aw.VE

set_option linter.unusedSimpArgs false
set_option linter.unusedVariables false
set_option maxHeartbeats 1000000
namespace Go.Aw.VE
open Go Go.Proofs

/-- the part of a text where a frame lies -/
def partF (s t : ByteArray) (a : Nat) : ByteArray := t.extract (64 * a) (64 * (VD.fgetF s a).2.1.toNat)
def mixedF (left was now : ByteArray) (a : Nat) : Bool := decide ((VD.fgetF left a).2.2 = 0 ∧ partF left left a ≠ partF left was a ∧ partF left left a ≠ partF left now a)
theorem ext_lists (s t : ByteArray) (a b : Nat) (h : s.extract a b = t.extract a b) : (s.data.toList.drop a).take (b - a) = (t.data.toList.drop a).take (b - a) := by
  have := congrArg (fun x : ByteArray => x.data.toList) h
  simpa only [ext_list] using this

theorem last_done {x : Dd} {cs : List UInt8} (h : Cl x cs) (n : Int) (k m : Nat) (s : ByteArray) (hs : s.size = 64 * m) (hm : 0 < m) (hk : k + m ≤ x.n) (h0 : (lastF { x with a := n } k s).2 = 0) :
    (lastF { x with a := n } k s).1.cs = putC cs k s.data.toList ∧ (lastF { x with a := n } k s).1.L = [] := by
  have hl := h.ok.len
  have hw : writeF { x with a := n } k s = wrF m { x with a := n } k s.data.toList := by
    unfold writeF
    show (if x.f = true then _ else if _ then _ else if 0 ≤ (k : Int) ∧ (k : Int) < x.n ∧ ((s.size / 64 : Nat) : Int) ≤ x.n - k then _ else _) = _
    rw [h.f, if_neg (by decide), if_neg (by omega), if_pos (by omega), show s.size / 64 = m by omega, Int.toNat_natCast]
  unfold lastF at h0 ⊢
  rw [hw] at h0 ⊢
  split at h0
  · rename_i e; exact absurd h0 e
  rename_i e
  rw [if_neg e]
  have e0 : (wrF m { x with a := n } k s.data.toList).2 = 0 := by omega
  have hd := wrF_done m { x with a := n } k s.data.toList (by rw [size_list, hs]) (by show 64 * (k + m) ≤ x.cs.length; omega) e0
  generalize (wrF m { x with a := n } k s.data.toList).1 = y at *
  have hd : y.cs = putC x.cs k s.data.toList := hd
  rw [h.cs] at hd
  show (flushD y).cs = _ ∧ (flushD y).L = []
  have hf : flushE y = 0 := h0
  unfold flushE at hf
  unfold flushD
  split at hf
  · cases hf
  split at hf
  · cases hf
  rename_i e1 e2
  rw [if_neg e1, if_neg e2]
  exact ⟨(lastD_cs y).trans hd, rfl⟩
theorem last_out {x : Dd} {cs : List UInt8} (h : Cl x cs) (n : Int) (k m : Nat) (s : ByteArray) (hs : s.size = 64 * m) (j : Nat) (hj : j < k ∨ k + m ≤ j) :
    nowOf (lastF { x with a := n } k s).1 j = cellOf cs j ∧ safeOf (lastF { x with a := n } k s).1 j = none := by
  have hw := write_out (x := { x with a := n }) (arm_ok h.ok n) k s j (by omega)
  have hn : nowOf { x with a := n } j = cellOf cs j := by show cellOf x.cs j = _; rw [h.cs]
  have hsf : safeOf { x with a := n } j = none := by show lookO x.L j = none; rw [h.L]; rfl
  rw [hn, hsf] at hw
  unfold lastF
  split
  · exact hw
  · have hf := flush_out (writeF { x with a := n } k s).1 j
    rw [hw.1, hw.2] at hf
    exact ⟨hf.1, by rcases hf.2 with e | e <;> exact e⟩
theorem fall_law {x : Dd} {cs : List UInt8} {l : List ByteArray} {z : Nat} (h : Kq x cs l z) (b : ByteArray) (hm : VD.mayF 2 (l.length + 1 : Nat) b.size = 0) (hz : z + VD.pcs b.size < 200) (n : Int) (c : Ch) :
    ∃ (d : Dd) (e : Int) (r : Int), (appF { x with a := n } 0 200 z 2 ((l.length + 1 : Nat) : Int) b).1 = (r, e) ∧ bootD c { (appF { x with a := n } 0 200 z 2 ((l.length + 1 : Nat) : Int) b).2 with f := true, a := 0 } = d ∧ Dok d ∧ d.n = 200 ∧ d.f = false ∧
      (mixedF (ofL d.cs) (ofL cs) (ofL (putC cs z (VD.fputB 2 (l.length + 1) b).data.toList)) z = true ∨ (∃ z', VD.scanA (ofL d.cs) 2 = (l ++ [b], z')) ∨ e ≠ 0 ∧ ∃ z', VD.scanA (ofL d.cs) 2 = (l, z')) := by
  have hpb := VD.pcs_bound b.size
  have hlen := h.len
  have ht := fput_len 2 (l.length + 1) b
  have hx := h.n
  have hsz := VD.fputB_size 2 (l.length + 1) b
  have hao := app_ok (arm_ok h.cl.ok n) 0 200 z 2 ((l.length + 1 : Nat) : Int) b
  have hd1 : (appF { x with a := n } 0 200 z 2 ((l.length + 1 : Nat) : Int) b).2 = (lastF { x with a := n } z (VD.fputB 2 (l.length + 1) b)).1 ∧ (appF { x with a := n } 0 200 z 2 ((l.length + 1 : Nat) : Int) b).1.2 = (lastF { x with a := n } z (VD.fputB 2 (l.length + 1) b)).2 := by
    rw [app_eq (x := { x with a := n }) h.n hm (by omega)]
    split
    · exact ⟨rfl, rfl⟩
    · rename_i e; exact ⟨rfl, by show (0 : Int) = _; omega⟩
  have hdone := last_done h.cl n z (VD.pcs b.size) (VD.fputB 2 (l.length + 1) b) hsz hpb.2.2 (by omega)
  have hout := fun j hj => last_out h.cl n z (VD.pcs b.size) (VD.fputB 2 (l.length + 1) b) hsz j hj
  rw [← hd1.1, ← hd1.2] at hdone
  rw [← hd1.1] at hout
  generalize appF { x with a := n } 0 200 z 2 ((l.length + 1 : Nat) : Int) b = r at *
  obtain ⟨⟨r, e⟩, d1⟩ := r
  simp only at hdone hout hao
  have hb := boot_ok (off_ok hao.1) c
  have hnow := fun j => now_boot (off_ok hao.1) c j
  have hdf : (bootD c { d1 with f := true, a := 0 }).f = false := rfl
  refine ⟨bootD c { d1 with f := true, a := 0 }, e, r, rfl, rfl, hb.1, hb.2.1.trans (hao.2.trans h.n), hdf, ?_⟩
  have hdl := hb.1.len
  rw [hb.2.1.trans (hao.2.trans h.n)] at hdl
  generalize bootD c { d1 with f := true, a := 0 } = d at *
  have hcell : ∀ j, (j < z ∨ z + VD.pcs b.size ≤ j) → cellOf d.cs j = cellOf cs j := by
    intro j hj
    have h1 := hnow j
    obtain ⟨g1, g2⟩ := hout j hj
    have g2' : safeOf { d1 with f := true, a := 0 } j = none := g2
    rw [g2'] at h1
    exact h1.trans g1
  have hall : e = 0 → d.cs = putC cs z (VD.fputB 2 (l.length + 1) b).data.toList := by
    intro he
    obtain ⟨g1, g2⟩ := hdone he
    have hpl : (putC cs z (VD.fputB 2 (l.length + 1) b).data.toList).length = 12800 := by rw [putC_len (by omega), hlen]
    have := cells_take (s := d.cs) (t := putC cs z (VD.fputB 2 (l.length + 1) b).data.toList) 200 (by omega) (by omega) (fun j _ => by
      have h1 := hnow j
      have g2' : safeOf { d1 with f := true, a := 0 } j = none := by show lookO d1.L j = none; rw [g2]; rfl
      rw [g2'] at h1
      refine h1.trans ?_
      show cellOf d1.cs j = _
      rw [g1])
    rwa [List.take_of_length_le (by omega), List.take_of_length_le (by omega)] at this
  have hch : VD.chain (ofL d.cs) 2 0 0 l z := VD.chain_other (ofL cs) (ofL d.cs) 2 z (by rw [ofL_size]; omega) (by rw [ofL_size]; omega) (cells_take (s := d.cs) (t := cs) z (by omega) (by omega) (fun j hj => hcell j (.inl hj))) l 0 0 z h.ch (by omega) (Nat.le_refl _)
  have hzl := VD.chain_sum _ _ l 0 0 z h.ch
  have hsd : (ofL d.cs).size = 12800 := by rw [ofL_size]; omega
  have hnew : VD.fgetF (ofL d.cs) z = ((2, l.length + 1, b), ((z + VD.pcs b.size : Nat) : Int), 0) → ∃ z', VD.scanA (ofL d.cs) 2 = (l ++ [b], z') := by
    intro hg
    refine ⟨z + VD.pcs b.size, ?_⟩
    refine VD.chain_scan _ _ (l ++ [b]) _ 0 0 _ (VD.chain_snoc _ _ b l 0 0 z hch ⟨2, rfl, by rw [Nat.zero_add]; exact hg⟩) ?_ ?_
    · have hq : quiet (cellOf d.cs (z + VD.pcs b.size)) := by
        rw [hcell _ (.inr (Nat.le_refl _))]
        exact h.quiet _ (by omega) hz
      rcases quiet_stops (ofL d.cs) (z + VD.pcs b.size) hq with e | e
      · exact .inl e
      · exact .inr (.inl (by omega))
    · rw [hsd, List.length_append, List.length_singleton]; omega
  by_cases he : e = 0
  · refine .inr (.inl (hnew ?_))
    rw [hall he]
    exact VD.fget_put _ z 2 (l.length + 1) b (by rw [ofL_size, putC_len (by omega)]; omega) hm (put_at ht (by omega))
  · by_cases hstop : VD.stops (ofL d.cs) 2 z (0 + l.length)
    · exact .inr (.inr ⟨he, z, VD.chain_scan _ _ l _ 0 0 z hch hstop (by rw [hsd]; omega)⟩)
    · unfold VD.stops at hstop
      by_cases hg0 : (VD.fgetF (ofL d.cs) z).2.2 = 0
      · by_cases hmx : mixedF (ofL d.cs) (ofL cs) (ofL (putC cs z (VD.fputB 2 (l.length + 1) b).data.toList)) z = true
        · exact .inl hmx
        refine .inr (.inl (hnew ?_))
        obtain ⟨a', e', q', b', ha, hg, hm', h64, hle, hs⟩ := VD.fget_of (ofL d.cs) z hg0
        obtain rfl : a' = z := by omega
        rw [hg] at hstop hg0 ⊢
        have hep : e' = 2 := by
          rcases Nat.decEq e' 2 with g | g
          · exact absurd (.inr (.inl (by show (e' : Int) ≠ 2; omega))) hstop
          · exact g
        have hq' : q' = l.length + 1 := by
          rcases Nat.decEq q' (l.length + 1) with g | g
          · exact absurd (.inr (.inr (by show q' ≠ 0 + l.length + 1; omega))) hstop
          · exact g
        subst hep hq'
        have hpb' := VD.pcs_bound b'.size
        unfold mixedF partF at hmx
        rw [hg] at hmx
        simp only [Int.toNat_natCast, decide_eq_true_eq, true_and] at hmx
        have hsub : 64 * (a' + VD.pcs b'.size) - 64 * a' = 64 * VD.pcs b'.size := by omega
        rcases Classical.em ((ofL d.cs).extract (64 * a') (64 * (a' + VD.pcs b'.size)) = (ofL cs).extract (64 * a') (64 * (a' + VD.pcs b'.size))) with g | g
        · have := ext_lists _ _ _ _ g
          rw [hsub, hs] at this
          have hc := cell_of_take hpb'.2.2 this.symm
          have hq := h.quiet a' (Nat.le_refl _) (by omega)
          rw [show cellOf cs a' = _ from hc] at hq
          exact absurd hq (quiet_new _ _)
        · have g2 : (ofL d.cs).extract (64 * a') (64 * (a' + VD.pcs b'.size)) = (ofL (putC cs a' (VD.fputB 2 (l.length + 1) b).data.toList)).extract (64 * a') (64 * (a' + VD.pcs b'.size)) :=
            Classical.byContradiction fun e => hmx ⟨g, e⟩
          have := ext_lists _ _ _ _ g2
          rw [hsub, hs] at this
          have e1 := VD.fget_put (ofL (putC cs a' (VD.fputB 2 (l.length + 1) b).data.toList)) a' 2 (l.length + 1) b' (by rw [ofL_size, putC_len (by omega)]; omega) hm' this.symm
          have e2 := VD.fget_put (ofL (putC cs a' (VD.fputB 2 (l.length + 1) b).data.toList)) a' 2 (l.length + 1) b (by rw [ofL_size, putC_len (by omega)]; omega) hm (put_at ht (by omega))
          rw [e1] at e2
          have : b' = b := congrArg (fun r : VD.FR => r.1.2.2) e2
          rw [this]
      · exact absurd (.inl hg0) hstop
end Go.Aw.VE

set_option linter.unusedSimpArgs false
set_option linter.unusedVariables false
set_option maxHeartbeats 4000000
set_option maxRecDepth 20000
namespace Go.Aw.VE
open Go Go.Proofs

theorem f32 (s w n : ByteArray) (a : Nat) (hs : s.size = 12800) (hw : w.size = 12800) (hn : n.size = 12800) (ha : a ≤ 200) : Fun P 32 [sV s, sV w, sV n, nV a] (.v (.bool (mixedF s w n a))) := by
  refine spec_of hT (f := 32) (fn := Go.Proofs.Tryz.f32) (c := body Go.Proofs.Tryz.f32) (by kernel_rfl) (by kernel_rfl) ?_
  have h66 := VD.f66 s a (by omega) (by omega)
  unfold mixedF partF
  by_cases h0 : (VD.fgetF s a).2.2 = 0
  · obtain ⟨a', e', q', b', he, hg, hm', h64, hle, hpt⟩ := VD.fget_of s a h0
    obtain rfl : a' = a := by omega
    rw [hg] at h66 ⊢
    have hpb := VD.pcs_bound b'.size
    unfold VD.fgetR VD.frA at h66
    simp only [Int.toNat_natCast, true_and]
    generalize hto : a' + VD.pcs b'.size = tt at *
    dsimp only at h66
    conv => whnf
    repeat ((first | refine AO.cons hT ?_ | refine AO.nil ?_ | refine AW.seq ?_ | refine AW.region ?_ | refine AW.cond ?_ | refine AW.block ?_ | refine AW.loop ?_ | refine AW.skip ?_ | refine AW.exit ?_ | refine AW.ret ?_ | refine AW.label ?_ | refine AW.scope ?_ | refine AF.one hT rfl ?_ | refine AF.nil ?_ | refine AF.imm hT rfl rfl rfl ?_ | refine AH.of hT rfl ?_ | refine AD.cons hT rfl ?_ | refine AD.nil ?_ | refine AQ.cons hT rfl ?_ | refine AQ.nil ?_ | (refine ACall.val (by kernel_rfl) h66 rfl rfl ?_) | (refine ASplit.no rfl ?_) | (refine ASplit.no (by rw [Bool.not_eq_false']; exact decide_eq_true (by omega)) ?_) | (refine ASplit.no (decide_eq_false (by omega)) ?_) | (refine ACond.no (decide_eq_false (by omega)) ?_)); conv => whnf)
    rw [wrap_i64' (n := 64 * (tt : Int)) (by omega) (by omega)]
    conv => whnf
    repeat ((first | refine AO.cons hT ?_ | refine AO.nil ?_ | refine AW.seq ?_ | refine AW.region ?_ | refine AW.cond ?_ | refine AW.block ?_ | refine AW.loop ?_ | refine AW.skip ?_ | refine AW.exit ?_ | refine AW.ret ?_ | refine AW.label ?_ | refine AW.scope ?_ | refine AF.one hT rfl ?_ | refine AF.nil ?_ | refine AF.imm hT rfl rfl rfl ?_ | refine AH.of hT rfl ?_ | refine AD.cons hT rfl ?_ | refine AD.nil ?_ | refine AQ.cons hT rfl ?_ | refine AQ.nil ?_ | (refine ACall.val (by kernel_rfl) h66 rfl rfl ?_) | (refine ASplit.no rfl ?_) | (refine ASplit.no (by rw [Bool.not_eq_false']; exact decide_eq_true (by omega)) ?_) | (refine ASplit.no (decide_eq_false (by omega)) ?_) | (refine ACond.no (decide_eq_false (by omega)) ?_)); conv => whnf)
    have hw1 : IntKind.wrap .i64 (64 * (a' : Int)) = 64 * a' := wrap_i64' (by omega) (by omega)
    have hw2 : IntKind.wrap .i64 (64 * (tt : Int)) = 64 * tt := wrap_i64' (by omega) (by omega)
    have ht1 : (64 * (a' : Int)).toNat = 64 * a' := by omega
    have ht2 : (64 * (tt : Int)).toNat = 64 * tt := by omega
    rw [hw1, hw2]
    refine AReq.mk ⟨by omega, by omega, by omega⟩ ?_
    conv => whnf
    repeat ((first | refine AO.cons hT ?_ | refine AO.nil ?_ | refine AW.seq ?_ | refine AW.region ?_ | refine AW.cond ?_ | refine AW.block ?_ | refine AW.loop ?_ | refine AW.skip ?_ | refine AW.exit ?_ | refine AW.ret ?_ | refine AW.label ?_ | refine AW.scope ?_ | refine AF.one hT rfl ?_ | refine AF.nil ?_ | refine AF.imm hT rfl rfl rfl ?_ | refine AH.of hT rfl ?_ | refine AD.cons hT rfl ?_ | refine AD.nil ?_ | refine AQ.cons hT rfl ?_ | refine AQ.nil ?_ | (refine ACall.val (by kernel_rfl) h66 rfl rfl ?_) | (refine ASplit.no rfl ?_) | (refine ASplit.no (by rw [Bool.not_eq_false']; exact decide_eq_true (by omega)) ?_) | (refine ASplit.no (decide_eq_false (by omega)) ?_) | (refine ACond.no (decide_eq_false (by omega)) ?_)); conv => whnf)
    rw [hw1, hw2]
    refine AReq.mk ⟨by omega, by omega, by omega⟩ ?_
    rw [ht1, ht2]
    conv => whnf
    repeat ((first | refine AO.cons hT ?_ | refine AO.nil ?_ | refine AW.seq ?_ | refine AW.region ?_ | refine AW.cond ?_ | refine AW.block ?_ | refine AW.loop ?_ | refine AW.skip ?_ | refine AW.exit ?_ | refine AW.ret ?_ | refine AW.label ?_ | refine AW.scope ?_ | refine AF.one hT rfl ?_ | refine AF.nil ?_ | refine AF.imm hT rfl rfl rfl ?_ | refine AH.of hT rfl ?_ | refine AD.cons hT rfl ?_ | refine AD.nil ?_ | refine AQ.cons hT rfl ?_ | refine AQ.nil ?_ | (refine ACall.val (by kernel_rfl) h66 rfl rfl ?_) | (refine ASplit.no rfl ?_) | (refine ASplit.no (by rw [Bool.not_eq_false']; exact decide_eq_true (by omega)) ?_) | (refine ASplit.no (decide_eq_false (by omega)) ?_) | (refine ACond.no (decide_eq_false (by omega)) ?_)); conv => whnf)
    rw [str_eq]
    refine ASplit.ndec (fun g1 => ?_) (fun g1 => ?_)
    · conv => whnf
      repeat ((first | refine AO.cons hT ?_ | refine AO.nil ?_ | refine AW.seq ?_ | refine AW.region ?_ | refine AW.cond ?_ | refine AW.block ?_ | refine AW.loop ?_ | refine AW.skip ?_ | refine AW.exit ?_ | refine AW.ret ?_ | refine AW.label ?_ | refine AW.scope ?_ | refine AF.one hT rfl ?_ | refine AF.nil ?_ | refine AF.imm hT rfl rfl rfl ?_ | refine AH.of hT rfl ?_ | refine AD.cons hT rfl ?_ | refine AD.nil ?_ | refine AQ.cons hT rfl ?_ | refine AQ.nil ?_ | (refine ACall.val (by kernel_rfl) h66 rfl rfl ?_) | (refine ASplit.no rfl ?_) | (refine ASplit.no (by rw [Bool.not_eq_false']; exact decide_eq_true (by omega)) ?_) | (refine ASplit.no (decide_eq_false (by omega)) ?_) | (refine ACond.no (decide_eq_false (by omega)) ?_)); conv => whnf)
      rw [hw1, hw2]
      refine AReq.mk ⟨by omega, by omega, by omega⟩ ?_
      rw [ht1, ht2]
      conv => whnf
      repeat ((first | refine AO.cons hT ?_ | refine AO.nil ?_ | refine AW.seq ?_ | refine AW.region ?_ | refine AW.cond ?_ | refine AW.block ?_ | refine AW.loop ?_ | refine AW.skip ?_ | refine AW.exit ?_ | refine AW.ret ?_ | refine AW.label ?_ | refine AW.scope ?_ | refine AF.one hT rfl ?_ | refine AF.nil ?_ | refine AF.imm hT rfl rfl rfl ?_ | refine AH.of hT rfl ?_ | refine AD.cons hT rfl ?_ | refine AD.nil ?_ | refine AQ.cons hT rfl ?_ | refine AQ.nil ?_ | (refine ACall.val (by kernel_rfl) h66 rfl rfl ?_) | (refine ASplit.no rfl ?_) | (refine ASplit.no (by rw [Bool.not_eq_false']; exact decide_eq_true (by omega)) ?_) | (refine ASplit.no (decide_eq_false (by omega)) ?_) | (refine ACond.no (decide_eq_false (by omega)) ?_)); conv => whnf)
      rw [str_eq]
      refine AFin.val rfl ⟨?_, rfl⟩
      rw [show (decide (s.extract (64 * a') (64 * tt) ≠ w.extract (64 * a') (64 * tt) ∧ s.extract (64 * a') (64 * tt) ≠ n.extract (64 * a') (64 * tt))) = !decide (s.extract (64 * a') (64 * tt) = n.extract (64 * a') (64 * tt)) by
        rw [← decide_not]
        exact decide_eq_decide.2 ⟨fun e => e.2, fun e => ⟨g1, e⟩⟩]
    · conv => whnf
      repeat ((first | refine AO.cons hT ?_ | refine AO.nil ?_ | refine AW.seq ?_ | refine AW.region ?_ | refine AW.cond ?_ | refine AW.block ?_ | refine AW.loop ?_ | refine AW.skip ?_ | refine AW.exit ?_ | refine AW.ret ?_ | refine AW.label ?_ | refine AW.scope ?_ | refine AF.one hT rfl ?_ | refine AF.nil ?_ | refine AF.imm hT rfl rfl rfl ?_ | refine AH.of hT rfl ?_ | refine AD.cons hT rfl ?_ | refine AD.nil ?_ | refine AQ.cons hT rfl ?_ | refine AQ.nil ?_ | (refine ACall.val (by kernel_rfl) h66 rfl rfl ?_) | (refine ASplit.no rfl ?_) | (refine ASplit.no (by rw [Bool.not_eq_false']; exact decide_eq_true (by omega)) ?_) | (refine ASplit.no (decide_eq_false (by omega)) ?_) | (refine ACond.no (decide_eq_false (by omega)) ?_)); conv => whnf)
      refine AFin.val rfl ⟨?_, rfl⟩
      rw [decide_eq_false (fun e => e.1 g1)]
  · unfold VD.fgetR VD.frA at h66
    rw [decide_eq_false (fun e => h0 e.1)]
    conv => whnf
    repeat ((first | refine AO.cons hT ?_ | refine AO.nil ?_ | refine AW.seq ?_ | refine AW.region ?_ | refine AW.cond ?_ | refine AW.block ?_ | refine AW.loop ?_ | refine AW.skip ?_ | refine AW.exit ?_ | refine AW.ret ?_ | refine AW.label ?_ | refine AW.scope ?_ | refine AF.one hT rfl ?_ | refine AF.nil ?_ | refine AF.imm hT rfl rfl rfl ?_ | refine AH.of hT rfl ?_ | refine AD.cons hT rfl ?_ | refine AD.nil ?_ | refine AQ.cons hT rfl ?_ | refine AQ.nil ?_ | (refine ACall.val (by kernel_rfl) h66 rfl rfl ?_) | (refine ASplit.no rfl ?_) | (refine ASplit.no (by rw [Bool.not_eq_false']; exact decide_eq_true (by omega)) ?_) | (refine ASplit.no (decide_eq_false (by omega)) ?_) | (refine ACond.no (decide_eq_false (by omega)) ?_) | (refine ACall.val (by kernel_rfl) h66 rfl rfl ?_)); conv => whnf)
    refine ASplit.yes (by simp; exact h0) ?_
    conv => whnf
    repeat (first | (refine AW.label ?_; conv => whnf) | (refine AW.scope ?_; conv => whnf) | (refine AO.cons hT ?_; conv => whnf) | (refine AO.nil ?_; conv => whnf) | (refine AW.seq ?_; conv => whnf) | (refine AW.region ?_; conv => whnf) | (refine AW.cond ?_; conv => whnf) | (refine AW.block ?_; conv => whnf) | (refine AW.loop ?_; conv => whnf) | (refine AW.skip ?_; conv => whnf) | (refine AW.exit ?_; conv => whnf) | (refine AW.ret ?_; conv => whnf) | (refine AF.one hT rfl ?_; conv => whnf) | (refine AF.nil ?_; conv => whnf) | (refine AF.imm hT rfl rfl rfl ?_; conv => whnf) | (refine AH.of hT rfl ?_; conv => whnf) | (refine ASplit.yes rfl ?_; conv => whnf) | (refine ACond.yes rfl ?_; conv => whnf) | (refine ASplit.no rfl ?_; conv => whnf) | (refine ACond.no rfl ?_; conv => whnf) | (refine ASplit.yes (by decide) ?_; conv => whnf) | (refine ACond.yes (by decide) ?_; conv => whnf) | (refine AReq.mk (by decide) ?_; conv => whnf) | (refine AIdx.iff.2 ⟨by decide, ?_⟩; conv => whnf) | (refine ACall.val (by kernel_rfl) h66 rfl rfl ?_; conv => whnf) | (refine ASplit.no rfl ?_; conv => whnf) | (refine ASplit.no (by rw [Bool.not_eq_false']; exact decide_eq_true (by omega)) ?_; conv => whnf) | (refine ASplit.no (decide_eq_false (by omega)) ?_; conv => whnf) | (refine ACond.no (decide_eq_false (by omega)) ?_; conv => whnf) | (refine ACall.val (by kernel_rfl) h66 rfl rfl ?_; conv => whnf))
    exact AFin.val rfl ⟨rfl, rfl⟩
end Go.Aw.VE

