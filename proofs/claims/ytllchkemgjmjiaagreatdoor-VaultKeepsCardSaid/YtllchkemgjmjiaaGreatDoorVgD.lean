/-
  The statement VaultKeeps: opened again, a vault tells the text that was laid last, and all bodies behind that, without any condition.
-/
import Derived.Test.YtllchkemgjmjiaaGreatDoorVgC
set_option linter.unusedSimpArgs false
set_option linter.unusedVariables false
set_option linter.unusedSimpArgs false
set_option linter.unusedVariables false
set_option maxHeartbeats 1000000
namespace Go.Aw.VE
open Go Go.Proofs

/-- a sector that begins no frame of an epoch from e on -/
def old (e : Nat) (c : List UInt8) : Prop := c[0]? ≠ some 1 ∨ VD.beVal ((c.drop 1).take 8) < e
theorem old_mono {e e' : Nat} (h : e ≤ e') {c : List UInt8} (ho : old e c) : old e' c := ho.imp id (fun h' => Nat.lt_of_lt_of_le h' h)
theorem old_zero (e : Nat) : old e (List.replicate 64 0) := .inl (by decide)
theorem old_fput {e : Nat} (he : e ≤ 1000000000) (q : Nat) (b : ByteArray) (i : Nat) (hi : i < VD.pcs b.size) : old (e + 1) (cellOf (VD.fputB e q b).data.toList i) := by
  rw [fput_cell _ _ _ _ hi]
  unfold old
  by_cases h : i = 0
  · subst h
    refine .inr ?_
    rw [List.drop_succ_cons, List.drop_zero, frT_head, VD.be_of 8 e (by omega)]
    omega
  · refine .inl ?_
    unfold VD.mk
    rw [if_neg h]
    intro e
    exact absurd (Option.some.inj e) (by decide)
theorem new_fput {e : Nat} (he : e ≤ 1000000000) (q : Nat) (b : ByteArray) : ¬ old e (cellOf (VD.fputB e q b).data.toList 0) := by
  rw [fput_cell _ _ _ _ (VD.pcs_bound b.size).2.2]
  unfold old
  rintro (h | h)
  · exact h rfl
  · rw [List.drop_succ_cons, List.drop_zero, frT_head, VD.be_of 8 e (by omega)] at h
    omega
theorem old_stops (s : ByteArray) (a e : Nat) (he : e ≤ 1000000000) (h : old e (cellOf s.data.toList a)) : (VD.fgetF s a).2.2 ≠ 0 ∨ ((VD.fgetF s a).1.1 : Int) ≠ e := by
  by_cases h0 : (VD.fgetF s a).2.2 = 0
  · refine .inr ?_
    obtain ⟨a', e', q, b, ha, hg, hm, h64, hle, hs⟩ := VD.fget_of s a h0
    obtain rfl : a' = a := by omega
    rw [hg]
    intro (he' : (e' : Int) = e)
    obtain rfl : e' = e := by omega
    rw [cell_of_take (VD.pcs_bound b.size).2.2 hs] at h
    exact new_fput he q b h
  · exact .inl h0

/-- frames of an epoch, older ones behind them -/
structure Kj (cs : List UInt8) (A N e : Nat) (l : List ByteArray) (z : Nat) : Prop where
  fit : 64 * (A + N) ≤ cs.length
  ch : VD.chain (arS cs A N) e 0 0 l z
  zN : z ≤ N
  q : ∀ j, z ≤ j → j < N → old e (cellOf (arL cs A N) j)
  a : ∀ j, j < N → old (e + 1) (cellOf (arL cs A N) j)
theorem Kj.size {cs : List UInt8} {A N e : Nat} {l : List ByteArray} {z : Nat} (h : Kj cs A N e l z) : (arS cs A N).size = 64 * N := by
  unfold arS; rw [ofL_size, arL_len h.fit]
theorem kj_scan {cs : List UInt8} {A N e : Nat} {l : List ByteArray} {z : Nat} (h : Kj cs A N e l z) (he : e ≤ 1000000000) : VD.scanA (arS cs A N) e = (l, z) := by
  have hs := VD.chain_sum _ _ l 0 0 z h.ch
  have hz := h.zN
  refine VD.chain_scan _ _ l _ 0 0 z h.ch ?_ (by rw [h.size]; omega)
  by_cases hzN : z = N
  · refine .inl ?_
    unfold VD.fgetF
    rw [h.size, if_neg (by omega), if_pos (by omega)]
    decide
  · rcases old_stops (arS cs A N) z e he (h.q z (Nat.le_refl _) (by omega)) with g | g
    · exact .inl g
    · exact .inr (.inl g)
theorem kj_put {cs : List UInt8} {A N e : Nat} {l : List ByteArray} {z : Nat} (h : Kj cs A N e l z) (b : ByteArray) (hm : VD.mayF e (l.length + 1 : Nat) b.size = 0) (hz : z + VD.pcs b.size ≤ N) :
    Kj (putC cs (A + z) (VD.fputB e (l.length + 1) b).data.toList) A N e (l ++ [b]) (z + VD.pcs b.size) := by
  have hpb := VD.pcs_bound b.size
  have hmo := VD.mayF_ok hm
  have ht := fput_len e (l.length + 1) b
  have hfit := h.fit
  have hS := arL_len h.fit
  have hp : arL (putC cs (A + z) (VD.fputB e (l.length + 1) b).data.toList) A N = putC (arL cs A N) z (VD.fputB e (l.length + 1) b).data.toList := arL_put h.fit (by omega)
  have hpl : (putC cs (A + z) (VD.fputB e (l.length + 1) b).data.toList).length = cs.length := putC_len (by omega)
  refine ⟨by rw [hpl]; exact hfit, ?_, hz, fun j hj hj2 => ?_, fun j hj => ?_⟩
  · have h64 : (arS (putC cs (A + z) (VD.fputB e (l.length + 1) b).data.toList) A N).size = 64 * N := by
      unfold arS; rw [ofL_size, hp, putC_len (by omega), hS]
    have h4 := VD.chain_other (arS cs A N) (arS (putC cs (A + z) (VD.fputB e (l.length + 1) b).data.toList) A N) e z (by omega) (by rw [h.size]; have := h.zN; omega)
      (by rw [arS_list, arS_list, hp]; exact put_take _ _ z z (Nat.le_refl _) (by omega)) l 0 0 z h.ch (by omega) (Nat.le_refl _)
    refine VD.chain_snoc _ _ b l 0 0 z h4 ⟨e, rfl, ?_⟩
    rw [Nat.zero_add]
    exact VD.fget_put _ z e (l.length + 1) b (by omega) hm (by rw [arS_list, hp]; exact put_at ht (by omega))
  · rw [hp, cell_putC ht (by omega), if_neg (by omega)]
    exact h.q j (by omega) hj2
  · rw [hp, cell_putC ht (by omega)]
    split
    · exact old_fput (by omega) _ _ _ (by omega)
    · exact h.a j hj
theorem kj_next {cs cs' : List UInt8} {A N e : Nat} {l : List ByteArray} {z : Nat} (h : Kj cs A N e l z) (hl : cs'.length = cs.length) (hp : arL cs' A N = arL cs A N) : Kj cs' A N (e + 1) [] 0 :=
  ⟨by rw [hl]; exact h.fit, rfl, Nat.zero_le _, fun j _ hj => by rw [hp]; exact h.a j hj, fun j hj => by rw [hp]; exact old_mono (Nat.le_succ _) (h.a j hj)⟩
theorem kj_zero {cs : List UInt8} {A N : Nat} (e : Nat) (hl : 64 * (A + N) ≤ cs.length) (hp : arL cs A N = List.replicate (64 * N) 0) : Kj cs A N e [] 0 := by
  have hc : ∀ j, j < N → cellOf (arL cs A N) j = List.replicate 64 0 := by
    intro j hj
    rw [hp]
    unfold cellOf
    rw [List.drop_replicate, List.take_replicate]
    congr 1; omega
  exact ⟨hl, rfl, Nat.zero_le _, fun j _ hj => by rw [hc j hj]; exact old_zero _, fun j hj => by rw [hc j hj]; exact old_zero _⟩

/-! ### slots -/
theorem arL_other {cs t : List UInt8} {A N k m : Nat} (ht : t.length = 64 * m) (h : 64 * (k + m) ≤ cs.length) (hd : A + N ≤ k ∨ k + m ≤ A) : arL (putC cs k t) A N = arL cs A N := by
  have hP : (cs.take (64 * k)).length = 64 * k := by rw [List.length_take]; omega
  unfold arL putC
  rcases hd with hd | hd
  · rw [List.append_assoc, List.drop_append, List.take_append, hP, List.drop_take, List.take_take, List.length_take, List.length_drop, show 64 * A - 64 * k = 0 by omega, List.drop_zero, Nat.min_eq_left (by omega), show 64 * N - min (64 * k - 64 * A) (cs.length - 64 * A) = 0 by omega, List.take_zero, List.append_nil]
  · rw [List.drop_append, List.drop_eq_nil_of_le (by rw [List.length_append, hP, ht]; omega), List.nil_append, List.length_append, hP, ht, List.drop_drop]
    congr 2; omega
theorem arL_at {cs t : List UInt8} {k m N : Nat} (ht : t.length = 64 * m) (hm : m ≤ N) (h : 64 * (k + N) ≤ cs.length) : ∃ r, arL (putC cs k t) k N = t ++ r := by
  have hP : (cs.take (64 * k)).length = 64 * k := by rw [List.length_take]; omega
  unfold arL putC
  rw [List.append_assoc, List.drop_left' hP, List.take_append, List.take_of_length_le (by omega)]
  exact ⟨_, rfl⟩
theorem slot_zero (N : Nat) (hN : 0 < N) : (VD.slotF (ofL (List.replicate (64 * N) 0))).2.2 ≠ 0 := by
  have hv : VD.getV (ofL (List.replicate (64 * N) 0)) 0 8 = 0 := by
    unfold VD.getV
    have : VD.bytesAt (ofL (List.replicate (64 * N) 0)) 0 8 = List.replicate 8 0 := by
      show ((List.replicate (64 * N) (0 : UInt8)).drop 0).take 8 = _
      rw [List.drop_zero, List.take_replicate, Nat.min_eq_left (by omega)]
    rw [this]; decide
  unfold VD.slotF
  rw [if_neg (by rw [ofL_size, List.length_replicate]; omega), if_neg (by unfold VD.getE; rw [hv]; decide), if_pos (by unfold VD.getG; rw [hv]; decide)]
  decide
end Go.Aw.VE

set_option linter.unusedSimpArgs false
set_option linter.unusedVariables false
set_option maxHeartbeats 1000000
namespace Go.Aw.VE
open Go Go.Proofs

/-- a vault at rest -/
structure Vk (v : Va) (S : Nat) (cs : List UInt8) (e : Nat) (t : ByteArray) (l : List ByteArray) (z : Nat) : Prop where
  ok : Vok v S
  cl : Cl v.d cs
  e1 : 1 ≤ e
  e2 : e ≤ 1000000000
  ev : v.e = e
  qv : v.q = l.length
  av : v.at_ = z
  sh : v.sh = false
  ch : ∃ w, VD.chooseF (arS cs 0 S) (arS cs S S) = (e, t, w) ∧ (w = 0 ∨ w = 1)
  j : Kj cs (2 * S) (v.d.n - 2 * S) e l z
theorem Vk.len {v : Va} {S : Nat} {cs : List UInt8} {e : Nat} {t : ByteArray} {l : List ByteArray} {z : Nat} (h : Vk v S cs e t l z) : cs.length = 64 * v.d.n := by
  have := h.cl.ok.len
  rw [h.cl.cs] at this
  exact this
theorem Cl.len {d : Dd} {cs : List UInt8} (h : Cl d cs) : cs.length = 64 * d.n := by
  have := h.ok.len
  rw [h.cs] at this
  exact this
theorem Cl.both {d : Dd} {cs : List UInt8} (h : Cl d cs) {S : Nat} (hp : 1 ≤ S) (hf : 2 * S < d.n) : bothF d S = (arS cs 0 S, arS cs S S, 0) := by
  have h0 : readF d ((0 : Nat) : Int) S = (arS cs 0 S, 0) := read_ar h (by omega) (by omega)
  have h1 : readF d (S : Int) S = (arS cs S S, 0) := read_ar h (by omega) (by omega)
  unfold bothF
  rw [h0, h1, if_neg (fun e => e rfl)]
/-- laying a snapshot on a device at rest -/
theorem lay_cl {v : Va} {S : Nat} {cs : List UInt8} (hv : Vok v S) (h : Cl v.d cs) (g i : Nat) (hi : i ≤ 1) (t : ByteArray) (h1 : 1 ≤ g) (h2 : g ≤ 1000000000) (ht : t.size ≤ 100000) (hs : (t.size + 16 + 63) / 64 ≤ S) :
    (layF v S g i t).2 = 0 ∧ ∃ y, (layF v S g i t).1 = { v with d := y, e := g, q := 0, at_ := 0 } ∧ Cl y (putC cs (i * S) (VD.putB g t).data.toList) ∧ y.n = v.d.n := by
  have hf := hv.fits
  have hp : VD.putF g t = (VD.putB g t, 0) := by
    unfold VD.putF
    rw [if_neg (by omega), if_neg (by omega), Int.toNat_natCast]
  have hsz : (VD.putB g t).size = 64 * ((t.size + 16 + 63) / 64) := by rw [VD.putB_size]; unfold VD.whole; omega
  have hiS : i * S ≤ S := by rcases Nat.le_one_iff_eq_zero_or_eq_one.1 hi with rfl | rfl <;> omega
  obtain ⟨a1, a2, a3⟩ := last_cl h (i * S) ((t.size + 16 + 63) / 64) (VD.putB g t) hsz (by omega) (by omega)
  unfold layF
  rw [hp, if_neg (fun e => e rfl)]
  unfold lastF at a1 a2 a3
  by_cases hw : (writeF v.d ((i * S : Nat) : Int) (VD.putB g t)).2 ≠ 0
  · rw [if_pos hw] at a1; exact absurd a1 hw
  rw [if_neg hw] at a1 a2 a3 ⊢
  simp only at a1 a2 a3
  rw [if_neg (fun e => e a1)]
  exact ⟨rfl, _, rfl, a2, a3⟩
theorem slot_at {cs : List UInt8} {S k : Nat} (g : Nat) (t : ByteArray) (h1 : 1 ≤ g) (h2 : g ≤ 1000000000) (ht : t.size ≤ 100000) (hs : (t.size + 16 + 63) / 64 ≤ S) (hc : 64 * (k + S) ≤ cs.length) :
    VD.slotF (arS (putC cs k (VD.putB g t).data.toList) k S) = (g, t, 0) := by
  have hsz : (VD.putB g t).data.toList.length = 64 * ((t.size + 16 + 63) / 64) := by rw [size_list, VD.putB_size]; unfold VD.whole; omega
  obtain ⟨r, hr⟩ := arL_at hsz hs hc
  have e : arS (putC cs k (VD.putB g t).data.toList) k S = VD.putB g t ++ ofL r := by
    unfold arS
    rw [hr]
    apply ByteArray.ext; apply Array.ext'
    rw [VD.app_list]; rfl
  rw [e]
  exact VD.slotF_put g t (ofL r) h1 h2 ht

/-- a snapshot laid over one of another slot -/
theorem vk_lay {v : Va} {S : Nat} {cs : List UInt8} (hv : Vok v S) (h : Cl v.d cs) (hsh : v.sh = false) (g i : Nat) (hi : i ≤ 1) (t : ByteArray) (h1 : 1 ≤ g) (h2 : g ≤ 1000000000) (ht : t.size ≤ 100000) (hs : (t.size + 16 + 63) / 64 ≤ S)
    (hj : ∀ cs', cs'.length = cs.length → arL cs' (2 * S) (v.d.n - 2 * S) = arL cs (2 * S) (v.d.n - 2 * S) → Kj cs' (2 * S) (v.d.n - 2 * S) g [] 0)
    (ho : (VD.slotF (arS cs ((1 - i) * S) S)).2.2 ≠ 0 ∨ (VD.slotF (arS cs ((1 - i) * S) S)).1 < g) :
    ∃ v' cs', layF v S g i t = (v', 0) ∧ v'.s = v.s ∧ v'.d.n = v.d.n ∧ Vk v' S cs' g t [] 0 := by
  have hf := hv.fits
  have hl := h.len
  obtain ⟨a1, y, a2, a3, a4⟩ := lay_cl hv h g i hi t h1 h2 ht hs
  have hsz : (VD.putB g t).data.toList.length = 64 * ((t.size + 16 + 63) / 64) := by rw [size_list, VD.putB_size]; unfold VD.whole; omega
  have hi2 : i = 0 ∨ i = 1 := by omega
  have hfit : 64 * (i * S + S) ≤ cs.length := by rcases hi2 with rfl | rfl <;> omega
  have hsl := slot_at (k := i * S) g t h1 h2 ht hs hfit
  have hpl : (putC cs (i * S) (VD.putB g t).data.toList).length = cs.length := putC_len (by rw [hsz]; omega)
  have hother : arL (putC cs (i * S) (VD.putB g t).data.toList) ((1 - i) * S) S = arL cs ((1 - i) * S) S := arL_other hsz (by omega) (by rcases hi2 with rfl | rfl <;> omega)
  have hjo : arL (putC cs (i * S) (VD.putB g t).data.toList) (2 * S) (v.d.n - 2 * S) = arL cs (2 * S) (v.d.n - 2 * S) := arL_other hsz (by omega) (by rcases hi2 with rfl | rfl <;> omega)
  have hso : VD.slotF (arS (putC cs (i * S) (VD.putB g t).data.toList) ((1 - i) * S) S) = VD.slotF (arS cs ((1 - i) * S) S) := by unfold arS; rw [hother]
  have hK := hj _ hpl hjo
  refine ⟨{ v with d := y, e := g, q := 0, at_ := 0 }, _, Prod.ext a2 a1, rfl, a4, ⟨⟨a3.ok, hv.s, hv.pos, hv.le, by show 2 * S < y.n; omega⟩, a3, h1, h2, rfl, rfl, rfl, hsh, ?_, ?_⟩⟩
  · rw [VD.chooseF_eq]
    rcases hi2 with rfl | rfl
    · rw [Nat.zero_mul] at hsl
      rw [show (1 - 0) * S = S by omega] at hso ho
      simp only [Nat.zero_mul] at hso ⊢
      rw [hsl, hso]
      refine ⟨0, ?_, .inl rfl⟩
      have hc2 : (0 : Int) = 0 ∧ ((VD.slotF (arS cs S S)).2.2 ≠ 0 ∨ (VD.slotF (arS cs S S)).1 ≤ g) := by
        refine ⟨rfl, ?_⟩
        rcases ho with ho | ho
        · exact .inl ho
        · exact .inr (Nat.le_of_lt ho)
      rw [if_neg (fun e => e.1 rfl)]
      exact if_pos hc2
    · rw [Nat.one_mul] at hsl
      rw [show (1 - 1) * S = 0 by omega] at hso ho
      simp only [Nat.one_mul] at hso ⊢
      rw [hsl, hso]
      refine ⟨1, ?_, .inr rfl⟩
      rw [if_neg (fun e => e.2 rfl), if_neg ?_]
      rintro ⟨e1, e2⟩
      rcases e2 with e2 | e2
      · exact e2 rfl
      · rcases ho with ho | ho
        · exact ho e1
        · simp only at e2; omega
  · show Kj _ (2 * S) (y.n - 2 * S) g [] 0
    rw [a4]; exact hK
end Go.Aw.VE

set_option linter.unusedSimpArgs false
set_option linter.unusedVariables false
set_option maxHeartbeats 1000000
namespace Go.Aw.VE
open Go Go.Proofs

theorem mayF_codes (e s n : Int) : VD.mayF e s n = 0 ∨ VD.mayF e s n = 2 ∨ VD.mayF e s n = 3 := by
  unfold VD.mayF
  repeat' split
  all_goals simp
/-- a body is appended, or refused -/
theorem vk_add {v : Va} {S : Nat} {cs : List UInt8} {e : Nat} {t : ByteArray} {l : List ByteArray} {z : Nat} (h : Vk v S cs e t l z) (b : ByteArray) :
    (∃ err, err ≠ 0 ∧ addF v S b = (v, err) ∧ ¬ (VD.mayF e ((l.length + 1 : Nat) : Int) b.size = 0 ∧ z + VD.pcs b.size ≤ v.d.n - 2 * S)) ∨ ∃ v' cs', addF v S b = (v', 0) ∧ v'.s = v.s ∧ v'.d.n = v.d.n ∧ Vk v' S cs' e t (l ++ [b]) (z + VD.pcs b.size) := by
  obtain ⟨vd, vs, ve, vq, va, vsh⟩ := v
  obtain rfl : ve = (e : Int) := h.ev
  obtain rfl : vq = (l.length : Int) := h.qv
  obtain rfl : va = (z : Int) := h.av
  obtain rfl : vsh = false := h.sh
  have hf : 2 * S < vd.n := h.ok.fits
  have hpos := h.ok.pos
  have hl : cs.length = 64 * vd.n := h.len
  have hj : Kj cs (2 * S) (vd.n - 2 * S) e l z := h.j
  have hcl : Cl vd cs := h.cl
  have hck : checkF vd ((2 * S : Nat) : Int) ((vd.n - 2 * S : Nat) : Int) = 0 := check_ok (A := 2 * S) (N := vd.n - 2 * S) (by omega) (by omega)
  unfold addF
  rw [if_neg (by show ¬ (false = true); decide)]
  simp only
  have hq : (l.length : Int) + 1 = ((l.length + 1 : Nat) : Int) := by omega
  rw [hq]
  by_cases hm : VD.mayF e ((l.length + 1 : Nat) : Int) b.size = 0
  · have hp : VD.fputF (e : Int) ((l.length + 1 : Nat) : Int) b = (VD.fputB e (l.length + 1) b, 0) := VD.fputF_ok hm
    by_cases hr : z + VD.pcs b.size ≤ vd.n - 2 * S
    · refine .inr ?_
      have hpb := VD.pcs_bound b.size
      obtain ⟨a1, a2, a3⟩ := last_cl hcl (2 * S + z) (VD.pcs b.size) (VD.fputB e (l.length + 1) b) (VD.fputB_size _ _ _) hpb.2.2 (by omega)
      have ha : appF vd ((2 * S : Nat) : Int) ((vd.n - 2 * S : Nat) : Int) (z : Int) e ((l.length + 1 : Nat) : Int) b = ((((z + VD.pcs b.size : Nat) : Int), 0), (lastF vd ((2 * S + z : Nat) : Int) (VD.fputB e (l.length + 1) b)).1) := by
        unfold appF
        rw [hck, if_neg (by decide), hp, if_neg (fun e => e rfl), if_neg (by unfold roomF; rw [decide_eq_true (by omega)]; decide)]
        rw [show ((2 * S : Nat) : Int) + (z : Int) = ((2 * S + z : Nat) : Int) by omega]
        simp only
        rw [if_neg (fun e => e a1)]
        rw [show (z : Int) + (VD.pcs b.size : Nat) = ((z + VD.pcs b.size : Nat) : Int) by omega]
      rw [ha, if_neg (fun e => e rfl)]
      have hK := kj_put hj b hm hr
      have hlen := fput_len e (l.length + 1) b
      generalize (lastF vd ((2 * S + z : Nat) : Int) (VD.fputB e (l.length + 1) b)).1 = y at *
      have hother : ∀ A, A + S ≤ 2 * S → arS (putC cs (2 * S + z) (VD.fputB e (l.length + 1) b).data.toList) A S = arS cs A S := by
        intro A hA
        unfold arS
        rw [arL_other hlen (by omega) (.inl (by omega))]
      refine ⟨_, _, rfl, rfl, a3, ⟨⟨a2.ok, h.ok.s, h.ok.pos, h.ok.le, by show 2 * S < y.n; omega⟩, a2, h.e1, h.e2, rfl, ?_, rfl, rfl, ?_, ?_⟩⟩
      · show ((l.length + 1 : Nat) : Int) = _
        rw [List.length_append]; rfl
      · obtain ⟨w, hw⟩ := h.ch
        exact ⟨w, by rw [hother 0 (by omega), hother S (by omega)]; exact hw⟩
      · show Kj _ (2 * S) (y.n - 2 * S) e _ _
        rw [a3]; exact hK
    · refine .inl ⟨22, by decide, ?_, fun h => hr h.2⟩
      have ha : appF vd ((2 * S : Nat) : Int) ((vd.n - 2 * S : Nat) : Int) (z : Int) e ((l.length + 1 : Nat) : Int) b = ((0, 22), vd) := by
        unfold appF
        rw [hck, if_neg (by decide), hp, if_neg (fun e => e rfl), if_pos (by unfold roomF; exact decide_eq_false (by omega))]
      rw [ha, if_pos (by show (22 : Int) ≠ 0; decide)]
      rfl
  · have hp : (VD.fputF (e : Int) ((l.length + 1 : Nat) : Int) b).2 = VD.mayF e ((l.length + 1 : Nat) : Int) b.size := by
      unfold VD.fputF; rw [if_pos hm]
    refine .inl ⟨_, hm, ?_, fun h => hm h.1⟩
    have ha : appF vd ((2 * S : Nat) : Int) ((vd.n - 2 * S : Nat) : Int) (z : Int) e ((l.length + 1 : Nat) : Int) b = ((0, VD.mayF e ((l.length + 1 : Nat) : Int) b.size), vd) := by
      unfold appF
      rw [hck, if_neg (by decide), hp, if_pos hm]
    rw [ha, if_pos hm]
    refine Prod.ext ?_ rfl
    have h20 : decide (VD.mayF e ((l.length + 1 : Nat) : Int) b.size = 20) = false := decide_eq_false (fun e20 => by
      rcases mayF_codes e ((l.length + 1 : Nat) : Int) b.size with g | g | g <;> rw [g] at e20 <;> cases e20)
    simp only [h20]
theorem fit_facts {v : Va} {S : Nat} {t : ByteArray} (h : fitF v S t = true) : v.sh = false ∧ t.size ≤ 100000 ∧ (t.size + 16 + 63) / 64 ≤ S := by
  unfold fitF VD.putF at h
  simp only [Bool.and_eq_true, Bool.not_eq_true', decide_eq_true_eq] at h
  obtain ⟨h1, h2, h3⟩ := h
  refine ⟨h1, ?_, h3⟩
  rw [if_neg (by decide)] at h2
  split at h2
  · cases h2
  · omega
/-- a snapshot is laid, or refused -/
theorem vk_snap {v : Va} {S : Nat} {cs : List UInt8} {e : Nat} {t : ByteArray} {l : List ByteArray} {z : Nat} (h : Vk v S cs e t l z) (t' : ByteArray) :
    (∃ err, err ≠ 0 ∧ snapF v S t' = (v, err) ∧ ¬ (fitF v S t' = true ∧ e ≠ 1000000000)) ∨ ∃ v' cs', snapF v S t' = (v', 0) ∧ v'.s = v.s ∧ v'.d.n = v.d.n ∧ Vk v' S cs' (e + 1) t' [] 0 := by
  have hbo := h.cl.both h.ok.pos h.ok.fits
  obtain ⟨w, hw, hw2⟩ := h.ch
  unfold snapF
  rw [h.sh, if_neg (by decide)]
  rcases hfi : fitF v S t' with _ | _
  · rw [if_pos rfl]; exact .inl ⟨22, by decide, rfl, fun h => by cases h.1⟩
  obtain ⟨f1, f2, f3⟩ := fit_facts hfi
  rw [if_neg (by decide), hbo, if_neg (fun e => e rfl)]
  simp only
  have hn : VD.nextF (arS cs 0 S) (arS cs S S) = if e = 1000000000 then (0, 1 - w) else (e + 1, 1 - w) := by
    unfold VD.nextF
    rw [hw]
    simp only
    rw [if_neg (by omega)]
  by_cases he : e = 1000000000
  · rw [hn, if_pos he, if_pos rfl]; exact .inl ⟨23, by decide, rfl, fun h => h.2 he⟩
  have he2 := h.e2
  rw [hn, if_neg he]
  simp only
  rw [if_neg (by omega)]
  refine .inr ?_
  obtain ⟨i, hi, hiw⟩ : ∃ i : Nat, i ≤ 1 ∧ (1 - w).toNat = i := ⟨(1 - w).toNat, by omega, rfl⟩
  rw [hiw]
  have ho : (VD.slotF (arS cs ((1 - i) * S) S)).2.2 ≠ 0 ∨ (VD.slotF (arS cs ((1 - i) * S) S)).1 < e + 1 := by
    rw [VD.chooseF_eq] at hw
    by_cases g0 : (VD.slotF (arS cs ((1 - i) * S) S)).2.2 = 0
    · refine .inr ?_
      split at hw
      · have := congrArg (fun x => x.2.2) hw
        simp only at this; omega
      split at hw
      · have e1 := congrArg (fun x => x.1) hw
        have e2 := congrArg (fun x => x.2.2) hw
        simp only at e1 e2
        have : i = 1 := by omega
        subst this
        rw [show (1 - 1) * S = 0 by omega]; omega
      · have e1 := congrArg (fun x => x.1) hw
        have e2 := congrArg (fun x => x.2.2) hw
        simp only at e1 e2
        have : i = 0 := by omega
        subst this
        rw [show (1 - 0) * S = S by omega]; omega
    · exact .inl g0
  obtain ⟨v', cs', b1, b2, b3, b4⟩ := vk_lay h.ok h.cl h.sh (e + 1) i hi t' (by omega) (by omega) f2 f3 (fun cs' c1 c2 => kj_next h.j c1 c2) ho
  rw [show ((e + 1 : Nat) : Int) = ((e + 1 : Nat) : Int) from rfl] at b1
  refine ⟨v', cs', ?_, b2, b3, b4⟩
  rw [b1]
  refine Prod.ext ?_ rfl
  show { v' with sh := decide ((0 : Int) = 20) } = v'
  have := b4.sh
  cases v'; simp only at this; subst this; rfl
/-- opened again -/
theorem vk_open {v : Va} {S : Nat} {cs : List UInt8} {e : Nat} {t : ByteArray} {l : List ByteArray} {z : Nat} (h : Vk v S cs e t l z) {d : Dd} (hd : Cl d cs) (hn : d.n = v.d.n) (x : ByteArray) :
    openF d (S : Int) x = (0, ⟨d, S, e, l.length, z, false⟩, t, l) ∧ Vk ⟨d, S, e, l.length, z, false⟩ S cs e t l z := by
  have hf := h.ok.fits
  have hp := h.ok.pos
  have hle := h.ok.le
  have hbo := hd.both hp (by omega)
  obtain ⟨w, hw, hw2⟩ := h.ch
  have hj := h.j
  rw [← hn] at hj
  have hll : loadL d (2 * S) (d.n - 2 * S) e = (l, z, 0) := by
    have hck : checkF d ((2 * S : Nat) : Int) ((d.n - 2 * S : Nat) : Int) = 0 := check_ok (A := 2 * S) (N := d.n - 2 * S) (by omega) (by omega)
    have hrd : readF d ((2 * S : Nat) : Int) ((d.n - 2 * S : Nat) : Int) = (arS cs (2 * S) (d.n - 2 * S), 0) := read_ar hd (by omega) (by omega)
    unfold loadL
    rw [hck, if_neg (by decide), hrd, if_neg (fun e => e rfl), kj_scan hj h.e2]
  refine ⟨?_, ⟨⟨hd.ok, rfl, hp, hle, by show 2 * S < d.n; omega⟩, hd, h.e1, h.e2, rfl, rfl, rfl, rfl, ⟨w, hw, hw2⟩, hj⟩⟩
  unfold openF
  rw [if_neg (by omega), Int.toNat_natCast, hbo, if_neg (fun e => e rfl)]
  simp only
  rw [hw, if_neg (by simp only; omega)]
  simp only
  rw [hll]
/-- opened for the first time -/
theorem vk_new {n S : Nat} (hp : 1 ≤ S) (hle : S ≤ 500) (hf : 2 * S < n) (hn : n ≤ 2000) (x : ByteArray) (hx : (x.size + 16 + 63) / 64 ≤ S) :
    ∃ v cs, openF (newD n) (S : Int) x = (0, v, x, []) ∧ v.s = S ∧ v.d.n = n ∧ Vk v S cs 1 x [] 0 := by
  have hc := new_cl (n := n) (by omega) hn
  have hv : Vok ⟨newD n, S, 0, 0, 0, false⟩ S := ⟨hc.ok, rfl, hp, hle, hf⟩
  have hbo := hc.both hp hf
  have harz : ∀ A N, A + N ≤ n → arL (List.replicate (64 * n) 0) A N = List.replicate (64 * N) 0 := by
    intro A N h
    unfold arL
    rw [List.drop_replicate, List.take_replicate]
    congr 1; omega
  have hz : ∀ A, A + S ≤ n → (VD.slotF (arS (List.replicate (64 * n) 0) A S)).2.2 ≠ 0 := by
    intro A h
    unfold arS
    rw [harz A S h]
    exact slot_zero S hp
  have hch : VD.chooseF (arS (List.replicate (64 * n) 0) 0 S) (arS (List.replicate (64 * n) 0) S S) = (0, VD.e0, -1) := by
    rw [VD.chooseF_eq, if_pos ⟨hz 0 (by omega), hz S (by omega)⟩]
  have hfi : fitF ⟨newD n, S, 0, 0, 0, false⟩ S x = true := by
    unfold fitF VD.putF
    rw [if_neg (by decide), if_neg (by omega), decide_eq_true rfl, decide_eq_true hx]
    rfl
  obtain ⟨v', cs', b1, b2, b3, b4⟩ := vk_lay (v := ⟨newD n, S, 0, 0, 0, false⟩) hv hc rfl 1 0 (by omega) x (by omega) (by omega) (by omega) hx (fun cs' c1 c2 => kj_zero 1 (by
      rw [c1, List.length_replicate]
      show 64 * (2 * S + (n - 2 * S)) ≤ _; omega) (by
      rw [c2]; exact harz _ _ (by show 2 * S + (n - 2 * S) ≤ n; omega))) (.inl (by rw [show (1 - 0) * S = S by omega]; exact hz S (by omega)))
  refine ⟨v', cs', ?_, b2, b3, b4⟩
  unfold openF
  rw [if_neg (by show ¬ ((S : Int) < 1 ∨ 500 < (S : Int) ∨ (n : Int) ≤ 2 * S); omega), Int.toNat_natCast, hbo, if_neg (fun e => e rfl)]
  simp only
  rw [hch, if_pos (by decide)]
  unfold begF
  rw [hfi, if_neg (by decide), show (1 : Int) = ((1 : Nat) : Int) from rfl, b1]
end Go.Aw.VE

set_option linter.unusedSimpArgs false
set_option linter.unusedVariables false
set_option maxHeartbeats 4000000
set_option maxRecDepth 20000
namespace Go.Aw.VE
open Go Go.Proofs

theorem callOpenOk {H G : List ABlk} {d : Dd} {bs : List Nat} {ck : Nat} {s : Int} {t tx : ByteArray} {l : List ByteArray} {v : Va} {K : AV → List ABlk → Prop} (e : H = dvH d bs ck ++ G) (hd : Dok d) (hs : nOk s) (ht : t.size ≤ 100000000000) (h : openF d s t = (0, v, tx, l))
    (k : ∀ bs' ck', K (.tup [.ptr (3 + G.length) 0, sV tx, VD.tV l, nV 0]) (dvH v.d bs' ck' ++ (G ++ [vO v]))) : ACall P 16 [.ptr 0 0, nV s, sV t] H K := by
  subst e
  refine ACall.of (by kernel_rfl) (f16 d hd s hs t ht bs ck) [0, 1, 2] [] (by decide) (.same (by rw [dD_ren]; rfl) (.same (by rw [dC_ren]; rfl) (.same (by rw [dM_ren]; rfl) .nil))) (by simp) (by simp) (.cons (.same rfl) (.cons (.same rfl) (.cons (.same rfl) .nil))) (.inl rfl) ?_
  intro r H' hr
  rw [h] at hr
  rcases hr with ⟨h1, _⟩ | ⟨_, rfl, bs', ck', rfl⟩
  · exact absurd rfl h1
  have := k bs' ck'
  have e3 : nm [0, 1, 2] (dvH d bs ck ++ G).length 3 = 3 + G.length := by simp [nm, dvH]; omega
  simp only [AV.ren, renL, VD.tV, VD.texts_ren, e3] at this ⊢
  simp only [dvO, dvH, vO, List.cons_append, List.nil_append, mergeH, dD_ren, dC_ren, dM_ren, List.map_cons, List.map_nil, List.set_cons_zero, List.set_cons_succ, List.append_assoc] at this ⊢
  exact this
theorem callOpenBad {H G : List ABlk} {d : Dd} {bs : List Nat} {ck : Nat} {s : Int} {t tx : ByteArray} {l : List ByteArray} {v : Va} {K : AV → List ABlk → Prop} {er : Int} (e : H = dvH d bs ck ++ G) (hd : Dok d) (hs : nOk s) (ht : t.size ≤ 100000000000) (h : openF d s t = (er, v, tx, l)) (he : er ≠ 0)
    (k : ∀ bs' ck', K (.tup [.v (.pointer none), sV e0, .v (.slice none 0 0), nV er]) (dvH v.d bs' ck' ++ G)) : ACall P 16 [.ptr 0 0, nV s, sV t] H K := by
  subst e
  refine ACall.of (by kernel_rfl) (f16 d hd s hs t ht bs ck) [0, 1, 2] [] (by decide) (.same (by rw [dD_ren]; rfl) (.same (by rw [dC_ren]; rfl) (.same (by rw [dM_ren]; rfl) .nil))) (by simp) (by simp) (.cons (.same rfl) (.cons (.same rfl) (.cons (.same rfl) .nil))) (.inl rfl) ?_
  intro r H' hr
  rw [h] at hr
  rcases hr with ⟨h1, rfl, bs', ck', rfl⟩ | ⟨h1, _⟩
  · have := k bs' ck'
    simp only [dvH, AV.ren, renL, List.cons_append, List.nil_append, mergeH, dD_ren, dC_ren, dM_ren, List.map_cons, List.map_nil, List.set_cons_zero, List.set_cons_succ, List.append_nil] at this ⊢
    exact this
  · exact absurd h1 he

def tFirst : ByteArray := ⟨#[102, 105, 114, 115, 116]⟩
def tOne : ByteArray := ⟨#[111, 110, 101]⟩
def tSecond : ByteArray := ⟨#[115, 101, 99, 111, 110, 100]⟩
def tTwo : ByteArray := ⟨#[116, 119, 111]⟩
theorem awk : ∃ v1 c1 v2 c2 v3 c3 v4 c4, openF (newD 12) (2 : Nat) tFirst = (0, v1, tFirst, []) ∧ addF v1 2 tOne = (v2, 0) ∧ snapF v2 2 tSecond = (v3, 0) ∧ addF v3 2 tTwo = (v4, 0) ∧
    v4.d.n = 12 ∧ Vk v1 2 c1 1 tFirst [] 0 ∧ Vk v2 2 c2 1 tFirst [tOne] 1 ∧ Vk v3 2 c3 2 tSecond [] 0 ∧ Vk v4 2 c4 2 tSecond [tTwo] 1 := by
  obtain ⟨v1, c1, o1, s1, n1, K1⟩ := vk_new (n := 12) (S := 2) (by decide) (by decide) (by decide) (by decide) tFirst (by decide)
  rcases vk_add K1 tOne with ⟨e, _, _, h⟩ | ⟨v2, c2, o2, s2, n2, K2⟩
  · exact absurd ⟨by decide, by rw [n1]; decide⟩ h
  rcases vk_snap K2 tSecond with ⟨e, _, _, h⟩ | ⟨v3, c3, o3, s3, n3, K3⟩
  · refine absurd ⟨?_, by decide⟩ h
    unfold fitF VD.putF
    rw [K2.sh]; decide
  rcases vk_add K3 tTwo with ⟨e, _, _, h⟩ | ⟨v4, c4, o4, s4, n4, K4⟩
  · exact absurd ⟨by decide, by rw [n3, n2, n1]; decide⟩ h
  exact ⟨v1, c1, v2, c2, v3, c3, v4, c4, o1, o2, o3, o4, by rw [n4, n3, n2, n1], K1, K2, K3, K4⟩
end Go.Aw.VE

set_option linter.unusedSimpArgs false
set_option linter.unusedVariables false
set_option maxHeartbeats 4000000
set_option maxRecDepth 20000
namespace Go.Aw.VE
open Go Go.Proofs

theorem Vk.ats {v : Va} {S : Nat} {cs : List UInt8} {e : Nat} {t : ByteArray} {l : List ByteArray} {z : Nat} (h : Vk v S cs e t l z) : nOk v.at_ := by
  have := h.j.zN
  have := h.cl.ok.le
  rw [h.av]; exact nOk_of (by omega) (by omega)
theorem f8 : Fun P 8 [] (.v (.bool true)) := by
  obtain ⟨v1, c1, v2, c2, v3, c3, v4, c4, o1, o2, o3, o4, n4, K1, K2, K3, K4⟩ := awk
  have oz := (vk_open K4 K4.cl rfl e0).1
  have ob : openF v4.d (6 : Nat) e0 = (2, ⟨v4.d, 6, 0, 0, 0, false⟩, e0, []) := by
    unfold openF; rw [if_pos (.inr (.inr (by rw [n4]; decide)))]; rfl
  have ad1 := f9 v1 2 K1.ok K1.ats (by rw [K1.qv]; decide) (by rw [K1.qv]; decide) tOne (by decide)
  have sn := f10 v2 2 K2.ok tSecond (by decide)
  have ad2 := f9 v3 2 K3.ok K3.ats (by rw [K3.qv]; decide) (by rw [K3.qv]; decide) tTwo (by decide)
  have hdk : Dok (newD 12) := new_ok (by decide) (by decide)
  refine spec_of hT (f := 8) (fn := Go.Proofs.Tryz.f8) (c := body Go.Proofs.Tryz.f8) (by kernel_rfl) (by kernel_rfl) ?_
  conv => whnf
  repeat ((first | refine AO.cons hT ?_ | refine AO.nil ?_ | refine AW.seq ?_ | refine AW.region ?_ | refine AW.cond ?_ | refine AW.block ?_ | refine AW.loop ?_ | refine AW.skip ?_ | refine AW.exit ?_ | refine AW.ret ?_ | refine AW.label ?_ | refine AW.scope ?_ | refine AF.one hT rfl ?_ | refine AF.nil ?_ | refine AF.imm hT rfl rfl rfl ?_ | refine AH.of hT rfl ?_ | refine AD.cons hT rfl ?_ | refine AD.nil ?_ | refine AQ.cons hT rfl ?_ | refine AQ.nil ?_); conv => whnf)
  refine callNew 12 (by decide) (by decide) ?_
  simp only [List.length_cons, List.length_nil, Nat.zero_add, List.nil_append, List.cons_append, List.set_cons_zero, List.set_cons_succ]
  conv => whnf
  repeat (first | (refine AW.label ?_; conv => whnf) | (refine AW.scope ?_; conv => whnf) | (refine AO.cons hT ?_; conv => whnf) | (refine AO.nil ?_; conv => whnf) | (refine AW.seq ?_; conv => whnf) | (refine AW.region ?_; conv => whnf) | (refine AW.cond ?_; conv => whnf) | (refine AW.block ?_; conv => whnf) | (refine AW.loop ?_; conv => whnf) | (refine AW.skip ?_; conv => whnf) | (refine AW.exit ?_; conv => whnf) | (refine AW.ret ?_; conv => whnf) | (refine AF.one hT rfl ?_; conv => whnf) | (refine AF.nil ?_; conv => whnf) | (refine AF.imm hT rfl rfl rfl ?_; conv => whnf) | (refine AH.of hT rfl ?_; conv => whnf) | (refine ASplit.yes rfl ?_; conv => whnf) | (refine ACond.yes rfl ?_; conv => whnf) | (refine ASplit.no rfl ?_; conv => whnf) | (refine ACond.no rfl ?_; conv => whnf) | (refine ASplit.yes (by decide) ?_; conv => whnf) | (refine ACond.yes (by decide) ?_; conv => whnf) | (refine AReq.mk (by decide) ?_; conv => whnf) | (refine AIdx.iff.2 ⟨by decide, ?_⟩; conv => whnf))
  refine callOpenOk (G := []) (d := newD 12) (bs := []) (ck := 0) (s := 2) (t := tFirst) rfl hdk (nOk_of (by decide) (by decide)) (by decide) o1 ?_
  intro bs1 ck1
  simp only [List.nil_append, List.length_nil, Nat.add_zero]
  conv => whnf
  repeat (first | (refine AW.label ?_; conv => whnf) | (refine AW.scope ?_; conv => whnf) | (refine AO.cons hT ?_; conv => whnf) | (refine AO.nil ?_; conv => whnf) | (refine AW.seq ?_; conv => whnf) | (refine AW.region ?_; conv => whnf) | (refine AW.cond ?_; conv => whnf) | (refine AW.block ?_; conv => whnf) | (refine AW.loop ?_; conv => whnf) | (refine AW.skip ?_; conv => whnf) | (refine AW.exit ?_; conv => whnf) | (refine AW.ret ?_; conv => whnf) | (refine AF.one hT rfl ?_; conv => whnf) | (refine AF.nil ?_; conv => whnf) | (refine AF.imm hT rfl rfl rfl ?_; conv => whnf) | (refine AH.of hT rfl ?_; conv => whnf) | (refine ASplit.yes rfl ?_; conv => whnf) | (refine ACond.yes rfl ?_; conv => whnf) | (refine ASplit.no rfl ?_; conv => whnf) | (refine ACond.no rfl ?_; conv => whnf) | (refine ASplit.yes (by decide) ?_; conv => whnf) | (refine ACond.yes (by decide) ?_; conv => whnf) | (refine AReq.mk (by decide) ?_; conv => whnf) | (refine AIdx.iff.2 ⟨by decide, ?_⟩; conv => whnf))
  refine ACall.vaultO (v := v1) (bs := bs1) (ck := ck1) [] rfl (by kernel_rfl) ad1 (fun _ => rfl) ?_
  rintro _ _ bs2 ck2 N ⟨rfl, rfl⟩
  rw [o2]
  simp only [AV.ren]
  conv => whnf
  repeat ((first | refine AO.cons hT ?_ | refine AO.nil ?_ | refine AW.seq ?_ | refine AW.region ?_ | refine AW.cond ?_ | refine AW.block ?_ | refine AW.loop ?_ | refine AW.skip ?_ | refine AW.exit ?_ | refine AW.ret ?_ | refine AW.label ?_ | refine AW.scope ?_ | refine AF.one hT rfl ?_ | refine AF.nil ?_ | refine AF.imm hT rfl rfl rfl ?_ | refine AH.of hT rfl ?_ | refine AD.cons hT rfl ?_ | refine AD.nil ?_ | refine AQ.cons hT rfl ?_ | refine AQ.nil ?_); conv => whnf)
  refine ACall.vaultO (v := v2) (bs := bs2) (ck := ck2) [] rfl (by kernel_rfl) sn (fun _ => rfl) ?_
  rintro _ _ bs3 ck3 N ⟨rfl, rfl⟩
  rw [o3]
  simp only [AV.ren]
  conv => whnf
  repeat ((first | refine AO.cons hT ?_ | refine AO.nil ?_ | refine AW.seq ?_ | refine AW.region ?_ | refine AW.cond ?_ | refine AW.block ?_ | refine AW.loop ?_ | refine AW.skip ?_ | refine AW.exit ?_ | refine AW.ret ?_ | refine AW.label ?_ | refine AW.scope ?_ | refine AF.one hT rfl ?_ | refine AF.nil ?_ | refine AF.imm hT rfl rfl rfl ?_ | refine AH.of hT rfl ?_ | refine AD.cons hT rfl ?_ | refine AD.nil ?_ | refine AQ.cons hT rfl ?_ | refine AQ.nil ?_); conv => whnf)
  refine ACall.vaultO (v := v3) (bs := bs3) (ck := ck3) [] rfl (by kernel_rfl) ad2 (fun _ => rfl) ?_
  rintro _ _ bs4 ck4 N ⟨rfl, rfl⟩
  rw [o4]
  simp only [AV.ren]
  conv => whnf
  repeat ((first | refine AO.cons hT ?_ | refine AO.nil ?_ | refine AW.seq ?_ | refine AW.region ?_ | refine AW.cond ?_ | refine AW.block ?_ | refine AW.loop ?_ | refine AW.skip ?_ | refine AW.exit ?_ | refine AW.ret ?_ | refine AW.label ?_ | refine AW.scope ?_ | refine AF.one hT rfl ?_ | refine AF.nil ?_ | refine AF.imm hT rfl rfl rfl ?_ | refine AH.of hT rfl ?_ | refine AD.cons hT rfl ?_ | refine AD.nil ?_ | refine AQ.cons hT rfl ?_ | refine AQ.nil ?_); conv => whnf)
  refine callOpenOk (G := [vO v4]) (d := v4.d) (bs := bs4) (ck := ck4) (s := 2) (t := e0) rfl K4.cl.ok (nOk_of (by decide) (by decide)) (by decide) oz ?_
  intro bs5 ck5
  simp only [List.nil_append, List.length_nil, List.length_cons, Nat.add_zero, List.cons_append]
  conv => whnf
  repeat (first | (refine AW.label ?_; conv => whnf) | (refine AW.scope ?_; conv => whnf) | (refine AO.cons hT ?_; conv => whnf) | (refine AO.nil ?_; conv => whnf) | (refine AW.seq ?_; conv => whnf) | (refine AW.region ?_; conv => whnf) | (refine AW.cond ?_; conv => whnf) | (refine AW.block ?_; conv => whnf) | (refine AW.loop ?_; conv => whnf) | (refine AW.skip ?_; conv => whnf) | (refine AW.exit ?_; conv => whnf) | (refine AW.ret ?_; conv => whnf) | (refine AF.one hT rfl ?_; conv => whnf) | (refine AF.nil ?_; conv => whnf) | (refine AF.imm hT rfl rfl rfl ?_; conv => whnf) | (refine AH.of hT rfl ?_; conv => whnf) | (refine ASplit.yes rfl ?_; conv => whnf) | (refine ACond.yes rfl ?_; conv => whnf) | (refine ASplit.no rfl ?_; conv => whnf) | (refine ACond.no rfl ?_; conv => whnf) | (refine ASplit.yes (by decide) ?_; conv => whnf) | (refine ACond.yes (by decide) ?_; conv => whnf) | (refine AReq.mk (by decide) ?_; conv => whnf) | (refine AIdx.iff.2 ⟨by decide, ?_⟩; conv => whnf))
  refine callOpenBad (G := [vO v4, vO ⟨v4.d, 2, 2, 1, 1, false⟩]) (d := v4.d) (bs := bs5) (ck := ck5) (s := 6) (t := e0) rfl K4.cl.ok (nOk_of (by decide) (by decide)) (by decide) ob (by decide) ?_
  intro bs6 ck6
  conv => whnf
  repeat (first | (refine AW.label ?_; conv => whnf) | (refine AW.scope ?_; conv => whnf) | (refine AO.cons hT ?_; conv => whnf) | (refine AO.nil ?_; conv => whnf) | (refine AW.seq ?_; conv => whnf) | (refine AW.region ?_; conv => whnf) | (refine AW.cond ?_; conv => whnf) | (refine AW.block ?_; conv => whnf) | (refine AW.loop ?_; conv => whnf) | (refine AW.skip ?_; conv => whnf) | (refine AW.exit ?_; conv => whnf) | (refine AW.ret ?_; conv => whnf) | (refine AF.one hT rfl ?_; conv => whnf) | (refine AF.nil ?_; conv => whnf) | (refine AF.imm hT rfl rfl rfl ?_; conv => whnf) | (refine AH.of hT rfl ?_; conv => whnf) | (refine ASplit.yes rfl ?_; conv => whnf) | (refine ACond.yes rfl ?_; conv => whnf) | (refine ASplit.no rfl ?_; conv => whnf) | (refine ACond.no rfl ?_; conv => whnf) | (refine ASplit.yes (by decide) ?_; conv => whnf) | (refine ACond.yes (by decide) ?_; conv => whnf) | (refine AReq.mk (by decide) ?_; conv => whnf) | (refine AIdx.iff.2 ⟨by decide, ?_⟩; conv => whnf))
  refine ASplit.yes (beq_self_eq_true _) ?_
  conv => whnf
  repeat (first | (refine AW.label ?_; conv => whnf) | (refine AW.scope ?_; conv => whnf) | (refine AO.cons hT ?_; conv => whnf) | (refine AO.nil ?_; conv => whnf) | (refine AW.seq ?_; conv => whnf) | (refine AW.region ?_; conv => whnf) | (refine AW.cond ?_; conv => whnf) | (refine AW.block ?_; conv => whnf) | (refine AW.loop ?_; conv => whnf) | (refine AW.skip ?_; conv => whnf) | (refine AW.exit ?_; conv => whnf) | (refine AW.ret ?_; conv => whnf) | (refine AF.one hT rfl ?_; conv => whnf) | (refine AF.nil ?_; conv => whnf) | (refine AF.imm hT rfl rfl rfl ?_; conv => whnf) | (refine AH.of hT rfl ?_; conv => whnf) | (refine ASplit.yes rfl ?_; conv => whnf) | (refine ACond.yes rfl ?_; conv => whnf) | (refine ASplit.no rfl ?_; conv => whnf) | (refine ACond.no rfl ?_; conv => whnf) | (refine ASplit.yes (by decide) ?_; conv => whnf) | (refine ACond.yes (by decide) ?_; conv => whnf) | (refine AReq.mk (by decide) ?_; conv => whnf) | (refine AIdx.iff.2 ⟨by decide, ?_⟩; conv => whnf))
  refine ASplit.yes (beq_self_eq_true _) ?_
  conv => whnf
  repeat (first | (refine AW.label ?_; conv => whnf) | (refine AW.scope ?_; conv => whnf) | (refine AO.cons hT ?_; conv => whnf) | (refine AO.nil ?_; conv => whnf) | (refine AW.seq ?_; conv => whnf) | (refine AW.region ?_; conv => whnf) | (refine AW.cond ?_; conv => whnf) | (refine AW.block ?_; conv => whnf) | (refine AW.loop ?_; conv => whnf) | (refine AW.skip ?_; conv => whnf) | (refine AW.exit ?_; conv => whnf) | (refine AW.ret ?_; conv => whnf) | (refine AF.one hT rfl ?_; conv => whnf) | (refine AF.nil ?_; conv => whnf) | (refine AF.imm hT rfl rfl rfl ?_; conv => whnf) | (refine AH.of hT rfl ?_; conv => whnf) | (refine ASplit.yes rfl ?_; conv => whnf) | (refine ACond.yes rfl ?_; conv => whnf) | (refine ASplit.no rfl ?_; conv => whnf) | (refine ACond.no rfl ?_; conv => whnf) | (refine ASplit.yes (by decide) ?_; conv => whnf) | (refine ACond.yes (by decide) ?_; conv => whnf) | (refine AReq.mk (by decide) ?_; conv => whnf) | (refine AIdx.iff.2 ⟨by decide, ?_⟩; conv => whnf))
  refine ASplit.yes (beq_self_eq_true _) ?_
  conv => whnf
  repeat (first | (refine AW.label ?_; conv => whnf) | (refine AW.scope ?_; conv => whnf) | (refine AO.cons hT ?_; conv => whnf) | (refine AO.nil ?_; conv => whnf) | (refine AW.seq ?_; conv => whnf) | (refine AW.region ?_; conv => whnf) | (refine AW.cond ?_; conv => whnf) | (refine AW.block ?_; conv => whnf) | (refine AW.loop ?_; conv => whnf) | (refine AW.skip ?_; conv => whnf) | (refine AW.exit ?_; conv => whnf) | (refine AW.ret ?_; conv => whnf) | (refine AF.one hT rfl ?_; conv => whnf) | (refine AF.nil ?_; conv => whnf) | (refine AF.imm hT rfl rfl rfl ?_; conv => whnf) | (refine AH.of hT rfl ?_; conv => whnf) | (refine ASplit.yes rfl ?_; conv => whnf) | (refine ACond.yes rfl ?_; conv => whnf) | (refine ASplit.no rfl ?_; conv => whnf) | (refine ACond.no rfl ?_; conv => whnf) | (refine ASplit.yes (by decide) ?_; conv => whnf) | (refine ACond.yes (by decide) ?_; conv => whnf) | (refine AReq.mk (by decide) ?_; conv => whnf) | (refine AIdx.iff.2 ⟨by decide, ?_⟩; conv => whnf))
  refine ACall.vaultO (v := v4) (bs := bs6) (ck := ck6) [vO ⟨v4.d, 2, 2, 1, 1, false⟩] rfl (by kernel_rfl) (f13 v4) (fun _ => rfl) ?_
  rintro _ y7 bs7 ck7 N ⟨rfl, hy7⟩
  rw [hy7]
  rw [K4.ev]
  simp only [AV.ren]
  conv => whnf
  repeat (first | (refine AW.label ?_; conv => whnf) | (refine AW.scope ?_; conv => whnf) | (refine AO.cons hT ?_; conv => whnf) | (refine AO.nil ?_; conv => whnf) | (refine AW.seq ?_; conv => whnf) | (refine AW.region ?_; conv => whnf) | (refine AW.cond ?_; conv => whnf) | (refine AW.block ?_; conv => whnf) | (refine AW.loop ?_; conv => whnf) | (refine AW.skip ?_; conv => whnf) | (refine AW.exit ?_; conv => whnf) | (refine AW.ret ?_; conv => whnf) | (refine AF.one hT rfl ?_; conv => whnf) | (refine AF.nil ?_; conv => whnf) | (refine AF.imm hT rfl rfl rfl ?_; conv => whnf) | (refine AH.of hT rfl ?_; conv => whnf) | (refine ASplit.yes rfl ?_; conv => whnf) | (refine ACond.yes rfl ?_; conv => whnf) | (refine ASplit.no rfl ?_; conv => whnf) | (refine ACond.no rfl ?_; conv => whnf) | (refine ASplit.yes (by decide) ?_; conv => whnf) | (refine ACond.yes (by decide) ?_; conv => whnf) | (refine AReq.mk (by decide) ?_; conv => whnf) | (refine AIdx.iff.2 ⟨by decide, ?_⟩; conv => whnf))
  refine ACall.vaultO (v := v4) (bs := bs7) (ck := ck7) [vO ⟨v4.d, 2, 2, 1, 1, false⟩] rfl (by kernel_rfl) (f14 v4) (fun _ => rfl) ?_
  rintro _ y8 bs8 ck8 N ⟨rfl, hy8⟩
  rw [hy8]
  rw [K4.qv]
  simp only [AV.ren]
  conv => whnf
  repeat (first | (refine AW.label ?_; conv => whnf) | (refine AW.scope ?_; conv => whnf) | (refine AO.cons hT ?_; conv => whnf) | (refine AO.nil ?_; conv => whnf) | (refine AW.seq ?_; conv => whnf) | (refine AW.region ?_; conv => whnf) | (refine AW.cond ?_; conv => whnf) | (refine AW.block ?_; conv => whnf) | (refine AW.loop ?_; conv => whnf) | (refine AW.skip ?_; conv => whnf) | (refine AW.exit ?_; conv => whnf) | (refine AW.ret ?_; conv => whnf) | (refine AF.one hT rfl ?_; conv => whnf) | (refine AF.nil ?_; conv => whnf) | (refine AF.imm hT rfl rfl rfl ?_; conv => whnf) | (refine AH.of hT rfl ?_; conv => whnf) | (refine ASplit.yes rfl ?_; conv => whnf) | (refine ACond.yes rfl ?_; conv => whnf) | (refine ASplit.no rfl ?_; conv => whnf) | (refine ACond.no rfl ?_; conv => whnf) | (refine ASplit.yes (by decide) ?_; conv => whnf) | (refine ACond.yes (by decide) ?_; conv => whnf) | (refine AReq.mk (by decide) ?_; conv => whnf) | (refine AIdx.iff.2 ⟨by decide, ?_⟩; conv => whnf))
  refine ACall.vaultO (v := v4) (bs := bs8) (ck := ck8) [vO ⟨v4.d, 2, 2, 1, 1, false⟩] rfl (by kernel_rfl) (f15 v4) (fun _ => rfl) ?_
  rintro _ y9 bs9 ck9 N ⟨rfl, hy9⟩
  rw [hy9]
  rw [K4.sh]
  simp only [AV.ren]
  conv => whnf
  repeat (first | (refine AW.label ?_; conv => whnf) | (refine AW.scope ?_; conv => whnf) | (refine AO.cons hT ?_; conv => whnf) | (refine AO.nil ?_; conv => whnf) | (refine AW.seq ?_; conv => whnf) | (refine AW.region ?_; conv => whnf) | (refine AW.cond ?_; conv => whnf) | (refine AW.block ?_; conv => whnf) | (refine AW.loop ?_; conv => whnf) | (refine AW.skip ?_; conv => whnf) | (refine AW.exit ?_; conv => whnf) | (refine AW.ret ?_; conv => whnf) | (refine AF.one hT rfl ?_; conv => whnf) | (refine AF.nil ?_; conv => whnf) | (refine AF.imm hT rfl rfl rfl ?_; conv => whnf) | (refine AH.of hT rfl ?_; conv => whnf) | (refine ASplit.yes rfl ?_; conv => whnf) | (refine ACond.yes rfl ?_; conv => whnf) | (refine ASplit.no rfl ?_; conv => whnf) | (refine ACond.no rfl ?_; conv => whnf) | (refine ASplit.yes (by decide) ?_; conv => whnf) | (refine ACond.yes (by decide) ?_; conv => whnf) | (refine AReq.mk (by decide) ?_; conv => whnf) | (refine AIdx.iff.2 ⟨by decide, ?_⟩; conv => whnf))
  refine ACall.vaultO (v := v4) (bs := bs9) (ck := ck9) [vO ⟨v4.d, 2, 2, 1, 1, false⟩] rfl (by kernel_rfl) (f11 v4 2 K4.ok e0 (by decide)) (fun _ => rfl) ?_
  rintro _ y10 bs10 ck10 N ⟨rfl, hy10⟩
  have hroom : (!v4.sh && roomF ((v4.d.n - 2 * 2 : Nat) : Int) v4.at_ e0) = true := by rw [K4.sh, K4.av, n4]; decide
  rw [hy10, hroom]
  simp only [AV.ren]
  conv => whnf
  repeat (first | (refine AW.label ?_; conv => whnf) | (refine AW.scope ?_; conv => whnf) | (refine AO.cons hT ?_; conv => whnf) | (refine AO.nil ?_; conv => whnf) | (refine AW.seq ?_; conv => whnf) | (refine AW.region ?_; conv => whnf) | (refine AW.cond ?_; conv => whnf) | (refine AW.block ?_; conv => whnf) | (refine AW.loop ?_; conv => whnf) | (refine AW.skip ?_; conv => whnf) | (refine AW.exit ?_; conv => whnf) | (refine AW.ret ?_; conv => whnf) | (refine AF.one hT rfl ?_; conv => whnf) | (refine AF.nil ?_; conv => whnf) | (refine AF.imm hT rfl rfl rfl ?_; conv => whnf) | (refine AH.of hT rfl ?_; conv => whnf) | (refine ASplit.yes rfl ?_; conv => whnf) | (refine ACond.yes rfl ?_; conv => whnf) | (refine ASplit.no rfl ?_; conv => whnf) | (refine ACond.no rfl ?_; conv => whnf) | (refine ASplit.yes (by decide) ?_; conv => whnf) | (refine ACond.yes (by decide) ?_; conv => whnf) | (refine AReq.mk (by decide) ?_; conv => whnf) | (refine AIdx.iff.2 ⟨by decide, ?_⟩; conv => whnf))
  refine ACall.vaultO (v := v4) (bs := bs10) (ck := ck10) [vO ⟨v4.d, 2, 2, 1, 1, false⟩] rfl (by kernel_rfl) (f12 v4 2 K4.ok ⟨#[120]⟩ (by decide)) (fun _ => rfl) ?_
  rintro _ y11 bs11 ck11 N ⟨rfl, hy11⟩
  have hfx : fitF v4 2 ⟨#[120]⟩ = true := by unfold fitF VD.putF; rw [K4.sh]; decide
  rw [hy11, hfx]
  simp only [AV.ren]
  conv => whnf
  repeat (first | (refine AW.label ?_; conv => whnf) | (refine AW.scope ?_; conv => whnf) | (refine AO.cons hT ?_; conv => whnf) | (refine AO.nil ?_; conv => whnf) | (refine AW.seq ?_; conv => whnf) | (refine AW.region ?_; conv => whnf) | (refine AW.cond ?_; conv => whnf) | (refine AW.block ?_; conv => whnf) | (refine AW.loop ?_; conv => whnf) | (refine AW.skip ?_; conv => whnf) | (refine AW.exit ?_; conv => whnf) | (refine AW.ret ?_; conv => whnf) | (refine AF.one hT rfl ?_; conv => whnf) | (refine AF.nil ?_; conv => whnf) | (refine AF.imm hT rfl rfl rfl ?_; conv => whnf) | (refine AH.of hT rfl ?_; conv => whnf) | (refine ASplit.yes rfl ?_; conv => whnf) | (refine ACond.yes rfl ?_; conv => whnf) | (refine ASplit.no rfl ?_; conv => whnf) | (refine ACond.no rfl ?_; conv => whnf) | (refine ASplit.yes (by decide) ?_; conv => whnf) | (refine ACond.yes (by decide) ?_; conv => whnf) | (refine AReq.mk (by decide) ?_; conv => whnf) | (refine AIdx.iff.2 ⟨by decide, ?_⟩; conv => whnf))
  have hrep : (List.replicate (Int.toNat 200) [AV.v (Value.int IntKind.u8 0)]).flatten = (List.replicate 200 (0 : UInt8)).map byteC := by
    simp [byteC]
  rw [hrep]
  refine ACut.all (by simp; rfl) (AStr.mk ?_)
  conv => whnf
  repeat (first | (refine AW.label ?_; conv => whnf) | (refine AW.scope ?_; conv => whnf) | (refine AO.cons hT ?_; conv => whnf) | (refine AO.nil ?_; conv => whnf) | (refine AW.seq ?_; conv => whnf) | (refine AW.region ?_; conv => whnf) | (refine AW.cond ?_; conv => whnf) | (refine AW.block ?_; conv => whnf) | (refine AW.loop ?_; conv => whnf) | (refine AW.skip ?_; conv => whnf) | (refine AW.exit ?_; conv => whnf) | (refine AW.ret ?_; conv => whnf) | (refine AF.one hT rfl ?_; conv => whnf) | (refine AF.nil ?_; conv => whnf) | (refine AF.imm hT rfl rfl rfl ?_; conv => whnf) | (refine AH.of hT rfl ?_; conv => whnf) | (refine ASplit.yes rfl ?_; conv => whnf) | (refine ACond.yes rfl ?_; conv => whnf) | (refine ASplit.no rfl ?_; conv => whnf) | (refine ACond.no rfl ?_; conv => whnf) | (refine ASplit.yes (by decide) ?_; conv => whnf) | (refine ACond.yes (by decide) ?_; conv => whnf) | (refine AReq.mk (by decide) ?_; conv => whnf) | (refine AIdx.iff.2 ⟨by decide, ?_⟩; conv => whnf))
  refine ACall.vaultO (v := v4) (bs := bs11) (ck := ck11) [vO ⟨v4.d, 2, 2, 1, 1, false⟩, .cells 5 (List.map byteC (List.replicate 200 0))] rfl (by kernel_rfl) (f12 v4 2 K4.ok ⟨(List.replicate 200 (0 : UInt8)).toArray⟩ (by decide)) (fun _ => rfl) ?_
  rintro _ y12 bs12 ck12 N ⟨rfl, hy12⟩
  have hfx : fitF v4 2 ⟨(List.replicate 200 (0 : UInt8)).toArray⟩ = false := by unfold fitF VD.putF; rw [K4.sh]; decide
  rw [hy12, hfx]
  simp only [AV.ren]
  conv => whnf
  repeat (first | (refine AW.label ?_; conv => whnf) | (refine AW.scope ?_; conv => whnf) | (refine AO.cons hT ?_; conv => whnf) | (refine AO.nil ?_; conv => whnf) | (refine AW.seq ?_; conv => whnf) | (refine AW.region ?_; conv => whnf) | (refine AW.cond ?_; conv => whnf) | (refine AW.block ?_; conv => whnf) | (refine AW.loop ?_; conv => whnf) | (refine AW.skip ?_; conv => whnf) | (refine AW.exit ?_; conv => whnf) | (refine AW.ret ?_; conv => whnf) | (refine AF.one hT rfl ?_; conv => whnf) | (refine AF.nil ?_; conv => whnf) | (refine AF.imm hT rfl rfl rfl ?_; conv => whnf) | (refine AH.of hT rfl ?_; conv => whnf) | (refine ASplit.yes rfl ?_; conv => whnf) | (refine ACond.yes rfl ?_; conv => whnf) | (refine ASplit.no rfl ?_; conv => whnf) | (refine ACond.no rfl ?_; conv => whnf) | (refine ASplit.yes (by decide) ?_; conv => whnf) | (refine ACond.yes (by decide) ?_; conv => whnf) | (refine AReq.mk (by decide) ?_; conv => whnf) | (refine AIdx.iff.2 ⟨by decide, ?_⟩; conv => whnf))
  exact AFin.val rfl ⟨rfl, rfl⟩
end Go.Aw.VE

