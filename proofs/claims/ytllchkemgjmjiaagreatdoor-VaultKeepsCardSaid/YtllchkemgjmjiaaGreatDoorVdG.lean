/-
  The statement VaultKeeps: opened again, a vault tells the text that was laid last, and all bodies behind that, without any condition.
-/
import Derived.Test.YtllchkemgjmjiaaGreatDoorVdF
set_option linter.unusedSimpArgs false
set_option linter.unusedVariables false
set_option linter.unusedSimpArgs false
set_option linter.unusedVariables false
set_option maxHeartbeats 4000000
namespace Go.Aw.VD
open Go Go.Proofs
theorem piece_take (t : List UInt8) (i n : Nat) (h : 63 * (i + 1) ≤ n) : piece (t.take n) i = piece t i := by
  unfold piece
  rw [List.drop_take, List.take_take, Nat.min_eq_left (by omega)]
theorem layF_take (t : List UInt8) (n : Nat) : ∀ i, 63 * i ≤ n → layF (t.take n) i = layF t i
  | 0, _ => rfl
  | i + 1, h => by rw [layF_succ, layF_succ, layF_take t n i (by omega), piece_take t i n h]
theorem layF_split (t : List UInt8) : ∀ (K i : Nat), i < K → ∃ r, layF t K = layF t i ++ (mk i :: piece t i ++ r)
  | 0, i, h => by omega
  | K + 1, i, h => by
    rw [layF_succ]
    by_cases e : i = K
    · subst e; exact ⟨[], by simp⟩
    · obtain ⟨r, hr⟩ := layF_split t K i (by omega)
      exact ⟨r ++ [mk K] ++ piece t K, by rw [hr]; simp⟩
theorem piece_len (t : List UInt8) (K i : Nat) (h : t.length = 63 * K) (hi : i < K) : (piece t i).length = 63 := by
  unfold piece; rw [List.length_take, List.length_drop]; omega
/-- the sectors of a text that is laid out give it back -/
theorem lay_join (l t : List UInt8) (K : Nat) (ht : t.length = 63 * K) (hl : l.take (64 * K) = layF t K) : ∀ i, i ≤ K → okL l i ∧ joinL l i = t.take (63 * i)
  | 0, _ => ⟨fun _ h => by omega, by simp [joinL]⟩
  | i + 1, hi => by
    obtain ⟨h1, h2⟩ := lay_join l t K ht hl i (by omega)
    obtain ⟨r, hr⟩ := layF_split t K i (by omega)
    have hlen := layF_len t K ht i (by omega)
    have hpl := piece_len t K i ht (by omega)
    have hd : (l.drop (64 * i)).take (64 * K - 64 * i) = mk i :: piece t i ++ r := by
      rw [← List.drop_take, hl, hr, List.drop_left' hlen]
    have hi0 : l[64 * i]? = some (mk i) := by
      have := congrArg (fun x => x[0]?) hd
      simp only [List.getElem?_take, List.getElem?_drop] at this
      rw [if_pos (by omega)] at this
      simpa using this
    have hj : joinP l i = piece t i := by
      have := congrArg (fun x => (x.drop 1).take 63) hd
      simp only [List.drop_take, List.take_take, List.drop_drop] at this
      rw [Nat.min_eq_left (by omega)] at this
      unfold joinP
      rw [this]
      simp only [List.cons_append, List.drop_succ_cons, List.drop_zero]
      rw [List.take_left' hpl]
    refine ⟨fun j hj2 => ?_, ?_⟩
    · rcases Nat.lt_succ_iff_lt_or_eq.1 hj2 with h | rfl
      · exact h1 j h
      · exact hi0
    · rw [joinL_succ, h2, hj, show 63 * (i + 1) = 63 * i + 63 by omega, List.take_add]
      rfl
theorem join_lay (l : List UInt8) : ∀ k, 64 * k ≤ l.length → okL l k → l.take (64 * k) = layF (joinL l k) k
  | 0, _, _ => by simp [layF]
  | k + 1, h, hok => by
    have ih := join_lay l k (by omega) (fun i hi => hok i (by omega))
    have hk := hok k (by omega)
    have hlen := joinL_len l k (by omega) k (by omega)
    have hjp : (joinP l k).length = 63 := by unfold joinP; rw [List.length_take, List.length_drop]; omega
    rw [layF_succ, joinL_succ]
    have e1 : layF (joinL l k ++ joinP l k) k = layF (joinL l k) k := by
      have := layF_take (joinL l k ++ joinP l k) (63 * k) k (by omega)
      rw [List.take_left' hlen] at this
      exact this.symm
    have e2 : piece (joinL l k ++ joinP l k) k = joinP l k := by
      unfold piece
      rw [List.drop_left' hlen, List.take_of_length_le (by omega)]
    rw [e1, e2, ← ih, show 64 * (k + 1) = 64 * k + 64 by omega, List.take_add, List.append_assoc]
    congr 1
    have hlt : 64 * k < l.length := by omega
    rw [List.drop_eq_getElem_cons hlt, List.take_succ_cons]
    rw [List.getElem?_eq_getElem hlt] at hk
    rw [Option.some.inj hk]
    rfl
theorem be_of (e n : Nat) (h : n < 256 ^ e) : beVal (be e n) = n := beVal_be e n h

/-- the text of a frame, padded -/
def frT (e q : Nat) (b : ByteArray) : List UInt8 := padL (sealS (bodyF e q b)).data.toList (pcs b.size)
theorem fputB_list (e q : Nat) (b : ByteArray) : (fputB e q b).data.toList = layF (frT e q b) (pcs b.size) := rfl
theorem pcs_bound (n : Nat) : n + 20 ≤ 63 * pcs n ∧ 63 * pcs n < n + 83 ∧ 1 ≤ pcs n := by unfold pcs; omega
theorem frT_len (e q : Nat) (b : ByteArray) : (frT e q b).length = 63 * pcs b.size := by
  have := pcs_bound b.size
  unfold frT padL zs
  rw [List.length_append, List.length_replicate, size_list, sealF_size]; omega
theorem fputB_size (e q : Nat) (b : ByteArray) : (fputB e q b).size = 64 * pcs b.size := by
  rw [← size_list, fputB_list, layF_len _ _ (frT_len e q b) _ (Nat.le_refl _)]
theorem frT_eq (e q : Nat) (b : ByteArray) : frT e q b = be 8 e ++ (be 4 q ++ (be 4 b.size ++ (b.data.toList ++ (fourF (onF 0 (bodyF e q b).data.toList) ++ zs (63 * pcs b.size - (b.size + 20)))))) := by
  unfold frT padL
  rw [size_list, sealF_size, sealS, app_list, ofL_list]
  conv => lhs; rw [bodyF, app_list, ofL_list, headL]
  simp only [List.append_assoc]
  rfl
theorem fget_put (s : ByteArray) (a e q : Nat) (b : ByteArray) (h64 : s.size % 64 = 0) (hm : mayF e q b.size = 0) (hs : (s.data.toList.drop (64 * a)).take (64 * pcs b.size) = (fputB e q b).data.toList) :
    fgetF s a = ((e, q, b), ((a + pcs b.size : Nat) : Int), 0) := by
  have hmy := mayF_ok hm
  have hpb := pcs_bound b.size
  have hfl := frT_len e q b
  have hsz : (fputB e q b).data.toList.length = 64 * pcs b.size := by rw [size_list, fputB_size]
  have hll : 64 * pcs b.size ≤ s.size - 64 * a := by
    have := congrArg List.length hs
    rw [hsz, List.length_take, List.length_drop, size_list] at this
    omega
  rw [fputB_list] at hs
  have hj := lay_join (s.data.toList.drop (64 * a)) (frT e q b) (pcs b.size) hfl hs
  have hk := hj (pcs b.size) (Nat.le_refl _)
  rw [List.take_of_length_le (by omega)] at hk
  have h1 := hj 1 (by omega)
  have h0 := h1.1 0 (by omega)
  rw [List.getElem?_drop] at h0
  have hb1 : ∀ o w, o + w ≤ 63 → bytesAt s (64 * a + (1 + o)) w = ((frT e q b).drop o).take w := by
    intro o w how
    have e1 : joinL (s.data.toList.drop (64 * a)) 1 = joinP (s.data.toList.drop (64 * a)) 0 := by
      rw [joinL_succ]; rfl
    have e2 := h1.2
    rw [e1] at e2
    have e3 := congrArg (fun x => (x.drop o).take w) e2
    simp only [joinP, List.drop_take, List.take_take, List.drop_drop] at e3
    have m1 : min w (63 - o) = w := by omega
    simp only [m1] at e3
    unfold bytesAt
    rw [show 64 * a + (1 + o) = 64 * a + (64 * 0 + 1) + o by omega]
    first | exact e3 | (simpa using e3)
  have g8 : getV s (64 * a + 1) 8 = e := by
    have := hb1 0 8 (by omega)
    rw [show 64 * a + (1 + 0) = 64 * a + 1 by omega, List.drop_zero, frT_eq, List.take_left' (be_len 8 e)] at this
    unfold getV; rw [this, beVal_be 8 e (by omega)]
  have g4 : getV s (64 * a + 9) 4 = q := by
    have := hb1 8 4 (by omega)
    rw [show 64 * a + (1 + 8) = 64 * a + 9 by omega, frT_eq, List.drop_left' (be_len 8 e), List.take_left' (be_len 4 q)] at this
    unfold getV; rw [this, beVal_be 4 q (by omega)]
  have gn : getV s (64 * a + 13) 4 = b.size := by
    have := hb1 12 4 (by omega)
    rw [show 64 * a + (1 + 12) = 64 * a + 13 by omega, frT_eq, ← List.append_assoc, List.drop_left' (by rw [List.length_append, be_len, be_len]), List.take_left' (be_len 4 b.size)] at this
    unfold getV; rw [this, beVal_be 4 b.size (by omega)]
  have ht : (frT e q b).take (b.size + 20) = (sealS (bodyF e q b)).data.toList := by
    unfold frT padL
    rw [List.take_left' (by rw [size_list, sealF_size])]
  have hz : all0 (ofL ((frT e q b).drop (b.size + 20))) := by
    unfold frT padL
    rw [List.drop_left' (by rw [size_list, sealF_size])]
    intro x hx
    exact List.eq_of_mem_replicate hx
  have hof : ofL (sealS (bodyF e q b)).data.toList = sealS (bodyF e q b) := by apply list_inj; rw [ofL_list]
  have hu : (unsealF (ofL ((frT e q b).take (b.size + 20)))) = (bodyF e q b, 0) := by rw [ht, hof, unseal_seal]
  have hx : (bodyF e q b).extract 16 (bodyF e q b).size = b := by
    apply list_inj
    rw [ext_list, bodyF, app_list, ofL_list, List.drop_left' (by unfold headL; rw [List.length_append, List.length_append, be_len, be_len, be_len]), List.take_of_length_le]
    have := bodyF_size e q b
    unfold bodyF at this
    rw [this, size_list]; omega
  unfold fgetF
  rw [if_neg (by omega), if_neg (by omega)]
  unfold fget1
  rw [Int.toNat_natCast, if_neg (by simpa [mk] using h0), g8, g4, gn, if_neg (by omega)]
  unfold fget2
  rw [if_neg (by simpa using hm), if_neg (by omega), if_neg (fun hc => hc hk.1), hk.2]
  unfold fget3
  rw [hu, if_neg (by simp), if_neg (fun hc => hc hz), hx]
end Go.Aw.VD

set_option linter.unusedSimpArgs false
set_option linter.unusedVariables false
set_option maxHeartbeats 4000000
namespace Go.Aw.VD
open Go Go.Proofs
/-- what is taken is what was put -/
theorem fget_of (s : ByteArray) (at_ : Int) (h : (fgetF s at_).2.2 = 0) : ∃ a e q : Nat, ∃ b : ByteArray, at_ = a ∧ fgetF s at_ = ((e, q, b), ((a + pcs b.size : Nat) : Int), 0) ∧ mayF e q b.size = 0 ∧ s.size % 64 = 0 ∧ 64 * (a + pcs b.size) ≤ s.size ∧
    (s.data.toList.drop (64 * a)).take (64 * pcs b.size) = (fputB e q b).data.toList := by
  unfold fgetF at h ⊢
  split at h
  · exact absurd h (by decide)
  rename_i h1
  split at h
  · exact absurd h (by decide)
  rename_i h2
  rw [if_neg h1, if_neg h2]
  obtain ⟨a, rfl⟩ : ∃ a : Nat, at_ = a := ⟨at_.toNat, by omega⟩
  rw [Int.toNat_natCast] at h ⊢
  unfold fget1 at h ⊢
  split at h
  · exact absurd h (by decide)
  rename_i h3
  split at h
  · exact absurd h (by decide)
  rename_i h4
  rw [if_neg h3, if_neg h4]
  unfold fget2 at h ⊢
  have hn4 := getV4_lt s (64 * a + 13)
  split at h
  · rename_i hm; exact absurd h hm
  rename_i h5
  split at h
  · exact absurd h (by decide)
  rename_i h6
  split at h
  · exact absurd h (by decide)
  rename_i h7
  rw [if_neg h5, if_neg h6, if_neg h7]
  have hmv : mayF (getV s (64 * a + 1) 8) (getV s (64 * a + 9) 4) (getV s (64 * a + 13) 4) = 0 := by simpa using h5
  have hmy := mayF_ok hmv
  have hok : okL (s.data.toList.drop (64 * a)) (pcs (getV s (64 * a + 13) 4)) := Classical.not_not.1 h7
  unfold fget3 at h ⊢
  split at h
  · rename_i hu; exact absurd h hu
  rename_i h8
  split at h
  · exact absurd h (by decide)
  rename_i h9
  rw [if_neg h8, if_neg h9]
  have h8' : (unsealF (ofL ((joinL (s.data.toList.drop (64 * a)) (pcs (getV s (64 * a + 13) 4))).take (getV s (64 * a + 13) 4 + 20)))).2 = 0 := by simpa using h8
  have h9' : all0 (ofL ((joinL (s.data.toList.drop (64 * a)) (pcs (getV s (64 * a + 13) 4))).drop (getV s (64 * a + 13) 4 + 20))) := Classical.not_not.1 h9
  have hpb := pcs_bound (getV s (64 * a + 13) 4)
  have hll : 64 * pcs (getV s (64 * a + 13) 4) ≤ (s.data.toList.drop (64 * a)).length := by rw [List.length_drop, size_list]; omega
  have hjl := joinL_len (s.data.toList.drop (64 * a)) _ hll _ (Nat.le_refl _)
  have hlay := join_lay _ _ hll hok
  have hj1 : (joinL (s.data.toList.drop (64 * a)) (pcs (getV s (64 * a + 13) 4))).take 63 = ((s.data.toList.drop (64 * a)).drop 1).take 63 := by
    have hsplit : ∀ k, 1 ≤ k → 64 * k ≤ (s.data.toList.drop (64 * a)).length → (joinL (s.data.toList.drop (64 * a)) k).take 63 = joinP (s.data.toList.drop (64 * a)) 0 := by
      intro k
      induction k with
      | zero => intro h _; omega
      | succ k ih =>
        intro _ hk
        by_cases hk0 : k = 0
        · subst hk0
          rw [joinL_succ]
          show List.take 63 ([] ++ _) = _
          rw [List.nil_append, List.take_of_length_le (by unfold joinP; rw [List.length_take]; omega)]
        · have := joinL_len (s.data.toList.drop (64 * a)) k (by omega) k (Nat.le_refl _)
          rw [joinL_succ, List.take_append_of_le_length (by omega), ih (by omega) (by omega)]
    exact hsplit _ hpb.2.2 hll
  have hb8 : bytesAt s (64 * a + 1) 8 = (joinL (s.data.toList.drop (64 * a)) (pcs (getV s (64 * a + 13) 4))).take 8 := by
    have := congrArg (List.take 8) hj1
    rw [List.take_take, List.take_take, List.drop_drop] at this
    exact this.symm
  have hb4 : bytesAt s (64 * a + 9) 4 = ((joinL (s.data.toList.drop (64 * a)) (pcs (getV s (64 * a + 13) 4))).drop 8).take 4 := by
    have := congrArg (fun x => (x.drop 8).take 4) hj1
    simp only [List.drop_take, List.take_take, List.drop_drop] at this
    exact this.symm
  have hbn : bytesAt s (64 * a + 13) 4 = ((joinL (s.data.toList.drop (64 * a)) (pcs (getV s (64 * a + 13) 4))).drop 12).take 4 := by
    have := congrArg (fun x => (x.drop 12).take 4) hj1
    simp only [List.drop_take, List.take_take, List.drop_drop] at this
    exact this.symm
  have l8 : (bytesAt s (64 * a + 1) 8).length = 8 := by rw [hb8, List.length_take]; omega
  have l4 : (bytesAt s (64 * a + 9) 4).length = 4 := by rw [hb4, List.length_take, List.length_drop]; omega
  have ln : (bytesAt s (64 * a + 13) 4).length = 4 := by rw [hbn, List.length_take, List.length_drop]; omega
  have e8 := be_beVal 8 _ l8
  have e4 := be_beVal 4 _ l4
  have en := be_beVal 4 _ ln
  rw [show beVal (bytesAt s (64 * a + 1) 8) = getV s (64 * a + 1) 8 from rfl, hb8] at e8
  rw [show beVal (bytesAt s (64 * a + 9) 4) = getV s (64 * a + 9) 4 from rfl, hb4] at e4
  rw [show beVal (bytesAt s (64 * a + 13) 4) = getV s (64 * a + 13) 4 from rfl, hbn] at en
  generalize getV s (64 * a + 1) 8 = e at *
  generalize getV s (64 * a + 9) 4 = q at *
  generalize getV s (64 * a + 13) 4 = n at *
  generalize joinL (s.data.toList.drop (64 * a)) (pcs n) = t at *
  clear hj1 hb8 hb4 hbn l8 l4 ln
  have hts : (ofL (t.take (n + 20))).size = n + 20 := by rw [size_ofL, List.length_take]; omega
  have hsu := seal_unseal _ h8'
  have hus := unseal_size h8'
  generalize hU : (unsealF (ofL (t.take (n + 20)))).1 = u at *
  have hu16 : u.size = n + 16 := by omega
  have hbs : (u.extract 16 u.size).size = n := by rw [size_extract]; omega
  have hul : u.data.toList = t.take (n + 16) := by
    have e1 := congrArg (fun x : ByteArray => x.data.toList.take (n + 16)) hsu
    rw [ofL_list, sealS, app_list, List.take_left' (by rw [size_list]; omega), List.take_take, Nat.min_eq_left (by omega)] at e1
    exact e1.symm
  have hub : u = bodyF e q (u.extract 16 u.size) := by
    apply list_inj
    rw [bodyF, app_list, ofL_list, headL, hbs, e8, e4, en, ext_list, hul]
    rw [List.take_of_length_le (l := List.drop 16 _) (by rw [List.length_drop, List.length_take]; omega)]
    have a0 : t.take 8 = (t.take (n + 16)).take 8 := by rw [List.take_take, Nat.min_eq_left (by omega)]
    have a1 : (t.drop 8).take 4 = ((t.take (n + 16)).drop 8).take 4 := by rw [List.drop_take, List.take_take, Nat.min_eq_left (by omega)]
    have a2 : (t.drop 12).take 4 = ((t.take (n + 16)).drop 12).take 4 := by rw [List.drop_take, List.take_take, Nat.min_eq_left (by omega)]
    rw [a0, a1, a2]
    generalize t.take (n + 16) = L
    rw [List.append_assoc, List.append_assoc, show List.drop 16 L = List.drop 4 (List.drop 12 L) by rw [List.drop_drop], List.take_append_drop, show List.drop 12 L = List.drop 4 (List.drop 8 L) by rw [List.drop_drop], List.take_append_drop, List.take_append_drop]
  refine ⟨a, e, q, u.extract 16 u.size, rfl, ?_, by rw [hbs]; exact hmv, by omega, by rw [hbs]; omega, ?_⟩
  · rw [hbs]
  · rw [hbs, hlay, fputB_list, hbs]
    congr 1
    unfold frT padL
    rw [← hub, ← hsu, ofL_list, hbs]
    have hz := zs_all0 _ h9'
    rw [ofL_list, size_ofL, List.length_drop] at hz
    have : (t.take (n + 20)).length = n + 20 := by rw [List.length_take]; omega
    rw [this, show 63 * pcs n - (n + 20) = t.length - (n + 20) by omega, ← hz, List.take_append_drop]
end Go.Aw.VD

set_option linter.unusedSimpArgs false
set_option linter.unusedVariables false
set_option maxHeartbeats 4000000
namespace Go.Aw.VD
open Go Go.Proofs
/-- frames one behind the other -/
def chain (s : ByteArray) (ep : Int) : Nat → Nat → List ByteArray → Nat → Prop
  | a, _, [], z => a = z
  | a, c, b :: L, z => (∃ e : Nat, ep = e ∧ fgetF s a = ((e, c + 1, b), ((a + pcs b.size : Nat) : Int), 0)) ∧ chain s ep (a + pcs b.size) (c + 1) L z
def stops (s : ByteArray) (ep : Int) (a c : Nat) : Prop := (fgetF s a).2.2 ≠ 0 ∨ ((fgetF s a).1.1 : Int) ≠ ep ∨ (fgetF s a).1.2.1 ≠ c + 1
theorem chain_scan (s : ByteArray) (ep : Int) : ∀ (L : List ByteArray) (F a c z : Nat), chain s ep a c L z → stops s ep z (c + L.length) → L.length < F → scanF s ep F a c = (L, z)
  | [], F, a, c, z, h, hs, hF => by
    obtain ⟨F, rfl⟩ : ∃ G, F = G + 1 := ⟨F - 1, by simp at hF; omega⟩
    have : a = z := h
    subst this
    rw [scanF, if_pos (by simpa [stops] using hs)]
  | b :: L, F, a, c, z, h, hs, hF => by
    obtain ⟨F, rfl⟩ : ∃ G, F = G + 1 := ⟨F - 1, by simp at hF; omega⟩
    obtain ⟨⟨e, he, h1⟩, h2⟩ := h
    rw [scanF, h1]
    rw [if_neg (by simp [he])]
    simp only
    rw [Int.toNat_natCast, chain_scan s ep L F _ _ z h2 (by rw [show c + 1 + L.length = c + (b :: L).length by simp; omega]; exact hs) (by simp at hF; omega)]
theorem chain_sum (s : ByteArray) (ep : Int) : ∀ (L : List ByteArray) (a c z : Nat), chain s ep a c L z → z = a + (L.map fun b => pcs b.size).sum ∧ a + L.length ≤ z
  | [], a, c, z, h => by
    have : a = z := h
    subst this; simp
  | b :: L, a, c, z, h => by
    obtain ⟨_, h2⟩ := h
    obtain ⟨h3, h4⟩ := chain_sum s ep L _ _ z h2
    have := pcs_bound b.size
    simp only [List.map_cons, List.sum_cons, List.length_cons]
    omega
theorem chain_snoc (s : ByteArray) (ep : Int) (b : ByteArray) : ∀ (L : List ByteArray) (a c z : Nat), chain s ep a c L z → (∃ e : Nat, ep = e ∧ fgetF s z = ((e, c + L.length + 1, b), ((z + pcs b.size : Nat) : Int), 0)) → chain s ep a c (L ++ [b]) (z + pcs b.size)
  | [], a, c, z, h, hb => by
    have : a = z := h
    subst this
    exact ⟨hb, rfl⟩
  | x :: L, a, c, z, h, hb => by
    obtain ⟨h1, h2⟩ := h
    refine ⟨h1, chain_snoc s ep b L _ _ z h2 ?_⟩
    obtain ⟨e, he, h3⟩ := hb
    exact ⟨e, he, by rw [h3, show c + 1 + L.length + 1 = c + (x :: L).length + 1 by simp; omega]⟩
/-- the frames of the first sectors, with something else behind them -/
theorem chain_other (s s' : ByteArray) (ep : Int) (n : Nat) (h64 : s'.size % 64 = 0) (hn : 64 * n ≤ s.size) (hp : s'.data.toList.take (64 * n) = s.data.toList.take (64 * n)) : ∀ (L : List ByteArray) (a c z : Nat), chain s ep a c L z → 64 * a ≤ s.size → z ≤ n → chain s' ep a c L z
  | [], a, c, z, h, _, _ => h
  | b :: L, a, c, z, h, ha, hz => by
    obtain ⟨⟨e, he, h1⟩, h2⟩ := h
    obtain ⟨a', e', q, b', g1, g2, g3, g4, g5, g6⟩ := fget_of s a (by rw [h1])
    obtain rfl : a' = a := by omega
    rw [g2] at h1
    have hb : b' = b := congrArg (fun x : FR => x.1.2.2) h1
    have hq : q = c + 1 := congrArg (fun x : FR => x.1.2.1) h1
    have hee : e' = e := congrArg (fun x : FR => x.1.1) h1
    subst hb; subst hq; subst hee
    have hsum := (chain_sum s ep L _ _ z h2).2
    refine ⟨⟨e', he, ?_⟩, chain_other s s' ep n h64 hn hp L _ _ z h2 (by omega) hz⟩
    refine fget_put s' a' e' (c + 1) b' h64 g3 ?_
    rw [← g6]
    have := congrArg (fun x => x.drop (64 * a')) hp
    simp only [List.drop_take] at this
    have t2 := congrArg (fun x => x.take (64 * pcs b'.size)) this
    simp only [List.take_take] at t2
    rw [Nat.min_eq_left (by omega)] at t2
    exact t2
end Go.Aw.VD

set_option linter.unusedSimpArgs false
set_option linter.unusedVariables false
set_option maxHeartbeats 4000000
namespace Go.Aw.VD
open Go Go.Proofs
theorem fputF_ok {e q : Nat} {b : ByteArray} (h : mayF e q b.size = 0) : fputF e q b = (fputB e q b, 0) := by
  unfold fputF; rw [if_neg (by simpa using h)]; rfl
end Go.Aw.VD

set_option linter.unusedSimpArgs false
set_option linter.unusedVariables false
set_option maxHeartbeats 4000000
namespace Go.Aw.VD
open Go Go.Proofs
end Go.Aw.VD

