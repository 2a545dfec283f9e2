/-
  The statement TrailFalls: wherever the power goes while a frame is appended, the frames ahead are loaded, and that one, or not, without any condition.
-/
import Derived.Test.YtllchkemgjmjiaaGreatDoorVcC
set_option linter.unusedSimpArgs false
set_option linter.unusedVariables false
set_option linter.unusedSimpArgs false
set_option linter.unusedVariables false
namespace Go.Aw.VE
open Go Go.Proofs

/-! ### a device, sector by sector -/
def lookO (L : List (Int × List UInt8)) (j : Nat) : Option (List UInt8) := (L.find? fun p => p.1 == (j : Int)).map (·.2)
def nowOf (x : Dd) (j : Nat) : List UInt8 := cellOf x.cs j
def safeOf (x : Dd) (j : Nat) : Option (List UInt8) := lookO x.L j

theorem cell_put {cs t : List UInt8} {k j : Nat} (ht : t.length = 64) (hk : 64 * k + 64 ≤ cs.length) : cellOf (putC cs k t) j = if j = k then t else cellOf cs j := by
  unfold cellOf putC
  split
  · rename_i h
    subst h
    rw [List.append_assoc, List.drop_left' (by rw [List.length_take]; omega), List.take_left' ht]
  · rename_i h
    apply List.ext_getElem?
    intro i
    rcases Nat.lt_or_ge i 64 with hi | hi
    · rw [List.getElem?_take_of_lt hi, List.getElem?_take_of_lt hi, List.getElem?_drop, List.getElem?_drop]
      rcases Nat.lt_or_ge (64 * j + i) (64 * k) with h1 | h1
      · rw [List.getElem?_append_left (by rw [List.length_append, List.length_take]; omega), List.getElem?_append_left (by rw [List.length_take]; omega), List.getElem?_take_of_lt h1]
      · have h2 : 64 * k + 64 ≤ 64 * j + i := by omega
        rw [List.getElem?_append_right (by rw [List.length_append, List.length_take]; omega), List.getElem?_drop, List.length_append, List.length_take]
        congr 1; omega
    · rw [List.getElem?_eq_none (by rw [List.length_take]; omega), List.getElem?_eq_none (by rw [List.length_take]; omega)]

theorem look_add (L : List (Int × List UInt8)) (k j : Nat) (c : List UInt8) : lookO (addL L k c) j = if j = k then some ((lookO L k).getD c) else lookO L j := by
  unfold addL lookO
  split
  · rename_i h
    split
    · rename_i h2
      subst h2
      obtain ⟨p, hp, hpk⟩ := any_iff.1 h
      cases hf : L.find? (fun p => p.1 == (j : Int)) with
      | none => exact absurd hpk (by simpa using List.find?_eq_none.1 hf p hp)
      | some q => rfl
    · rfl
  · rename_i h
    rw [List.find?_append]
    split
    · rename_i h2
      subst h2
      have hn : L.find? (fun p => p.1 == (j : Int)) = none := by
        rw [List.find?_eq_none]
        intro p hp hpk
        exact h (any_iff.2 ⟨p, hp, by simpa using hpk⟩)
      rw [hn]
      simp
    · rename_i h2
      have : (List.find? (fun p => p.1 == (j : Int)) [((k : Int), c)]) = none := by
        rw [List.find?_eq_none]
        intro p hp
        simp at hp; subst hp
        simp; omega
      rw [this]; simp
theorem now_put {x : Dd} (hx : Dok x) {k : Nat} {t : List UInt8} (ht : t.length = 64) (hk : k < x.n) (j : Nat) : nowOf (putD x k t) j = if j = k then t else nowOf x j := by
  have := hx.len
  exact cell_put ht (by omega)
theorem safe_put (x : Dd) (k : Nat) (t : List UInt8) (j : Nat) : safeOf (putD x k t) j = if j = k then some ((safeOf x k).getD (nowOf x k)) else safeOf x j := look_add _ _ _ _

/-! ### Boot -/
theorem look_del (L : List (Int × List UInt8)) (k j : Nat) : lookO (delL L k) j = if j = k then none else lookO L j := by
  unfold lookO delL
  rw [List.find?_filter]
  split
  · rename_i h
    subst h
    have : L.find? (fun a => (!(a.1 == (j : Int))) && (a.1 == (j : Int))) = none := by
      rw [List.find?_eq_none]; intro p _; simp
    simp [this]
  · rename_i h
    congr 2
    funext a
    by_cases ha : a.1 = (j : Int)
    · simp [ha]; omega
    · simp [ha]
end Go.Aw.VE

set_option linter.unusedSimpArgs false
set_option linter.unusedVariables false
namespace Go.Aw.VE
open Go Go.Proofs

/-- what is left of a sector -/
def bootW (c : Ch) (i : Nat) (t s : List UInt8) : List UInt8 :=
  if (i : Int) = c.torn then t.take (clampN c.cut) ++ s.drop (clampN c.cut) else if c.keep.getD i false then t else s

theorem bootW_len {c : Ch} {i : Nat} {t s : List UInt8} (ht : t.length = 64) (hs : s.length = 64) : (bootW c i t s).length = 64 := by
  have := clampN_le c.cut
  unfold bootW
  split
  · rw [List.length_append, List.length_take, List.length_drop]; omega
  · split <;> assumption

theorem torn_put {cs s : List UInt8} {k n : Nat} (hs : s.length = 64) (hk : 64 * k + 64 ≤ cs.length) (hn : n ≤ 64) : tornC cs k n s = putC cs k ((cellOf cs k).take n ++ s.drop n) := by
  unfold tornC putC cellOf
  have h1 : (((cs.drop (64 * k)).take 64).take n ++ s.drop n).length = 64 := by
    simp only [List.length_append, List.length_take, List.length_drop]; omega
  rw [h1, List.length_drop, List.take_take, Nat.min_eq_left hn, show 64 * k + n + (s.length - n) = 64 * k + 64 by omega, ← List.append_assoc, ← List.take_add]

theorem cell_boot {c : Ch} {i k j : Nat} {cs s : List UInt8} (hs : s.length = 64) (hk : 64 * k + 64 ≤ cs.length) : cellOf (bootC c i k cs s) j = if j = k then bootW c i (cellOf cs k) s else cellOf cs j := by
  have hc := cellOf_len hk
  have hn := clampN_le c.cut
  unfold bootC bootW
  split
  · rw [torn_put hs hk hn, cell_put (by rw [List.length_append, List.length_take, List.length_drop]; omega) hk]
  · split
    · split
      · rename_i h; rw [h]
      · rfl
    · rw [cell_put hs hk]

theorem look_eq (L : List (Int × List UInt8)) (j : Nat) : lookL L j = (lookO L j).getD [] := by
  unfold lookL lookO
  cases L.find? (fun p => p.1 == (j : Int)) <;> rfl
theorem look_mem {L : List (Int × List UInt8)} {j : Nat} : (lookO L j).isSome = true ↔ (j : Int) ∈ L.map (·.1) := by
  unfold lookO
  rw [Option.isSome_map, List.find?_isSome, List.mem_map]
  constructor
  · rintro ⟨p, h1, h2⟩; exact ⟨p, h1, by simpa using h2⟩
  · rintro ⟨p, h1, h2⟩; exact ⟨p, h1, by simpa using h2⟩
theorem look_len {x : Dd} (hx : Dok x) {j : Nat} {s : List UInt8} (h : safeOf x j = some s) : s.length = 64 ∧ j < x.n := by
  unfold safeOf lookO at h
  rw [Option.map_eq_some_iff] at h
  obtain ⟨p, h1, rfl⟩ := h
  have h2 := hx.keys p (List.mem_of_find?_eq_some h1)
  have h3 := List.find?_some h1
  simp only [beq_iff_eq] at h3
  exact ⟨h2.2.2, by omega⟩

theorem boot_look {c : Ch} {i j k : Nat} {y : Dd} (h : j ≠ k) : lookO (bootS c i (k : Int) y).L j = lookO y.L j := by
  show lookO (delL y.L k) j = _
  rw [look_del, if_neg h]

theorem now_bootL (c : Ch) : ∀ (S : List Int) (i : Nat) (y : Dd), Dok y → (y.L.map (·.1)).Perm S → ∀ j : Nat,
    nowOf (bootL c i S y) j = match safeOf y j with | some s => bootW c (i + S.idxOf (j : Int)) (nowOf y j) s | none => nowOf y j
  | [], i, y, h, hp, j => by
    have h0 : y.L = [] := by simpa using hp.eq_nil
    have : safeOf y j = none := by unfold safeOf; rw [h0]; rfl
    rw [this]; rfl
  | k :: S, i, y, h, hp, j => by
    have hk : k ∈ y.L.map (·.1) := hp.mem_iff.2 (List.mem_cons_self ..)
    have hnd : (k :: S).Nodup := hp.nodup_iff.1 h.nd
    rw [List.nodup_cons] at hnd
    obtain ⟨p, hp1, hp2⟩ := List.mem_map.1 hk
    have hr := h.keys p hp1
    obtain ⟨kn, rfl⟩ : ∃ kn : Nat, k = kn := ⟨k.toNat, by omega⟩
    have hl := h.len
    have hko : (safeOf y kn).isSome = true := look_mem.2 hk
    obtain ⟨s, hs⟩ := Option.isSome_iff_exists.1 hko
    have hs1 := look_len h hs
    have hlk : lookL y.L kn = s := by rw [look_eq]; unfold safeOf at hs; rw [hs]; rfl
    rw [bootL, now_bootL c S (i + 1) _ (h.boot hk) (del_perm h.nd hp) j]
    have hnow : nowOf (bootS c i (kn : Int) y) j = if j = kn then bootW c i (nowOf y kn) s else nowOf y j := by
      show cellOf (bootC c i (Int.toNat kn) y.cs (lookL y.L kn)) j = _
      rw [hlk, Int.toNat_natCast, cell_boot hs1.1 (by omega)]; rfl
    rw [hnow]
    by_cases hj : j = kn
    · subst hj
      have : safeOf (bootS c i (j : Int) y) j = none := by
        show lookO (delL y.L j) j = none
        rw [look_del, if_pos rfl]
      rw [this, hs, if_pos rfl, List.idxOf_cons_self, Nat.add_zero]
      try rfl
    · have e : safeOf (bootS c i (kn : Int) y) j = safeOf y j := boot_look hj
      have hx : ((kn : Int) :: S).idxOf (j : Int) = S.idxOf (j : Int) + 1 := by
        rw [List.idxOf_cons, beq_eq_false_iff_ne.2 (show (kn : Int) ≠ j by omega)]; rfl
      rw [e, if_neg hj, hx, show i + 1 + S.idxOf (j : Int) = i + (S.idxOf (j : Int) + 1) by omega]
theorem now_boot {x : Dd} (h : Dok x) (c : Ch) (j : Nat) :
    nowOf (bootD c x) j = match safeOf x j with | some s => bootW c ((kS x.L).idxOf (j : Int)) (nowOf x j) s | none => nowOf x j := by
  have := now_bootL c (kS x.L) 0 x h (kS_perm x.L) j
  rw [Nat.zero_add] at this
  exact this
theorem safe_boot {x : Dd} (h : Dok x) (c : Ch) (j : Nat) : safeOf (bootD c x) j = none := by
  unfold safeOf; rw [(boot_ok h c).2.2]; rfl

/-! ### writing where no op is armed -/
theorem last0 {x : Dd} (h : x.a = 0) : lastB x = false ∧ lastD x = { x with o := IntKind.wrap .i64 (x.o + 1) } := by
  unfold lastB lastD; rw [if_pos h, if_pos h]; exact ⟨rfl, rfl⟩
theorem last_now (x : Dd) (j : Nat) : nowOf (lastD x) j = nowOf x j := by unfold nowOf; rw [lastD_cs]
theorem last_safe (x : Dd) (j : Nat) : safeOf (lastD x) j = safeOf x j := by unfold safeOf; rw [lastD_L]
theorem wrF_out : ∀ (m : Nat) (x : Dd) (k : Nat) (t : List UInt8), Dok x → k + m ≤ x.n → 64 * m ≤ t.length → ∀ j, (j < k ∨ k + m ≤ j) → nowOf (wrF m x k t).1 j = nowOf x j ∧ safeOf (wrF m x k t).1 j = safeOf x j
  | 0, x, k, t, h, _, _, j, _ => by rw [wrF]; exact ⟨rfl, rfl⟩
  | m + 1, x, k, t, h, h1, h2, j, hj => by
    have hn := lastD_n x
    have ht : (t.take 64).length = 64 := by rw [List.length_take]; omega
    have hkn : k < (lastD x).n := by omega
    have e1 := now_put h.last ht hkn j
    have e2 := safe_put (lastD x) k (t.take 64) j
    rw [if_neg (by omega), last_now] at e1
    rw [if_neg (by omega), last_safe] at e2
    rw [wrF]
    split
    · exact ⟨e1, e2⟩
    · have := wrF_out m (putD (lastD x) k (t.take 64)) (k + 1) (t.drop 64) (h.last.put hkn ht) (by show k + 1 + m ≤ (lastD x).n; omega) (by rw [List.length_drop]; omega) j (by omega)
      exact ⟨this.1.trans e1, this.2.trans e2⟩
theorem wrF_all : ∀ (m : Nat) (x : Dd) (k : Nat) (t : List UInt8), Dok x → x.a = 0 → k + m ≤ x.n → 64 * m ≤ t.length →
    (wrF m x k t).2 = 0 ∧ (wrF m x k t).1.a = 0 ∧ (wrF m x k t).1.f = x.f ∧ (∀ j, k ≤ j → j < k + m → nowOf (wrF m x k t).1 j = (t.drop (64 * (j - k))).take 64 ∧ safeOf (wrF m x k t).1 j = some ((safeOf x j).getD (nowOf x j)))
  | 0, x, k, t, h, ha, _, _ => by rw [wrF]; exact ⟨rfl, ha, rfl, fun j h1 h2 => by omega⟩
  | m + 1, x, k, t, h, ha, h1, h2 => by
    have hn := lastD_n x
    obtain ⟨hb, hd⟩ := last0 ha
    have ht : (t.take 64).length = 64 := by rw [List.length_take]; omega
    have hkn : k < (lastD x).n := by omega
    have hok := h.last.put hkn ht
    have ha' : (putD (lastD x) k (t.take 64)).a = 0 := by show (lastD x).a = 0; rw [hd]; exact ha
    have hf' : (putD (lastD x) k (t.take 64)).f = x.f := by show (lastD x).f = x.f; rw [hd]
    have hle : k + 1 + m ≤ (putD (lastD x) k (t.take 64)).n := by show k + 1 + m ≤ (lastD x).n; omega
    have hln : 64 * m ≤ (t.drop 64).length := by rw [List.length_drop]; omega
    obtain ⟨g1, g2, g3, g4⟩ := wrF_all m _ (k + 1) (t.drop 64) hok ha' hle hln
    rw [wrF, hb]
    simp only [Bool.false_eq_true, if_false]
    refine ⟨g1, g2, g3.trans hf', fun j hj1 hj2 => ?_⟩
    by_cases hj : j = k
    · subst hj
      obtain ⟨o1, o2⟩ := wrF_out m _ (j + 1) (t.drop 64) hok hle hln j (by omega)
      rw [o1, o2, now_put h.last ht hkn j, if_pos rfl, safe_put, if_pos rfl, last_now, last_safe, Nat.sub_self, Nat.mul_zero, List.drop_zero]
      exact ⟨rfl, rfl⟩
    · obtain ⟨q1, q2⟩ := g4 j (by omega) (by omega)
      rw [q1, q2, now_put h.last ht hkn j, if_neg hj, safe_put, if_neg hj, last_now, last_safe, List.drop_drop, show 64 + 64 * (j - (k + 1)) = 64 * (j - k) by omega]
      exact ⟨rfl, rfl⟩
end Go.Aw.VE

set_option linter.unusedSimpArgs false
set_option linter.unusedVariables false
namespace Go.Aw.VE
open Go Go.Proofs

theorem kS_of {L : List (Int × List UInt8)} {S : List Int} (hn : (L.map (·.1)).Nodup) (hs : S.Pairwise (fun x y => x < y)) (h : ∀ k, k ∈ L.map (·.1) ↔ k ∈ S) : kS L = S := by
  have hS : S.Nodup := hs.imp (fun h => by omega)
  refine kS_eq ?_ (hs.imp (fun h => by omega))
  rw [List.perm_ext_iff_of_nodup hn hS]
  exact h

/-- part j of a text -/
def prt (s : ByteArray) (j : Nat) : List UInt8 := (s.data.toList.drop (64 * j)).take 64
theorem prt_len {s : ByteArray} {j : Nat} (h : 64 * j + 64 ≤ s.size) : (prt s j).length = 64 := by
  have := size_list s
  unfold prt; rw [List.length_take, List.length_drop]; omega

theorem write0 {x : Dd} (hx : Dok x) (ha : x.a = 0) (hf : x.f = false) (hn : x.n = 10) (A : ByteArray) (hA : A.size = 640) :
    ∃ y, writeF x 0 A = (y, 0) ∧ Dok y ∧ y.a = 0 ∧ y.f = false ∧ y.n = 10 ∧ ∀ j, j < 10 → nowOf y j = prt A j ∧ safeOf y j = some ((safeOf x j).getD (nowOf x j)) := by
  have hs := size_list A
  have e : writeF x 0 A = wrF 10 x 0 A.data.toList := by
    unfold writeF
    rw [hf, hA, hn]
    rfl
  obtain ⟨g1, g2, g3, g4⟩ := wrF_all 10 x 0 A.data.toList hx ha (by omega) (by omega)
  obtain ⟨g5, g6⟩ := wrF_ok 10 x 0 A.data.toList hx (by omega) (by omega)
  refine ⟨(wrF 10 x 0 A.data.toList).1, ?_, g5, g2, g3.trans hf, g6.trans hn, fun j hj => ?_⟩
  · rw [e, ← g1]
  · have := g4 j (by omega) (by omega)
    rw [Nat.sub_zero] at this
    exact this
theorem flush0 {x : Dd} (ha : x.a = 0) (hf : x.f = false) : flushD x = { x with o := IntKind.wrap .i64 (x.o + 1), L := [] } ∧ flushE x = 0 := by
  obtain ⟨h1, h2⟩ := last0 ha
  unfold flushD flushE
  rw [h1, h2]
  simp only [hf, Bool.false_eq_true, if_false]
  exact ⟨trivial, trivial⟩
theorem kS_nil : kS [] = [] := by unfold kS; simp
theorem off_ok {x : Dd} (h : Dok x) : Dok { x with f := true, a := 0 } := ⟨h.pos, h.le, h.len, h.keys, h.nd⟩

/-- the device on its way -/
theorem torn_all (A B : ByteArray) (hA : A.size = 640) (hB : B.size = 640) (c : Ch) : ∃ x1 x2 x3 x4 x5 x6 x7 x8 N,
    writeF (newD 10) 0 A = (x1, 0) ∧ Dok x1 ∧ flushD x1 = x2 ∧ flushE x1 = 0 ∧ Dok x2 ∧ writeF x2 0 B = (x3, 0) ∧ Dok x3 ∧ { x3 with f := true, a := 0 } = x4 ∧ Dok x4 ∧ x4.f = true ∧
    bootD c x4 = x5 ∧ Dok x5 ∧ x5.f = false ∧ readF x5 0 10 = (N, 0) ∧ N.size = 640 ∧ (∀ j, j < 10 → prt N j = bootW c j (prt B j) (prt A j)) ∧
    flushD x5 = x6 ∧ flushE x5 = 0 ∧ Dok x6 ∧ { x6 with f := true, a := 0 } = x7 ∧ Dok x7 ∧ bootD c x7 = x8 ∧ Dok x8 ∧ x8.f = false ∧ readF x8 0 10 = (N, 0) ∧ kS x8.L = [] := by
  obtain ⟨x1, e1, o1, a1, f1, n1, s1⟩ := write0 (new_ok (n := 10) (by decide) (by decide)) rfl rfl rfl A hA
  obtain ⟨e2, e2'⟩ := flush0 a1 f1
  have o2 := (flush_ok o1).1
  generalize hx2 : flushD x1 = x2 at *
  have a2 : x2.a = 0 := by rw [e2]; exact a1
  have f2 : x2.f = false := by rw [e2]; exact f1
  have n2 : x2.n = 10 := by rw [e2]; exact n1
  have s2 : ∀ j, j < 10 → nowOf x2 j = prt A j ∧ safeOf x2 j = none := fun j hj => by
    rw [e2]; exact ⟨(s1 j hj).1, rfl⟩
  obtain ⟨x3, e3, o3, a3, f3x, n3, s3⟩ := write0 o2 a2 f2 n2 B hB
  have o4 := off_ok o3
  generalize hx4 : ({ x3 with f := true, a := 0 } : Dd) = x4 at *
  have n4 : x4.n = 10 := by rw [← hx4]; exact n3
  have s4 : ∀ j, j < 10 → nowOf x4 j = prt B j ∧ safeOf x4 j = some (prt A j) := fun j hj => by
    rw [← hx4]
    refine ⟨(s3 j hj).1, ?_⟩
    have := (s3 j hj).2
    rw [(s2 j hj).1, (s2 j hj).2] at this
    exact this
  have k4 : kS x4.L = (List.range 10).map (fun j : Nat => (j : Int)) := by
    refine kS_of o4.nd (by decide) (fun k => ⟨fun hk => ?_, fun hk => ?_⟩)
    · obtain ⟨p, hp, rfl⟩ := List.mem_map.1 hk
      have := o4.keys p hp
      rw [n4] at this
      rw [List.mem_map]
      exact ⟨p.1.toNat, by rw [List.mem_range]; omega, by omega⟩
    · obtain ⟨j, hj, rfl⟩ := List.mem_map.1 hk
      rw [List.mem_range] at hj
      refine look_mem.1 ?_
      have := (s4 j hj).2
      unfold safeOf at this
      rw [this]; rfl
  obtain ⟨o5, n5, l5⟩ := boot_ok o4 c
  have hb := now_boot o4 c
  have f5x : (bootD c x4).f = false := rfl
  have a5 : (bootD c x4).a = 0 := rfl
  have c5 := hb
  generalize hx5 : bootD c x4 = x5 at *
  have l5' := o5.len
  have n5' : x5.n = 10 := n5.trans n4
  obtain ⟨e6, e6'⟩ := flush0 a5 f5x
  have o6 := (flush_ok o5).1
  generalize hx6 : flushD x5 = x6 at *
  have o7 := off_ok o6
  generalize hx7 : ({ x6 with f := true, a := 0 } : Dd) = x7 at *
  obtain ⟨o8, n8, l8⟩ := boot_ok o7 c
  have e7 : x7.L = [] := by rw [← hx7, e6]
  have e8 : bootD c x7 = { x7 with f := false, a := 0 } := by
    unfold bootD; rw [e7, kS_nil]; show ({ x7 with f := false, a := 0 } : Dd) = _; rw [e7]
  have c8 : (bootD c x7).cs = x5.cs := by rw [e8, ← hx7, e6]
  have n8' : (bootD c x7).n = 10 := by rw [e8, ← hx7, e6]; exact n5'
  have hrd : ∀ y : Dd, y.f = false → y.n = 10 → y.cs = x5.cs → readF y 0 10 = (ofL (x5.cs.take 640), 0) := by
    intro y h1 h2 h3
    unfold readF
    rw [h1, h2, h3]
    rfl
  refine ⟨x1, x2, x3, x4, x5, x6, x7, bootD c x7, ofL (x5.cs.take 640), e1, o1, hx2, e2', o2, e3, o3, hx4, o4, by rw [← hx4], hx5, o5, f5x, hrd x5 f5x n5' rfl, ?_, ?_, hx6, e6', o6, hx7, o7, rfl, o8, by rw [e8], hrd _ (by rw [e8]) n8' c8, by rw [l8, kS_nil]⟩
  · rw [ofL_size, List.length_take]; omega
  · intro j hj
    have h1 := hb j
    rw [(s4 j hj).1, (s4 j hj).2, k4] at h1
    have hi : ((List.range 10).map (fun j : Nat => (j : Int))).idxOf (j : Int) = j := by
      have : j = 0 ∨ j = 1 ∨ j = 2 ∨ j = 3 ∨ j = 4 ∨ j = 5 ∨ j = 6 ∨ j = 7 ∨ j = 8 ∨ j = 9 := by omega
      rcases this with rfl | rfl | rfl | rfl | rfl | rfl | rfl | rfl | rfl | rfl <;> rfl
    simp only [hi] at h1
    rw [← h1]
    unfold prt nowOf cellOf
    rw [ofL_list, List.drop_take, List.take_take]
    congr 1; omega
end Go.Aw.VE

set_option linter.unusedSimpArgs false
set_option linter.unusedVariables false
namespace Go.Aw.VE
open Go Go.Proofs

/-- an act on a device, but a copy -/
def doF (x : Dd) (a : Ac) : Dd × Int :=
  if a.kind = 0 then writeF x a.at_ (acT a) else if a.kind = 1 then (flushD x, flushE x) else
  if a.kind = 2 then (if x.f then x else if a.n < 1 then x else { x with a := a.n }, if x.f then 20 else if a.n < 1 then 2 else 0) else
  if a.kind = 3 then ({ x with f := true, a := 0 }, 0) else if a.kind = 4 then (bootD a.ch x, 0) else (x, 0)
theorem arm_ok {x : Dd} (h : Dok x) (n : Int) : Dok { x with a := n } := ⟨h.pos, h.le, h.len, h.keys, h.nd⟩
theorem doF_ok {x : Dd} (h : Dok x) (a : Ac) : Dok (doF x a).1 ∧ (doF x a).1.n = x.n := by
  unfold doF
  split
  · exact write_ok h _ _
  split
  · exact flush_ok h
  split
  · dsimp only
    split
    · exact ⟨h, rfl⟩
    · split
      · exact ⟨h, rfl⟩
      · exact ⟨arm_ok h _, rfl⟩
  split
  · exact ⟨off_ok h, rfl⟩
  split
  · have := boot_ok h a.ch; exact ⟨this.1, this.2.1⟩
  · exact ⟨h, rfl⟩

/-- no op is armed, the power is on -/
def Calm (x : Dd) : Prop := x.a = 0 ∧ x.f = false
theorem write_calm {x : Dd} (hx : Dok x) (h : Calm x) (at_ : Int) (s : ByteArray) : Calm (writeF x at_ s).1 := by
  have hs := size_list s
  unfold writeF
  split
  · exact h
  · split
    · exact h
    · split
      · obtain ⟨g1, g2, g3, g4⟩ := wrF_all (s.size / 64) x at_.toNat s.data.toList hx h.1 (by omega) (by omega)
        exact ⟨g2, g3.trans h.2⟩
      · exact h
theorem calm_do {x : Dd} (hx : Dok x) (h : Calm x) {a : Ac} (hk : a.kind = 0 ∨ a.kind = 4) : Calm (doF x a).1 := by
  unfold doF
  rcases hk with hk | hk
  · rw [if_pos hk]; exact write_calm hx h _ _
  · rw [if_neg (by omega), if_neg (by omega), if_neg (by omega), if_neg (by omega), if_pos hk]; exact ⟨rfl, rfl⟩
theorem write_out {x : Dd} (hx : Dok x) (at_ : Int) (s : ByteArray) (j : Nat) (h : at_ < 0 ∨ (j : Int) < at_ ∨ at_ + (s.size / 64 : Nat) ≤ j) :
    nowOf (writeF x at_ s).1 j = nowOf x j ∧ safeOf (writeF x at_ s).1 j = safeOf x j := by
  have hs := size_list s
  unfold writeF
  split
  · exact ⟨rfl, rfl⟩
  · split
    · exact ⟨rfl, rfl⟩
    · split
      · exact wrF_out _ _ _ _ hx (by omega) (by omega) j (by omega)
      · exact ⟨rfl, rfl⟩
/-- an act writes a sector -/
def touch (a : Ac) (j : Nat) : Bool := decide (a.kind = 0) && decide (0 ≤ a.at_) && decide (a.at_ ≤ j) && decide ((j : Int) - a.at_ < a.n)
theorem acT_size (a : Ac) : (acT a).size / 64 = a.n.toNat := by
  unfold acT
  split
  · show 5 / 64 = _; omega
  · unfold fillS; rw [ofL_size, List.length_replicate]; omega
/-- what was flushed, and not written since -/
def Kept (x0 x : Dd) (t : Nat → Bool) : Prop := ∀ j, j < 12 → t j = false → safeOf x j = none ∧ nowOf x j = nowOf x0 j
theorem flush_out (x : Dd) (j : Nat) : nowOf (flushD x) j = nowOf x j ∧ (safeOf (flushD x) j = safeOf x j ∨ safeOf (flushD x) j = none) := by
  unfold flushD
  split
  · exact ⟨rfl, .inl rfl⟩
  · split
    · exact ⟨last_now x j, .inl (last_safe x j)⟩
    · exact ⟨last_now x j, .inr rfl⟩
theorem kept_do {x0 x : Dd} {t : Nat → Bool} (hx : Dok x) (h : Kept x0 x t) (a : Ac) : Kept x0 (doF x a).1 fun j => t j || touch a j := by
  intro j hj ht
  rw [Bool.or_eq_false_iff] at ht
  obtain ⟨h1, h2⟩ := h j hj ht.1
  have ht := ht.2
  unfold doF
  split
  · rename_i hk
    unfold touch at ht
    rw [hk] at ht
    have := write_out hx a.at_ (acT a) j (by
      rw [acT_size]
      simp only [decide_true, Bool.true_and, Bool.and_eq_false_iff, decide_eq_false_iff_not] at ht
      omega)
    exact ⟨this.2.trans h1, this.1.trans h2⟩
  split
  · have := flush_out x j
    refine ⟨?_, this.1.trans h2⟩
    rcases this.2 with g | g
    · exact g.trans h1
    · exact g
  split
  · dsimp only
    split
    · exact ⟨h1, h2⟩
    · split
      · exact ⟨h1, h2⟩
      · exact ⟨h1, h2⟩
  split
  · exact ⟨h1, h2⟩
  split
  · refine ⟨safe_boot hx _ _, ?_⟩
    rw [now_boot hx, h1]
    exact h2
  · exact ⟨h1, h2⟩
end Go.Aw.VE

set_option linter.unusedSimpArgs false
set_option linter.unusedVariables false
set_option maxHeartbeats 1000000
namespace Go.Aw.VE
open Go Go.Proofs

theorem AFin.devT {e : Int} {y : Dd} {bs : List Nat} {ck : Nat} {G : List ABlk} {K : AV → List ABlk → Prop} (h : K (.tup [.ptr 0 0, nV e]) (dvH y bs ck)) : AFin 3 (.tup [.ptr 0 0, nV e]) (dD 1 2 y :: dC y :: dM y bs ck :: G) K := by
  refine AFin.to (.tup [.ptr 0 0, nV e]) (dvH y bs ck) (Conv.ren [0, 1, 2] _ (fun _ h => three h) (by decide) (Fit.refl _) ?_) h
  refine .same ?_ (.same ?_ (.same ?_ .nil))
  · rw [dD_ren]; rfl
  · rw [dC_ren]; rfl
  · rw [dM_ren]; rfl
theorem acT_le (a : Ac) (hn : a.n ≤ 100) : (acT a).size ≤ 9223372036854775807 := by
  unfold acT
  split
  · show 5 ≤ _; omega
  · unfold fillS; rw [ofL_size, List.length_replicate]; omega
end Go.Aw.VE

