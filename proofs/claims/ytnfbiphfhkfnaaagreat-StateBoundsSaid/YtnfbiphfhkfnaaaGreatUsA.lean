/-
  The statement StateBounds: of a state that may be, of no line more is authorised, received or paid back than was shipped and paid, without any condition.
-/
import Derived.Test.YtnfbiphfhkfnaaaGreatUgA
import Derived.Test.YtnfbiphfhkfnaaaGreatAwE
set_option linter.unusedSimpArgs false
set_option linter.unusedVariables false
namespace Go.Aw.UR
open Go
noncomputable abbrev P : Program := Go.Aw.U1.P
noncomputable abbrev T : Nat → TI := Go.Aw.U1.T
theorem hT : TOk P T := Go.Aw.U1.hT
theorem hm : P.follows .mixedOrders = true := Go.Aw.U1.hm
noncomputable def body (f : Func) : Code := match f.body with | some c => c | none => .skip
end Go.Aw.UR

set_option linter.unusedSimpArgs false
set_option linter.unusedVariables false
set_option maxHeartbeats 4000000
namespace Go.Aw.UR
open Go

/-- a movement -/
structure Mv where
  p : Bool
  i : Int
  q : Int
deriving DecidableEq

def mvC (m : Mv) : List AV := [.v (.bool m.p), .v (.int .i64 m.i), .v (.int .i64 m.q)]
def mvs (l : List Mv) : AV := .vs 3 l.length (l.flatMap mvC)

def mok (m : Mv) : Prop := 1 ≤ m.i ∧ m.i ≤ 999999 ∧ m.q ≠ 0 ∧ -1000000 ≤ m.q ∧ m.q ≤ 1000000
instance (m : Mv) : Decidable (mok m) := by unfold mok; infer_instance
def mchk (m : Mv) : Int := if mok m then 0 else 2
theorem mchk_no {m : Mv} (h : ¬ mok m) : mchk m = 2 := if_neg h
theorem mchk_yes {m : Mv} (h : mok m) : mchk m = 0 := if_pos h

theorem f114 (m : Mv) : Fun P 114 [.agg (mvC m)] (.v (.int .i64 (mchk m))) := by
  refine spec_of hT (f := 114) (fn := Go.Proofs.Tryz.f114) (c := body Go.Proofs.Tryz.f114) (by kernel_rfl) (by kernel_rfl) ?_
  conv => whnf
  repeat' (first | refine go ?_ | ((first | refine ASplit.yes rfl ?_ | refine ASplit.no rfl ?_ | refine ACond.yes rfl ?_ | refine ACond.no rfl ?_ | refine ASplit.dec (fun _ => ?_) (fun _ => ?_) | refine ASplit.ndec (fun _ => ?_) (fun _ => ?_) | refine ACond.dec (fun _ => ?_) (fun _ => ?_) | refine ACond.ndec (fun _ => ?_) (fun _ => ?_)) <;> conv => whnf))
  all_goals
    refine AFin.val rfl ⟨?_, rfl⟩
    first
      | (rw [mchk_no (by unfold mok; omega)])
      | (rw [mchk_yes (by unfold mok; omega)])

def mat (m : Mv) (p : Bool) (i : Int) : Bool := (m.p == p) && decide (m.i = i)
def sumOf (l : List Mv) (p : Bool) (i : Int) : Int := (l.filter fun m => mat m p i).foldl (fun n m => n + m.q) 0

theorem sumOf_snoc (l : List Mv) (m : Mv) (p : Bool) (i : Int) : sumOf (l ++ [m]) p i = if mat m p i then sumOf l p i + m.q else sumOf l p i := by
  unfold sumOf
  rw [List.filter_append, List.foldl_append]
  by_cases h : mat m p i
  · simp [h, List.filter_cons]
  · simp [h, List.filter_cons]

theorem sumOf_nil (p : Bool) (i : Int) : sumOf [] p i = 0 := rfl

theorem mvC_len (m : Mv) : (mvC m).length = 3 := rfl

theorem take_snoc {α : Type} (l : List α) (i : Nat) (h : i < l.length) : l.take (i + 1) = l.take i ++ [l[i]] := by
  rw [List.take_add_one, List.getElem?_eq_getElem h]; rfl

end Go.Aw.UR

set_option linter.unusedSimpArgs false
set_option linter.unusedVariables false
set_option maxHeartbeats 4000000
namespace Go.Aw.UR
open Go

def okAt (l : List Mv) (k : Nat) : Prop := ∀ h : k < l.length, mok l[k] ∧ 0 ≤ sumOf (l.take (k + 1)) l[k].p l[k].i ∧ sumOf (l.take (k + 1)) l[k].p l[k].i ≤ 1000000
def good (l : List Mv) : Prop := l.length ≤ 1000 ∧ ∀ k, okAt l k
open Classical in
noncomputable def chkF (l : List Mv) : Int := if good l then 0 else 40
theorem chkF_yes {l : List Mv} (h : good l) : chkF l = 0 := if_pos h
theorem chkF_no {l : List Mv} (h : ¬ good l) : chkF l = 40 := if_neg h

theorem sum_bound (l : List Mv) (p : Bool) (i : Int) : ∀ k, k ≤ l.length → (∀ (j : Nat) (h : j < l.length), j < k → mok l[j]) → -1000000 * (k : Int) ≤ sumOf (l.take k) p i ∧ sumOf (l.take k) p i ≤ 1000000 * k
  | 0, _, _ => by simp [sumOf_nil]
  | k + 1, hk, h => by
    have ih := sum_bound l p i k (by omega) (fun j hj hjk => h j hj (by omega))
    rw [take_snoc l k (by omega), sumOf_snoc]
    have hm := h k (by omega) (by omega)
    unfold mok at hm
    split <;> (simp only [Int.natCast_add] ; omega)

theorem renL_mvs (ρ : Nat → Nat) (l : List Mv) : renL ρ (l.flatMap mvC) = l.flatMap mvC := by
  induction l with
  | nil => rfl
  | cons m l ih => rw [List.flatMap_cons, renL_append, ih]; rfl
theorem ren_mvs (ρ : Nat → Nat) (l : List Mv) : (mvs l).ren ρ = mvs l := by
  unfold mvs
  simp only [AV.ren, renL_mvs]

end Go.Aw.UR

set_option linter.unusedSimpArgs false
set_option linter.unusedVariables false
set_option maxHeartbeats 4000000
namespace Go.Aw.UR
open Go

abbrev Th := Bool × Int
def thV (k : Th) : Value := .agg #[.bool k.1, .int .i64 k.2]
def thA (k : Th) : AV := .agg [.v (.bool k.1), .v (.int .i64 k.2)]
def nV (n : Int) : AV := .v (.int .i64 n)
def thOk (k : Th) : Prop := (Lit.int .i64 k.2).wf = true

theorem laid1 : laidOutB P = true := by kernel_rfl
theorem th_fields : (P.fieldsOf 88).toList.map (fun f => (f.name != "_", f.type, f.offset)) = [(true, 4, 0), (true, 3, 1)] := by kernel_rfl
theorem th_und : P.underlying 88 = some (.struct (P.fieldsOf 88)) := by kernel_rfl
theorem lit_bi {Q : Program} {t t1 t2 : Nat} (hkt : Q.keyType t = true) (hc : Q.cellsOf t = 2) (hc4 : Q.cellsOf t1 = 1) (hc3 : Q.cellsOf t2 = 1) (hu4 : Q.underlying t1 = some .bool) (hu3 : Q.underlying t2 = some (.int .i64)) (hn : ∃ n, Q.types.size = n + 1)
    (hf : (Q.fieldsOf t).toList.map (fun f => (f.name != "_", f.type, f.offset)) = [(true, t1, 0), (true, t2, 1)]) (hu : Q.underlying t = some (.struct (Q.fieldsOf t))) (p : Bool) (i : Int) (h : (Lit.int .i64 i).wf = true) : keyOf Q t (.agg #[.bool p, .int .i64 i]) = some (.string (keyBytes [.bool p, .int .i64 i])) := by
  obtain ⟨n, hn⟩ := hn
  generalize Q.fieldsOf t = fs at hf hu
  unfold keyOf
  simp only [hu]
  rw [if_pos (by simp [hkt, Value.formed, hu, hc]), hn]
  unfold Program.keyLits
  simp only [hu, Value.cells]
  obtain ⟨fs⟩ := fs
  rcases fs with _ | ⟨f1, _ | ⟨f2, _ | ⟨f3x, r⟩⟩⟩
  · simp at hf
  · simp at hf
  · simp only [List.map_cons, List.map_nil, List.cons.injEq, Prod.mk.injEq, and_true] at hf
    obtain ⟨⟨a1, a2, a3⟩, b1, b2, b3⟩ := hf
    rw [if_pos ⟨by rw [hc]; rfl, by
      show Array.all ⟨[f1, f2]⟩ _ = true
      rw [List.all_toArray]
      simp only [List.all_cons, List.all_nil, a1, b1, Bool.and_true]⟩, List.mapM_cons, List.mapM_cons, List.mapM_nil]
    simp [Program.keyLits, a2, a3, b2, b3, hc4, hc3, hu4, hu3, h]
  · simp at hf
theorem size_pos {Q : Program} {n : Nat} (h : Nat.ble (n + 1) Q.types.size = true) : n < Q.types.size := Nat.le_of_ble_eq_true h
theorem size_succ {Q : Program} (h : Nat.ble 1 Q.types.size = true) : ∃ n, Q.types.size = n + 1 := ⟨Q.types.size - 1, by have := Nat.le_of_ble_eq_true h; omega⟩
theorem th_lit (p : Bool) (i : Int) (h : (Lit.int .i64 i).wf = true) : keyOf P 88 (.agg #[.bool p, .int .i64 i]) = some (.string (keyBytes [.bool p, .int .i64 i])) :=
  lit_bi (by kernel_rfl) (by kernel_rfl) (by kernel_rfl) (by kernel_rfl) (by kernel_rfl) (by kernel_rfl) (size_succ (by kernel_rfl)) th_fields th_und p i h

theorem thK : KEnc P 88 thV thA thOk where
  keyed := Go.Maps.Keyed.of_law (deep_law_laid laid1 (m := 2) (by omega) (size_pos (by kernel_rfl)) (by kernel_rfl) (by kernel_rfl))
  lit := by
    rintro ⟨p, i⟩ h
    exact ⟨_, th_lit p i h⟩
  inj := by
    rintro ⟨p, i⟩ ⟨p', i'⟩ h
    simpa [thV] using h
  rep := by
    rintro w m I ⟨p, i⟩ y h
    simp only [thA, Rep, RepL] at h
    obtain ⟨ys, rfl, ⟨y1, z1, rfl, rfl, y2, z2, rfl, rfl, rfl⟩, _⟩ := h
    rfl
end Go.Aw.UR

set_option linter.unusedSimpArgs false
set_option linter.unusedVariables false
set_option maxHeartbeats 4000000
namespace Go.Aw.UR
open Go

/-- what stands under a key -/
def look (L : List (Th × Int)) (k : Th) : Int := match L.find? (fun x => x.1 == k) with | some x => x.2 | none => 0

structure Held (L : List (Th × Int)) (l : List Mv) : Prop where
  nd : (L.map (·.1)).Nodup
  ok : ∀ x ∈ L, thOk x.1
  sum : ∀ k, look L k = sumOf l k.1 k.2
  mem : ∀ k, k ∈ L.map (·.1) ↔ ∃ m ∈ l, m.p = k.1 ∧ m.i = k.2

theorem Held.nil : Held [] [] := ⟨by simp, by simp, fun k => rfl, by simp⟩

theorem look_none {L : List (Th × Int)} {k : Th} (h : ∀ x ∈ L, x.1 ≠ k) : look L k = 0 := by
  unfold look
  rw [List.find?_eq_none.2 (fun x hx => by simpa using h x hx)]

theorem look_at {L : List (Th × Int)} (hn : (L.map (·.1)).Nodup) {j : Nat} {k : Th} {b : Int} (h : L[j]? = some (k, b)) : look L k = b := by
  unfold look
  induction L generalizing j with
  | nil => simp at h
  | cons x L ih =>
    rw [List.find?_cons]
    cases j with
    | zero => simp at h; subst h; simp
    | succ j =>
      simp at h
      have hx : (x.1 == k) = false := by
        rw [beq_eq_false_iff_ne]
        rintro rfl
        have := (List.nodup_cons.1 hn).1
        exact this (List.mem_map.2 ⟨_, List.mem_of_getElem? h, rfl⟩)
      rw [hx]
      exact ih (List.nodup_cons.1 hn).2 h

theorem mat_iff (m : Mv) (k : Th) : mat m k.1 k.2 = true ↔ (m.p, m.i) = k := by
  obtain ⟨p, i⟩ := k
  unfold mat
  simp [Prod.mk.injEq]

theorem look_snoc (L : List (Th × Int)) (k k' : Th) (b : Int) (h : ∀ x ∈ L, x.1 ≠ k) : look (L ++ [(k, b)]) k' = if k = k' then b else look L k' := by
  unfold look
  rw [List.find?_append]
  by_cases e : k = k'
  · subst e
    rw [List.find?_eq_none.2 (fun x hx => by simpa using h x hx)]
    simp
  · rw [if_neg e]
    cases hf : L.find? (fun x => x.1 == k') with
    | some x => simp
    | none => simp [List.find?_cons, e]

theorem look_set (L : List (Th × Int)) (hn : (L.map (·.1)).Nodup) {j : Nat} {k : Th} {b b' : Int} (h : L[j]? = some (k, b)) (k' : Th) : look (L.set j (k, b')) k' = if k = k' then b' else look L k' := by
  induction L generalizing j with
  | nil => simp at h
  | cons x L ih =>
    cases j with
    | zero =>
      simp at h; subst h
      unfold look
      simp only [List.set_cons_zero, List.find?_cons]
      by_cases e : k = k'
      · subst e; simp
      · have : (k == k') = false := beq_eq_false_iff_ne.2 e
        simp [this, e]
    | succ j =>
      simp at h
      have hi := ih (List.nodup_cons.1 hn).2 h
      unfold look at hi ⊢
      simp only [List.set_cons_succ, List.find?_cons]
      by_cases e : x.1 = k'
      · have hk : k ≠ k' := by
          rintro rfl
          have := (List.nodup_cons.1 hn).1
          exact this (by show x.1 ∈ _; rw [e]; exact List.mem_map.2 ⟨_, List.mem_of_getElem? h, rfl⟩)
        have e' : (x.1 == k') = true := by simpa using e
        rw [e', if_neg hk]
      · have e' : (x.1 == k') = false := beq_eq_false_iff_ne.2 e
        rw [e']
        exact hi

theorem Held.push {L : List (Th × Int)} {l : List Mv} (h : Held L l) (m : Mv) (hm : mok m) (hno : ∀ x ∈ L, x.1 ≠ (m.p, m.i)) : Held (L ++ [((m.p, m.i), m.q)]) (l ++ [m]) where
  nd := by
    rw [List.map_append, List.nodup_append]
    refine ⟨h.nd, by simp, fun a ha b hb => ?_⟩
    obtain ⟨x, hx, rfl⟩ := List.mem_map.1 ha
    simp at hb
    subst hb
    exact hno x hx
  ok := by
    intro x hx
    rcases List.mem_append.1 hx with hx | hx
    · exact h.ok x hx
    · simp at hx; subst hx
      unfold mok at hm
      simp [thOk, Lit.wf, IntKind.min, IntKind.max, IntKind.signed, IntKind.bits]
      omega
  sum := by
    intro k
    rw [look_snoc _ _ _ _ hno, sumOf_snoc]
    have := mat_iff m k
    by_cases e : (m.p, m.i) = k
    · rw [if_pos e, if_pos (this.2 e), ← h.sum k, look_none (fun x hx => by rw [← e]; exact hno x hx)]
      omega
    · rw [if_neg e, if_neg (fun hc => e (this.1 hc))]
      exact h.sum k
  mem := by
    rintro ⟨p, i⟩
    rw [List.map_append, List.mem_append, h.mem]
    simp only [List.map_cons, List.map_nil, List.mem_singleton, List.mem_append]
    constructor
    · rintro (⟨m', h1, h2⟩ | h1)
      · exact ⟨m', .inl h1, h2⟩
      · have h1 := Prod.mk.inj h1; exact ⟨m, .inr rfl, h1.1.symm, h1.2.symm⟩
    · rintro ⟨m', h1 | rfl, h2, h3⟩
      · exact .inl ⟨m', h1, h2, h3⟩
      · right; show (p, i) = _; rw [← h2, ← h3]

theorem Held.set {L : List (Th × Int)} {l : List Mv} (h : Held L l) (m : Mv) {j : Nat} {b : Int} (hj : L[j]? = some ((m.p, m.i), b)) : Held (L.set j ((m.p, m.i), b + m.q)) (l ++ [m]) := by
  have hkeys : (L.set j ((m.p, m.i), b + m.q)).map (·.1) = L.map (·.1) := by
    rw [List.map_set]
    exact set_same (by rw [List.getElem?_map, hj]; rfl)
  refine ⟨by rw [hkeys]; exact h.nd, ?_, ?_, ?_⟩
  · intro x hx
    rcases List.mem_or_eq_of_mem_set hx with hx | rfl
    · exact h.ok x hx
    · have := h.ok _ (List.mem_of_getElem? hj)
      exact this
  · intro k
    rw [look_set L h.nd hj, sumOf_snoc]
    have := mat_iff m k
    by_cases e : (m.p, m.i) = k
    · rw [if_pos e, if_pos (this.2 e), ← h.sum k, ← e, look_at h.nd hj]
    · rw [if_neg e, if_neg (fun hc => e (this.1 hc))]
      exact h.sum k
  · rintro ⟨p, i⟩
    rw [hkeys, h.mem]
    constructor
    · rintro ⟨m', h1, h2⟩; exact ⟨m', by simp [h1], h2⟩
    · rintro ⟨m', h1, h2, h3⟩
      rcases List.mem_append.1 h1 with h1 | h1
      · exact ⟨m', h1, h2, h3⟩
      · simp at h1; subst h1
        have : (m'.p, m'.i) ∈ L.map (·.1) := List.mem_map.2 ⟨_, List.mem_of_getElem? hj, rfl⟩
        rw [h2, h3] at this
        exact (h.mem (p, i)).1 this

theorem ren_em (ρ : Nat → Nat) (L : List (Th × Int)) : (em thA nV L).map (fun x => (x.1.ren ρ, x.2.ren ρ)) = em thA nV L := by
  simp [em, thA, nV, AV.ren, renL, Function.comp_def]

theorem f146 (L : List (Th × Int)) (l : List Mv) (m : Mv) (bs : List Nat) (clk : Nat) (h : Held L l) (hmo : mok m) (hs : -9223372036854775808 ≤ sumOf (l ++ [m]) m.p m.i ∧ sumOf (l ++ [m]) m.p m.i ≤ 9223372036854775807) :
    Spec P 146 [.agg (mvC m), .ptr 0 0] [.cells 84 [.mp 1], .map (em thA nV L) bs clk] (fun r H => ∃ L' bs' clk', r = nV (sumOf (l ++ [m]) m.p m.i) ∧ H = [.cells 84 [.mp 1], .map (em thA nV L') bs' clk'] ∧ Held L' (l ++ [m])) := by
  refine spec_of hT (f := 146) (fn := Go.Proofs.Tryz.f146) (c := body Go.Proofs.Tryz.f146) (by kernel_rfl) (by kernel_rfl) ?_
  conv => whnf
  repeat refine go ?_
  have hkey : thOk (m.p, m.i) := by
    have hm' := hmo
    unfold mok at hm'
    simp [thOk, Lit.wf, IntKind.min, IntKind.max, IntKind.signed, IntKind.bits]
    omega
  refine AW.conv _ _ (Conv.freeze 2 rfl) ?_
  refine AW.mapLen (l := 1) rfl (fun hlen hnd => ?_)
  have hlen : bs.length = L.length := by simpa [em] using hlen
  refine AW.plan hm (.one 3 (.one 0 (.one 1 (.imm 4 (.fork 2 (.one 5 (.one 6 (.one 7 .nil))) 6 (.one 7 (.one 2 (.one 5 .nil))) (.one 8 .nil)))))) (by kernel_rfl) ?_
  conv => whnf
  repeat refine go ?_
  have hq : -9223372036854775808 ≤ m.q ∧ m.q ≤ 9223372036854775807 := by have h' := hmo; unfold mok at h'; omega
  have hu : P.underlying 84 = some (.map 88 3) := by kernel_rfl
  have hne : (T 3).u ≠ .other := by simp [show (T 3).u = .int .i64 from rfl]
  by_cases hno : ∀ x ∈ L, x.1 ≠ (m.p, m.i)
  · have hwr : IntKind.wrap .i64 (0 + m.q) = m.q := by rw [Int.zero_add]; exact wrap_i64 _ hq.1 hq.2
    apply AF.meet
    · conv => whnf
      repeat refine go ?_
      refine AOp.lookup (a := (m.p, m.i)) hT thK hu hne rfl rfl rfl h.ok hkey (fun _ => ?_) (fun j b hj => absurd rfl (hno _ (List.mem_of_getElem? hj)))
      conv => whnf
      repeat refine go ?_
      refine AOp.mapEntry (a := (m.p, m.i)) (z := 0) hT thK hu hne rfl rfl rfl rfl h.ok hkey (fun _ hlen => ?_) (fun j b s hj => absurd rfl (hno _ (List.mem_of_getElem? hj)))
      conv => whnf
      repeat refine go ?_
      exact ⟨rfl, rfl, rfl⟩
    · conv => whnf
      repeat refine go ?_
      refine AOp.mapEntry (a := (m.p, m.i)) (z := 0) hT thK hu hne rfl rfl rfl rfl h.ok hkey (fun _ hlen => ?_) (fun j b s hj => absurd rfl (hno _ (List.mem_of_getElem? hj)))
      conv => whnf
      repeat refine go ?_
      refine AOp.lookup (a := (m.p, m.i)) hT thK hu hne rfl rfl rfl (fun x hx => (List.mem_append.1 hx).elim (h.ok x) (fun hx => by simp at hx; subst hx; exact hkey)) hkey (fun hc => absurd rfl (hc ((m.p, m.i), 0) (by simp))) (fun j b hj => ?_)
      have hb : b = 0 := by
        rcases List.mem_append.1 (List.mem_of_getElem? hj) with hx | hx
        · exact absurd rfl (hno _ hx)
        · simpa using hx
      subst hb
      conv => whnf
      repeat refine go ?_
      exact ⟨rfl, rfl, rfl⟩
    · conv => whnf
      repeat refine go ?_
      rw [hwr]
      refine AOp.entryStore (a := (m.p, m.i)) (b := 0) (b' := m.q) (j := L.length) (s := clk) (L := L ++ [((m.p, m.i), 0)]) thK rfl rfl rfl rfl (by simp) ?_ ?_
      · rw [← hlen]; simp
      have hset : (L ++ [((m.p, m.i), (0 : Int))]).set L.length ((m.p, m.i), m.q) = L ++ [((m.p, m.i), m.q)] := by simp
      rw [hset]
      have hH := h.push m hmo hno
      conv => whnf
      repeat refine go ?_
      refine AOp.lookup (a := (m.p, m.i)) hT thK hu hne rfl rfl rfl hH.ok hkey (fun hc => absurd rfl (hc ((m.p, m.i), m.q) (by simp))) (fun j b hj => ?_)
      have hb : b = sumOf (l ++ [m]) m.p m.i := by rw [← hH.sum (m.p, m.i), look_at hH.nd hj]
      subst hb
      conv => whnf
      repeat refine go ?_
      refine AFin.to (nV (sumOf (l ++ [m]) m.p m.i)) [.cells 84 [.mp 1], .map (em thA nV (L ++ [((m.p, m.i), m.q)])) (bs ++ [clk]) (clk + 1)] (Conv.ren [0, 1] _ (by intro i hi; match i, hi with | 0, _ => rfl | 1, _ => rfl) (by decide) (Fit.refl _) (.same rfl (.same (by simp [ABlk.ren, ren_em]) .nil))) ⟨_, _, _, rfl, rfl, hH⟩
  · obtain ⟨x, hx, hxk⟩ : ∃ x ∈ L, x.1 = (m.p, m.i) := by
      apply Classical.byContradiction
      intro hc
      exact hno (fun x hx he => hc ⟨x, hx, he⟩)
    obtain ⟨k, b0⟩ := x
    simp only at hxk
    subst hxk
    obtain ⟨j0, hj0⟩ := List.getElem?_of_mem hx
    have hjl : j0 < L.length := (List.getElem?_eq_some_iff.1 hj0).1
    have huniq : ∀ (j : Nat) (b : Int), L[j]? = some ((m.p, m.i), b) → j = j0 ∧ b = b0 := by
      intro j b hj
      have e : j = j0 := nodup_at h.nd (x := (m.p, m.i)) (by rw [List.getElem?_map, hj]; rfl) (by rw [List.getElem?_map, hj0]; rfl)
      subst e
      rw [hj0] at hj
      cases hj
      exact ⟨rfl, rfl⟩
    have hH := h.set m hj0
    have hval : sumOf (l ++ [m]) m.p m.i = b0 + m.q := by
      rw [← hH.sum (m.p, m.i), look_at hH.nd (j := j0) (b := b0 + m.q) (by rw [List.getElem?_set_self hjl])]
    have hwr : IntKind.wrap .i64 (b0 + m.q) = b0 + m.q := wrap_i64 _ (by rw [← hval]; exact hs.1) (by rw [← hval]; exact hs.2)
    have hbs : bs[j0]? = some (bs[j0]'(by omega)) := List.getElem?_eq_getElem (by omega)
    generalize bs[j0]'(by omega) = s0 at hbs
    apply AF.meet
    · conv => whnf
      repeat refine go ?_
      refine AOp.lookup (a := (m.p, m.i)) hT thK hu hne rfl rfl rfl h.ok hkey (fun hc => absurd rfl (hc _ hx)) (fun j b hj => ?_)
      obtain ⟨rfl, rfl⟩ := huniq j b hj
      conv => whnf
      repeat refine go ?_
      refine AOp.mapEntry (a := (m.p, m.i)) (z := 0) hT thK hu hne rfl rfl rfl rfl h.ok hkey (fun hc _ => absurd rfl (hc _ hx)) (fun j' b' s hj' hs' => ?_)
      obtain ⟨rfl, rfl⟩ := huniq j' b' hj'
      obtain rfl : s0 = s := by rw [hbs] at hs'; cases hs'; rfl
      conv => whnf
      repeat refine go ?_
      exact ⟨rfl, rfl, rfl⟩
    · conv => whnf
      repeat refine go ?_
      refine AOp.mapEntry (a := (m.p, m.i)) (z := 0) hT thK hu hne rfl rfl rfl rfl h.ok hkey (fun hc _ => absurd rfl (hc _ hx)) (fun j' b' s hj' hs' => ?_)
      obtain ⟨rfl, rfl⟩ := huniq j' b' hj'
      obtain rfl : s0 = s := by rw [hbs] at hs'; cases hs'; rfl
      conv => whnf
      repeat refine go ?_
      refine AOp.lookup (a := (m.p, m.i)) hT thK hu hne rfl rfl rfl h.ok hkey (fun hc => absurd rfl (hc _ hx)) (fun j b hj => ?_)
      obtain ⟨rfl, rfl⟩ := huniq j b hj
      conv => whnf
      repeat refine go ?_
      exact ⟨rfl, rfl, rfl⟩
    · conv => whnf
      repeat refine go ?_
      rw [hwr]
      refine AOp.entryStore (a := (m.p, m.i)) (b := b0) (b' := b0 + m.q) (j := j0) (s := s0) (L := L) thK rfl rfl rfl rfl hj0 hbs ?_
      conv => whnf
      repeat refine go ?_
      refine AOp.lookup (a := (m.p, m.i)) hT thK hu hne rfl rfl rfl hH.ok hkey (fun hc => absurd rfl (hc ((m.p, m.i), b0 + m.q) (List.mem_of_getElem? (i := j0) (by rw [List.getElem?_set_self hjl])))) (fun j b hj => ?_)
      have hb : b = sumOf (l ++ [m]) m.p m.i := by rw [← hH.sum (m.p, m.i), look_at hH.nd hj]
      subst hb
      conv => whnf
      repeat refine go ?_
      refine AFin.to (nV (sumOf (l ++ [m]) m.p m.i)) [.cells 84 [.mp 1], .map (em thA nV (L.set j0 ((m.p, m.i), b0 + m.q))) bs clk] (Conv.ren [0, 1] _ (by intro i hi; match i, hi with | 0, _ => rfl | 1, _ => rfl) (by decide) (Fit.refl _) (.same rfl (.same (by simp [ABlk.ren, ren_em]) .nil))) ⟨_, _, _, rfl, rfl, hH⟩
end Go.Aw.UR

set_option linter.unusedSimpArgs false
set_option linter.unusedVariables false
set_option maxHeartbeats 4000000
namespace Go.Aw.UR
open Go

theorem f113 : Spec P 113 [] [] fun r H => r = .tup [.fn 146 [] [.ptr 1 0], .mp 0] ∧ H = [.map [] [] 0, .cells 84 [.mp 0]] := by
  refine spec_of hT (f := 113) (fn := Go.Proofs.Tryz.f113) (c := body Go.Proofs.Tryz.f113) (by kernel_rfl) (by kernel_rfl) ?_
  conv => whnf
  repeat refine go ?_
  refine AOp.makeMap ?_
  conv => whnf
  repeat refine go ?_
  refine AW.plan hm (.one 0 (.one 2 (.one 1 (.one 3 .nil)))) (by kernel_rfl) ?_
  conv => whnf
  repeat refine go ?_
  exact AFin.mk ⟨rfl, rfl⟩

theorem okAt_iff {l : List Mv} {i : Nat} (h : i < l.length) : okAt l i ↔ mok l[i] ∧ 0 ≤ sumOf (l.take (i + 1)) l[i].p l[i].i ∧ sumOf (l.take (i + 1)) l[i].p l[i].i ≤ 1000000 := ⟨fun h' => h' h, fun h' _ => h'⟩

theorem f33 (l : List Mv) (hl : l.length ≤ 4611686018427387904) : Spec P 33 [mvs l] [] fun r H => (good l ∧ ∃ L bs clk, Held L l ∧ r = .tup [.mp 0, .v (.bool true)] ∧ H = [.map (em thA nV L) bs clk]) ∨ (¬ good l ∧ r = .tup [.v (.map none), .v (.bool false)] ∧ H = []) := by
  refine spec_of hT (f := 33) (fn := Go.Proofs.Tryz.f33) (c := body Go.Proofs.Tryz.f33) (by kernel_rfl) (by kernel_rfl) ?_
  conv => whnf
  repeat refine go ?_
  refine ACond.dec (fun h => ?_) (fun h => ?_)
  · conv => whnf
    repeat refine go ?_
    exact AFin.mk (.inr ⟨fun hg => by have := hg.1; omega, rfl, rfl⟩)
  have hlen : l.length ≤ 1000 := by omega
  conv => whnf
  repeat refine go ?_
  refine ACall.of (by kernel_rfl) f113 [] [] List.nodup_nil .nil (by simp) (by simp) .nil (.inl rfl) ?_
  rintro _ _ ⟨rfl, rfl⟩
  conv => whnf
  repeat refine go ?_
  refine ALoop.mk (fun n E H => ∃ (i : Nat) (L : List (Th × Int)) (bs : List Nat) (clk : Nat), i ≤ l.length ∧ Held L (l.take i) ∧ (∀ k, k < i → okAt l k) ∧ n = l.length - i ∧
      E = pad [mvs l, .any, .v (.map none), .v (.bool false), .fn 146 [] [.ptr 1 0], .mp 0, .any, .any, .any, .any, .any, .any, .any, .any, .any, .any, mvs l, .v (.int .i64 l.length), .v (.int .i64 i)] 36 ∧ H = [.map (em thA nV L) bs clk, .cells 84 [.mp 0]])
    (n := l.length) _ _ ⟨0, [], [], 0, by omega, Held.nil, by omega, rfl, rfl, rfl⟩ (Conv.fit ?_) ?_
  · repeat' (first | exact Fit.nil | refine Fit.any ?_ | refine Fit.same ?_)
  rintro _ _ _ ⟨i, L, bs, clk, hi, hH, hok, rfl, rfl, rfl⟩
  conv => whnf
  repeat refine go ?_
  refine ACond.dec (fun h => ?_) (fun h => ?_)
  · have hil : i < l.length := by omega
    conv => whnf
    repeat refine go ?_
    refine AReq.mk (by omega) ?_
    conv => whnf
    repeat refine go ?_
    refine AIdx.flat (enc := mvC) mvC_len (xs := l) (i := i) hil ?_
    conv => whnf
    repeat refine go ?_
    refine ACall.val (by kernel_rfl) (f114 l[i]) rfl rfl ?_
    conv => whnf
    repeat refine go ?_
    by_cases hmo : mok l[i]
    · rw [mchk_yes hmo]
      refine ACond.no rfl ?_
      conv => whnf
      repeat refine go ?_
      have hall : ∀ (j : Nat) (h : j < l.length), j < i + 1 → mok l[j] := fun j hj hjk => by
        rcases Nat.lt_or_ge j i with h1 | h1
        · exact (hok j h1 hj).1
        · obtain rfl : j = i := by omega
          exact hmo
      have hb := sum_bound l l[i].p l[i].i (i + 1) (by omega) hall
      have hts := take_snoc l i hil
      have hcall := f146 L (l.take i) l[i] bs clk hH hmo (by rw [← hts]; omega)
      rw [← hts] at hcall
      refine ACall.of (by kernel_rfl) hcall [1, 0] [] (by simp) (.same rfl (.same (by simp [ABlk.ren, ren_em]) .nil)) (by simp) (by simp) (LendL.same [.agg (mvC l[i]), .ptr 0 0]) (.inl rfl) ?_
      rintro _ _ ⟨L', bs', clk', rfl, rfl, hH'⟩
      have hm1 : ∀ (x : ABlk), mergeH (nm [1, 0] [ABlk.map (em thA nV L) bs clk, .cells 84 [.mp 0], x].length) [ABlk.map (em thA nV L) bs clk, .cells 84 [.mp 0], x] [1, 0] [.cells 84 [.mp 1], .map (em thA nV L') bs' clk'] = [.map (em thA nV L') bs' clk', .cells 84 [.mp 0], x] := by
        intro x
        simp [mergeH, ABlk.ren, ren_em, renL, AV.ren, nm]
      have hdrop : ∀ (k : Nat) (xs : List AV) (x : ABlk), (renL (nm [0, 1] 3) xs = xs) → Conv 0 xs [.map (em thA nV L') bs' clk', .cells 84 [.mp 0], x] xs [.map (em thA nV L') bs' clk', .cells 84 [.mp 0]] := by
        intro k xs x hx
        exact Conv.ren [0, 1] xs (by omega) (by decide) (by rw [show [ABlk.map (em thA nV L') bs' clk', .cells 84 [.mp 0], x].length = 3 from rfl, hx]; exact Fit.refl _) (.same (by simp [ABlk.ren, ren_em]) (.same rfl .nil))
      rw [hm1]
      conv => whnf
      repeat refine go ?_
      refine ASplit.dec (fun hneg => ?_) (fun hneg => ?_)
      · conv => whnf
        repeat refine go ?_
        refine ACond.yes rfl ?_
        conv => whnf
        repeat refine go ?_
        refine AOut.stay ?_
        refine AFin.to (.tup [.v (.map none), .v (.bool false)]) [] (Conv.ren [] _ (by simp) (by simp) (Fit.refl _) .nil) (.inr ⟨fun hg => by have := ((okAt_iff hil).1 (hg.2 i)).2; omega, rfl, rfl⟩)
      · conv => whnf
        repeat refine go ?_
        refine ACond.dec (fun hbig => ?_) (fun hbig => ?_)
        · conv => whnf
          repeat refine go ?_
          refine AOut.stay ?_
          refine AFin.to (.tup [.v (.map none), .v (.bool false)]) [] (Conv.ren [] _ (by simp) (by simp) (Fit.refl _) .nil) (.inr ⟨fun hg => by have := ((okAt_iff hil).1 (hg.2 i)).2; omega, rfl, rfl⟩)
        · conv => whnf
          repeat refine go ?_
          rw [wrap_i64 ((i : Int) + 1) (by omega) (by omega)]
          refine AHead.mk (l.length - (i + 1)) _ _ (by omega) ⟨i + 1, L', bs', clk', by omega, hH', ?_, rfl, rfl, rfl⟩ (Conv.trans (Conv.fit ?_) (hdrop 0 _ _ ?_))
          · intro k hk
            rcases Nat.lt_or_ge k i with h1 | h1
            · exact hok k h1
            · obtain rfl : k = i := by omega
              exact (okAt_iff hil).2 ⟨hmo, by omega, by omega⟩
          · repeat' (first | exact Fit.nil | refine Fit.any ?_ | refine Fit.same ?_)
          · simp [renL, AV.ren, ren_mvs, nm, pad]
    · rw [mchk_no hmo]
      refine ACond.yes rfl ?_
      conv => whnf
      repeat refine go ?_
      refine AOut.stay ?_
      refine AFin.to (.tup [.v (.map none), .v (.bool false)]) [] (Conv.ren [] _ (by simp) (by simp) (Fit.refl _) .nil) (.inr ⟨fun hg => hmo (hg.2 i hil).1, rfl, rfl⟩)
  · obtain rfl : i = l.length := by omega
    rw [List.take_length] at hH
    conv => whnf
    repeat refine go ?_
    refine AOut.stay ?_
    conv => whnf
    repeat refine go ?_
    refine AFin.to (.tup [.mp 0, .v (.bool true)]) [.map (em thA nV L) bs clk] (Conv.ren [0] _ (by simp) (by simp) (Fit.refl _) (.same (by simp [ABlk.ren, ren_em]) .nil)) (.inl ⟨⟨hlen, fun k hk => hok k hk hk⟩, L, bs, clk, hH, rfl, rfl⟩)
end Go.Aw.UR

set_option linter.unusedSimpArgs false
set_option linter.unusedVariables false
set_option maxHeartbeats 4000000
namespace Go.Aw.UR
open Go

end Go.Aw.UR

set_option linter.unusedSimpArgs false
set_option linter.unusedVariables false
set_option maxHeartbeats 4000000
namespace Go.Aw.UR
open Go

end Go.Aw.UR

set_option linter.unusedSimpArgs false
set_option linter.unusedVariables false
set_option maxHeartbeats 4000000
namespace Go.Aw.UR
open Go

end Go.Aw.UR

set_option linter.unusedSimpArgs false
set_option linter.unusedVariables false
set_option maxHeartbeats 4000000
namespace Go.Aw.UR
open Go

end Go.Aw.UR

set_option linter.unusedSimpArgs false
set_option linter.unusedVariables false
set_option maxHeartbeats 4000000
namespace Go.Aw.UR
open Go

end Go.Aw.UR

set_option linter.unusedSimpArgs false
set_option linter.unusedVariables false
set_option maxHeartbeats 4000000
namespace Go.Aw.UR
open Go

abbrev Hd := Bool × Int × Int
def hdC (x : Hd) : List AV := [.v (.bool x.1), .v (.int .i64 x.2.1), .v (.int .i64 x.2.2)]
def hdLt (x y : Hd) : Bool := decide ((x.1 = y.1 ∧ x.2.1 < y.2.1) ∨ (x.1 = false ∧ y.1 = true))
theorem hdC_len (x : Hd) : (hdC x).length = 3 := rfl
theorem hd_len (l : List Hd) : (l.flatMap hdC).length = l.length * 3 := flat_length hdC_len l
theorem renL_hd (ρ : Nat → Nat) (l : List Hd) : renL ρ (l.flatMap hdC) = l.flatMap hdC := by
  induction l with
  | nil => rfl
  | cons m l ih => rw [List.flatMap_cons, renL_append, ih]; rfl

/-- what the sort does -/
def SortOk : Prop := ∀ l : List Hd, l ≠ [] → l.length ≤ 1000 → Spec P 34 [.ms 3 0 0 l.length, .fn 35 [] []] [.cells 55 (l.flatMap hdC)] (fun r H => r = .tup [] ∧ ∃ l' : List Hd, l'.Perm l ∧ l'.Pairwise (fun x y => hdLt y x = false) ∧ H = [.cells 55 (l'.flatMap hdC)])
def SortNil : Prop := Fun P 34 [.v (.slice none 0 0), .fn 35 [] []] (.tup [])

structure AllOf (l : List Mv) (d : List Hd) : Prop where
  lt : d.Pairwise (fun x y => hdLt x y = true)
  mem : ∀ x, x ∈ d ↔ (∃ m ∈ l, m.p = x.1 ∧ m.i = x.2.1) ∧ x.2.2 = sumOf l x.1 x.2.1

def toHd (x : Th × Int) : Hd := (x.1.1, x.1.2, x.2)

theorem toHd_mem {L : List (Th × Int)} {l : List Mv} (h : Held L l) (x : Hd) : x ∈ L.map toHd ↔ (∃ m ∈ l, m.p = x.1 ∧ m.i = x.2.1) ∧ x.2.2 = sumOf l x.1 x.2.1 := by
  obtain ⟨p, i, n⟩ := x
  have h1 := h.mem (p, i)
  have h2 := h.sum (p, i)
  simp only at h1 h2 ⊢
  rw [← h1, ← h2]
  constructor
  · intro hx
    obtain ⟨⟨⟨p', i'⟩, n'⟩, hy, e⟩ := List.mem_map.1 hx
    simp only [toHd, Prod.mk.injEq] at e
    obtain ⟨rfl, rfl, rfl⟩ := e
    obtain ⟨j, hj⟩ := List.getElem?_of_mem hy
    exact ⟨List.mem_map.2 ⟨_, hy, rfl⟩, (look_at h.nd hj).symm⟩
  · rintro ⟨hk, rfl⟩
    obtain ⟨⟨k, n'⟩, hy, e⟩ := List.mem_map.1 hk
    simp only at e
    subst e
    obtain ⟨j, hj⟩ := List.getElem?_of_mem hy
    rw [look_at h.nd hj]
    exact List.mem_map.2 ⟨_, hy, rfl⟩

theorem allOf_of {L : List (Th × Int)} {l : List Mv} (h : Held L l) {d : List Hd} (hp : d.Perm (L.map toHd)) (hs : d.Pairwise (fun x y => hdLt y x = false)) : AllOf l d where
  lt := by
    have hkeys : (d.map fun x => (x.1, x.2.1)).Nodup := by
      have h1 : ((L.map toHd).map fun x => (x.1, x.2.1)) = L.map (·.1) := by simp [toHd, Function.comp_def]
      have h2 := (hp.map fun x => (x.1, x.2.1)).nodup_iff
      rw [h1] at h2
      exact h2.2 h.nd
    have hn : d.Pairwise (fun x y => (x.1, x.2.1) ≠ (y.1, y.2.1)) := by
      rw [List.Nodup, List.pairwise_map] at hkeys
      exact hkeys
    refine (hs.and hn).imp ?_
    rintro ⟨p, i, n⟩ ⟨p', i', n'⟩ ⟨h1, h2⟩
    simp only [hdLt, decide_eq_false_iff_not, ne_eq, Prod.mk.injEq, not_and, decide_eq_true_eq] at h1 h2 ⊢
    cases p <;> cases p' <;> simp at h1 h2 ⊢ <;> omega
  mem := fun x => by rw [hp.mem_iff, toHd_mem h]

/-- All's answer -/
def AllR (l : List Mv) (r : AV) (H : List ABlk) : Prop :=
  (good l ∧ ∃ d, AllOf l d ∧ ((d = [] ∧ r = .tup [.v (.slice none 0 0), nV 0] ∧ H = []) ∨ (d ≠ [] ∧ r = .tup [.ms 3 0 0 d.length, nV 0] ∧ H = [.cells 55 (d.flatMap hdC)]))) ∨
  (¬ good l ∧ r = .tup [.v (.slice none 0 0), nV 40] ∧ H = [])

theorem f8 (hso : SortOk) (hsn : SortNil) (l : List Mv) (hl : l.length ≤ 4611686018427387904) : Spec P 8 [mvs l] [] (AllR l) := by
  refine spec_of hT (f := 8) (fn := Go.Proofs.Tryz.f8) (c := body Go.Proofs.Tryz.f8) (by kernel_rfl) (by kernel_rfl) ?_
  conv => whnf
  repeat refine go ?_
  refine ACall.spec (by kernel_rfl) (f33 l hl) (by simp [renL, AV.ren, renL_mvs, mvs]) ?_
  have hu : P.underlying 84 = some (.map 88 3) := by kernel_rfl
  rintro _ _ (⟨hg, L, bs, clk, hH, rfl, rfl⟩ | ⟨hg, rfl, rfl⟩)
  · simp only [List.map_cons, List.map_nil, ABlk.ren, ren_em, List.nil_append]
    conv => whnf
    repeat refine go ?_
    refine ACond.no rfl ?_
    conv => whnf
    repeat refine go ?_
    refine AOp.range hu rfl rfl ?_
    conv => whnf
    repeat refine go ?_
    by_cases hL : L = []
    · subst hL
      refine ALoop.mk (fun n E H => E = pad [mvs l, .any, .v (.slice none 0 0), .v (.int .i64 0), .mp 0, .v (.bool true), .v (.slice none 0 0), .any, .any, .any, .any, .any, .any, .any, .any, .any, .mp 0, .ptr 1 0] 35 ∧ H = [.map [] bs clk, .iter 0 clk []]) (n := 0) _ _ ⟨rfl, rfl⟩ (Conv.fit ?_) ?_
      · repeat' (first | exact Fit.nil | refine Fit.any ?_ | refine Fit.same ?_)
      rintro _ _ _ ⟨rfl, rfl⟩
      conv => whnf
      repeat refine go ?_
      refine AOp.next (l := 0) (li := 1) (es := []) rfl rfl rfl (fun _ => ?_) (fun i s k v he => by simp at he)
      conv => whnf
      repeat refine go ?_
      refine ACond.no rfl ?_
      conv => whnf
      repeat refine go ?_
      refine AOut.stay ?_
      conv => whnf
      repeat refine go ?_
      refine ACall.val (by kernel_rfl) hsn rfl rfl ?_
      conv => whnf
      repeat refine go ?_
      exact AFin.to (.tup [.v (.slice none 0 0), nV 0]) [] (Conv.ren [] _ (by simp) (by simp) (Fit.refl _) .nil) (.inl ⟨hg, [], allOf_of hH (by simp) (by simp), .inl ⟨rfl, rfl, rfl⟩⟩)
    · have hl0 : l ≠ [] := by
        rintro rfl
        obtain ⟨x, hx⟩ := List.exists_mem_of_ne_nil L hL
        obtain ⟨m, hm, _⟩ := (hH.mem x.1).1 (List.mem_map.2 ⟨x, hx, rfl⟩)
        simp at hm
      have hLl : L.length ≤ l.length := by
        have h1 := List.Nodup.length_le_of_subset hH.nd (l₂ := l.map fun m => (m.p, m.i)) (fun k hk => by
          obtain ⟨m, hm, e1, e2⟩ := (hH.mem k).1 hk
          exact List.mem_map.2 ⟨m, hm, by rw [e1, e2]⟩)
        simpa using h1
      have hL1000 : L.length ≤ 1000 := by have := hg.1; omega
      have hLpos : 0 < L.length := List.length_pos_iff.2 hL
      refine ALoop.mapLen (l := 0) rfl (fun hlen hnd => ?_)
      have hlen : bs.length = L.length := by simpa [em] using hlen
      have hst : ∀ i, i < L.length → bs[i]? = some (bs.getD i 0) := fun i hi => by
        rw [List.getD_eq_getElem?_getD, List.getElem?_eq_getElem (by omega)]; rfl
      refine ALoop.mk (fun n E H => ∃ idx : List Nat, idx.Nodup ∧ (∀ i ∈ idx, i < L.length) ∧ n = L.length - idx.length ∧ E = pad [mvs l, .any, .v (.slice none 0 0), .v (.int .i64 0), .mp 0, .v (.bool true), .ms 3 2 0 idx.length, .any, .any, .any, .any, .any, .any, .any, .any, .any, .mp 0, .ptr 1 0] 35 ∧
          H = [.map (em thA nV L) bs clk, .iter 0 clk (idx.map fun i => bs.getD i 0), .cells 55 ((idx.map fun i => toHd (L.getD i ((false, 0), 0))).flatMap hdC)]) (n := L.length) _ _ ⟨[], by simp, by simp, by simp, rfl, rfl⟩ ?_ ?_
      · refine Conv.trans (Conv.fit (xs' := pad [mvs l, .any, .v (.slice none 0 0), .v (.int .i64 0), .mp 0, .v (.bool true), .v (.slice none 0 0), .any, .any, .any, .any, .any, .any, .any, .any, .any, .mp 0, .ptr 1 0] 35) ?_) (Conv.own (sz := 3) 55 (.same (.any (.same (.same (.same (.same (.own ?_))))))))
        · repeat' (first | exact Fit.nil | refine Fit.any ?_ | refine Fit.same ?_)
        · repeat' (first | exact FitN.nil | refine FitN.any ?_ | refine FitN.same ?_)
      rintro _ _ _ ⟨idx, hnd2, hlt, rfl, rfl, rfl⟩
      have hbound : ∀ idx : List Nat, idx.Nodup → (∀ i ∈ idx, i < L.length) → idx.length ≤ L.length := fun idx h1 h2 => by
        have := List.Nodup.length_le_of_subset h1 (l₂ := List.range L.length) (fun x hx => by simpa using h2 x hx)
        simpa using this
      conv => whnf
      repeat refine go ?_
      refine AOp.next (l := 0) (li := 1) (es := em thA nV L) (bs := bs) rfl rfl rfl (fun hall => ?_) (fun i s k v he hs hns => ?_)
      · conv => whnf
        repeat refine go ?_
        refine ACond.no rfl ?_
        conv => whnf
        repeat refine go ?_
        refine AOut.stay ?_
        conv => whnf
        repeat refine go ?_
        have hmem : ∀ i, i < L.length → i ∈ idx := fun i hi => by
          have h1 : bs.getD i 0 ∈ idx.map fun i => bs.getD i 0 := hall _ (List.mem_of_getElem? (hst i hi))
          obtain ⟨j, hj, e⟩ := List.mem_map.1 h1
          have h2 := hst j (hlt j hj)
          rw [e] at h2
          rw [← nodup_at hnd h2 (hst i hi)]; exact hj
        have hperm : idx.Perm (List.range L.length) := (List.perm_ext_iff_of_nodup hnd2 List.nodup_range).2 (fun a => ⟨fun h => by simpa using hlt a h, fun h => hmem a (by simpa using h)⟩)
        have hO : (idx.map fun i => toHd (L.getD i ((false, 0), 0))).Perm (L.map toHd) := by
          have h1 := hperm.map fun i => toHd (L.getD i ((false, 0), 0))
          have h2 : (List.range L.length).map (fun i => toHd (L.getD i ((false, 0), 0))) = L.map toHd := by
            apply List.ext_getElem (by simp)
            intro k hk1 hk2
            simp only [List.getElem_map, List.getElem_range]
            rw [List.getD_eq_getElem?_getD, List.getElem?_eq_getElem (by simpa using hk2)]; rfl
          rw [h2] at h1
          exact h1
        have hOl : (idx.map fun i => toHd (L.getD i ((false, 0), 0))).length = idx.length := List.length_map ..
        have hil : idx.length = L.length := by have := hperm.length_eq; simpa using this
        generalize (idx.map fun i => toHd (L.getD i ((false, 0), 0))) = O at hO hOl
        rw [← hOl]
        have hOn : O ≠ [] := by rintro rfl; simp at hOl; omega
        refine ACall.of (by kernel_rfl) (hso O hOn (by omega)) [2] [] (by simp) (.same (by show some (ABlk.cells 55 _) = some (ABlk.cells 55 (renL _ _)); rw [renL_hd]) .nil) (by simp) (by simp) (LendL.same [.ms 3 0 0 O.length, .fn 35 [] []]) (.inl rfl) ?_
        rintro _ _ ⟨rfl, d, hd, hsrt, rfl⟩
        have hm1 : ∀ ρ (x y : ABlk) (xs : List AV), mergeH ρ [x, y, ABlk.cells 55 xs] [2] [.cells 55 (d.flatMap hdC)] = [x, y, .cells 55 (d.flatMap hdC)] := by
          intro ρ x y xs
          simp [mergeH, ABlk.ren, renL_hd]
        rw [hm1]
        conv => whnf
        repeat refine go ?_
        have hdl : d.length = O.length := hd.length_eq
        have hdn : d ≠ [] := by rintro rfl; simp at hdl; exact hOn (List.eq_nil_of_length_eq_zero hdl.symm)
        rw [← hdl]
        refine AFin.to (.tup [.ms 3 0 0 d.length, nV 0]) [.cells 55 (d.flatMap hdC)] (Conv.ren [2] _ (by simp) (by simp) (Fit.refl _) (.same (by show some (ABlk.cells 55 _) = some (ABlk.cells 55 (renL _ _)); rw [renL_hd]) .nil)) (.inl ⟨hg, d, allOf_of hH (hd.trans hO) hsrt, .inr ⟨hdn, rfl, rfl⟩⟩)
      · have hi : i < L.length := by
          have := (List.getElem?_eq_some_iff.1 he).1
          simpa [em] using this
        have hLi : L[i]? = some (L.getD i ((false, 0), 0)) := by rw [List.getD_eq_getElem?_getD, List.getElem?_eq_getElem hi]; rfl
        have hkv : (k, v) = (thA (L.getD i ((false, 0), 0)).1, nV (L.getD i ((false, 0), 0)).2) := by
          have h1 : (em thA nV L)[i]? = some (thA (L.getD i ((false, 0), 0)).1, nV (L.getD i ((false, 0), 0)).2) := by
            unfold em; rw [List.getElem?_map, hLi]; rfl
          rw [h1] at he
          exact (Option.some.inj he).symm
        obtain ⟨rfl, rfl⟩ := Prod.mk.inj hkv
        have hsi : s = bs.getD i 0 := by rw [hst i hi] at hs; exact (Option.some.inj hs).symm
        subst hsi
        have hni : i ∉ idx := fun hc => hns (List.mem_map.2 ⟨i, hc, rfl⟩)
        have hnd3 : (idx ++ [i]).Nodup := by
          rw [List.nodup_append]
          exact ⟨hnd2, by simp, fun a ha b hb => by simp at hb; subst hb; rintro rfl; exact hni ha⟩
        have hlt3 : ∀ j ∈ idx ++ [i], j < L.length := fun j hj => (List.mem_append.1 hj).elim (hlt j) (fun h => by simp at h; omega)
        have hb3 := hbound _ hnd3 hlt3
        rw [List.length_append, List.length_singleton] at hb3
        conv => whnf
        repeat refine go ?_
        refine ACond.yes rfl ?_
        conv => whnf
        repeat refine go ?_
        refine AOp.entry (l := 0) (li := 1) (es := em thA nV L) (bs := bs) rfl rfl rfl he hs ?_
        conv => whnf
        repeat refine go ?_
        have eb : (T 55).bytes = 24 := rfl
        refine AReq.mk ⟨by rw [hd_len]; simp, by rw [eb]; omega⟩ ?_
        conv => whnf
        repeat refine go ?_
        have ecell : (idx.map fun i => toHd (L.getD i ((false, 0), 0))).flatMap hdC ++ [.v (.bool (L.getD i ((false, 0), 0)).1.1), .v (.int .i64 (L.getD i ((false, 0), 0)).1.2), .v (.int .i64 (L.getD i ((false, 0), 0)).2)] = ((idx ++ [i]).map fun i => toHd (L.getD i ((false, 0), 0))).flatMap hdC := by
          rw [List.map_append, List.flatMap_append]; simp [toHd, hdC]
        rw [ecell]
        have hx : renL (nm [0, 1, 4] 5) (pad [mvs l, .any, .v (.slice none 0 0), .v (.int .i64 0), .mp 0, .v (.bool true), .ms 3 2 0 (idx ++ [i]).length, .any, .any, .any, .any, .any, .any, .any, .any, .any, .mp 0, .ptr 1 0] 35) = pad [mvs l, .any, .v (.slice none 0 0), .v (.int .i64 0), .mp 0, .v (.bool true), .ms 3 4 0 (idx.length + 1), .any, .any, .any, .any, .any, .any, .any, .any, .any, .mp 0, .ptr 1 0] 35 := by
          simp [pad, renL, AV.ren, ren_mvs, nm]
        refine AHead.mk (L.length - (idx ++ [i]).length) _ _ (by rw [List.length_append, List.length_singleton]; omega) ⟨idx ++ [i], hnd3, hlt3, rfl, rfl, rfl⟩ (Conv.trans (Conv.fit (xs' := pad [mvs l, .any, .v (.slice none 0 0), .v (.int .i64 0), .mp 0, .v (.bool true), .ms 3 4 0 (idx.length + 1), .any, .any, .any, .any, .any, .any, .any, .any, .any, .mp 0, .ptr 1 0] 35) ?_) (Conv.ren [0, 1, 4] _ (by simp) (by simp) (by rw [← hx]; exact Fit.refl _) (.same ?_ (.same ?_ (.same ?_ .nil)))))
        · repeat' (first | exact Fit.nil | refine Fit.any ?_ | refine Fit.same ?_)
        · simp [ABlk.ren, ren_em]
        · simp [ABlk.ren, nm]
        · show some (ABlk.cells 55 _) = some (ABlk.cells 55 (renL _ _)); rw [renL_hd]
  · conv => whnf
    repeat refine go ?_
    refine ACond.yes rfl ?_
    conv => whnf
    repeat refine go ?_
    exact AFin.to (.tup [.v (.slice none 0 0), nV 40]) [] (Conv.ren [] _ (by simp) (by simp) (Fit.refl _) .nil) (.inr ⟨hg, rfl, rfl⟩)
end Go.Aw.UR

