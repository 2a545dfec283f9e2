/-
  The statement StockSums: one more movement changes what is there of its thing by its quantity, without any condition.
-/
import Derived.Test.YtdhafeekjbnapaaAwE
import Derived.Test.YtdhafeekjbnapaaStkB
import Derived.Test.YtdhafeekjbnapaaRows
set_option linter.unusedSimpArgs false
set_option linter.unusedVariables false
/-
  Aw, part 25: what is handed back becomes a value: own memory is given up, frozen.
-/
set_option linter.unusedSimpArgs false
set_option linter.unusedVariables false
namespace Go.Aw
open Go

variable {P : Program} {H : List ABlk}

def ABlk.frozen : ABlk → ABlk
  | .cells t cs => .ice t cs
  | b => b

theorem Conv.freezeAll {k : Nat} {xs : List AV} : ∀ (H0 H : List ABlk), Conv k xs (H0 ++ H) xs (H0 ++ H.map ABlk.frozen)
  | H0, [] => Conv.refl _ _ _
  | H0, b :: H => by
    have ih := Conv.freezeAll (k := k) (xs := xs) (H0 ++ [b.frozen]) H
    rw [List.append_assoc, List.append_assoc] at ih
    refine Conv.trans ?_ ih
    cases b with
    | cells t cs =>
      have h := Conv.freeze (k := k) (xs := xs) (H := H0 ++ .cells t cs :: H) H0.length (t := t) (cs := cs) (by simp)
      rw [List.set_append_right _ _ (Nat.le_refl _), Nat.sub_self] at h
      exact h
    | _ => exact Conv.refl _ _ _

theorem Conv.outs {xs xs' : List AV} {H : List ABlk} (h : LendL (H.map ABlk.frozen) [] id xs xs') (hr : ∀ ρ, renL ρ xs' = xs') : Conv 0 xs H xs' [] :=
  (Conv.freezeAll [] H).trans ((Conv.see h).trans (Conv.ren [] xs' (by simp) List.nodup_nil (by rw [hr]; exact Fit.refl _) .nil))

theorem LendL.it {H : List ABlk} {B : List Nat} (xs : List AV) : LendL H B id xs xs := by
  have := LendL.same (H := H) (B := B) (ρ := id) xs
  rwa [renL_id] at this
theorem Lend.it {H : List ABlk} {B : List Nat} (x : AV) : Lend H B id x x := .same (ren_id x).symm
theorem LendL.anys {H : List ABlk} {B : List Nat} {ρ : Nat → Nat} : ∀ (xs : List AV), LendL H B ρ xs (xs.map fun _ => .any)
  | [] => .nil
  | _ :: xs => .cons .any (LendL.anys xs)
theorem Lend.sip {H : List ABlk} {l t : Nat} {cs : List AV} (hl : H[l]? = some (.ice t cs)) : Lend H [] id (.ptr l 0) (.ip cs) :=
  .ptr (t := t) (.inr hl) (by rw [renL_id, List.drop_zero])

theorem Conv.out {r r' : AV} {H : List ABlk} (h : Lend (H.map ABlk.frozen) [] id r r') (hr : ∀ ρ, r'.ren ρ = r') : Conv 0 [r] H [r'] [] :=
  (Conv.freezeAll [] H).trans ((Conv.see (.cons h .nil)).trans (Conv.ren [] [r'] (by simp) List.nodup_nil (by simp only [renL]; rw [hr]; exact Fit.refl _) .nil))

/-- the caller's own blocks ahead stay, those behind are frozen and given up -/
theorem Spec.value {f : Nat} {args : List AV} {K : AV → List ABlk → Prop} {K' : AV → Prop} (h : Spec P f args [] K) (hc : ∀ r H', K r H' → ∃ r', Lend (H'.map ABlk.frozen) [] id r r' ∧ (∀ ρ, r'.ren ρ = r') ∧ K' r') :
    Spec P f args [] fun r H => K' r ∧ H = [] :=
  h.conv fun r H' hk =>
    let ⟨r', h1, h2, h3⟩ := hc r H' hk
    ⟨r', [], Conv.out h1 h2, h3, rfl⟩

theorem Fun.value {f : Nat} {args : List AV} {K : AV → List ABlk → Prop} (r' : AV) (h : Spec P f args [] K) (hc : ∀ r H', K r H' → Lend (H'.map ABlk.frozen) [] id r r' ∧ (∀ ρ, r'.ren ρ = r')) :
    Fun P f args r' := by
  have := h.value (K' := fun r => r = r') fun r H' hk => ⟨r', (hc r H' hk).1, (hc r H' hk).2, rfl⟩
  exact this

theorem Lend.sm {H : List ABlk} {sz l n t : Nat} {cs : List AV} (hl : H[l]? = some (.ice t cs)) (hn : n * sz = cs.length) : Lend H [] id (.ms sz l 0 n) (.vs sz n cs) :=
  .ms (t := t) (.inr hl) (by omega) (by rw [renL_id, List.drop_zero, hn, List.take_length])

/-- a call of a function that hands values back -/
theorem ACall.out {f : Nat} {args : List AV} {K : AV → List ABlk → Prop} {K0 : AV → Prop} (hc : callOk P f = true) (h : Spec P f args [] fun r H => K0 r ∧ H = []) (ha : renL (nm [] H.length) args = args)
    (k : ∀ r, K0 r → K (r.ren (nm [] H.length)) H) : ACall P f args H K :=
  ACall.spec hc h ha (fun r H' h' => by rw [h'.2]; simpa using k r h'.1)
theorem AIdx.at {α : Type} {enc : α → List AV} {sz : Nat} (hs : ∀ x, (enc x).length = sz) {xs : List α} (i : Nat) {j : Nat} {K : List AV → Prop} (hj : j = i) (h : i < xs.length) (k : K (enc xs[i])) : AIdx (xs.flatMap enc) sz j K := by
  subst hj; exact AIdx.flat hs h k
end Go.Aw

set_option linter.unusedSimpArgs false
set_option linter.unusedVariables false
set_option maxHeartbeats 4000000
namespace Go.Aw.R1
open Go

theorem add_good {l : List Mv} {m : Mv} (h : addF l m = 0) : good l ∧ mok m ∧ l.length < 1000 ∧ 0 ≤ sumOf l m.p m.i + m.q ∧ sumOf l m.p m.i + m.q ≤ 1000000 := by
  unfold addF at h
  split at h
  · exact absurd h (by decide)
  · split at h
    · exact absurd h (by decide)
    · split at h
      · exact absurd h (by decide)
      · split at h
        · exact absurd h (by decide)
        · split at h
          · exact absurd h (by decide)
          · rename_i h1 h2 h3 h4 h5
            exact ⟨by simpa using h1, by simpa using h2, by omega, by omega, by omega⟩

theorem good_add {l : List Mv} {m : Mv} (h : addF l m = 0) : good (l ++ [m]) := by
  obtain ⟨h1, h2, h3, h4, h5⟩ := add_good h
  refine ⟨by simp; omega, fun k hk => ?_⟩
  simp at hk
  by_cases hkl : k < l.length
  · have := h1.2 k hkl
    rw [List.getElem_append_left hkl, List.take_append_of_le_length (by omega)]
    exact this
  · obtain rfl : k = l.length := by omega
    rw [List.getElem_append_right (Nat.le_refl _), List.take_of_length_le (by simp)]
    simp only [Nat.sub_self, List.getElem_cons_zero]
    rw [sumOf_snoc, if_pos ((mat_iff m (m.p, m.i)).2 rfl)]
    exact ⟨h2, h4, h5⟩

/-! ### the sums of all -/
def qs (l : List Mv) : Int := (l.map (·.q)).sum
def hs (d : List Hd) : Int := (d.map (·.2.2)).sum
theorem qs_snoc (l : List Mv) (m : Mv) : qs (l ++ [m]) = qs l + m.q := by simp [qs]
theorem hs_snoc (d : List Hd) (x : Hd) : hs (d ++ [x]) = hs d + x.2.2 := by simp [hs]

theorem sum_at (f : Th → Int) (a : Th) (q : Int) : ∀ (K : List Th), K.Nodup → (K.map fun k => if a = k then f k + q else f k).sum = (K.map f).sum + if a ∈ K then q else 0
  | [], _ => by simp
  | k :: K, hn => by
    obtain ⟨h1, h2⟩ := List.nodup_cons.1 hn
    have ih := sum_at f a q K h2
    simp only [List.map_cons, List.sum_cons, ih, List.mem_cons]
    by_cases e : a = k
    · subst e
      simp [h1]; omega
    · simp [e]; split <;> omega

theorem sums (K : List Th) (hn : K.Nodup) : ∀ (r l : List Mv), (∀ m ∈ r, (m.p, m.i) ∈ K) → (K.map fun k => sumOf (l ++ r) k.1 k.2).sum = (K.map fun k => sumOf l k.1 k.2).sum + qs r
  | [], l, _ => by simp [qs]
  | m :: r, l, h => by
    have ih := sums K hn r (l ++ [m]) (fun x hx => h x (by simp [hx]))
    rw [List.append_assoc] at ih
    rw [show l ++ m :: r = l ++ ([m] ++ r) from rfl, ih]
    have e : (fun k : Th => sumOf (l ++ [m]) k.1 k.2) = fun k => if (m.p, m.i) = k then sumOf l k.1 k.2 + m.q else sumOf l k.1 k.2 := by
      funext k
      rw [sumOf_snoc]
      have := mat_iff m k
      by_cases hk : (m.p, m.i) = k
      · rw [if_pos hk, if_pos (this.2 hk)]
      · rw [if_neg hk, if_neg (fun hc => hk (this.1 hc))]
    have e2 := sum_at (fun k => sumOf l k.1 k.2) (m.p, m.i) m.q K hn
    rw [if_pos (h m (by simp))] at e2
    rw [e, e2, show qs (m :: r) = m.q + qs r by simp [qs], Int.add_assoc]

theorem all_sum {l : List Mv} {d : List Hd} (h : AllOf l d) : hs d = qs l := by
  have hn : (d.map fun x => ((x.1, x.2.1) : Th)).Nodup := by
    rw [List.Nodup, List.pairwise_map]
    refine h.lt.imp ?_
    rintro ⟨p, i, n⟩ ⟨p', i', n'⟩ h1 h2
    simp only [Prod.mk.injEq] at h2
    obtain ⟨rfl, rfl⟩ := h2
    simp [hdLt] at h1
  have h1 := sums _ hn l [] (fun m hm => List.mem_map.2 ⟨(m.p, m.i, sumOf l m.p m.i), (h.mem _).2 ⟨⟨m, hm, rfl, rfl⟩, rfl⟩, rfl⟩)
  rw [List.nil_append] at h1
  have h2 : ((d.map fun x => ((x.1, x.2.1) : Th)).map fun k => sumOf ([] : List Mv) k.1 k.2).sum = 0 := by
    have : ∀ d : List Hd, ((d.map fun x => ((x.1, x.2.1) : Th)).map fun k => sumOf ([] : List Mv) k.1 k.2).sum = 0 := by
      intro d
      induction d with
      | nil => rfl
      | cons x d ih => rw [List.map_cons, List.map_cons, List.sum_cons, ih]; rfl
    exact this d
  rw [h2, Int.zero_add] at h1
  rw [← h1]
  unfold hs
  rw [List.map_map]
  congr 1
  apply List.map_congr_left
  intro x hx
  exact ((h.mem x).1 hx).2

/-! ### what is handed back, as values -/
def hds (d : List Hd) : AV := .vs 3 d.length (d.flatMap hdC)
theorem ren_hds (ρ : Nat → Nat) (d : List Hd) : (hds d).ren ρ = hds d := by simp only [hds, AV.ren, renL_hd]
theorem ren_nV (ρ : Nat → Nat) (n : Int) : (nV n).ren ρ = nV n := rfl
noncomputable def addL (l : List Mv) (m : Mv) : List Mv := if addF l m = 0 then l ++ [m] else []
theorem ren_two (ρ : Nat → Nat) (x y : AV) (hx : x.ren ρ = x) (hy : y.ren ρ = y) : (AV.tup [x, y]).ren ρ = .tup [x, y] := by simp only [AV.ren, renL, hx, hy]

theorem renL_one (ρ : Nat → Nat) (l : List Mv) : renL ρ ([] ++ [mvs l] ++ []) = [] ++ [mvs l] ++ [] := congrArg (· :: []) (ren_mvs ρ l)

theorem f21v (l : List Mv) (m : Mv) (hl : l.length ≤ 4611686018427387904) : Fun P 21 [mvs l, .agg (mvC m)] (.tup [mvs (addL l m), nV (addF l m)]) := by
  refine Fun.value _ (f21 l m hl) ?_
  rintro _ _ (⟨h, rfl, rfl⟩ | ⟨h, rfl, rfl⟩)
  · rw [addL, if_pos h, h]
    refine ⟨.tup (.cons ?_ (.cons (.it _) .nil)), fun ρ => ren_two _ _ _ (ren_mvs _ _) rfl⟩
    have : (l ++ [m]).length = l.length + 1 := by simp
    have h2 := Lend.sm (H := [ABlk.ice 41 ((l ++ [m]).flatMap mvC)]) (sz := 3) (l := 0) (n := l.length + 1) (t := 41) rfl (by rw [mvs_len, this])
    rw [mvs, this]; exact h2
  · rw [addL, if_neg h]
    exact ⟨.tup (.cons .nil (.cons (.it _) .nil)), fun ρ => ren_two _ _ _ (ren_mvs _ _) rfl⟩

theorem f30v (l : List Mv) (hl : l.length ≤ 4611686018427387904) : Fun P 30 [mvs l] (.tup [mvs (if chkF l = 0 then turnF l else []), nV (chkF l)]) := by
  refine Fun.value _ (f30 l hl) ?_
  rintro _ _ (⟨hg, rfl, rfl, rfl⟩ | ⟨hg, hne, rfl, rfl⟩ | ⟨hg, rfl, rfl⟩)
  · rw [chkF_yes hg, if_pos rfl]
    exact ⟨.tup (.cons (.it _) (.cons (.it _) .nil)), fun ρ => ren_two _ _ _ (ren_mvs _ _) rfl⟩
  · rw [chkF_yes hg, if_pos rfl]
    refine ⟨.tup (.cons ?_ (.cons (.it _) .nil)), fun ρ => ren_two _ _ _ (ren_mvs _ _) rfl⟩
    have h2 := Lend.sm (H := [ABlk.ice 41 ((turnF l).flatMap mvC)]) (sz := 3) (l := 0) (n := l.length) (t := 41) rfl (by rw [mvs_len, turnF_len])
    rw [mvs, turnF_len]; exact h2
  · rw [chkF_no hg, if_neg (by decide)]
    exact ⟨.tup (.cons .nil (.cons (.it _) .nil)), fun ρ => ren_two _ _ _ (ren_mvs _ _) rfl⟩

theorem f28v (l : List Mv) (hl : l.length ≤ 4611686018427387904) : Spec P 28 [mvs l] [] fun r H => (∃ d, (good l ∧ AllOf l d ∨ ¬ good l ∧ d = []) ∧ r = .tup [hds d, nV (chkF l)]) ∧ H = [] := by
  refine (f28 sortOk sortNil l hl).value ?_
  rintro _ _ (⟨hg, d, hd, ⟨rfl, rfl, rfl⟩ | ⟨hne, rfl, rfl⟩⟩ | ⟨hg, rfl, rfl⟩)
  · refine ⟨.tup [hds [], nV 0], .tup (.cons .nil (.cons (.it _) .nil)), fun ρ => ren_two _ _ _ (ren_hds _ _) rfl, [], .inl ⟨hg, hd⟩, ?_⟩
    rw [chkF_yes hg]
  · refine ⟨.tup [hds d, nV 0], .tup (.cons (Lend.sm (t := 61) rfl (by rw [hd_len])) (.cons (.it _) .nil)), fun ρ => ren_two _ _ _ (ren_hds _ _) rfl, d, .inl ⟨hg, hd⟩, ?_⟩
    rw [chkF_yes hg]
  · refine ⟨.tup [hds [], nV 40], .tup (.cons .nil (.cons (.it _) .nil)), fun ρ => ren_two _ _ _ (ren_hds _ _) rfl, [], .inr ⟨hg, rfl⟩, ?_⟩
    rw [chkF_no hg]

theorem nodup_sub {α : Type} [DecidableEq α] : ∀ (K M : List α), K.Nodup → (∀ x ∈ K, x ∈ M) → K.length ≤ M.length
  | [], _, _, _ => by simp
  | k :: K, M, hn, hs => by
    obtain ⟨h1, h2⟩ := List.nodup_cons.1 hn
    have hk := hs k (by simp)
    have ih := nodup_sub K (M.erase k) h2 (fun x hx => (List.mem_erase_of_ne (fun e => h1 (by rw [← e]; exact hx))).2 (hs x (by simp [hx])))
    rw [List.length_erase_of_mem hk] at ih
    have : 0 < M.length := List.length_pos_of_mem hk
    simp only [List.length_cons]; omega

theorem allOf_keys {l : List Mv} {d : List Hd} (h : AllOf l d) : (d.map fun x => ((x.1, x.2.1) : Th)).Nodup := by
  rw [List.Nodup, List.pairwise_map]
  refine h.lt.imp ?_
  rintro ⟨p, i, n⟩ ⟨p', i', n'⟩ h1 h2
  simp only [Prod.mk.injEq] at h2
  obtain ⟨rfl, rfl⟩ := h2
  simp [hdLt] at h1

theorem allOf_len {l : List Mv} {d : List Hd} (h : AllOf l d) : d.length ≤ l.length := by
  have := nodup_sub (d.map fun x => ((x.1, x.2.1) : Th)) (l.map fun m => ((m.p, m.i) : Th)) (allOf_keys h) (fun k hk => by
    obtain ⟨x, hx, rfl⟩ := List.mem_map.1 hk
    obtain ⟨⟨m, hm, h1, h2⟩, _⟩ := (h.mem x).1 hx
    exact List.mem_map.2 ⟨m, hm, by rw [h1, h2]⟩)
  simpa using this

theorem hs_take {d : List Hd} (h : ∀ x ∈ d, 0 ≤ x.2.2) (i : Nat) : 0 ≤ hs (d.take i) ∧ hs (d.take i) ≤ hs d := by
  have pos : ∀ d : List Hd, (∀ x ∈ d, 0 ≤ x.2.2) → 0 ≤ hs d := by
    intro d
    induction d with
    | nil => intro _; exact Int.le_refl _
    | cons x d ih => intro h; have h1 := h x (by simp); have h2 := ih (fun y hy => h y (by simp [hy])); simp only [hs, List.map_cons, List.sum_cons] at h2 ⊢; omega
  have h2 : hs d = hs (d.take i) + hs (d.drop i) := by
    rw [hs, hs, hs, ← List.sum_append, ← List.map_append, List.take_append_drop]
  have h3 := pos (d.take i) (fun x hx => h x (List.mem_of_mem_take hx))
  have h4 := pos (d.drop i) (fun x hx => h x (List.mem_of_mem_drop hx))
  omega

theorem qs_take {l : List Mv} (h : ∀ m ∈ l, mok m) (i : Nat) (hi : i ≤ l.length) : -1000000 * (i : Int) ≤ qs (l.take i) ∧ qs (l.take i) ≤ 1000000 * i := by
  induction i with
  | zero => simp [qs]
  | succ i ih =>
    have ih := ih (by omega)
    have hm := h l[i] (List.getElem_mem _)
    rw [take_snoc l i (by omega), qs_snoc]
    unfold mok at hm
    omega

theorem f8 (l : List Mv) (m : Mv) : Spec P 8 [mvs l, .agg (mvC m)] [] fun r _ => r = .v (.bool true) := by
  refine spec_of hT (f := 8) (fn := Go.Proofs.Try.f8) (c := body Go.Proofs.Try.f8) (by kernel_rfl) (by kernel_rfl) ?_
  have hawake := f20 sortOk sortNil
  have hfin : ∀ {H : List ABlk}, AFin 0 (.v (.bool true)) H (fun r _ => r = .v (.bool true)) := AFin.mk rfl
  have eb : (T 41).bytes = 24 := rfl
  have esz : (T 41).size = 3 := rfl
  conv => whnf
  repeat ((first | refine AW.plan (id := 17) hm (.one 0 (.one 1 (.one 2 (.one 3 (.one 5 (.one 4 (.one 6 (.one 7 (.one 8 (.one 9 (.one 10 (.one 11 (.one 12 (.one 14 (.one 13 (.one 15 (.one 16 (.one 17 .nil)))))))))))))))))) (by kernel_rfl) ?_ | refine AW.plan (id := 19) hm (.one 0 (.one 1 (.one 2 (.one 3 (.one 5 (.one 6 (.one 7 (.one 8 (.one 9 (.one 11 (.one 12 (.one 13 (.one 14 (.one 17 (.one 10 (.one 15 (.imm 4 (.one 16 (.one 18 (.one 19 .nil)))))))))))))))))))) (by kernel_rfl) ?_ | refine AO.cons hT ?_ | refine AO.nil ?_ | refine AW.seq ?_ | refine AW.region ?_ | refine AW.cond ?_ | refine AW.block ?_ | refine AW.loop ?_ | refine AW.skip ?_ | refine AW.exit ?_ | refine AW.ret ?_ | refine AF.one hT rfl ?_ | refine AF.nil ?_ | refine AF.imm hT rfl rfl rfl ?_ | refine AH.of hT rfl ?_ | refine AD.cons hT rfl ?_ | refine AD.nil ?_ | refine AQ.cons hT rfl ?_ | refine AQ.nil ?_); conv => whnf)
  refine ACond.dec (fun h => ?_) (fun h => ?_)
  · conv => whnf
    repeat (first | (refine AW.plan (id := 17) hm (.one 0 (.one 1 (.one 2 (.one 3 (.one 5 (.one 4 (.one 6 (.one 7 (.one 8 (.one 9 (.one 10 (.one 11 (.one 12 (.one 14 (.one 13 (.one 15 (.one 16 (.one 17 .nil)))))))))))))))))) (by kernel_rfl) ?_; conv => whnf) | (refine AW.plan (id := 19) hm (.one 0 (.one 1 (.one 2 (.one 3 (.one 5 (.one 6 (.one 7 (.one 8 (.one 9 (.one 11 (.one 12 (.one 13 (.one 14 (.one 17 (.one 10 (.one 15 (.imm 4 (.one 16 (.one 18 (.one 19 .nil)))))))))))))))))))) (by kernel_rfl) ?_; conv => whnf) | (refine AO.cons hT ?_; conv => whnf) | (refine AO.nil ?_; conv => whnf) | (refine AW.seq ?_; conv => whnf) | (refine AW.region ?_; conv => whnf) | (refine AW.cond ?_; conv => whnf) | (refine AW.block ?_; conv => whnf) | (refine AW.loop ?_; conv => whnf) | (refine AW.skip ?_; conv => whnf) | (refine AW.exit ?_; conv => whnf) | (refine AW.ret ?_; conv => whnf) | (refine AF.one hT rfl ?_; conv => whnf) | (refine AF.nil ?_; conv => whnf) | (refine AF.imm hT rfl rfl rfl ?_; conv => whnf) | (refine AH.of hT rfl ?_; conv => whnf) | (refine ASplit.yes rfl ?_; conv => whnf) | (refine ACond.yes rfl ?_; conv => whnf) | (refine ASplit.no rfl ?_; conv => whnf) | (refine ACond.no rfl ?_; conv => whnf) | (refine ASplit.yes (by decide) ?_; conv => whnf) | (refine ACond.yes (by decide) ?_; conv => whnf) | (refine AReq.mk (by decide) ?_; conv => whnf) | (refine AIdx.iff.2 ⟨by decide, ?_⟩; conv => whnf))
    refine ACall.val (by kernel_rfl) hawake rfl rfl ?_
    conv => whnf
    repeat ((first | refine AW.plan (id := 17) hm (.one 0 (.one 1 (.one 2 (.one 3 (.one 5 (.one 4 (.one 6 (.one 7 (.one 8 (.one 9 (.one 10 (.one 11 (.one 12 (.one 14 (.one 13 (.one 15 (.one 16 (.one 17 .nil)))))))))))))))))) (by kernel_rfl) ?_ | refine AW.plan (id := 19) hm (.one 0 (.one 1 (.one 2 (.one 3 (.one 5 (.one 6 (.one 7 (.one 8 (.one 9 (.one 11 (.one 12 (.one 13 (.one 14 (.one 17 (.one 10 (.one 15 (.imm 4 (.one 16 (.one 18 (.one 19 .nil)))))))))))))))))))) (by kernel_rfl) ?_ | refine AO.cons hT ?_ | refine AO.nil ?_ | refine AW.seq ?_ | refine AW.region ?_ | refine AW.cond ?_ | refine AW.block ?_ | refine AW.loop ?_ | refine AW.skip ?_ | refine AW.exit ?_ | refine AW.ret ?_ | refine AF.one hT rfl ?_ | refine AF.nil ?_ | refine AF.imm hT rfl rfl rfl ?_ | refine AH.of hT rfl ?_ | refine AD.cons hT rfl ?_ | refine AD.nil ?_ | refine AQ.cons hT rfl ?_ | refine AQ.nil ?_); conv => whnf)
    exact hfin
  have hl : l.length ≤ 300 := by omega
  conv => whnf
  refine AW.skip ?_
  conv => whnf
  refine AW.seqJ (fun E H => E = pad [mvs l, .any, .any, .ip (mvC m), .v (.bool false), mvs l] 132 ∧ H = []) ?_ ?_
  · conv => whnf
    repeat ((first | refine AW.plan (id := 17) hm (.one 0 (.one 1 (.one 2 (.one 3 (.one 5 (.one 4 (.one 6 (.one 7 (.one 8 (.one 9 (.one 10 (.one 11 (.one 12 (.one 14 (.one 13 (.one 15 (.one 16 (.one 17 .nil)))))))))))))))))) (by kernel_rfl) ?_ | refine AW.plan (id := 19) hm (.one 0 (.one 1 (.one 2 (.one 3 (.one 5 (.one 6 (.one 7 (.one 8 (.one 9 (.one 11 (.one 12 (.one 13 (.one 14 (.one 17 (.one 10 (.one 15 (.imm 4 (.one 16 (.one 18 (.one 19 .nil)))))))))))))))))))) (by kernel_rfl) ?_ | refine AO.cons hT ?_ | refine AO.nil ?_ | refine AW.seq ?_ | refine AW.region ?_ | refine AW.cond ?_ | refine AW.block ?_ | refine AW.loop ?_ | refine AW.skip ?_ | refine AW.exit ?_ | refine AW.ret ?_ | refine AF.one hT rfl ?_ | refine AF.nil ?_ | refine AF.imm hT rfl rfl rfl ?_ | refine AH.of hT rfl ?_ | refine AD.cons hT rfl ?_ | refine AD.nil ?_ | refine AQ.cons hT rfl ?_ | refine AQ.nil ?_); conv => whnf)
    refine AReq.mk (by rw [eb]; omega) ?_
    refine ASplit.dec (fun h0 => ?_) (fun h0 => ?_)
    · obtain rfl : l = [] := List.eq_nil_of_length_eq_zero h0
      conv => whnf
      repeat ((first | refine AW.plan (id := 17) hm (.one 0 (.one 1 (.one 2 (.one 3 (.one 5 (.one 4 (.one 6 (.one 7 (.one 8 (.one 9 (.one 10 (.one 11 (.one 12 (.one 14 (.one 13 (.one 15 (.one 16 (.one 17 .nil)))))))))))))))))) (by kernel_rfl) ?_ | refine AW.plan (id := 19) hm (.one 0 (.one 1 (.one 2 (.one 3 (.one 5 (.one 6 (.one 7 (.one 8 (.one 9 (.one 11 (.one 12 (.one 13 (.one 14 (.one 17 (.one 10 (.one 15 (.imm 4 (.one 16 (.one 18 (.one 19 .nil)))))))))))))))))))) (by kernel_rfl) ?_ | refine AO.cons hT ?_ | refine AO.nil ?_ | refine AW.seq ?_ | refine AW.region ?_ | refine AW.cond ?_ | refine AW.block ?_ | refine AW.loop ?_ | refine AW.skip ?_ | refine AW.exit ?_ | refine AW.ret ?_ | refine AF.one hT rfl ?_ | refine AF.nil ?_ | refine AF.imm hT rfl rfl rfl ?_ | refine AH.of hT rfl ?_ | refine AD.cons hT rfl ?_ | refine AD.nil ?_ | refine AQ.cons hT rfl ?_ | refine AQ.nil ?_); conv => whnf)
      exact AOut.to _ _ (Conv.outs (.cons (.it _) (.cons .any (.cons .any (.cons (.sip rfl) (.cons (.it _) (.cons (.vx (cs' := []) rfl) (LendL.anys _))))))) (fun ρ => rfl)) ⟨rfl, rfl⟩
    · conv => whnf
      repeat ((first | refine AW.plan (id := 17) hm (.one 0 (.one 1 (.one 2 (.one 3 (.one 5 (.one 4 (.one 6 (.one 7 (.one 8 (.one 9 (.one 10 (.one 11 (.one 12 (.one 14 (.one 13 (.one 15 (.one 16 (.one 17 .nil)))))))))))))))))) (by kernel_rfl) ?_ | refine AW.plan (id := 19) hm (.one 0 (.one 1 (.one 2 (.one 3 (.one 5 (.one 6 (.one 7 (.one 8 (.one 9 (.one 11 (.one 12 (.one 13 (.one 14 (.one 17 (.one 10 (.one 15 (.imm 4 (.one 16 (.one 18 (.one 19 .nil)))))))))))))))))))) (by kernel_rfl) ?_ | refine AO.cons hT ?_ | refine AO.nil ?_ | refine AW.seq ?_ | refine AW.region ?_ | refine AW.cond ?_ | refine AW.block ?_ | refine AW.loop ?_ | refine AW.skip ?_ | refine AW.exit ?_ | refine AW.ret ?_ | refine AF.one hT rfl ?_ | refine AF.nil ?_ | refine AF.imm hT rfl rfl rfl ?_ | refine AH.of hT rfl ?_ | refine AD.cons hT rfl ?_ | refine AD.nil ?_ | refine AQ.cons hT rfl ?_ | refine AQ.nil ?_); conv => whnf)
      rw [Nat.zero_add l.length]
      refine AOut.to (pad [mvs l, .any, .any, .ip (mvC m), .v (.bool false), mvs l] 132) [] (Conv.outs (.cons (.it _) (.cons .any (.cons .any (.cons (.sip rfl) (.cons (.it _) (.cons (.sm rfl ?_) (LendL.anys _))))))) (fun ρ => ?_)) ⟨rfl, rfl⟩
      · exact (mvs_len l).symm
      · simp [pad, renL, AV.ren, renL_mvs, mvs, mvC]
  rintro _ _ ⟨rfl, rfl⟩
  conv => whnf
  repeat ((first | refine AW.plan (id := 17) hm (.one 0 (.one 1 (.one 2 (.one 3 (.one 5 (.one 4 (.one 6 (.one 7 (.one 8 (.one 9 (.one 10 (.one 11 (.one 12 (.one 14 (.one 13 (.one 15 (.one 16 (.one 17 .nil)))))))))))))))))) (by kernel_rfl) ?_ | refine AW.plan (id := 19) hm (.one 0 (.one 1 (.one 2 (.one 3 (.one 5 (.one 6 (.one 7 (.one 8 (.one 9 (.one 11 (.one 12 (.one 13 (.one 14 (.one 17 (.one 10 (.one 15 (.imm 4 (.one 16 (.one 18 (.one 19 .nil)))))))))))))))))))) (by kernel_rfl) ?_ | refine AO.cons hT ?_ | refine AO.nil ?_ | refine AW.seq ?_ | refine AW.region ?_ | refine AW.cond ?_ | refine AW.block ?_ | refine AW.loop ?_ | refine AW.skip ?_ | refine AW.exit ?_ | refine AW.ret ?_ | refine AF.one hT rfl ?_ | refine AF.nil ?_ | refine AF.imm hT rfl rfl rfl ?_ | refine AH.of hT rfl ?_ | refine AD.cons hT rfl ?_ | refine AD.nil ?_ | refine AQ.cons hT rfl ?_ | refine AQ.nil ?_); conv => whnf)
  refine ACall.val (by kernel_rfl) (f21v l m (by omega)) (by simp [renL, AV.ren, renL_mvs, mvs, mvC]) (ren_two _ _ _ (ren_mvs _ _) rfl) ?_
  conv => whnf
  repeat ((first | refine AW.plan (id := 17) hm (.one 0 (.one 1 (.one 2 (.one 3 (.one 5 (.one 4 (.one 6 (.one 7 (.one 8 (.one 9 (.one 10 (.one 11 (.one 12 (.one 14 (.one 13 (.one 15 (.one 16 (.one 17 .nil)))))))))))))))))) (by kernel_rfl) ?_ | refine AW.plan (id := 19) hm (.one 0 (.one 1 (.one 2 (.one 3 (.one 5 (.one 6 (.one 7 (.one 8 (.one 9 (.one 11 (.one 12 (.one 13 (.one 14 (.one 17 (.one 10 (.one 15 (.imm 4 (.one 16 (.one 18 (.one 19 .nil)))))))))))))))))))) (by kernel_rfl) ?_ | refine AO.cons hT ?_ | refine AO.nil ?_ | refine AW.seq ?_ | refine AW.region ?_ | refine AW.cond ?_ | refine AW.block ?_ | refine AW.loop ?_ | refine AW.skip ?_ | refine AW.exit ?_ | refine AW.ret ?_ | refine AF.one hT rfl ?_ | refine AF.nil ?_ | refine AF.imm hT rfl rfl rfl ?_ | refine AH.of hT rfl ?_ | refine AD.cons hT rfl ?_ | refine AD.nil ?_ | refine AQ.cons hT rfl ?_ | refine AQ.nil ?_); conv => whnf)
  refine ACall.val (by kernel_rfl) (f27 l l (by omega) (by omega)) (by simp [renL, AV.ren, renL_mvs, mvs, mvC]) rfl ?_
  rw [decide_eq_true (rfl : l = l)]
  conv => whnf
  repeat (first | (refine AW.plan (id := 17) hm (.one 0 (.one 1 (.one 2 (.one 3 (.one 5 (.one 4 (.one 6 (.one 7 (.one 8 (.one 9 (.one 10 (.one 11 (.one 12 (.one 14 (.one 13 (.one 15 (.one 16 (.one 17 .nil)))))))))))))))))) (by kernel_rfl) ?_; conv => whnf) | (refine AW.plan (id := 19) hm (.one 0 (.one 1 (.one 2 (.one 3 (.one 5 (.one 6 (.one 7 (.one 8 (.one 9 (.one 11 (.one 12 (.one 13 (.one 14 (.one 17 (.one 10 (.one 15 (.imm 4 (.one 16 (.one 18 (.one 19 .nil)))))))))))))))))))) (by kernel_rfl) ?_; conv => whnf) | (refine AO.cons hT ?_; conv => whnf) | (refine AO.nil ?_; conv => whnf) | (refine AW.seq ?_; conv => whnf) | (refine AW.region ?_; conv => whnf) | (refine AW.cond ?_; conv => whnf) | (refine AW.block ?_; conv => whnf) | (refine AW.loop ?_; conv => whnf) | (refine AW.skip ?_; conv => whnf) | (refine AW.exit ?_; conv => whnf) | (refine AW.ret ?_; conv => whnf) | (refine AF.one hT rfl ?_; conv => whnf) | (refine AF.nil ?_; conv => whnf) | (refine AF.imm hT rfl rfl rfl ?_; conv => whnf) | (refine AH.of hT rfl ?_; conv => whnf) | (refine ASplit.yes rfl ?_; conv => whnf) | (refine ACond.yes rfl ?_; conv => whnf) | (refine ASplit.no rfl ?_; conv => whnf) | (refine ACond.no rfl ?_; conv => whnf) | (refine ASplit.yes (by decide) ?_; conv => whnf) | (refine ACond.yes (by decide) ?_; conv => whnf) | (refine AReq.mk (by decide) ?_; conv => whnf) | (refine AIdx.iff.2 ⟨by decide, ?_⟩; conv => whnf))
  by_cases hz : addF l m = 0
  rotate_left
  · refine ACond.yes (by simpa using hz) ?_
    rw [addL, if_neg hz]
    conv => whnf
    repeat (first | (refine AW.plan (id := 17) hm (.one 0 (.one 1 (.one 2 (.one 3 (.one 5 (.one 4 (.one 6 (.one 7 (.one 8 (.one 9 (.one 10 (.one 11 (.one 12 (.one 14 (.one 13 (.one 15 (.one 16 (.one 17 .nil)))))))))))))))))) (by kernel_rfl) ?_; conv => whnf) | (refine AW.plan (id := 19) hm (.one 0 (.one 1 (.one 2 (.one 3 (.one 5 (.one 6 (.one 7 (.one 8 (.one 9 (.one 11 (.one 12 (.one 13 (.one 14 (.one 17 (.one 10 (.one 15 (.imm 4 (.one 16 (.one 18 (.one 19 .nil)))))))))))))))))))) (by kernel_rfl) ?_; conv => whnf) | (refine AO.cons hT ?_; conv => whnf) | (refine AO.nil ?_; conv => whnf) | (refine AW.seq ?_; conv => whnf) | (refine AW.region ?_; conv => whnf) | (refine AW.cond ?_; conv => whnf) | (refine AW.block ?_; conv => whnf) | (refine AW.loop ?_; conv => whnf) | (refine AW.skip ?_; conv => whnf) | (refine AW.exit ?_; conv => whnf) | (refine AW.ret ?_; conv => whnf) | (refine AF.one hT rfl ?_; conv => whnf) | (refine AF.nil ?_; conv => whnf) | (refine AF.imm hT rfl rfl rfl ?_; conv => whnf) | (refine AH.of hT rfl ?_; conv => whnf) | (refine ASplit.yes rfl ?_; conv => whnf) | (refine ACond.yes rfl ?_; conv => whnf) | (refine ASplit.no rfl ?_; conv => whnf) | (refine ACond.no rfl ?_; conv => whnf) | (refine ASplit.yes (by decide) ?_; conv => whnf) | (refine ACond.yes (by decide) ?_; conv => whnf) | (refine AReq.mk (by decide) ?_; conv => whnf) | (refine AIdx.iff.2 ⟨by decide, ?_⟩; conv => whnf))
    refine ACall.val (by kernel_rfl) hawake rfl rfl ?_
    conv => whnf
    repeat ((first | refine AW.plan (id := 17) hm (.one 0 (.one 1 (.one 2 (.one 3 (.one 5 (.one 4 (.one 6 (.one 7 (.one 8 (.one 9 (.one 10 (.one 11 (.one 12 (.one 14 (.one 13 (.one 15 (.one 16 (.one 17 .nil)))))))))))))))))) (by kernel_rfl) ?_ | refine AW.plan (id := 19) hm (.one 0 (.one 1 (.one 2 (.one 3 (.one 5 (.one 6 (.one 7 (.one 8 (.one 9 (.one 11 (.one 12 (.one 13 (.one 14 (.one 17 (.one 10 (.one 15 (.imm 4 (.one 16 (.one 18 (.one 19 .nil)))))))))))))))))))) (by kernel_rfl) ?_ | refine AO.cons hT ?_ | refine AO.nil ?_ | refine AW.seq ?_ | refine AW.region ?_ | refine AW.cond ?_ | refine AW.block ?_ | refine AW.loop ?_ | refine AW.skip ?_ | refine AW.exit ?_ | refine AW.ret ?_ | refine AF.one hT rfl ?_ | refine AF.nil ?_ | refine AF.imm hT rfl rfl rfl ?_ | refine AH.of hT rfl ?_ | refine AD.cons hT rfl ?_ | refine AD.nil ?_ | refine AQ.cons hT rfl ?_ | refine AQ.nil ?_); conv => whnf)
    exact hfin
  refine ACond.no (by simpa using hz) ?_
  rw [addL, if_pos hz]
  obtain ⟨hg0, hm0, hl1, hp1, hp2⟩ := add_good hz
  have hg := good_add hz
  have hn : (l ++ [m]).length = l.length + 1 := by simp
  conv => whnf
  repeat ((first | refine AW.plan (id := 17) hm (.one 0 (.one 1 (.one 2 (.one 3 (.one 5 (.one 4 (.one 6 (.one 7 (.one 8 (.one 9 (.one 10 (.one 11 (.one 12 (.one 14 (.one 13 (.one 15 (.one 16 (.one 17 .nil)))))))))))))))))) (by kernel_rfl) ?_ | refine AW.plan (id := 19) hm (.one 0 (.one 1 (.one 2 (.one 3 (.one 5 (.one 6 (.one 7 (.one 8 (.one 9 (.one 11 (.one 12 (.one 13 (.one 14 (.one 17 (.one 10 (.one 15 (.imm 4 (.one 16 (.one 18 (.one 19 .nil)))))))))))))))))))) (by kernel_rfl) ?_ | refine AO.cons hT ?_ | refine AO.nil ?_ | refine AW.seq ?_ | refine AW.region ?_ | refine AW.cond ?_ | refine AW.block ?_ | refine AW.loop ?_ | refine AW.skip ?_ | refine AW.exit ?_ | refine AW.ret ?_ | refine AF.one hT rfl ?_ | refine AF.nil ?_ | refine AF.imm hT rfl rfl rfl ?_ | refine AH.of hT rfl ?_ | refine AD.cons hT rfl ?_ | refine AD.nil ?_ | refine AQ.cons hT rfl ?_ | refine AQ.nil ?_); conv => whnf)
  refine ACall.out (by kernel_rfl) (f28v (l ++ [m]) (by omega)) (renL_one _ _) ?_
  rw [chkF_yes hg]
  rintro _ ⟨d, hd | hd, rfl⟩
  rotate_left
  · exact absurd hg hd.1
  replace hd := hd.2
  rw [ren_two _ _ _ (ren_hds _ _) rfl]
  conv => whnf
  repeat (first | (refine AW.plan (id := 17) hm (.one 0 (.one 1 (.one 2 (.one 3 (.one 5 (.one 4 (.one 6 (.one 7 (.one 8 (.one 9 (.one 10 (.one 11 (.one 12 (.one 14 (.one 13 (.one 15 (.one 16 (.one 17 .nil)))))))))))))))))) (by kernel_rfl) ?_; conv => whnf) | (refine AW.plan (id := 19) hm (.one 0 (.one 1 (.one 2 (.one 3 (.one 5 (.one 6 (.one 7 (.one 8 (.one 9 (.one 11 (.one 12 (.one 13 (.one 14 (.one 17 (.one 10 (.one 15 (.imm 4 (.one 16 (.one 18 (.one 19 .nil)))))))))))))))))))) (by kernel_rfl) ?_; conv => whnf) | (refine AO.cons hT ?_; conv => whnf) | (refine AO.nil ?_; conv => whnf) | (refine AW.seq ?_; conv => whnf) | (refine AW.region ?_; conv => whnf) | (refine AW.cond ?_; conv => whnf) | (refine AW.block ?_; conv => whnf) | (refine AW.loop ?_; conv => whnf) | (refine AW.skip ?_; conv => whnf) | (refine AW.exit ?_; conv => whnf) | (refine AW.ret ?_; conv => whnf) | (refine AF.one hT rfl ?_; conv => whnf) | (refine AF.nil ?_; conv => whnf) | (refine AF.imm hT rfl rfl rfl ?_; conv => whnf) | (refine AH.of hT rfl ?_; conv => whnf) | (refine ASplit.yes rfl ?_; conv => whnf) | (refine ACond.yes rfl ?_; conv => whnf) | (refine ASplit.no rfl ?_; conv => whnf) | (refine ACond.no rfl ?_; conv => whnf) | (refine ASplit.yes (by decide) ?_; conv => whnf) | (refine ACond.yes (by decide) ?_; conv => whnf) | (refine AReq.mk (by decide) ?_; conv => whnf) | (refine AIdx.iff.2 ⟨by decide, ?_⟩; conv => whnf))
  refine ACall.val (by kernel_rfl) (f25 (l ++ [m]) (by omega)) (renL_one _ _) rfl ?_
  rw [chkF_yes hg]
  conv => whnf
  repeat (first | (refine AW.plan (id := 17) hm (.one 0 (.one 1 (.one 2 (.one 3 (.one 5 (.one 4 (.one 6 (.one 7 (.one 8 (.one 9 (.one 10 (.one 11 (.one 12 (.one 14 (.one 13 (.one 15 (.one 16 (.one 17 .nil)))))))))))))))))) (by kernel_rfl) ?_; conv => whnf) | (refine AW.plan (id := 19) hm (.one 0 (.one 1 (.one 2 (.one 3 (.one 5 (.one 6 (.one 7 (.one 8 (.one 9 (.one 11 (.one 12 (.one 13 (.one 14 (.one 17 (.one 10 (.one 15 (.imm 4 (.one 16 (.one 18 (.one 19 .nil)))))))))))))))))))) (by kernel_rfl) ?_; conv => whnf) | (refine AO.cons hT ?_; conv => whnf) | (refine AO.nil ?_; conv => whnf) | (refine AW.seq ?_; conv => whnf) | (refine AW.region ?_; conv => whnf) | (refine AW.cond ?_; conv => whnf) | (refine AW.block ?_; conv => whnf) | (refine AW.loop ?_; conv => whnf) | (refine AW.skip ?_; conv => whnf) | (refine AW.exit ?_; conv => whnf) | (refine AW.ret ?_; conv => whnf) | (refine AF.one hT rfl ?_; conv => whnf) | (refine AF.nil ?_; conv => whnf) | (refine AF.imm hT rfl rfl rfl ?_; conv => whnf) | (refine AH.of hT rfl ?_; conv => whnf) | (refine ASplit.yes rfl ?_; conv => whnf) | (refine ACond.yes rfl ?_; conv => whnf) | (refine ASplit.no rfl ?_; conv => whnf) | (refine ACond.no rfl ?_; conv => whnf) | (refine ASplit.yes (by decide) ?_; conv => whnf) | (refine ACond.yes (by decide) ?_; conv => whnf) | (refine AReq.mk (by decide) ?_; conv => whnf) | (refine AIdx.iff.2 ⟨by decide, ?_⟩; conv => whnf))
  refine ACond.no (by rw [hn, wrap_i64 ((l.length : Int) + 1) (by omega) (by omega)]; simp) ?_
  conv => whnf
  repeat (first | (refine AW.plan (id := 17) hm (.one 0 (.one 1 (.one 2 (.one 3 (.one 5 (.one 4 (.one 6 (.one 7 (.one 8 (.one 9 (.one 10 (.one 11 (.one 12 (.one 14 (.one 13 (.one 15 (.one 16 (.one 17 .nil)))))))))))))))))) (by kernel_rfl) ?_; conv => whnf) | (refine AW.plan (id := 19) hm (.one 0 (.one 1 (.one 2 (.one 3 (.one 5 (.one 6 (.one 7 (.one 8 (.one 9 (.one 11 (.one 12 (.one 13 (.one 14 (.one 17 (.one 10 (.one 15 (.imm 4 (.one 16 (.one 18 (.one 19 .nil)))))))))))))))))))) (by kernel_rfl) ?_; conv => whnf) | (refine AO.cons hT ?_; conv => whnf) | (refine AO.nil ?_; conv => whnf) | (refine AW.seq ?_; conv => whnf) | (refine AW.region ?_; conv => whnf) | (refine AW.cond ?_; conv => whnf) | (refine AW.block ?_; conv => whnf) | (refine AW.loop ?_; conv => whnf) | (refine AW.skip ?_; conv => whnf) | (refine AW.exit ?_; conv => whnf) | (refine AW.ret ?_; conv => whnf) | (refine AF.one hT rfl ?_; conv => whnf) | (refine AF.nil ?_; conv => whnf) | (refine AF.imm hT rfl rfl rfl ?_; conv => whnf) | (refine AH.of hT rfl ?_; conv => whnf) | (refine ASplit.yes rfl ?_; conv => whnf) | (refine ACond.yes rfl ?_; conv => whnf) | (refine ASplit.no rfl ?_; conv => whnf) | (refine ACond.no rfl ?_; conv => whnf) | (refine ASplit.yes (by decide) ?_; conv => whnf) | (refine ACond.yes (by decide) ?_; conv => whnf) | (refine AReq.mk (by decide) ?_; conv => whnf) | (refine AIdx.iff.2 ⟨by decide, ?_⟩; conv => whnf))
  have hdl := allOf_len hd
  have hq : ∀ x ∈ d, 0 ≤ x.2.2 ∧ x.2.2 ≤ 1000000 := fun x hx => by
    rw [((hd.mem x).1 hx).2]
    have := pre_ok hg x.1 x.2.1 (l ++ [m]).length (Nat.le_refl _)
    rwa [List.take_length] at this
  have hht := hs_take (fun x hx => (hq x hx).1)
  have hsa := all_sum hd
  have hmk : ∀ x ∈ l ++ [m], mok x := fun x hx => by
    obtain ⟨k, hk, rfl⟩ := List.mem_iff_getElem.1 hx
    exact (hg.2 k hk).1
  have hqt := qs_take hmk
  have hqa := hqt _ (Nat.le_refl _)
  rw [List.take_length] at hqa
  refine ALoop.mk (fun n E H => ∃ i : Nat, i ≤ d.length ∧ n = d.length - i ∧ E = pad [mvs l, .any, .any, .ip (mvC m), .v (.bool false), .any, mvs (l ++ [m]), .any, hds d, .any, nV (hs (d.take i)), nV 0, nV i] 132 ∧ H = []) (n := d.length) _ _ ⟨0, by omega, rfl, rfl, rfl⟩ (Conv.fit ?_) ?_
  · repeat' (first | exact Fit.nil | refine Fit.any ?_ | refine Fit.same ?_)
  rintro _ _ _ ⟨i, hi, rfl, rfl, rfl⟩
  conv => whnf
  repeat ((first | refine AW.plan (id := 17) hm (.one 0 (.one 1 (.one 2 (.one 3 (.one 5 (.one 4 (.one 6 (.one 7 (.one 8 (.one 9 (.one 10 (.one 11 (.one 12 (.one 14 (.one 13 (.one 15 (.one 16 (.one 17 .nil)))))))))))))))))) (by kernel_rfl) ?_ | refine AW.plan (id := 19) hm (.one 0 (.one 1 (.one 2 (.one 3 (.one 5 (.one 6 (.one 7 (.one 8 (.one 9 (.one 11 (.one 12 (.one 13 (.one 14 (.one 17 (.one 10 (.one 15 (.imm 4 (.one 16 (.one 18 (.one 19 .nil)))))))))))))))))))) (by kernel_rfl) ?_ | refine AO.cons hT ?_ | refine AO.nil ?_ | refine AW.seq ?_ | refine AW.region ?_ | refine AW.cond ?_ | refine AW.block ?_ | refine AW.loop ?_ | refine AW.skip ?_ | refine AW.exit ?_ | refine AW.ret ?_ | refine AF.one hT rfl ?_ | refine AF.nil ?_ | refine AF.imm hT rfl rfl rfl ?_ | refine AH.of hT rfl ?_ | refine AD.cons hT rfl ?_ | refine AD.nil ?_ | refine AQ.cons hT rfl ?_ | refine AQ.nil ?_); conv => whnf)
  refine ACond.dec (fun h => ?_) (fun h => ?_)
  · have hil : i < d.length := by omega
    have e1 : Int.toNat (i : Int) = i := by omega
    obtain ⟨⟨m', hm', hp', hi'⟩, hsu⟩ := (hd.mem d[i]).1 (List.getElem_mem hil)
    have hth : thOk (d[i].1, d[i].2.1) := by
      have := mok_th (hmk m' hm')
      rwa [hp', hi'] at this
    rw [sumOf_snoc] at hsu
    have hof : ofF' l d[i].1 d[i].2.1 = sumOf l d[i].1 d[i].2.1 := if_pos hg0
    have hb1 := good_sum hg0 d[i].1 d[i].2.1
    have hb2 := hht i
    have hb3 := hht (i + 1)
    have hsn := hs_snoc (d.take i) d[i]
    rw [← take_snoc d i hil] at hsn
    conv => whnf
    repeat ((first | refine AW.plan (id := 17) hm (.one 0 (.one 1 (.one 2 (.one 3 (.one 5 (.one 4 (.one 6 (.one 7 (.one 8 (.one 9 (.one 10 (.one 11 (.one 12 (.one 14 (.one 13 (.one 15 (.one 16 (.one 17 .nil)))))))))))))))))) (by kernel_rfl) ?_ | refine AW.plan (id := 19) hm (.one 0 (.one 1 (.one 2 (.one 3 (.one 5 (.one 6 (.one 7 (.one 8 (.one 9 (.one 11 (.one 12 (.one 13 (.one 14 (.one 17 (.one 10 (.one 15 (.imm 4 (.one 16 (.one 18 (.one 19 .nil)))))))))))))))))))) (by kernel_rfl) ?_ | refine AO.cons hT ?_ | refine AO.nil ?_ | refine AW.seq ?_ | refine AW.region ?_ | refine AW.cond ?_ | refine AW.block ?_ | refine AW.loop ?_ | refine AW.skip ?_ | refine AW.exit ?_ | refine AW.ret ?_ | refine AF.one hT rfl ?_ | refine AF.nil ?_ | refine AF.imm hT rfl rfl rfl ?_ | refine AH.of hT rfl ?_ | refine AD.cons hT rfl ?_ | refine AD.nil ?_ | refine AQ.cons hT rfl ?_ | refine AQ.nil ?_ | (refine AReq.mk (by omega) ?_) | (refine AIdx.at hdC_len (xs := d) i (by omega) hil ?_) | (refine ACall.val (by kernel_rfl) (f32 l d[i].1 d[i].2.1 (by omega) hth) (by simp [renL, AV.ren, renL_mvs, mvs]) rfl ?_)); conv => whnf)
    refine ASplit.mk (fun h1 => ?_) (fun h1 => ?_)
    · conv => whnf
      repeat ((first | refine AW.plan (id := 17) hm (.one 0 (.one 1 (.one 2 (.one 3 (.one 5 (.one 4 (.one 6 (.one 7 (.one 8 (.one 9 (.one 10 (.one 11 (.one 12 (.one 14 (.one 13 (.one 15 (.one 16 (.one 17 .nil)))))))))))))))))) (by kernel_rfl) ?_ | refine AW.plan (id := 19) hm (.one 0 (.one 1 (.one 2 (.one 3 (.one 5 (.one 6 (.one 7 (.one 8 (.one 9 (.one 11 (.one 12 (.one 13 (.one 14 (.one 17 (.one 10 (.one 15 (.imm 4 (.one 16 (.one 18 (.one 19 .nil)))))))))))))))))))) (by kernel_rfl) ?_ | refine AO.cons hT ?_ | refine AO.nil ?_ | refine AW.seq ?_ | refine AW.region ?_ | refine AW.cond ?_ | refine AW.block ?_ | refine AW.loop ?_ | refine AW.skip ?_ | refine AW.exit ?_ | refine AW.ret ?_ | refine AF.one hT rfl ?_ | refine AF.nil ?_ | refine AF.imm hT rfl rfl rfl ?_ | refine AH.of hT rfl ?_ | refine AD.cons hT rfl ?_ | refine AD.nil ?_ | refine AQ.cons hT rfl ?_ | refine AQ.nil ?_ | (refine AReq.mk (by omega) ?_) | (refine AIdx.at hdC_len (xs := d) i (by omega) hil ?_) | (refine ACall.val (by kernel_rfl) (f32 l d[i].1 d[i].2.1 (by omega) hth) (by simp [renL, AV.ren, renL_mvs, mvs]) rfl ?_)); conv => whnf)
      by_cases h2 : d[i].2.1 = m.i
      · have hmat : mat m d[i].1 d[i].2.1 = true := (mat_iff m (d[i].1, d[i].2.1)).2 (by rw [← eq_of_beq h1, h2])
        rw [if_pos hmat] at hsu
        have hmq := hm0.2.2.2
        refine ACond.yes (decide_eq_true h2) ?_
        conv => whnf
        repeat ((first | refine AW.plan (id := 17) hm (.one 0 (.one 1 (.one 2 (.one 3 (.one 5 (.one 4 (.one 6 (.one 7 (.one 8 (.one 9 (.one 10 (.one 11 (.one 12 (.one 14 (.one 13 (.one 15 (.one 16 (.one 17 .nil)))))))))))))))))) (by kernel_rfl) ?_ | refine AW.plan (id := 19) hm (.one 0 (.one 1 (.one 2 (.one 3 (.one 5 (.one 6 (.one 7 (.one 8 (.one 9 (.one 11 (.one 12 (.one 13 (.one 14 (.one 17 (.one 10 (.one 15 (.imm 4 (.one 16 (.one 18 (.one 19 .nil)))))))))))))))))))) (by kernel_rfl) ?_ | refine AO.cons hT ?_ | refine AO.nil ?_ | refine AW.seq ?_ | refine AW.region ?_ | refine AW.cond ?_ | refine AW.block ?_ | refine AW.loop ?_ | refine AW.skip ?_ | refine AW.exit ?_ | refine AW.ret ?_ | refine AF.one hT rfl ?_ | refine AF.nil ?_ | refine AF.imm hT rfl rfl rfl ?_ | refine AH.of hT rfl ?_ | refine AD.cons hT rfl ?_ | refine AD.nil ?_ | refine AQ.cons hT rfl ?_ | refine AQ.nil ?_ | (refine AReq.mk (by omega) ?_) | (refine AIdx.at hdC_len (xs := d) i (by omega) hil ?_) | (refine ACall.val (by kernel_rfl) (f32 l d[i].1 d[i].2.1 (by omega) hth) (by simp [renL, AV.ren, renL_mvs, mvs]) rfl ?_)); conv => whnf)
        refine ACond.no (by rw [hof, wrap_i64 _ (by omega) (by omega), hsu]; simp) ?_
        conv => whnf
        repeat ((first | refine AW.plan (id := 17) hm (.one 0 (.one 1 (.one 2 (.one 3 (.one 5 (.one 4 (.one 6 (.one 7 (.one 8 (.one 9 (.one 10 (.one 11 (.one 12 (.one 14 (.one 13 (.one 15 (.one 16 (.one 17 .nil)))))))))))))))))) (by kernel_rfl) ?_ | refine AW.plan (id := 19) hm (.one 0 (.one 1 (.one 2 (.one 3 (.one 5 (.one 6 (.one 7 (.one 8 (.one 9 (.one 11 (.one 12 (.one 13 (.one 14 (.one 17 (.one 10 (.one 15 (.imm 4 (.one 16 (.one 18 (.one 19 .nil)))))))))))))))))))) (by kernel_rfl) ?_ | refine AO.cons hT ?_ | refine AO.nil ?_ | refine AW.seq ?_ | refine AW.region ?_ | refine AW.cond ?_ | refine AW.block ?_ | refine AW.loop ?_ | refine AW.skip ?_ | refine AW.exit ?_ | refine AW.ret ?_ | refine AF.one hT rfl ?_ | refine AF.nil ?_ | refine AF.imm hT rfl rfl rfl ?_ | refine AH.of hT rfl ?_ | refine AD.cons hT rfl ?_ | refine AD.nil ?_ | refine AQ.cons hT rfl ?_ | refine AQ.nil ?_ | (refine AReq.mk (by omega) ?_) | (refine AIdx.at hdC_len (xs := d) i (by omega) hil ?_) | (refine ACall.val (by kernel_rfl) (f32 l d[i].1 d[i].2.1 (by omega) hth) (by simp [renL, AV.ren, renL_mvs, mvs]) rfl ?_)); conv => whnf)
        rw [wrap_i64 ((i : Int) + 1) (by omega) (by omega), wrap_i64 (hs (d.take i) + d[i].2.2) (by omega) (by omega), ← hsn]
        refine AHead.mk (d.length - (i + 1)) _ _ (by omega) ⟨i + 1, by omega, rfl, rfl, rfl⟩ (Conv.fit ?_)
        repeat' (first | exact Fit.nil | refine Fit.any ?_ | refine Fit.same ?_)
      · have hmat : ¬ mat m d[i].1 d[i].2.1 = true := fun hc => h2 (congrArg Prod.snd ((mat_iff m (d[i].1, d[i].2.1)).1 hc)).symm
        rw [if_neg hmat] at hsu
        refine ACond.no (decide_eq_false h2) ?_
        conv => whnf
        repeat ((first | refine AW.plan (id := 17) hm (.one 0 (.one 1 (.one 2 (.one 3 (.one 5 (.one 4 (.one 6 (.one 7 (.one 8 (.one 9 (.one 10 (.one 11 (.one 12 (.one 14 (.one 13 (.one 15 (.one 16 (.one 17 .nil)))))))))))))))))) (by kernel_rfl) ?_ | refine AW.plan (id := 19) hm (.one 0 (.one 1 (.one 2 (.one 3 (.one 5 (.one 6 (.one 7 (.one 8 (.one 9 (.one 11 (.one 12 (.one 13 (.one 14 (.one 17 (.one 10 (.one 15 (.imm 4 (.one 16 (.one 18 (.one 19 .nil)))))))))))))))))))) (by kernel_rfl) ?_ | refine AO.cons hT ?_ | refine AO.nil ?_ | refine AW.seq ?_ | refine AW.region ?_ | refine AW.cond ?_ | refine AW.block ?_ | refine AW.loop ?_ | refine AW.skip ?_ | refine AW.exit ?_ | refine AW.ret ?_ | refine AF.one hT rfl ?_ | refine AF.nil ?_ | refine AF.imm hT rfl rfl rfl ?_ | refine AH.of hT rfl ?_ | refine AD.cons hT rfl ?_ | refine AD.nil ?_ | refine AQ.cons hT rfl ?_ | refine AQ.nil ?_ | (refine AReq.mk (by omega) ?_) | (refine AIdx.at hdC_len (xs := d) i (by omega) hil ?_) | (refine ACall.val (by kernel_rfl) (f32 l d[i].1 d[i].2.1 (by omega) hth) (by simp [renL, AV.ren, renL_mvs, mvs]) rfl ?_)); conv => whnf)
        refine ACond.no (by rw [hof, wrap_i64 _ (by omega) (by omega), hsu]; simp) ?_
        conv => whnf
        repeat ((first | refine AW.plan (id := 17) hm (.one 0 (.one 1 (.one 2 (.one 3 (.one 5 (.one 4 (.one 6 (.one 7 (.one 8 (.one 9 (.one 10 (.one 11 (.one 12 (.one 14 (.one 13 (.one 15 (.one 16 (.one 17 .nil)))))))))))))))))) (by kernel_rfl) ?_ | refine AW.plan (id := 19) hm (.one 0 (.one 1 (.one 2 (.one 3 (.one 5 (.one 6 (.one 7 (.one 8 (.one 9 (.one 11 (.one 12 (.one 13 (.one 14 (.one 17 (.one 10 (.one 15 (.imm 4 (.one 16 (.one 18 (.one 19 .nil)))))))))))))))))))) (by kernel_rfl) ?_ | refine AO.cons hT ?_ | refine AO.nil ?_ | refine AW.seq ?_ | refine AW.region ?_ | refine AW.cond ?_ | refine AW.block ?_ | refine AW.loop ?_ | refine AW.skip ?_ | refine AW.exit ?_ | refine AW.ret ?_ | refine AF.one hT rfl ?_ | refine AF.nil ?_ | refine AF.imm hT rfl rfl rfl ?_ | refine AH.of hT rfl ?_ | refine AD.cons hT rfl ?_ | refine AD.nil ?_ | refine AQ.cons hT rfl ?_ | refine AQ.nil ?_ | (refine AReq.mk (by omega) ?_) | (refine AIdx.at hdC_len (xs := d) i (by omega) hil ?_) | (refine ACall.val (by kernel_rfl) (f32 l d[i].1 d[i].2.1 (by omega) hth) (by simp [renL, AV.ren, renL_mvs, mvs]) rfl ?_)); conv => whnf)
        rw [wrap_i64 ((i : Int) + 1) (by omega) (by omega), wrap_i64 (hs (d.take i) + d[i].2.2) (by omega) (by omega), ← hsn]
        refine AHead.mk (d.length - (i + 1)) _ _ (by omega) ⟨i + 1, by omega, rfl, rfl, rfl⟩ (Conv.fit ?_)
        repeat' (first | exact Fit.nil | refine Fit.any ?_ | refine Fit.same ?_)
    · have hmat : ¬ mat m d[i].1 d[i].2.1 = true := fun hc => by
        have := congrArg Prod.fst ((mat_iff m (d[i].1, d[i].2.1)).1 hc)
        rw [show d[i].1 = m.p from this.symm] at h1
        simp at h1
      rw [if_neg hmat] at hsu
      conv => whnf
      repeat (first | (refine AW.plan (id := 17) hm (.one 0 (.one 1 (.one 2 (.one 3 (.one 5 (.one 4 (.one 6 (.one 7 (.one 8 (.one 9 (.one 10 (.one 11 (.one 12 (.one 14 (.one 13 (.one 15 (.one 16 (.one 17 .nil)))))))))))))))))) (by kernel_rfl) ?_; conv => whnf) | (refine AW.plan (id := 19) hm (.one 0 (.one 1 (.one 2 (.one 3 (.one 5 (.one 6 (.one 7 (.one 8 (.one 9 (.one 11 (.one 12 (.one 13 (.one 14 (.one 17 (.one 10 (.one 15 (.imm 4 (.one 16 (.one 18 (.one 19 .nil)))))))))))))))))))) (by kernel_rfl) ?_; conv => whnf) | (refine AO.cons hT ?_; conv => whnf) | (refine AO.nil ?_; conv => whnf) | (refine AW.seq ?_; conv => whnf) | (refine AW.region ?_; conv => whnf) | (refine AW.cond ?_; conv => whnf) | (refine AW.block ?_; conv => whnf) | (refine AW.loop ?_; conv => whnf) | (refine AW.skip ?_; conv => whnf) | (refine AW.exit ?_; conv => whnf) | (refine AW.ret ?_; conv => whnf) | (refine AF.one hT rfl ?_; conv => whnf) | (refine AF.nil ?_; conv => whnf) | (refine AF.imm hT rfl rfl rfl ?_; conv => whnf) | (refine AH.of hT rfl ?_; conv => whnf) | (refine ASplit.yes rfl ?_; conv => whnf) | (refine ACond.yes rfl ?_; conv => whnf) | (refine ASplit.no rfl ?_; conv => whnf) | (refine ACond.no rfl ?_; conv => whnf) | (refine ASplit.yes (by decide) ?_; conv => whnf) | (refine ACond.yes (by decide) ?_; conv => whnf) | (refine AReq.mk (by decide) ?_; conv => whnf) | (refine AIdx.iff.2 ⟨by decide, ?_⟩; conv => whnf) | (refine AReq.mk (by omega) ?_; conv => whnf) | (refine AIdx.at hdC_len (xs := d) i (by omega) hil ?_; conv => whnf) | (refine ACall.val (by kernel_rfl) (f32 l d[i].1 d[i].2.1 (by omega) hth) (by simp [renL, AV.ren, renL_mvs, mvs]) rfl ?_; conv => whnf))
      refine ACond.no (by rw [hof, wrap_i64 _ (by omega) (by omega), hsu]; simp) ?_
      conv => whnf
      repeat ((first | refine AW.plan (id := 17) hm (.one 0 (.one 1 (.one 2 (.one 3 (.one 5 (.one 4 (.one 6 (.one 7 (.one 8 (.one 9 (.one 10 (.one 11 (.one 12 (.one 14 (.one 13 (.one 15 (.one 16 (.one 17 .nil)))))))))))))))))) (by kernel_rfl) ?_ | refine AW.plan (id := 19) hm (.one 0 (.one 1 (.one 2 (.one 3 (.one 5 (.one 6 (.one 7 (.one 8 (.one 9 (.one 11 (.one 12 (.one 13 (.one 14 (.one 17 (.one 10 (.one 15 (.imm 4 (.one 16 (.one 18 (.one 19 .nil)))))))))))))))))))) (by kernel_rfl) ?_ | refine AO.cons hT ?_ | refine AO.nil ?_ | refine AW.seq ?_ | refine AW.region ?_ | refine AW.cond ?_ | refine AW.block ?_ | refine AW.loop ?_ | refine AW.skip ?_ | refine AW.exit ?_ | refine AW.ret ?_ | refine AF.one hT rfl ?_ | refine AF.nil ?_ | refine AF.imm hT rfl rfl rfl ?_ | refine AH.of hT rfl ?_ | refine AD.cons hT rfl ?_ | refine AD.nil ?_ | refine AQ.cons hT rfl ?_ | refine AQ.nil ?_ | (refine AReq.mk (by omega) ?_) | (refine AIdx.at hdC_len (xs := d) i (by omega) hil ?_) | (refine ACall.val (by kernel_rfl) (f32 l d[i].1 d[i].2.1 (by omega) hth) (by simp [renL, AV.ren, renL_mvs, mvs]) rfl ?_)); conv => whnf)
      rw [wrap_i64 ((i : Int) + 1) (by omega) (by omega), wrap_i64 (hs (d.take i) + d[i].2.2) (by omega) (by omega), ← hsn]
      refine AHead.mk (d.length - (i + 1)) _ _ (by omega) ⟨i + 1, by omega, rfl, rfl, rfl⟩ (Conv.fit ?_)
      repeat' (first | exact Fit.nil | refine Fit.any ?_ | refine Fit.same ?_)
  have hdi : i = d.length := by omega
  subst hdi
  rw [List.take_length]
  conv => whnf
  repeat ((first | refine AW.plan (id := 17) hm (.one 0 (.one 1 (.one 2 (.one 3 (.one 5 (.one 4 (.one 6 (.one 7 (.one 8 (.one 9 (.one 10 (.one 11 (.one 12 (.one 14 (.one 13 (.one 15 (.one 16 (.one 17 .nil)))))))))))))))))) (by kernel_rfl) ?_ | refine AW.plan (id := 19) hm (.one 0 (.one 1 (.one 2 (.one 3 (.one 5 (.one 6 (.one 7 (.one 8 (.one 9 (.one 11 (.one 12 (.one 13 (.one 14 (.one 17 (.one 10 (.one 15 (.imm 4 (.one 16 (.one 18 (.one 19 .nil)))))))))))))))))))) (by kernel_rfl) ?_ | refine AO.cons hT ?_ | refine AO.nil ?_ | refine AW.seq ?_ | refine AW.region ?_ | refine AW.cond ?_ | refine AW.block ?_ | refine AW.loop ?_ | refine AW.skip ?_ | refine AW.exit ?_ | refine AW.ret ?_ | refine AF.one hT rfl ?_ | refine AF.nil ?_ | refine AF.imm hT rfl rfl rfl ?_ | refine AH.of hT rfl ?_ | refine AD.cons hT rfl ?_ | refine AD.nil ?_ | refine AQ.cons hT rfl ?_ | refine AQ.nil ?_); conv => whnf)
  refine AOut.stay ?_
  conv => whnf
  repeat ((first | refine AW.plan (id := 17) hm (.one 0 (.one 1 (.one 2 (.one 3 (.one 5 (.one 4 (.one 6 (.one 7 (.one 8 (.one 9 (.one 10 (.one 11 (.one 12 (.one 14 (.one 13 (.one 15 (.one 16 (.one 17 .nil)))))))))))))))))) (by kernel_rfl) ?_ | refine AW.plan (id := 19) hm (.one 0 (.one 1 (.one 2 (.one 3 (.one 5 (.one 6 (.one 7 (.one 8 (.one 9 (.one 11 (.one 12 (.one 13 (.one 14 (.one 17 (.one 10 (.one 15 (.imm 4 (.one 16 (.one 18 (.one 19 .nil)))))))))))))))))))) (by kernel_rfl) ?_ | refine AO.cons hT ?_ | refine AO.nil ?_ | refine AW.seq ?_ | refine AW.region ?_ | refine AW.cond ?_ | refine AW.block ?_ | refine AW.loop ?_ | refine AW.skip ?_ | refine AW.exit ?_ | refine AW.ret ?_ | refine AF.one hT rfl ?_ | refine AF.nil ?_ | refine AF.imm hT rfl rfl rfl ?_ | refine AH.of hT rfl ?_ | refine AD.cons hT rfl ?_ | refine AD.nil ?_ | refine AQ.cons hT rfl ?_ | refine AQ.nil ?_); conv => whnf)
  refine ALoop.mk (fun k E H => ∃ i : Nat, i ≤ l.length + 1 ∧ k = l.length + 1 - i ∧ E = pad [mvs l, .any, .any, .ip (mvC m), .v (.bool false), .any, mvs (l ++ [m]), .any, hds d, .any, nV (hs d), nV (qs ((l ++ [m]).take i)), .any, .any, nV i] 132 ∧ H = []) (n := l.length + 1) _ _ ⟨0, by omega, rfl, rfl, rfl⟩ (Conv.fit ?_) ?_
  · repeat' (first | exact Fit.nil | refine Fit.any ?_ | refine Fit.same ?_)
  rintro _ _ _ ⟨i, hi', rfl, rfl, rfl⟩
  conv => whnf
  repeat ((first | refine AW.plan (id := 17) hm (.one 0 (.one 1 (.one 2 (.one 3 (.one 5 (.one 4 (.one 6 (.one 7 (.one 8 (.one 9 (.one 10 (.one 11 (.one 12 (.one 14 (.one 13 (.one 15 (.one 16 (.one 17 .nil)))))))))))))))))) (by kernel_rfl) ?_ | refine AW.plan (id := 19) hm (.one 0 (.one 1 (.one 2 (.one 3 (.one 5 (.one 6 (.one 7 (.one 8 (.one 9 (.one 11 (.one 12 (.one 13 (.one 14 (.one 17 (.one 10 (.one 15 (.imm 4 (.one 16 (.one 18 (.one 19 .nil)))))))))))))))))))) (by kernel_rfl) ?_ | refine AO.cons hT ?_ | refine AO.nil ?_ | refine AW.seq ?_ | refine AW.region ?_ | refine AW.cond ?_ | refine AW.block ?_ | refine AW.loop ?_ | refine AW.skip ?_ | refine AW.exit ?_ | refine AW.ret ?_ | refine AF.one hT rfl ?_ | refine AF.nil ?_ | refine AF.imm hT rfl rfl rfl ?_ | refine AH.of hT rfl ?_ | refine AD.cons hT rfl ?_ | refine AD.nil ?_ | refine AQ.cons hT rfl ?_ | refine AQ.nil ?_); conv => whnf)
  have hqi := hqt i (by omega)
  rw [hn]
  refine ACond.dec (fun h => ?_) (fun h => ?_)
  · have hil : i < (l ++ [m]).length := by omega
    have hqi' := hqt (i + 1) (by omega)
    have hqn := qs_snoc ((l ++ [m]).take i) (l ++ [m])[i]
    rw [← take_snoc _ i hil] at hqn
    conv => whnf
    repeat ((first | refine AW.plan (id := 17) hm (.one 0 (.one 1 (.one 2 (.one 3 (.one 5 (.one 4 (.one 6 (.one 7 (.one 8 (.one 9 (.one 10 (.one 11 (.one 12 (.one 14 (.one 13 (.one 15 (.one 16 (.one 17 .nil)))))))))))))))))) (by kernel_rfl) ?_ | refine AW.plan (id := 19) hm (.one 0 (.one 1 (.one 2 (.one 3 (.one 5 (.one 6 (.one 7 (.one 8 (.one 9 (.one 11 (.one 12 (.one 13 (.one 14 (.one 17 (.one 10 (.one 15 (.imm 4 (.one 16 (.one 18 (.one 19 .nil)))))))))))))))))))) (by kernel_rfl) ?_ | refine AO.cons hT ?_ | refine AO.nil ?_ | refine AW.seq ?_ | refine AW.region ?_ | refine AW.cond ?_ | refine AW.block ?_ | refine AW.loop ?_ | refine AW.skip ?_ | refine AW.exit ?_ | refine AW.ret ?_ | refine AF.one hT rfl ?_ | refine AF.nil ?_ | refine AF.imm hT rfl rfl rfl ?_ | refine AH.of hT rfl ?_ | refine AD.cons hT rfl ?_ | refine AD.nil ?_ | refine AQ.cons hT rfl ?_ | refine AQ.nil ?_ | (refine AReq.mk (by rw [hn]; omega) ?_) | (refine AIdx.at mvC_len (xs := l ++ [m]) i (by omega) hil ?_)); conv => whnf)
    rw [wrap_i64 ((i : Int) + 1) (by omega) (by omega), wrap_i64 (qs ((l ++ [m]).take i) + (l ++ [m])[i].q) (by omega) (by omega), ← hqn]
    refine AHead.mk (l.length + 1 - (i + 1)) _ _ (by omega) ⟨i + 1, by omega, rfl, rfl, rfl⟩ (Conv.fit ?_)
    repeat' (first | exact Fit.nil | refine Fit.any ?_ | refine Fit.same ?_)
  have hdi : i = (l ++ [m]).length := by omega
  subst hdi
  rw [List.take_length, ← hsa]
  conv => whnf
  repeat ((first | refine AW.plan (id := 17) hm (.one 0 (.one 1 (.one 2 (.one 3 (.one 5 (.one 4 (.one 6 (.one 7 (.one 8 (.one 9 (.one 10 (.one 11 (.one 12 (.one 14 (.one 13 (.one 15 (.one 16 (.one 17 .nil)))))))))))))))))) (by kernel_rfl) ?_ | refine AW.plan (id := 19) hm (.one 0 (.one 1 (.one 2 (.one 3 (.one 5 (.one 6 (.one 7 (.one 8 (.one 9 (.one 11 (.one 12 (.one 13 (.one 14 (.one 17 (.one 10 (.one 15 (.imm 4 (.one 16 (.one 18 (.one 19 .nil)))))))))))))))))))) (by kernel_rfl) ?_ | refine AO.cons hT ?_ | refine AO.nil ?_ | refine AW.seq ?_ | refine AW.region ?_ | refine AW.cond ?_ | refine AW.block ?_ | refine AW.loop ?_ | refine AW.skip ?_ | refine AW.exit ?_ | refine AW.ret ?_ | refine AF.one hT rfl ?_ | refine AF.nil ?_ | refine AF.imm hT rfl rfl rfl ?_ | refine AH.of hT rfl ?_ | refine AD.cons hT rfl ?_ | refine AD.nil ?_ | refine AQ.cons hT rfl ?_ | refine AQ.nil ?_); conv => whnf)
  refine AOut.stay ?_
  conv => whnf
  repeat (first | (refine AW.plan (id := 17) hm (.one 0 (.one 1 (.one 2 (.one 3 (.one 5 (.one 4 (.one 6 (.one 7 (.one 8 (.one 9 (.one 10 (.one 11 (.one 12 (.one 14 (.one 13 (.one 15 (.one 16 (.one 17 .nil)))))))))))))))))) (by kernel_rfl) ?_; conv => whnf) | (refine AW.plan (id := 19) hm (.one 0 (.one 1 (.one 2 (.one 3 (.one 5 (.one 6 (.one 7 (.one 8 (.one 9 (.one 11 (.one 12 (.one 13 (.one 14 (.one 17 (.one 10 (.one 15 (.imm 4 (.one 16 (.one 18 (.one 19 .nil)))))))))))))))))))) (by kernel_rfl) ?_; conv => whnf) | (refine AO.cons hT ?_; conv => whnf) | (refine AO.nil ?_; conv => whnf) | (refine AW.seq ?_; conv => whnf) | (refine AW.region ?_; conv => whnf) | (refine AW.cond ?_; conv => whnf) | (refine AW.block ?_; conv => whnf) | (refine AW.loop ?_; conv => whnf) | (refine AW.skip ?_; conv => whnf) | (refine AW.exit ?_; conv => whnf) | (refine AW.ret ?_; conv => whnf) | (refine AF.one hT rfl ?_; conv => whnf) | (refine AF.nil ?_; conv => whnf) | (refine AF.imm hT rfl rfl rfl ?_; conv => whnf) | (refine AH.of hT rfl ?_; conv => whnf) | (refine ASplit.yes rfl ?_; conv => whnf) | (refine ACond.yes rfl ?_; conv => whnf) | (refine ASplit.no rfl ?_; conv => whnf) | (refine ACond.no rfl ?_; conv => whnf) | (refine ASplit.yes (by decide) ?_; conv => whnf) | (refine ACond.yes (by decide) ?_; conv => whnf) | (refine AReq.mk (by decide) ?_; conv => whnf) | (refine AIdx.iff.2 ⟨by decide, ?_⟩; conv => whnf))
  refine ASplit.yes (decide_eq_true rfl) ?_
  conv => whnf
  repeat (first | (refine AW.plan (id := 17) hm (.one 0 (.one 1 (.one 2 (.one 3 (.one 5 (.one 4 (.one 6 (.one 7 (.one 8 (.one 9 (.one 10 (.one 11 (.one 12 (.one 14 (.one 13 (.one 15 (.one 16 (.one 17 .nil)))))))))))))))))) (by kernel_rfl) ?_; conv => whnf) | (refine AW.plan (id := 19) hm (.one 0 (.one 1 (.one 2 (.one 3 (.one 5 (.one 6 (.one 7 (.one 8 (.one 9 (.one 11 (.one 12 (.one 13 (.one 14 (.one 17 (.one 10 (.one 15 (.imm 4 (.one 16 (.one 18 (.one 19 .nil)))))))))))))))))))) (by kernel_rfl) ?_; conv => whnf) | (refine AO.cons hT ?_; conv => whnf) | (refine AO.nil ?_; conv => whnf) | (refine AW.seq ?_; conv => whnf) | (refine AW.region ?_; conv => whnf) | (refine AW.cond ?_; conv => whnf) | (refine AW.block ?_; conv => whnf) | (refine AW.loop ?_; conv => whnf) | (refine AW.skip ?_; conv => whnf) | (refine AW.exit ?_; conv => whnf) | (refine AW.ret ?_; conv => whnf) | (refine AF.one hT rfl ?_; conv => whnf) | (refine AF.nil ?_; conv => whnf) | (refine AF.imm hT rfl rfl rfl ?_; conv => whnf) | (refine AH.of hT rfl ?_; conv => whnf) | (refine ASplit.yes rfl ?_; conv => whnf) | (refine ACond.yes rfl ?_; conv => whnf) | (refine ASplit.no rfl ?_; conv => whnf) | (refine ACond.no rfl ?_; conv => whnf) | (refine ASplit.yes (by decide) ?_; conv => whnf) | (refine ACond.yes (by decide) ?_; conv => whnf) | (refine AReq.mk (by decide) ?_; conv => whnf) | (refine AIdx.iff.2 ⟨by decide, ?_⟩; conv => whnf))
  refine ACall.val (by kernel_rfl) hawake rfl rfl ?_
  conv => whnf
  repeat ((first | refine AW.plan (id := 17) hm (.one 0 (.one 1 (.one 2 (.one 3 (.one 5 (.one 4 (.one 6 (.one 7 (.one 8 (.one 9 (.one 10 (.one 11 (.one 12 (.one 14 (.one 13 (.one 15 (.one 16 (.one 17 .nil)))))))))))))))))) (by kernel_rfl) ?_ | refine AW.plan (id := 19) hm (.one 0 (.one 1 (.one 2 (.one 3 (.one 5 (.one 6 (.one 7 (.one 8 (.one 9 (.one 11 (.one 12 (.one 13 (.one 14 (.one 17 (.one 10 (.one 15 (.imm 4 (.one 16 (.one 18 (.one 19 .nil)))))))))))))))))))) (by kernel_rfl) ?_ | refine AO.cons hT ?_ | refine AO.nil ?_ | refine AW.seq ?_ | refine AW.region ?_ | refine AW.cond ?_ | refine AW.block ?_ | refine AW.loop ?_ | refine AW.skip ?_ | refine AW.exit ?_ | refine AW.ret ?_ | refine AF.one hT rfl ?_ | refine AF.nil ?_ | refine AF.imm hT rfl rfl rfl ?_ | refine AH.of hT rfl ?_ | refine AD.cons hT rfl ?_ | refine AD.nil ?_ | refine AQ.cons hT rfl ?_ | refine AQ.nil ?_); conv => whnf)
  exact hfin
end Go.Aw.R1

set_option linter.unusedSimpArgs false
set_option linter.unusedVariables false
namespace Go.Proofs.Ytdhafeekjbnapaa
open Go Go.Aw Go.Aw.R1 Go.ChangeShapes Go.WideShapes Go.ChangeAt Go.RowKit

theorem sums_own : ownKnob Try.prog.godebug = none := by kernel_rfl
theorem sums_laid : laidOutB Try.prog = true := by kernel_rfl

theorem sums_open : OpenA Try.prog [39, 41] (fun x : List Mv × (Mv × Unit) => [mvs x.1, .agg (mvC x.2.1)]) (fun x => (x.1.length ≤ maxLen ∧ ∀ y ∈ x.1, mwf y ∧ (mvC y).length = 3) ∧ mwf x.2.1 ∧ True) :=
  openA_cons openV_mvs (openA_cons openV_mv openA_nil)

set_option maxRecDepth 100000 in
theorem sums_contract (H : Type) (enc : TypeId × Value → H) (W : World) (base : Nat) (args : Array Value) (ds gs : List (DataW H)) (before : List MemPlace)
    (hval : ∀ (j : Nat) t v, Try.f8.params[j]? = some t → args[j]? = some v → Value.okWide Try.prog W .any base t v)
    (hW : DataW.Whole enc Try.prog Try.f8.params.toList Rows.stockSumsSpec.vars false W args.toList ds gs before) :
    Calls Try.prog 8 args W fun e W' => ∃ v, e = .returned v ∧ Rows.stockSumsSpec.post enc Try.prog Try.f8 false true false false W args v W' :=
  law_contract sums_laid (by kernel_rfl) (t0 := 4) (by kernel_rfl) Try.underlying4 rfl (by rw [Try.params8]; exact sums_open)
    (fun a ha => by
      exact f8 a.1 a.2.1)
    (fun H ds h => by
      rw [Try.params8] at h
      match ds, h with
      | [d0, d1], _ => rfl) hval hW

set_option maxRecDepth 100000 in
theorem sums_lifted (os : Os) (started : os.Started) (H : Type) (enc : TypeId × Value → H) :
    ReturnsInHanded {} Try.checked os 8 .any (Rows.stockSumsSpec.pre6 enc Try.prog Try.f8 Rows.stockSumsRow.domain false) (Rows.stockSumsSpec.post enc Try.prog Try.f8 false true false false) := by
  refine returnsInHanded_of_change (C := Try.checked) sums_own started (by kernel_rfl) Try.func8
    (ChangeSpec.witness6 (enc := enc) (C := Try.checked) false ⟨#[], #[.slice none 0 0, .agg #[.bool false, .int .i64 0, .int .i64 0]], []⟩ 8 (by kernel_rfl) (by kernel_rfl) (by kernel_rfl) (by kernel_rfl)) ?_
  intro W base args ds gs before hval hW hcnd _
  exact sums_contract H enc W base args ds gs before hval hW

theorem sums_over : Rows.stockSumsRow.holds Try.pinned (OpenSpec.ofChange Rows.stockSumsSpec) :=
  OpenClaim.holds_of_wide 8 Try.f8 rfl rfl rfl rfl rfl rfl rfl ⟨rfl, rfl, rfl, rfl, rfl⟩ rfl rfl rfl rfl rfl (by kernel_rfl) Try.func8 (by kernel_rfl)
    (of_decide_eq_true (by kernel_rfl)) (by unfold Func.isWrapper; first | (rw [if_pos (by decide +kernel)]; kernel_rfl) | (rw [if_neg (by decide +kernel)]; exact ⟨rfl, rfl⟩))
    (fun os started H enc _ => sums_lifted os started H enc)

theorem stockSums : Rows.StockSumsSaid := sums_over
#print axioms stockSums
end Go.Proofs.Ytdhafeekjbnapaa

