/-
  The statement StockTells: behind any movements the quantities are those of the document, without any condition.
-/
import Derived.Test.YtdhafeekjbnapaaStkB
import Derived.Test.YtdhafeekjbnapaaAwE
import Derived.Test.YtdhafeekjbnapaaRows
set_option linter.unusedSimpArgs false
set_option linter.unusedVariables false
set_option linter.unusedSimpArgs false
set_option linter.unusedVariables false
set_option maxHeartbeats 4000000
namespace Go.Aw.R1
open Go

theorem add_good {l : List Mv} {m : Mv} (h : addF l m = 0) : good l ∧ mok m ∧ l.length < 1000 ∧ 0 ≤ sumOf l m.p m.i + m.q ∧ sumOf l m.p m.i + m.q ≤ 1000000 := by
  unfold addF at h
  split at h
  · exact absurd h (by decide)
  · split at h
    · exact absurd h (by decide)
    · split at h
      · exact absurd h (by decide)
      · split at h
        · exact absurd h (by decide)
        · split at h
          · exact absurd h (by decide)
          · rename_i h1 h2 h3 h4 h5
            exact ⟨by simpa using h1, by simpa using h2, by omega, by omega, by omega⟩

theorem good_add {l : List Mv} {m : Mv} (h : addF l m = 0) : good (l ++ [m]) := by
  obtain ⟨h1, h2, h3, h4, h5⟩ := add_good h
  refine ⟨by simp; omega, fun k hk => ?_⟩
  simp at hk
  by_cases hkl : k < l.length
  · have := h1.2 k hkl
    rw [List.getElem_append_left hkl, List.take_append_of_le_length (by omega)]
    exact this
  · obtain rfl : k = l.length := by omega
    rw [List.getElem_append_right (Nat.le_refl _), List.take_of_length_le (by simp)]
    simp only [Nat.sub_self, List.getElem_cons_zero]
    rw [sumOf_snoc, if_pos ((mat_iff m (m.p, m.i)).2 rfl)]
    exact ⟨h2, h4, h5⟩

/-! ### the sums of all -/
def qs (l : List Mv) : Int := (l.map (·.q)).sum
def hs (d : List Hd) : Int := (d.map (·.2.2)).sum
theorem qs_snoc (l : List Mv) (m : Mv) : qs (l ++ [m]) = qs l + m.q := by simp [qs]
theorem hs_snoc (d : List Hd) (x : Hd) : hs (d ++ [x]) = hs d + x.2.2 := by simp [hs]

theorem sum_at (f : Th → Int) (a : Th) (q : Int) : ∀ (K : List Th), K.Nodup → (K.map fun k => if a = k then f k + q else f k).sum = (K.map f).sum + if a ∈ K then q else 0
  | [], _ => by simp
  | k :: K, hn => by
    obtain ⟨h1, h2⟩ := List.nodup_cons.1 hn
    have ih := sum_at f a q K h2
    simp only [List.map_cons, List.sum_cons, ih, List.mem_cons]
    by_cases e : a = k
    · subst e
      simp [h1]; omega
    · simp [e]; split <;> omega

theorem sums (K : List Th) (hn : K.Nodup) : ∀ (r l : List Mv), (∀ m ∈ r, (m.p, m.i) ∈ K) → (K.map fun k => sumOf (l ++ r) k.1 k.2).sum = (K.map fun k => sumOf l k.1 k.2).sum + qs r
  | [], l, _ => by simp [qs]
  | m :: r, l, h => by
    have ih := sums K hn r (l ++ [m]) (fun x hx => h x (by simp [hx]))
    rw [List.append_assoc] at ih
    rw [show l ++ m :: r = l ++ ([m] ++ r) from rfl, ih]
    have e : (fun k : Th => sumOf (l ++ [m]) k.1 k.2) = fun k => if (m.p, m.i) = k then sumOf l k.1 k.2 + m.q else sumOf l k.1 k.2 := by
      funext k
      rw [sumOf_snoc]
      have := mat_iff m k
      by_cases hk : (m.p, m.i) = k
      · rw [if_pos hk, if_pos (this.2 hk)]
      · rw [if_neg hk, if_neg (fun hc => hk (this.1 hc))]
    have e2 := sum_at (fun k => sumOf l k.1 k.2) (m.p, m.i) m.q K hn
    rw [if_pos (h m (by simp))] at e2
    rw [e, e2, show qs (m :: r) = m.q + qs r by simp [qs], Int.add_assoc]

theorem all_sum {l : List Mv} {d : List Hd} (h : AllOf l d) : hs d = qs l := by
  have hn : (d.map fun x => ((x.1, x.2.1) : Th)).Nodup := by
    rw [List.Nodup, List.pairwise_map]
    refine h.lt.imp ?_
    rintro ⟨p, i, n⟩ ⟨p', i', n'⟩ h1 h2
    simp only [Prod.mk.injEq] at h2
    obtain ⟨rfl, rfl⟩ := h2
    simp [hdLt] at h1
  have h1 := sums _ hn l [] (fun m hm => List.mem_map.2 ⟨(m.p, m.i, sumOf l m.p m.i), (h.mem _).2 ⟨⟨m, hm, rfl, rfl⟩, rfl⟩, rfl⟩)
  rw [List.nil_append] at h1
  have h2 : ((d.map fun x => ((x.1, x.2.1) : Th)).map fun k => sumOf ([] : List Mv) k.1 k.2).sum = 0 := by
    have : ∀ d : List Hd, ((d.map fun x => ((x.1, x.2.1) : Th)).map fun k => sumOf ([] : List Mv) k.1 k.2).sum = 0 := by
      intro d
      induction d with
      | nil => rfl
      | cons x d ih => rw [List.map_cons, List.map_cons, List.sum_cons, ih]; rfl
    exact this d
  rw [h2, Int.zero_add] at h1
  rw [← h1]
  unfold hs
  rw [List.map_map]
  congr 1
  apply List.map_congr_left
  intro x hx
  exact ((h.mem x).1 hx).2

/-! ### what is handed back, as values -/
def hds (d : List Hd) : AV := .vs 3 d.length (d.flatMap hdC)
theorem ren_hds (ρ : Nat → Nat) (d : List Hd) : (hds d).ren ρ = hds d := by simp only [hds, AV.ren, renL_hd]
theorem ren_nV (ρ : Nat → Nat) (n : Int) : (nV n).ren ρ = nV n := rfl
noncomputable def addL (l : List Mv) (m : Mv) : List Mv := if addF l m = 0 then l ++ [m] else []
theorem ren_two (ρ : Nat → Nat) (x y : AV) (hx : x.ren ρ = x) (hy : y.ren ρ = y) : (AV.tup [x, y]).ren ρ = .tup [x, y] := by simp only [AV.ren, renL, hx, hy]

theorem renL_one (ρ : Nat → Nat) (l : List Mv) : renL ρ ([] ++ [mvs l] ++ []) = [] ++ [mvs l] ++ [] := congrArg (· :: []) (ren_mvs ρ l)

theorem f21v (l : List Mv) (m : Mv) (hl : l.length ≤ 4611686018427387904) : Fun P 21 [mvs l, .agg (mvC m)] (.tup [mvs (addL l m), nV (addF l m)]) := by
  refine Fun.value _ (f21 l m hl) ?_
  rintro _ _ (⟨h, rfl, rfl⟩ | ⟨h, rfl, rfl⟩)
  · rw [addL, if_pos h, h]
    refine ⟨.tup (.cons ?_ (.cons (.it _) .nil)), fun ρ => ren_two _ _ _ (ren_mvs _ _) rfl⟩
    have : (l ++ [m]).length = l.length + 1 := by simp
    have h2 := Lend.sm (H := [ABlk.ice 41 ((l ++ [m]).flatMap mvC)]) (sz := 3) (l := 0) (n := l.length + 1) (t := 41) rfl (by rw [mvs_len, this])
    rw [mvs, this]; exact h2
  · rw [addL, if_neg h]
    exact ⟨.tup (.cons .nil (.cons (.it _) .nil)), fun ρ => ren_two _ _ _ (ren_mvs _ _) rfl⟩

theorem f30v (l : List Mv) (hl : l.length ≤ 4611686018427387904) : Fun P 30 [mvs l] (.tup [mvs (if chkF l = 0 then turnF l else []), nV (chkF l)]) := by
  refine Fun.value _ (f30 l hl) ?_
  rintro _ _ (⟨hg, rfl, rfl, rfl⟩ | ⟨hg, hne, rfl, rfl⟩ | ⟨hg, rfl, rfl⟩)
  · rw [chkF_yes hg, if_pos rfl]
    exact ⟨.tup (.cons (.it _) (.cons (.it _) .nil)), fun ρ => ren_two _ _ _ (ren_mvs _ _) rfl⟩
  · rw [chkF_yes hg, if_pos rfl]
    refine ⟨.tup (.cons ?_ (.cons (.it _) .nil)), fun ρ => ren_two _ _ _ (ren_mvs _ _) rfl⟩
    have h2 := Lend.sm (H := [ABlk.ice 41 ((turnF l).flatMap mvC)]) (sz := 3) (l := 0) (n := l.length) (t := 41) rfl (by rw [mvs_len, turnF_len])
    rw [mvs, turnF_len]; exact h2
  · rw [chkF_no hg, if_neg (by decide)]
    exact ⟨.tup (.cons .nil (.cons (.it _) .nil)), fun ρ => ren_two _ _ _ (ren_mvs _ _) rfl⟩

theorem f28v (l : List Mv) (hl : l.length ≤ 4611686018427387904) : Spec P 28 [mvs l] [] fun r H => (∃ d, (good l ∧ AllOf l d ∨ ¬ good l ∧ d = []) ∧ r = .tup [hds d, nV (chkF l)]) ∧ H = [] := by
  refine (f28 sortOk sortNil l hl).value ?_
  rintro _ _ (⟨hg, d, hd, ⟨rfl, rfl, rfl⟩ | ⟨hne, rfl, rfl⟩⟩ | ⟨hg, rfl, rfl⟩)
  · refine ⟨.tup [hds [], nV 0], .tup (.cons .nil (.cons (.it _) .nil)), fun ρ => ren_two _ _ _ (ren_hds _ _) rfl, [], .inl ⟨hg, hd⟩, ?_⟩
    rw [chkF_yes hg]
  · refine ⟨.tup [hds d, nV 0], .tup (.cons (Lend.sm (t := 61) rfl (by rw [hd_len])) (.cons (.it _) .nil)), fun ρ => ren_two _ _ _ (ren_hds _ _) rfl, d, .inl ⟨hg, hd⟩, ?_⟩
    rw [chkF_yes hg]
  · refine ⟨.tup [hds [], nV 40], .tup (.cons .nil (.cons (.it _) .nil)), fun ρ => ren_two _ _ _ (ren_hds _ _) rfl, [], .inr ⟨hg, rfl⟩, ?_⟩
    rw [chkF_no hg]

theorem nodup_sub {α : Type} [DecidableEq α] : ∀ (K M : List α), K.Nodup → (∀ x ∈ K, x ∈ M) → K.length ≤ M.length
  | [], _, _, _ => by simp
  | k :: K, M, hn, hs => by
    obtain ⟨h1, h2⟩ := List.nodup_cons.1 hn
    have hk := hs k (by simp)
    have ih := nodup_sub K (M.erase k) h2 (fun x hx => (List.mem_erase_of_ne (fun e => h1 (by rw [← e]; exact hx))).2 (hs x (by simp [hx])))
    rw [List.length_erase_of_mem hk] at ih
    have : 0 < M.length := List.length_pos_of_mem hk
    simp only [List.length_cons]; omega

theorem allOf_keys {l : List Mv} {d : List Hd} (h : AllOf l d) : (d.map fun x => ((x.1, x.2.1) : Th)).Nodup := by
  rw [List.Nodup, List.pairwise_map]
  refine h.lt.imp ?_
  rintro ⟨p, i, n⟩ ⟨p', i', n'⟩ h1 h2
  simp only [Prod.mk.injEq] at h2
  obtain ⟨rfl, rfl⟩ := h2
  simp [hdLt] at h1

theorem allOf_len {l : List Mv} {d : List Hd} (h : AllOf l d) : d.length ≤ l.length := by
  have := nodup_sub (d.map fun x => ((x.1, x.2.1) : Th)) (l.map fun m => ((m.p, m.i) : Th)) (allOf_keys h) (fun k hk => by
    obtain ⟨x, hx, rfl⟩ := List.mem_map.1 hk
    obtain ⟨⟨m, hm, h1, h2⟩, _⟩ := (h.mem x).1 hx
    exact List.mem_map.2 ⟨m, hm, by rw [h1, h2]⟩)
  simpa using this

theorem hs_take {d : List Hd} (h : ∀ x ∈ d, 0 ≤ x.2.2) (i : Nat) : 0 ≤ hs (d.take i) ∧ hs (d.take i) ≤ hs d := by
  have pos : ∀ d : List Hd, (∀ x ∈ d, 0 ≤ x.2.2) → 0 ≤ hs d := by
    intro d
    induction d with
    | nil => intro _; exact Int.le_refl _
    | cons x d ih => intro h; have h1 := h x (by simp); have h2 := ih (fun y hy => h y (by simp [hy])); simp only [hs, List.map_cons, List.sum_cons] at h2 ⊢; omega
  have h2 : hs d = hs (d.take i) + hs (d.drop i) := by
    rw [hs, hs, hs, ← List.sum_append, ← List.map_append, List.take_append_drop]
  have h3 := pos (d.take i) (fun x hx => h x (List.mem_of_mem_take hx))
  have h4 := pos (d.drop i) (fun x hx => h x (List.mem_of_mem_drop hx))
  omega

theorem qs_take {l : List Mv} (h : ∀ m ∈ l, mok m) (i : Nat) (hi : i ≤ l.length) : -1000000 * (i : Int) ≤ qs (l.take i) ∧ qs (l.take i) ≤ 1000000 * i := by
  induction i with
  | zero => simp [qs]
  | succ i ih =>
    have ih := ih (by omega)
    have hm := h l[i] (List.getElem_mem _)
    rw [take_snoc l i (by omega), qs_snoc]
    unfold mok at hm
    omega

theorem f8 (l : List Mv) (m : Mv) : Spec P 8 [mvs l, .agg (mvC m)] [] fun r _ => r = .v (.bool true) := by
  refine spec_of hT (f := 8) (fn := Go.Proofs.Try.f8) (c := body Go.Proofs.Try.f8) (by kernel_rfl) (by kernel_rfl) ?_
  have hawake := f20 sortOk sortNil
  have hfin : ∀ {H : List ABlk}, AFin 0 (.v (.bool true)) H (fun r _ => r = .v (.bool true)) := AFin.mk rfl
  have eb : (T 41).bytes = 24 := rfl
  have esz : (T 41).size = 3 := rfl
  conv => whnf
  repeat ((first | refine AW.plan (id := 17) hm (.one 0 (.one 1 (.one 2 (.one 3 (.one 5 (.one 4 (.one 6 (.one 7 (.one 8 (.one 9 (.one 10 (.one 11 (.one 12 (.one 14 (.one 13 (.one 15 (.one 16 (.one 17 .nil)))))))))))))))))) (by kernel_rfl) ?_ | refine AW.plan (id := 19) hm (.one 0 (.one 1 (.one 2 (.one 3 (.one 5 (.one 6 (.one 7 (.one 8 (.one 9 (.one 11 (.one 12 (.one 13 (.one 14 (.one 17 (.one 10 (.one 15 (.imm 4 (.one 16 (.one 18 (.one 19 .nil)))))))))))))))))))) (by kernel_rfl) ?_ | refine AO.cons hT ?_ | refine AO.nil ?_ | refine AW.seq ?_ | refine AW.region ?_ | refine AW.cond ?_ | refine AW.block ?_ | refine AW.loop ?_ | refine AW.skip ?_ | refine AW.exit ?_ | refine AW.ret ?_ | refine AF.one hT rfl ?_ | refine AF.nil ?_ | refine AF.imm hT rfl rfl rfl ?_ | refine AH.of hT rfl ?_ | refine AD.cons hT rfl ?_ | refine AD.nil ?_ | refine AQ.cons hT rfl ?_ | refine AQ.nil ?_); conv => whnf)
  refine ACond.dec (fun h => ?_) (fun h => ?_)
  · conv => whnf
    repeat (first | (refine AW.plan (id := 17) hm (.one 0 (.one 1 (.one 2 (.one 3 (.one 5 (.one 4 (.one 6 (.one 7 (.one 8 (.one 9 (.one 10 (.one 11 (.one 12 (.one 14 (.one 13 (.one 15 (.one 16 (.one 17 .nil)))))))))))))))))) (by kernel_rfl) ?_; conv => whnf) | (refine AW.plan (id := 19) hm (.one 0 (.one 1 (.one 2 (.one 3 (.one 5 (.one 6 (.one 7 (.one 8 (.one 9 (.one 11 (.one 12 (.one 13 (.one 14 (.one 17 (.one 10 (.one 15 (.imm 4 (.one 16 (.one 18 (.one 19 .nil)))))))))))))))))))) (by kernel_rfl) ?_; conv => whnf) | (refine AO.cons hT ?_; conv => whnf) | (refine AO.nil ?_; conv => whnf) | (refine AW.seq ?_; conv => whnf) | (refine AW.region ?_; conv => whnf) | (refine AW.cond ?_; conv => whnf) | (refine AW.block ?_; conv => whnf) | (refine AW.loop ?_; conv => whnf) | (refine AW.skip ?_; conv => whnf) | (refine AW.exit ?_; conv => whnf) | (refine AW.ret ?_; conv => whnf) | (refine AF.one hT rfl ?_; conv => whnf) | (refine AF.nil ?_; conv => whnf) | (refine AF.imm hT rfl rfl rfl ?_; conv => whnf) | (refine AH.of hT rfl ?_; conv => whnf) | (refine ASplit.yes rfl ?_; conv => whnf) | (refine ACond.yes rfl ?_; conv => whnf) | (refine ASplit.no rfl ?_; conv => whnf) | (refine ACond.no rfl ?_; conv => whnf) | (refine ASplit.yes (by decide) ?_; conv => whnf) | (refine ACond.yes (by decide) ?_; conv => whnf) | (refine AReq.mk (by decide) ?_; conv => whnf) | (refine AIdx.iff.2 ⟨by decide, ?_⟩; conv => whnf))
    refine ACall.val (by kernel_rfl) hawake rfl rfl ?_
    conv => whnf
    repeat ((first | refine AW.plan (id := 17) hm (.one 0 (.one 1 (.one 2 (.one 3 (.one 5 (.one 4 (.one 6 (.one 7 (.one 8 (.one 9 (.one 10 (.one 11 (.one 12 (.one 14 (.one 13 (.one 15 (.one 16 (.one 17 .nil)))))))))))))))))) (by kernel_rfl) ?_ | refine AW.plan (id := 19) hm (.one 0 (.one 1 (.one 2 (.one 3 (.one 5 (.one 6 (.one 7 (.one 8 (.one 9 (.one 11 (.one 12 (.one 13 (.one 14 (.one 17 (.one 10 (.one 15 (.imm 4 (.one 16 (.one 18 (.one 19 .nil)))))))))))))))))))) (by kernel_rfl) ?_ | refine AO.cons hT ?_ | refine AO.nil ?_ | refine AW.seq ?_ | refine AW.region ?_ | refine AW.cond ?_ | refine AW.block ?_ | refine AW.loop ?_ | refine AW.skip ?_ | refine AW.exit ?_ | refine AW.ret ?_ | refine AF.one hT rfl ?_ | refine AF.nil ?_ | refine AF.imm hT rfl rfl rfl ?_ | refine AH.of hT rfl ?_ | refine AD.cons hT rfl ?_ | refine AD.nil ?_ | refine AQ.cons hT rfl ?_ | refine AQ.nil ?_); conv => whnf)
    exact hfin
  have hl : l.length ≤ 300 := by omega
  conv => whnf
  refine AW.skip ?_
  conv => whnf
  refine AW.seqJ (fun E H => E = pad [mvs l, .any, .any, .ip (mvC m), .v (.bool false), mvs l] 132 ∧ H = []) ?_ ?_
  · conv => whnf
    repeat ((first | refine AW.plan (id := 17) hm (.one 0 (.one 1 (.one 2 (.one 3 (.one 5 (.one 4 (.one 6 (.one 7 (.one 8 (.one 9 (.one 10 (.one 11 (.one 12 (.one 14 (.one 13 (.one 15 (.one 16 (.one 17 .nil)))))))))))))))))) (by kernel_rfl) ?_ | refine AW.plan (id := 19) hm (.one 0 (.one 1 (.one 2 (.one 3 (.one 5 (.one 6 (.one 7 (.one 8 (.one 9 (.one 11 (.one 12 (.one 13 (.one 14 (.one 17 (.one 10 (.one 15 (.imm 4 (.one 16 (.one 18 (.one 19 .nil)))))))))))))))))))) (by kernel_rfl) ?_ | refine AO.cons hT ?_ | refine AO.nil ?_ | refine AW.seq ?_ | refine AW.region ?_ | refine AW.cond ?_ | refine AW.block ?_ | refine AW.loop ?_ | refine AW.skip ?_ | refine AW.exit ?_ | refine AW.ret ?_ | refine AF.one hT rfl ?_ | refine AF.nil ?_ | refine AF.imm hT rfl rfl rfl ?_ | refine AH.of hT rfl ?_ | refine AD.cons hT rfl ?_ | refine AD.nil ?_ | refine AQ.cons hT rfl ?_ | refine AQ.nil ?_); conv => whnf)
    refine AReq.mk (by rw [eb]; omega) ?_
    refine ASplit.dec (fun h0 => ?_) (fun h0 => ?_)
    · obtain rfl : l = [] := List.eq_nil_of_length_eq_zero h0
      conv => whnf
      repeat ((first | refine AW.plan (id := 17) hm (.one 0 (.one 1 (.one 2 (.one 3 (.one 5 (.one 4 (.one 6 (.one 7 (.one 8 (.one 9 (.one 10 (.one 11 (.one 12 (.one 14 (.one 13 (.one 15 (.one 16 (.one 17 .nil)))))))))))))))))) (by kernel_rfl) ?_ | refine AW.plan (id := 19) hm (.one 0 (.one 1 (.one 2 (.one 3 (.one 5 (.one 6 (.one 7 (.one 8 (.one 9 (.one 11 (.one 12 (.one 13 (.one 14 (.one 17 (.one 10 (.one 15 (.imm 4 (.one 16 (.one 18 (.one 19 .nil)))))))))))))))))))) (by kernel_rfl) ?_ | refine AO.cons hT ?_ | refine AO.nil ?_ | refine AW.seq ?_ | refine AW.region ?_ | refine AW.cond ?_ | refine AW.block ?_ | refine AW.loop ?_ | refine AW.skip ?_ | refine AW.exit ?_ | refine AW.ret ?_ | refine AF.one hT rfl ?_ | refine AF.nil ?_ | refine AF.imm hT rfl rfl rfl ?_ | refine AH.of hT rfl ?_ | refine AD.cons hT rfl ?_ | refine AD.nil ?_ | refine AQ.cons hT rfl ?_ | refine AQ.nil ?_); conv => whnf)
      exact AOut.to _ _ (Conv.outs (.cons (.it _) (.cons .any (.cons .any (.cons (.sip rfl) (.cons (.it _) (.cons (.vx (cs' := []) rfl) (LendL.anys _))))))) (fun ρ => rfl)) ⟨rfl, rfl⟩
    · conv => whnf
      repeat ((first | refine AW.plan (id := 17) hm (.one 0 (.one 1 (.one 2 (.one 3 (.one 5 (.one 4 (.one 6 (.one 7 (.one 8 (.one 9 (.one 10 (.one 11 (.one 12 (.one 14 (.one 13 (.one 15 (.one 16 (.one 17 .nil)))))))))))))))))) (by kernel_rfl) ?_ | refine AW.plan (id := 19) hm (.one 0 (.one 1 (.one 2 (.one 3 (.one 5 (.one 6 (.one 7 (.one 8 (.one 9 (.one 11 (.one 12 (.one 13 (.one 14 (.one 17 (.one 10 (.one 15 (.imm 4 (.one 16 (.one 18 (.one 19 .nil)))))))))))))))))))) (by kernel_rfl) ?_ | refine AO.cons hT ?_ | refine AO.nil ?_ | refine AW.seq ?_ | refine AW.region ?_ | refine AW.cond ?_ | refine AW.block ?_ | refine AW.loop ?_ | refine AW.skip ?_ | refine AW.exit ?_ | refine AW.ret ?_ | refine AF.one hT rfl ?_ | refine AF.nil ?_ | refine AF.imm hT rfl rfl rfl ?_ | refine AH.of hT rfl ?_ | refine AD.cons hT rfl ?_ | refine AD.nil ?_ | refine AQ.cons hT rfl ?_ | refine AQ.nil ?_); conv => whnf)
      rw [Nat.zero_add l.length]
      refine AOut.to (pad [mvs l, .any, .any, .ip (mvC m), .v (.bool false), mvs l] 132) [] (Conv.outs (.cons (.it _) (.cons .any (.cons .any (.cons (.sip rfl) (.cons (.it _) (.cons (.sm rfl ?_) (LendL.anys _))))))) (fun ρ => ?_)) ⟨rfl, rfl⟩
      · exact (mvs_len l).symm
      · simp [pad, renL, AV.ren, renL_mvs, mvs, mvC]
  rintro _ _ ⟨rfl, rfl⟩
  conv => whnf
  repeat ((first | refine AW.plan (id := 17) hm (.one 0 (.one 1 (.one 2 (.one 3 (.one 5 (.one 4 (.one 6 (.one 7 (.one 8 (.one 9 (.one 10 (.one 11 (.one 12 (.one 14 (.one 13 (.one 15 (.one 16 (.one 17 .nil)))))))))))))))))) (by kernel_rfl) ?_ | refine AW.plan (id := 19) hm (.one 0 (.one 1 (.one 2 (.one 3 (.one 5 (.one 6 (.one 7 (.one 8 (.one 9 (.one 11 (.one 12 (.one 13 (.one 14 (.one 17 (.one 10 (.one 15 (.imm 4 (.one 16 (.one 18 (.one 19 .nil)))))))))))))))))))) (by kernel_rfl) ?_ | refine AO.cons hT ?_ | refine AO.nil ?_ | refine AW.seq ?_ | refine AW.region ?_ | refine AW.cond ?_ | refine AW.block ?_ | refine AW.loop ?_ | refine AW.skip ?_ | refine AW.exit ?_ | refine AW.ret ?_ | refine AF.one hT rfl ?_ | refine AF.nil ?_ | refine AF.imm hT rfl rfl rfl ?_ | refine AH.of hT rfl ?_ | refine AD.cons hT rfl ?_ | refine AD.nil ?_ | refine AQ.cons hT rfl ?_ | refine AQ.nil ?_); conv => whnf)
  refine ACall.val (by kernel_rfl) (f21v l m (by omega)) (by simp [renL, AV.ren, renL_mvs, mvs, mvC]) (ren_two _ _ _ (ren_mvs _ _) rfl) ?_
  conv => whnf
  repeat ((first | refine AW.plan (id := 17) hm (.one 0 (.one 1 (.one 2 (.one 3 (.one 5 (.one 4 (.one 6 (.one 7 (.one 8 (.one 9 (.one 10 (.one 11 (.one 12 (.one 14 (.one 13 (.one 15 (.one 16 (.one 17 .nil)))))))))))))))))) (by kernel_rfl) ?_ | refine AW.plan (id := 19) hm (.one 0 (.one 1 (.one 2 (.one 3 (.one 5 (.one 6 (.one 7 (.one 8 (.one 9 (.one 11 (.one 12 (.one 13 (.one 14 (.one 17 (.one 10 (.one 15 (.imm 4 (.one 16 (.one 18 (.one 19 .nil)))))))))))))))))))) (by kernel_rfl) ?_ | refine AO.cons hT ?_ | refine AO.nil ?_ | refine AW.seq ?_ | refine AW.region ?_ | refine AW.cond ?_ | refine AW.block ?_ | refine AW.loop ?_ | refine AW.skip ?_ | refine AW.exit ?_ | refine AW.ret ?_ | refine AF.one hT rfl ?_ | refine AF.nil ?_ | refine AF.imm hT rfl rfl rfl ?_ | refine AH.of hT rfl ?_ | refine AD.cons hT rfl ?_ | refine AD.nil ?_ | refine AQ.cons hT rfl ?_ | refine AQ.nil ?_); conv => whnf)
  refine ACall.val (by kernel_rfl) (f27 l l (by omega) (by omega)) (by simp [renL, AV.ren, renL_mvs, mvs, mvC]) rfl ?_
  rw [decide_eq_true (rfl : l = l)]
  conv => whnf
  repeat (first | (refine AW.plan (id := 17) hm (.one 0 (.one 1 (.one 2 (.one 3 (.one 5 (.one 4 (.one 6 (.one 7 (.one 8 (.one 9 (.one 10 (.one 11 (.one 12 (.one 14 (.one 13 (.one 15 (.one 16 (.one 17 .nil)))))))))))))))))) (by kernel_rfl) ?_; conv => whnf) | (refine AW.plan (id := 19) hm (.one 0 (.one 1 (.one 2 (.one 3 (.one 5 (.one 6 (.one 7 (.one 8 (.one 9 (.one 11 (.one 12 (.one 13 (.one 14 (.one 17 (.one 10 (.one 15 (.imm 4 (.one 16 (.one 18 (.one 19 .nil)))))))))))))))))))) (by kernel_rfl) ?_; conv => whnf) | (refine AO.cons hT ?_; conv => whnf) | (refine AO.nil ?_; conv => whnf) | (refine AW.seq ?_; conv => whnf) | (refine AW.region ?_; conv => whnf) | (refine AW.cond ?_; conv => whnf) | (refine AW.block ?_; conv => whnf) | (refine AW.loop ?_; conv => whnf) | (refine AW.skip ?_; conv => whnf) | (refine AW.exit ?_; conv => whnf) | (refine AW.ret ?_; conv => whnf) | (refine AF.one hT rfl ?_; conv => whnf) | (refine AF.nil ?_; conv => whnf) | (refine AF.imm hT rfl rfl rfl ?_; conv => whnf) | (refine AH.of hT rfl ?_; conv => whnf) | (refine ASplit.yes rfl ?_; conv => whnf) | (refine ACond.yes rfl ?_; conv => whnf) | (refine ASplit.no rfl ?_; conv => whnf) | (refine ACond.no rfl ?_; conv => whnf) | (refine ASplit.yes (by decide) ?_; conv => whnf) | (refine ACond.yes (by decide) ?_; conv => whnf) | (refine AReq.mk (by decide) ?_; conv => whnf) | (refine AIdx.iff.2 ⟨by decide, ?_⟩; conv => whnf))
  by_cases hz : addF l m = 0
  rotate_left
  · refine ACond.yes (by simpa using hz) ?_
    rw [addL, if_neg hz]
    conv => whnf
    repeat (first | (refine AW.plan (id := 17) hm (.one 0 (.one 1 (.one 2 (.one 3 (.one 5 (.one 4 (.one 6 (.one 7 (.one 8 (.one 9 (.one 10 (.one 11 (.one 12 (.one 14 (.one 13 (.one 15 (.one 16 (.one 17 .nil)))))))))))))))))) (by kernel_rfl) ?_; conv => whnf) | (refine AW.plan (id := 19) hm (.one 0 (.one 1 (.one 2 (.one 3 (.one 5 (.one 6 (.one 7 (.one 8 (.one 9 (.one 11 (.one 12 (.one 13 (.one 14 (.one 17 (.one 10 (.one 15 (.imm 4 (.one 16 (.one 18 (.one 19 .nil)))))))))))))))))))) (by kernel_rfl) ?_; conv => whnf) | (refine AO.cons hT ?_; conv => whnf) | (refine AO.nil ?_; conv => whnf) | (refine AW.seq ?_; conv => whnf) | (refine AW.region ?_; conv => whnf) | (refine AW.cond ?_; conv => whnf) | (refine AW.block ?_; conv => whnf) | (refine AW.loop ?_; conv => whnf) | (refine AW.skip ?_; conv => whnf) | (refine AW.exit ?_; conv => whnf) | (refine AW.ret ?_; conv => whnf) | (refine AF.one hT rfl ?_; conv => whnf) | (refine AF.nil ?_; conv => whnf) | (refine AF.imm hT rfl rfl rfl ?_; conv => whnf) | (refine AH.of hT rfl ?_; conv => whnf) | (refine ASplit.yes rfl ?_; conv => whnf) | (refine ACond.yes rfl ?_; conv => whnf) | (refine ASplit.no rfl ?_; conv => whnf) | (refine ACond.no rfl ?_; conv => whnf) | (refine ASplit.yes (by decide) ?_; conv => whnf) | (refine ACond.yes (by decide) ?_; conv => whnf) | (refine AReq.mk (by decide) ?_; conv => whnf) | (refine AIdx.iff.2 ⟨by decide, ?_⟩; conv => whnf))
    refine ACall.val (by kernel_rfl) hawake rfl rfl ?_
    conv => whnf
    repeat ((first | refine AW.plan (id := 17) hm (.one 0 (.one 1 (.one 2 (.one 3 (.one 5 (.one 4 (.one 6 (.one 7 (.one 8 (.one 9 (.one 10 (.one 11 (.one 12 (.one 14 (.one 13 (.one 15 (.one 16 (.one 17 .nil)))))))))))))))))) (by kernel_rfl) ?_ | refine AW.plan (id := 19) hm (.one 0 (.one 1 (.one 2 (.one 3 (.one 5 (.one 6 (.one 7 (.one 8 (.one 9 (.one 11 (.one 12 (.one 13 (.one 14 (.one 17 (.one 10 (.one 15 (.imm 4 (.one 16 (.one 18 (.one 19 .nil)))))))))))))))))))) (by kernel_rfl) ?_ | refine AO.cons hT ?_ | refine AO.nil ?_ | refine AW.seq ?_ | refine AW.region ?_ | refine AW.cond ?_ | refine AW.block ?_ | refine AW.loop ?_ | refine AW.skip ?_ | refine AW.exit ?_ | refine AW.ret ?_ | refine AF.one hT rfl ?_ | refine AF.nil ?_ | refine AF.imm hT rfl rfl rfl ?_ | refine AH.of hT rfl ?_ | refine AD.cons hT rfl ?_ | refine AD.nil ?_ | refine AQ.cons hT rfl ?_ | refine AQ.nil ?_); conv => whnf)
    exact hfin
  refine ACond.no (by simpa using hz) ?_
  rw [addL, if_pos hz]
  obtain ⟨hg0, hm0, hl1, hp1, hp2⟩ := add_good hz
  have hg := good_add hz
  have hn : (l ++ [m]).length = l.length + 1 := by simp
  conv => whnf
  repeat ((first | refine AW.plan (id := 17) hm (.one 0 (.one 1 (.one 2 (.one 3 (.one 5 (.one 4 (.one 6 (.one 7 (.one 8 (.one 9 (.one 10 (.one 11 (.one 12 (.one 14 (.one 13 (.one 15 (.one 16 (.one 17 .nil)))))))))))))))))) (by kernel_rfl) ?_ | refine AW.plan (id := 19) hm (.one 0 (.one 1 (.one 2 (.one 3 (.one 5 (.one 6 (.one 7 (.one 8 (.one 9 (.one 11 (.one 12 (.one 13 (.one 14 (.one 17 (.one 10 (.one 15 (.imm 4 (.one 16 (.one 18 (.one 19 .nil)))))))))))))))))))) (by kernel_rfl) ?_ | refine AO.cons hT ?_ | refine AO.nil ?_ | refine AW.seq ?_ | refine AW.region ?_ | refine AW.cond ?_ | refine AW.block ?_ | refine AW.loop ?_ | refine AW.skip ?_ | refine AW.exit ?_ | refine AW.ret ?_ | refine AF.one hT rfl ?_ | refine AF.nil ?_ | refine AF.imm hT rfl rfl rfl ?_ | refine AH.of hT rfl ?_ | refine AD.cons hT rfl ?_ | refine AD.nil ?_ | refine AQ.cons hT rfl ?_ | refine AQ.nil ?_); conv => whnf)
  refine ACall.out (by kernel_rfl) (f28v (l ++ [m]) (by omega)) (renL_one _ _) ?_
  rw [chkF_yes hg]
  rintro _ ⟨d, hd | hd, rfl⟩
  rotate_left
  · exact absurd hg hd.1
  replace hd := hd.2
  rw [ren_two _ _ _ (ren_hds _ _) rfl]
  conv => whnf
  repeat (first | (refine AW.plan (id := 17) hm (.one 0 (.one 1 (.one 2 (.one 3 (.one 5 (.one 4 (.one 6 (.one 7 (.one 8 (.one 9 (.one 10 (.one 11 (.one 12 (.one 14 (.one 13 (.one 15 (.one 16 (.one 17 .nil)))))))))))))))))) (by kernel_rfl) ?_; conv => whnf) | (refine AW.plan (id := 19) hm (.one 0 (.one 1 (.one 2 (.one 3 (.one 5 (.one 6 (.one 7 (.one 8 (.one 9 (.one 11 (.one 12 (.one 13 (.one 14 (.one 17 (.one 10 (.one 15 (.imm 4 (.one 16 (.one 18 (.one 19 .nil)))))))))))))))))))) (by kernel_rfl) ?_; conv => whnf) | (refine AO.cons hT ?_; conv => whnf) | (refine AO.nil ?_; conv => whnf) | (refine AW.seq ?_; conv => whnf) | (refine AW.region ?_; conv => whnf) | (refine AW.cond ?_; conv => whnf) | (refine AW.block ?_; conv => whnf) | (refine AW.loop ?_; conv => whnf) | (refine AW.skip ?_; conv => whnf) | (refine AW.exit ?_; conv => whnf) | (refine AW.ret ?_; conv => whnf) | (refine AF.one hT rfl ?_; conv => whnf) | (refine AF.nil ?_; conv => whnf) | (refine AF.imm hT rfl rfl rfl ?_; conv => whnf) | (refine AH.of hT rfl ?_; conv => whnf) | (refine ASplit.yes rfl ?_; conv => whnf) | (refine ACond.yes rfl ?_; conv => whnf) | (refine ASplit.no rfl ?_; conv => whnf) | (refine ACond.no rfl ?_; conv => whnf) | (refine ASplit.yes (by decide) ?_; conv => whnf) | (refine ACond.yes (by decide) ?_; conv => whnf) | (refine AReq.mk (by decide) ?_; conv => whnf) | (refine AIdx.iff.2 ⟨by decide, ?_⟩; conv => whnf))
  refine ACall.val (by kernel_rfl) (f25 (l ++ [m]) (by omega)) (renL_one _ _) rfl ?_
  rw [chkF_yes hg]
  conv => whnf
  repeat (first | (refine AW.plan (id := 17) hm (.one 0 (.one 1 (.one 2 (.one 3 (.one 5 (.one 4 (.one 6 (.one 7 (.one 8 (.one 9 (.one 10 (.one 11 (.one 12 (.one 14 (.one 13 (.one 15 (.one 16 (.one 17 .nil)))))))))))))))))) (by kernel_rfl) ?_; conv => whnf) | (refine AW.plan (id := 19) hm (.one 0 (.one 1 (.one 2 (.one 3 (.one 5 (.one 6 (.one 7 (.one 8 (.one 9 (.one 11 (.one 12 (.one 13 (.one 14 (.one 17 (.one 10 (.one 15 (.imm 4 (.one 16 (.one 18 (.one 19 .nil)))))))))))))))))))) (by kernel_rfl) ?_; conv => whnf) | (refine AO.cons hT ?_; conv => whnf) | (refine AO.nil ?_; conv => whnf) | (refine AW.seq ?_; conv => whnf) | (refine AW.region ?_; conv => whnf) | (refine AW.cond ?_; conv => whnf) | (refine AW.block ?_; conv => whnf) | (refine AW.loop ?_; conv => whnf) | (refine AW.skip ?_; conv => whnf) | (refine AW.exit ?_; conv => whnf) | (refine AW.ret ?_; conv => whnf) | (refine AF.one hT rfl ?_; conv => whnf) | (refine AF.nil ?_; conv => whnf) | (refine AF.imm hT rfl rfl rfl ?_; conv => whnf) | (refine AH.of hT rfl ?_; conv => whnf) | (refine ASplit.yes rfl ?_; conv => whnf) | (refine ACond.yes rfl ?_; conv => whnf) | (refine ASplit.no rfl ?_; conv => whnf) | (refine ACond.no rfl ?_; conv => whnf) | (refine ASplit.yes (by decide) ?_; conv => whnf) | (refine ACond.yes (by decide) ?_; conv => whnf) | (refine AReq.mk (by decide) ?_; conv => whnf) | (refine AIdx.iff.2 ⟨by decide, ?_⟩; conv => whnf))
  refine ACond.no (by rw [hn, wrap_i64 ((l.length : Int) + 1) (by omega) (by omega)]; simp) ?_
  conv => whnf
  repeat (first | (refine AW.plan (id := 17) hm (.one 0 (.one 1 (.one 2 (.one 3 (.one 5 (.one 4 (.one 6 (.one 7 (.one 8 (.one 9 (.one 10 (.one 11 (.one 12 (.one 14 (.one 13 (.one 15 (.one 16 (.one 17 .nil)))))))))))))))))) (by kernel_rfl) ?_; conv => whnf) | (refine AW.plan (id := 19) hm (.one 0 (.one 1 (.one 2 (.one 3 (.one 5 (.one 6 (.one 7 (.one 8 (.one 9 (.one 11 (.one 12 (.one 13 (.one 14 (.one 17 (.one 10 (.one 15 (.imm 4 (.one 16 (.one 18 (.one 19 .nil)))))))))))))))))))) (by kernel_rfl) ?_; conv => whnf) | (refine AO.cons hT ?_; conv => whnf) | (refine AO.nil ?_; conv => whnf) | (refine AW.seq ?_; conv => whnf) | (refine AW.region ?_; conv => whnf) | (refine AW.cond ?_; conv => whnf) | (refine AW.block ?_; conv => whnf) | (refine AW.loop ?_; conv => whnf) | (refine AW.skip ?_; conv => whnf) | (refine AW.exit ?_; conv => whnf) | (refine AW.ret ?_; conv => whnf) | (refine AF.one hT rfl ?_; conv => whnf) | (refine AF.nil ?_; conv => whnf) | (refine AF.imm hT rfl rfl rfl ?_; conv => whnf) | (refine AH.of hT rfl ?_; conv => whnf) | (refine ASplit.yes rfl ?_; conv => whnf) | (refine ACond.yes rfl ?_; conv => whnf) | (refine ASplit.no rfl ?_; conv => whnf) | (refine ACond.no rfl ?_; conv => whnf) | (refine ASplit.yes (by decide) ?_; conv => whnf) | (refine ACond.yes (by decide) ?_; conv => whnf) | (refine AReq.mk (by decide) ?_; conv => whnf) | (refine AIdx.iff.2 ⟨by decide, ?_⟩; conv => whnf))
  have hdl := allOf_len hd
  have hq : ∀ x ∈ d, 0 ≤ x.2.2 ∧ x.2.2 ≤ 1000000 := fun x hx => by
    rw [((hd.mem x).1 hx).2]
    have := pre_ok hg x.1 x.2.1 (l ++ [m]).length (Nat.le_refl _)
    rwa [List.take_length] at this
  have hht := hs_take (fun x hx => (hq x hx).1)
  have hsa := all_sum hd
  have hmk : ∀ x ∈ l ++ [m], mok x := fun x hx => by
    obtain ⟨k, hk, rfl⟩ := List.mem_iff_getElem.1 hx
    exact (hg.2 k hk).1
  have hqt := qs_take hmk
  have hqa := hqt _ (Nat.le_refl _)
  rw [List.take_length] at hqa
  refine ALoop.mk (fun n E H => ∃ i : Nat, i ≤ d.length ∧ n = d.length - i ∧ E = pad [mvs l, .any, .any, .ip (mvC m), .v (.bool false), .any, mvs (l ++ [m]), .any, hds d, .any, nV (hs (d.take i)), nV 0, nV i] 132 ∧ H = []) (n := d.length) _ _ ⟨0, by omega, rfl, rfl, rfl⟩ (Conv.fit ?_) ?_
  · repeat' (first | exact Fit.nil | refine Fit.any ?_ | refine Fit.same ?_)
  rintro _ _ _ ⟨i, hi, rfl, rfl, rfl⟩
  conv => whnf
  repeat ((first | refine AW.plan (id := 17) hm (.one 0 (.one 1 (.one 2 (.one 3 (.one 5 (.one 4 (.one 6 (.one 7 (.one 8 (.one 9 (.one 10 (.one 11 (.one 12 (.one 14 (.one 13 (.one 15 (.one 16 (.one 17 .nil)))))))))))))))))) (by kernel_rfl) ?_ | refine AW.plan (id := 19) hm (.one 0 (.one 1 (.one 2 (.one 3 (.one 5 (.one 6 (.one 7 (.one 8 (.one 9 (.one 11 (.one 12 (.one 13 (.one 14 (.one 17 (.one 10 (.one 15 (.imm 4 (.one 16 (.one 18 (.one 19 .nil)))))))))))))))))))) (by kernel_rfl) ?_ | refine AO.cons hT ?_ | refine AO.nil ?_ | refine AW.seq ?_ | refine AW.region ?_ | refine AW.cond ?_ | refine AW.block ?_ | refine AW.loop ?_ | refine AW.skip ?_ | refine AW.exit ?_ | refine AW.ret ?_ | refine AF.one hT rfl ?_ | refine AF.nil ?_ | refine AF.imm hT rfl rfl rfl ?_ | refine AH.of hT rfl ?_ | refine AD.cons hT rfl ?_ | refine AD.nil ?_ | refine AQ.cons hT rfl ?_ | refine AQ.nil ?_); conv => whnf)
  refine ACond.dec (fun h => ?_) (fun h => ?_)
  · have hil : i < d.length := by omega
    have e1 : Int.toNat (i : Int) = i := by omega
    obtain ⟨⟨m', hm', hp', hi'⟩, hsu⟩ := (hd.mem d[i]).1 (List.getElem_mem hil)
    have hth : thOk (d[i].1, d[i].2.1) := by
      have := mok_th (hmk m' hm')
      rwa [hp', hi'] at this
    rw [sumOf_snoc] at hsu
    have hof : ofF' l d[i].1 d[i].2.1 = sumOf l d[i].1 d[i].2.1 := if_pos hg0
    have hb1 := good_sum hg0 d[i].1 d[i].2.1
    have hb2 := hht i
    have hb3 := hht (i + 1)
    have hsn := hs_snoc (d.take i) d[i]
    rw [← take_snoc d i hil] at hsn
    conv => whnf
    repeat ((first | refine AW.plan (id := 17) hm (.one 0 (.one 1 (.one 2 (.one 3 (.one 5 (.one 4 (.one 6 (.one 7 (.one 8 (.one 9 (.one 10 (.one 11 (.one 12 (.one 14 (.one 13 (.one 15 (.one 16 (.one 17 .nil)))))))))))))))))) (by kernel_rfl) ?_ | refine AW.plan (id := 19) hm (.one 0 (.one 1 (.one 2 (.one 3 (.one 5 (.one 6 (.one 7 (.one 8 (.one 9 (.one 11 (.one 12 (.one 13 (.one 14 (.one 17 (.one 10 (.one 15 (.imm 4 (.one 16 (.one 18 (.one 19 .nil)))))))))))))))))))) (by kernel_rfl) ?_ | refine AO.cons hT ?_ | refine AO.nil ?_ | refine AW.seq ?_ | refine AW.region ?_ | refine AW.cond ?_ | refine AW.block ?_ | refine AW.loop ?_ | refine AW.skip ?_ | refine AW.exit ?_ | refine AW.ret ?_ | refine AF.one hT rfl ?_ | refine AF.nil ?_ | refine AF.imm hT rfl rfl rfl ?_ | refine AH.of hT rfl ?_ | refine AD.cons hT rfl ?_ | refine AD.nil ?_ | refine AQ.cons hT rfl ?_ | refine AQ.nil ?_ | (refine AReq.mk (by omega) ?_) | (refine AIdx.at hdC_len (xs := d) i (by omega) hil ?_) | (refine ACall.val (by kernel_rfl) (f32 l d[i].1 d[i].2.1 (by omega) hth) (by simp [renL, AV.ren, renL_mvs, mvs]) rfl ?_)); conv => whnf)
    refine ASplit.mk (fun h1 => ?_) (fun h1 => ?_)
    · conv => whnf
      repeat ((first | refine AW.plan (id := 17) hm (.one 0 (.one 1 (.one 2 (.one 3 (.one 5 (.one 4 (.one 6 (.one 7 (.one 8 (.one 9 (.one 10 (.one 11 (.one 12 (.one 14 (.one 13 (.one 15 (.one 16 (.one 17 .nil)))))))))))))))))) (by kernel_rfl) ?_ | refine AW.plan (id := 19) hm (.one 0 (.one 1 (.one 2 (.one 3 (.one 5 (.one 6 (.one 7 (.one 8 (.one 9 (.one 11 (.one 12 (.one 13 (.one 14 (.one 17 (.one 10 (.one 15 (.imm 4 (.one 16 (.one 18 (.one 19 .nil)))))))))))))))))))) (by kernel_rfl) ?_ | refine AO.cons hT ?_ | refine AO.nil ?_ | refine AW.seq ?_ | refine AW.region ?_ | refine AW.cond ?_ | refine AW.block ?_ | refine AW.loop ?_ | refine AW.skip ?_ | refine AW.exit ?_ | refine AW.ret ?_ | refine AF.one hT rfl ?_ | refine AF.nil ?_ | refine AF.imm hT rfl rfl rfl ?_ | refine AH.of hT rfl ?_ | refine AD.cons hT rfl ?_ | refine AD.nil ?_ | refine AQ.cons hT rfl ?_ | refine AQ.nil ?_ | (refine AReq.mk (by omega) ?_) | (refine AIdx.at hdC_len (xs := d) i (by omega) hil ?_) | (refine ACall.val (by kernel_rfl) (f32 l d[i].1 d[i].2.1 (by omega) hth) (by simp [renL, AV.ren, renL_mvs, mvs]) rfl ?_)); conv => whnf)
      by_cases h2 : d[i].2.1 = m.i
      · have hmat : mat m d[i].1 d[i].2.1 = true := (mat_iff m (d[i].1, d[i].2.1)).2 (by rw [← eq_of_beq h1, h2])
        rw [if_pos hmat] at hsu
        have hmq := hm0.2.2.2
        refine ACond.yes (decide_eq_true h2) ?_
        conv => whnf
        repeat ((first | refine AW.plan (id := 17) hm (.one 0 (.one 1 (.one 2 (.one 3 (.one 5 (.one 4 (.one 6 (.one 7 (.one 8 (.one 9 (.one 10 (.one 11 (.one 12 (.one 14 (.one 13 (.one 15 (.one 16 (.one 17 .nil)))))))))))))))))) (by kernel_rfl) ?_ | refine AW.plan (id := 19) hm (.one 0 (.one 1 (.one 2 (.one 3 (.one 5 (.one 6 (.one 7 (.one 8 (.one 9 (.one 11 (.one 12 (.one 13 (.one 14 (.one 17 (.one 10 (.one 15 (.imm 4 (.one 16 (.one 18 (.one 19 .nil)))))))))))))))))))) (by kernel_rfl) ?_ | refine AO.cons hT ?_ | refine AO.nil ?_ | refine AW.seq ?_ | refine AW.region ?_ | refine AW.cond ?_ | refine AW.block ?_ | refine AW.loop ?_ | refine AW.skip ?_ | refine AW.exit ?_ | refine AW.ret ?_ | refine AF.one hT rfl ?_ | refine AF.nil ?_ | refine AF.imm hT rfl rfl rfl ?_ | refine AH.of hT rfl ?_ | refine AD.cons hT rfl ?_ | refine AD.nil ?_ | refine AQ.cons hT rfl ?_ | refine AQ.nil ?_ | (refine AReq.mk (by omega) ?_) | (refine AIdx.at hdC_len (xs := d) i (by omega) hil ?_) | (refine ACall.val (by kernel_rfl) (f32 l d[i].1 d[i].2.1 (by omega) hth) (by simp [renL, AV.ren, renL_mvs, mvs]) rfl ?_)); conv => whnf)
        refine ACond.no (by rw [hof, wrap_i64 _ (by omega) (by omega), hsu]; simp) ?_
        conv => whnf
        repeat ((first | refine AW.plan (id := 17) hm (.one 0 (.one 1 (.one 2 (.one 3 (.one 5 (.one 4 (.one 6 (.one 7 (.one 8 (.one 9 (.one 10 (.one 11 (.one 12 (.one 14 (.one 13 (.one 15 (.one 16 (.one 17 .nil)))))))))))))))))) (by kernel_rfl) ?_ | refine AW.plan (id := 19) hm (.one 0 (.one 1 (.one 2 (.one 3 (.one 5 (.one 6 (.one 7 (.one 8 (.one 9 (.one 11 (.one 12 (.one 13 (.one 14 (.one 17 (.one 10 (.one 15 (.imm 4 (.one 16 (.one 18 (.one 19 .nil)))))))))))))))))))) (by kernel_rfl) ?_ | refine AO.cons hT ?_ | refine AO.nil ?_ | refine AW.seq ?_ | refine AW.region ?_ | refine AW.cond ?_ | refine AW.block ?_ | refine AW.loop ?_ | refine AW.skip ?_ | refine AW.exit ?_ | refine AW.ret ?_ | refine AF.one hT rfl ?_ | refine AF.nil ?_ | refine AF.imm hT rfl rfl rfl ?_ | refine AH.of hT rfl ?_ | refine AD.cons hT rfl ?_ | refine AD.nil ?_ | refine AQ.cons hT rfl ?_ | refine AQ.nil ?_ | (refine AReq.mk (by omega) ?_) | (refine AIdx.at hdC_len (xs := d) i (by omega) hil ?_) | (refine ACall.val (by kernel_rfl) (f32 l d[i].1 d[i].2.1 (by omega) hth) (by simp [renL, AV.ren, renL_mvs, mvs]) rfl ?_)); conv => whnf)
        rw [wrap_i64 ((i : Int) + 1) (by omega) (by omega), wrap_i64 (hs (d.take i) + d[i].2.2) (by omega) (by omega), ← hsn]
        refine AHead.mk (d.length - (i + 1)) _ _ (by omega) ⟨i + 1, by omega, rfl, rfl, rfl⟩ (Conv.fit ?_)
        repeat' (first | exact Fit.nil | refine Fit.any ?_ | refine Fit.same ?_)
      · have hmat : ¬ mat m d[i].1 d[i].2.1 = true := fun hc => h2 (congrArg Prod.snd ((mat_iff m (d[i].1, d[i].2.1)).1 hc)).symm
        rw [if_neg hmat] at hsu
        refine ACond.no (decide_eq_false h2) ?_
        conv => whnf
        repeat ((first | refine AW.plan (id := 17) hm (.one 0 (.one 1 (.one 2 (.one 3 (.one 5 (.one 4 (.one 6 (.one 7 (.one 8 (.one 9 (.one 10 (.one 11 (.one 12 (.one 14 (.one 13 (.one 15 (.one 16 (.one 17 .nil)))))))))))))))))) (by kernel_rfl) ?_ | refine AW.plan (id := 19) hm (.one 0 (.one 1 (.one 2 (.one 3 (.one 5 (.one 6 (.one 7 (.one 8 (.one 9 (.one 11 (.one 12 (.one 13 (.one 14 (.one 17 (.one 10 (.one 15 (.imm 4 (.one 16 (.one 18 (.one 19 .nil)))))))))))))))))))) (by kernel_rfl) ?_ | refine AO.cons hT ?_ | refine AO.nil ?_ | refine AW.seq ?_ | refine AW.region ?_ | refine AW.cond ?_ | refine AW.block ?_ | refine AW.loop ?_ | refine AW.skip ?_ | refine AW.exit ?_ | refine AW.ret ?_ | refine AF.one hT rfl ?_ | refine AF.nil ?_ | refine AF.imm hT rfl rfl rfl ?_ | refine AH.of hT rfl ?_ | refine AD.cons hT rfl ?_ | refine AD.nil ?_ | refine AQ.cons hT rfl ?_ | refine AQ.nil ?_ | (refine AReq.mk (by omega) ?_) | (refine AIdx.at hdC_len (xs := d) i (by omega) hil ?_) | (refine ACall.val (by kernel_rfl) (f32 l d[i].1 d[i].2.1 (by omega) hth) (by simp [renL, AV.ren, renL_mvs, mvs]) rfl ?_)); conv => whnf)
        refine ACond.no (by rw [hof, wrap_i64 _ (by omega) (by omega), hsu]; simp) ?_
        conv => whnf
        repeat ((first | refine AW.plan (id := 17) hm (.one 0 (.one 1 (.one 2 (.one 3 (.one 5 (.one 4 (.one 6 (.one 7 (.one 8 (.one 9 (.one 10 (.one 11 (.one 12 (.one 14 (.one 13 (.one 15 (.one 16 (.one 17 .nil)))))))))))))))))) (by kernel_rfl) ?_ | refine AW.plan (id := 19) hm (.one 0 (.one 1 (.one 2 (.one 3 (.one 5 (.one 6 (.one 7 (.one 8 (.one 9 (.one 11 (.one 12 (.one 13 (.one 14 (.one 17 (.one 10 (.one 15 (.imm 4 (.one 16 (.one 18 (.one 19 .nil)))))))))))))))))))) (by kernel_rfl) ?_ | refine AO.cons hT ?_ | refine AO.nil ?_ | refine AW.seq ?_ | refine AW.region ?_ | refine AW.cond ?_ | refine AW.block ?_ | refine AW.loop ?_ | refine AW.skip ?_ | refine AW.exit ?_ | refine AW.ret ?_ | refine AF.one hT rfl ?_ | refine AF.nil ?_ | refine AF.imm hT rfl rfl rfl ?_ | refine AH.of hT rfl ?_ | refine AD.cons hT rfl ?_ | refine AD.nil ?_ | refine AQ.cons hT rfl ?_ | refine AQ.nil ?_ | (refine AReq.mk (by omega) ?_) | (refine AIdx.at hdC_len (xs := d) i (by omega) hil ?_) | (refine ACall.val (by kernel_rfl) (f32 l d[i].1 d[i].2.1 (by omega) hth) (by simp [renL, AV.ren, renL_mvs, mvs]) rfl ?_)); conv => whnf)
        rw [wrap_i64 ((i : Int) + 1) (by omega) (by omega), wrap_i64 (hs (d.take i) + d[i].2.2) (by omega) (by omega), ← hsn]
        refine AHead.mk (d.length - (i + 1)) _ _ (by omega) ⟨i + 1, by omega, rfl, rfl, rfl⟩ (Conv.fit ?_)
        repeat' (first | exact Fit.nil | refine Fit.any ?_ | refine Fit.same ?_)
    · have hmat : ¬ mat m d[i].1 d[i].2.1 = true := fun hc => by
        have := congrArg Prod.fst ((mat_iff m (d[i].1, d[i].2.1)).1 hc)
        rw [show d[i].1 = m.p from this.symm] at h1
        simp at h1
      rw [if_neg hmat] at hsu
      conv => whnf
      repeat (first | (refine AW.plan (id := 17) hm (.one 0 (.one 1 (.one 2 (.one 3 (.one 5 (.one 4 (.one 6 (.one 7 (.one 8 (.one 9 (.one 10 (.one 11 (.one 12 (.one 14 (.one 13 (.one 15 (.one 16 (.one 17 .nil)))))))))))))))))) (by kernel_rfl) ?_; conv => whnf) | (refine AW.plan (id := 19) hm (.one 0 (.one 1 (.one 2 (.one 3 (.one 5 (.one 6 (.one 7 (.one 8 (.one 9 (.one 11 (.one 12 (.one 13 (.one 14 (.one 17 (.one 10 (.one 15 (.imm 4 (.one 16 (.one 18 (.one 19 .nil)))))))))))))))))))) (by kernel_rfl) ?_; conv => whnf) | (refine AO.cons hT ?_; conv => whnf) | (refine AO.nil ?_; conv => whnf) | (refine AW.seq ?_; conv => whnf) | (refine AW.region ?_; conv => whnf) | (refine AW.cond ?_; conv => whnf) | (refine AW.block ?_; conv => whnf) | (refine AW.loop ?_; conv => whnf) | (refine AW.skip ?_; conv => whnf) | (refine AW.exit ?_; conv => whnf) | (refine AW.ret ?_; conv => whnf) | (refine AF.one hT rfl ?_; conv => whnf) | (refine AF.nil ?_; conv => whnf) | (refine AF.imm hT rfl rfl rfl ?_; conv => whnf) | (refine AH.of hT rfl ?_; conv => whnf) | (refine ASplit.yes rfl ?_; conv => whnf) | (refine ACond.yes rfl ?_; conv => whnf) | (refine ASplit.no rfl ?_; conv => whnf) | (refine ACond.no rfl ?_; conv => whnf) | (refine ASplit.yes (by decide) ?_; conv => whnf) | (refine ACond.yes (by decide) ?_; conv => whnf) | (refine AReq.mk (by decide) ?_; conv => whnf) | (refine AIdx.iff.2 ⟨by decide, ?_⟩; conv => whnf) | (refine AReq.mk (by omega) ?_; conv => whnf) | (refine AIdx.at hdC_len (xs := d) i (by omega) hil ?_; conv => whnf) | (refine ACall.val (by kernel_rfl) (f32 l d[i].1 d[i].2.1 (by omega) hth) (by simp [renL, AV.ren, renL_mvs, mvs]) rfl ?_; conv => whnf))
      refine ACond.no (by rw [hof, wrap_i64 _ (by omega) (by omega), hsu]; simp) ?_
      conv => whnf
      repeat ((first | refine AW.plan (id := 17) hm (.one 0 (.one 1 (.one 2 (.one 3 (.one 5 (.one 4 (.one 6 (.one 7 (.one 8 (.one 9 (.one 10 (.one 11 (.one 12 (.one 14 (.one 13 (.one 15 (.one 16 (.one 17 .nil)))))))))))))))))) (by kernel_rfl) ?_ | refine AW.plan (id := 19) hm (.one 0 (.one 1 (.one 2 (.one 3 (.one 5 (.one 6 (.one 7 (.one 8 (.one 9 (.one 11 (.one 12 (.one 13 (.one 14 (.one 17 (.one 10 (.one 15 (.imm 4 (.one 16 (.one 18 (.one 19 .nil)))))))))))))))))))) (by kernel_rfl) ?_ | refine AO.cons hT ?_ | refine AO.nil ?_ | refine AW.seq ?_ | refine AW.region ?_ | refine AW.cond ?_ | refine AW.block ?_ | refine AW.loop ?_ | refine AW.skip ?_ | refine AW.exit ?_ | refine AW.ret ?_ | refine AF.one hT rfl ?_ | refine AF.nil ?_ | refine AF.imm hT rfl rfl rfl ?_ | refine AH.of hT rfl ?_ | refine AD.cons hT rfl ?_ | refine AD.nil ?_ | refine AQ.cons hT rfl ?_ | refine AQ.nil ?_ | (refine AReq.mk (by omega) ?_) | (refine AIdx.at hdC_len (xs := d) i (by omega) hil ?_) | (refine ACall.val (by kernel_rfl) (f32 l d[i].1 d[i].2.1 (by omega) hth) (by simp [renL, AV.ren, renL_mvs, mvs]) rfl ?_)); conv => whnf)
      rw [wrap_i64 ((i : Int) + 1) (by omega) (by omega), wrap_i64 (hs (d.take i) + d[i].2.2) (by omega) (by omega), ← hsn]
      refine AHead.mk (d.length - (i + 1)) _ _ (by omega) ⟨i + 1, by omega, rfl, rfl, rfl⟩ (Conv.fit ?_)
      repeat' (first | exact Fit.nil | refine Fit.any ?_ | refine Fit.same ?_)
  have hdi : i = d.length := by omega
  subst hdi
  rw [List.take_length]
  conv => whnf
  repeat ((first | refine AW.plan (id := 17) hm (.one 0 (.one 1 (.one 2 (.one 3 (.one 5 (.one 4 (.one 6 (.one 7 (.one 8 (.one 9 (.one 10 (.one 11 (.one 12 (.one 14 (.one 13 (.one 15 (.one 16 (.one 17 .nil)))))))))))))))))) (by kernel_rfl) ?_ | refine AW.plan (id := 19) hm (.one 0 (.one 1 (.one 2 (.one 3 (.one 5 (.one 6 (.one 7 (.one 8 (.one 9 (.one 11 (.one 12 (.one 13 (.one 14 (.one 17 (.one 10 (.one 15 (.imm 4 (.one 16 (.one 18 (.one 19 .nil)))))))))))))))))))) (by kernel_rfl) ?_ | refine AO.cons hT ?_ | refine AO.nil ?_ | refine AW.seq ?_ | refine AW.region ?_ | refine AW.cond ?_ | refine AW.block ?_ | refine AW.loop ?_ | refine AW.skip ?_ | refine AW.exit ?_ | refine AW.ret ?_ | refine AF.one hT rfl ?_ | refine AF.nil ?_ | refine AF.imm hT rfl rfl rfl ?_ | refine AH.of hT rfl ?_ | refine AD.cons hT rfl ?_ | refine AD.nil ?_ | refine AQ.cons hT rfl ?_ | refine AQ.nil ?_); conv => whnf)
  refine AOut.stay ?_
  conv => whnf
  repeat ((first | refine AW.plan (id := 17) hm (.one 0 (.one 1 (.one 2 (.one 3 (.one 5 (.one 4 (.one 6 (.one 7 (.one 8 (.one 9 (.one 10 (.one 11 (.one 12 (.one 14 (.one 13 (.one 15 (.one 16 (.one 17 .nil)))))))))))))))))) (by kernel_rfl) ?_ | refine AW.plan (id := 19) hm (.one 0 (.one 1 (.one 2 (.one 3 (.one 5 (.one 6 (.one 7 (.one 8 (.one 9 (.one 11 (.one 12 (.one 13 (.one 14 (.one 17 (.one 10 (.one 15 (.imm 4 (.one 16 (.one 18 (.one 19 .nil)))))))))))))))))))) (by kernel_rfl) ?_ | refine AO.cons hT ?_ | refine AO.nil ?_ | refine AW.seq ?_ | refine AW.region ?_ | refine AW.cond ?_ | refine AW.block ?_ | refine AW.loop ?_ | refine AW.skip ?_ | refine AW.exit ?_ | refine AW.ret ?_ | refine AF.one hT rfl ?_ | refine AF.nil ?_ | refine AF.imm hT rfl rfl rfl ?_ | refine AH.of hT rfl ?_ | refine AD.cons hT rfl ?_ | refine AD.nil ?_ | refine AQ.cons hT rfl ?_ | refine AQ.nil ?_); conv => whnf)
  refine ALoop.mk (fun k E H => ∃ i : Nat, i ≤ l.length + 1 ∧ k = l.length + 1 - i ∧ E = pad [mvs l, .any, .any, .ip (mvC m), .v (.bool false), .any, mvs (l ++ [m]), .any, hds d, .any, nV (hs d), nV (qs ((l ++ [m]).take i)), .any, .any, nV i] 132 ∧ H = []) (n := l.length + 1) _ _ ⟨0, by omega, rfl, rfl, rfl⟩ (Conv.fit ?_) ?_
  · repeat' (first | exact Fit.nil | refine Fit.any ?_ | refine Fit.same ?_)
  rintro _ _ _ ⟨i, hi', rfl, rfl, rfl⟩
  conv => whnf
  repeat ((first | refine AW.plan (id := 17) hm (.one 0 (.one 1 (.one 2 (.one 3 (.one 5 (.one 4 (.one 6 (.one 7 (.one 8 (.one 9 (.one 10 (.one 11 (.one 12 (.one 14 (.one 13 (.one 15 (.one 16 (.one 17 .nil)))))))))))))))))) (by kernel_rfl) ?_ | refine AW.plan (id := 19) hm (.one 0 (.one 1 (.one 2 (.one 3 (.one 5 (.one 6 (.one 7 (.one 8 (.one 9 (.one 11 (.one 12 (.one 13 (.one 14 (.one 17 (.one 10 (.one 15 (.imm 4 (.one 16 (.one 18 (.one 19 .nil)))))))))))))))))))) (by kernel_rfl) ?_ | refine AO.cons hT ?_ | refine AO.nil ?_ | refine AW.seq ?_ | refine AW.region ?_ | refine AW.cond ?_ | refine AW.block ?_ | refine AW.loop ?_ | refine AW.skip ?_ | refine AW.exit ?_ | refine AW.ret ?_ | refine AF.one hT rfl ?_ | refine AF.nil ?_ | refine AF.imm hT rfl rfl rfl ?_ | refine AH.of hT rfl ?_ | refine AD.cons hT rfl ?_ | refine AD.nil ?_ | refine AQ.cons hT rfl ?_ | refine AQ.nil ?_); conv => whnf)
  have hqi := hqt i (by omega)
  rw [hn]
  refine ACond.dec (fun h => ?_) (fun h => ?_)
  · have hil : i < (l ++ [m]).length := by omega
    have hqi' := hqt (i + 1) (by omega)
    have hqn := qs_snoc ((l ++ [m]).take i) (l ++ [m])[i]
    rw [← take_snoc _ i hil] at hqn
    conv => whnf
    repeat ((first | refine AW.plan (id := 17) hm (.one 0 (.one 1 (.one 2 (.one 3 (.one 5 (.one 4 (.one 6 (.one 7 (.one 8 (.one 9 (.one 10 (.one 11 (.one 12 (.one 14 (.one 13 (.one 15 (.one 16 (.one 17 .nil)))))))))))))))))) (by kernel_rfl) ?_ | refine AW.plan (id := 19) hm (.one 0 (.one 1 (.one 2 (.one 3 (.one 5 (.one 6 (.one 7 (.one 8 (.one 9 (.one 11 (.one 12 (.one 13 (.one 14 (.one 17 (.one 10 (.one 15 (.imm 4 (.one 16 (.one 18 (.one 19 .nil)))))))))))))))))))) (by kernel_rfl) ?_ | refine AO.cons hT ?_ | refine AO.nil ?_ | refine AW.seq ?_ | refine AW.region ?_ | refine AW.cond ?_ | refine AW.block ?_ | refine AW.loop ?_ | refine AW.skip ?_ | refine AW.exit ?_ | refine AW.ret ?_ | refine AF.one hT rfl ?_ | refine AF.nil ?_ | refine AF.imm hT rfl rfl rfl ?_ | refine AH.of hT rfl ?_ | refine AD.cons hT rfl ?_ | refine AD.nil ?_ | refine AQ.cons hT rfl ?_ | refine AQ.nil ?_ | (refine AReq.mk (by rw [hn]; omega) ?_) | (refine AIdx.at mvC_len (xs := l ++ [m]) i (by omega) hil ?_)); conv => whnf)
    rw [wrap_i64 ((i : Int) + 1) (by omega) (by omega), wrap_i64 (qs ((l ++ [m]).take i) + (l ++ [m])[i].q) (by omega) (by omega), ← hqn]
    refine AHead.mk (l.length + 1 - (i + 1)) _ _ (by omega) ⟨i + 1, by omega, rfl, rfl, rfl⟩ (Conv.fit ?_)
    repeat' (first | exact Fit.nil | refine Fit.any ?_ | refine Fit.same ?_)
  have hdi : i = (l ++ [m]).length := by omega
  subst hdi
  rw [List.take_length, ← hsa]
  conv => whnf
  repeat ((first | refine AW.plan (id := 17) hm (.one 0 (.one 1 (.one 2 (.one 3 (.one 5 (.one 4 (.one 6 (.one 7 (.one 8 (.one 9 (.one 10 (.one 11 (.one 12 (.one 14 (.one 13 (.one 15 (.one 16 (.one 17 .nil)))))))))))))))))) (by kernel_rfl) ?_ | refine AW.plan (id := 19) hm (.one 0 (.one 1 (.one 2 (.one 3 (.one 5 (.one 6 (.one 7 (.one 8 (.one 9 (.one 11 (.one 12 (.one 13 (.one 14 (.one 17 (.one 10 (.one 15 (.imm 4 (.one 16 (.one 18 (.one 19 .nil)))))))))))))))))))) (by kernel_rfl) ?_ | refine AO.cons hT ?_ | refine AO.nil ?_ | refine AW.seq ?_ | refine AW.region ?_ | refine AW.cond ?_ | refine AW.block ?_ | refine AW.loop ?_ | refine AW.skip ?_ | refine AW.exit ?_ | refine AW.ret ?_ | refine AF.one hT rfl ?_ | refine AF.nil ?_ | refine AF.imm hT rfl rfl rfl ?_ | refine AH.of hT rfl ?_ | refine AD.cons hT rfl ?_ | refine AD.nil ?_ | refine AQ.cons hT rfl ?_ | refine AQ.nil ?_); conv => whnf)
  refine AOut.stay ?_
  conv => whnf
  repeat (first | (refine AW.plan (id := 17) hm (.one 0 (.one 1 (.one 2 (.one 3 (.one 5 (.one 4 (.one 6 (.one 7 (.one 8 (.one 9 (.one 10 (.one 11 (.one 12 (.one 14 (.one 13 (.one 15 (.one 16 (.one 17 .nil)))))))))))))))))) (by kernel_rfl) ?_; conv => whnf) | (refine AW.plan (id := 19) hm (.one 0 (.one 1 (.one 2 (.one 3 (.one 5 (.one 6 (.one 7 (.one 8 (.one 9 (.one 11 (.one 12 (.one 13 (.one 14 (.one 17 (.one 10 (.one 15 (.imm 4 (.one 16 (.one 18 (.one 19 .nil)))))))))))))))))))) (by kernel_rfl) ?_; conv => whnf) | (refine AO.cons hT ?_; conv => whnf) | (refine AO.nil ?_; conv => whnf) | (refine AW.seq ?_; conv => whnf) | (refine AW.region ?_; conv => whnf) | (refine AW.cond ?_; conv => whnf) | (refine AW.block ?_; conv => whnf) | (refine AW.loop ?_; conv => whnf) | (refine AW.skip ?_; conv => whnf) | (refine AW.exit ?_; conv => whnf) | (refine AW.ret ?_; conv => whnf) | (refine AF.one hT rfl ?_; conv => whnf) | (refine AF.nil ?_; conv => whnf) | (refine AF.imm hT rfl rfl rfl ?_; conv => whnf) | (refine AH.of hT rfl ?_; conv => whnf) | (refine ASplit.yes rfl ?_; conv => whnf) | (refine ACond.yes rfl ?_; conv => whnf) | (refine ASplit.no rfl ?_; conv => whnf) | (refine ACond.no rfl ?_; conv => whnf) | (refine ASplit.yes (by decide) ?_; conv => whnf) | (refine ACond.yes (by decide) ?_; conv => whnf) | (refine AReq.mk (by decide) ?_; conv => whnf) | (refine AIdx.iff.2 ⟨by decide, ?_⟩; conv => whnf))
  refine ASplit.yes (decide_eq_true rfl) ?_
  conv => whnf
  repeat (first | (refine AW.plan (id := 17) hm (.one 0 (.one 1 (.one 2 (.one 3 (.one 5 (.one 4 (.one 6 (.one 7 (.one 8 (.one 9 (.one 10 (.one 11 (.one 12 (.one 14 (.one 13 (.one 15 (.one 16 (.one 17 .nil)))))))))))))))))) (by kernel_rfl) ?_; conv => whnf) | (refine AW.plan (id := 19) hm (.one 0 (.one 1 (.one 2 (.one 3 (.one 5 (.one 6 (.one 7 (.one 8 (.one 9 (.one 11 (.one 12 (.one 13 (.one 14 (.one 17 (.one 10 (.one 15 (.imm 4 (.one 16 (.one 18 (.one 19 .nil)))))))))))))))))))) (by kernel_rfl) ?_; conv => whnf) | (refine AO.cons hT ?_; conv => whnf) | (refine AO.nil ?_; conv => whnf) | (refine AW.seq ?_; conv => whnf) | (refine AW.region ?_; conv => whnf) | (refine AW.cond ?_; conv => whnf) | (refine AW.block ?_; conv => whnf) | (refine AW.loop ?_; conv => whnf) | (refine AW.skip ?_; conv => whnf) | (refine AW.exit ?_; conv => whnf) | (refine AW.ret ?_; conv => whnf) | (refine AF.one hT rfl ?_; conv => whnf) | (refine AF.nil ?_; conv => whnf) | (refine AF.imm hT rfl rfl rfl ?_; conv => whnf) | (refine AH.of hT rfl ?_; conv => whnf) | (refine ASplit.yes rfl ?_; conv => whnf) | (refine ACond.yes rfl ?_; conv => whnf) | (refine ASplit.no rfl ?_; conv => whnf) | (refine ACond.no rfl ?_; conv => whnf) | (refine ASplit.yes (by decide) ?_; conv => whnf) | (refine ACond.yes (by decide) ?_; conv => whnf) | (refine AReq.mk (by decide) ?_; conv => whnf) | (refine AIdx.iff.2 ⟨by decide, ?_⟩; conv => whnf))
  refine ACall.val (by kernel_rfl) hawake rfl rfl ?_
  conv => whnf
  repeat ((first | refine AW.plan (id := 17) hm (.one 0 (.one 1 (.one 2 (.one 3 (.one 5 (.one 4 (.one 6 (.one 7 (.one 8 (.one 9 (.one 10 (.one 11 (.one 12 (.one 14 (.one 13 (.one 15 (.one 16 (.one 17 .nil)))))))))))))))))) (by kernel_rfl) ?_ | refine AW.plan (id := 19) hm (.one 0 (.one 1 (.one 2 (.one 3 (.one 5 (.one 6 (.one 7 (.one 8 (.one 9 (.one 11 (.one 12 (.one 13 (.one 14 (.one 17 (.one 10 (.one 15 (.imm 4 (.one 16 (.one 18 (.one 19 .nil)))))))))))))))))))) (by kernel_rfl) ?_ | refine AO.cons hT ?_ | refine AO.nil ?_ | refine AW.seq ?_ | refine AW.region ?_ | refine AW.cond ?_ | refine AW.block ?_ | refine AW.loop ?_ | refine AW.skip ?_ | refine AW.exit ?_ | refine AW.ret ?_ | refine AF.one hT rfl ?_ | refine AF.nil ?_ | refine AF.imm hT rfl rfl rfl ?_ | refine AH.of hT rfl ?_ | refine AD.cons hT rfl ?_ | refine AD.nil ?_ | refine AQ.cons hT rfl ?_ | refine AQ.nil ?_); conv => whnf)
  exact hfin
end Go.Aw.R1

set_option linter.unusedSimpArgs false
set_option linter.unusedVariables false
set_option maxHeartbeats 4000000
namespace Go.Aw.R1
open Go

theorem f47 (a b : Hd) : Fun P 47 [.agg (hdC a), .agg (hdC b)] (.v (.bool (hdLt a b))) := by
  refine spec_of hT (f := 47) (fn := Go.Proofs.Try.f47) (c := body Go.Proofs.Try.f47) (by kernel_rfl) (by kernel_rfl) ?_
  obtain ⟨p, i, q⟩ := a
  obtain ⟨p', i', q'⟩ := b
  cases p <;> cases p'
  · conv => whnf
    repeat (first | (refine AO.cons hT ?_; conv => whnf) | (refine AO.nil ?_; conv => whnf) | (refine AW.seq ?_; conv => whnf) | (refine AW.region ?_; conv => whnf) | (refine AW.cond ?_; conv => whnf) | (refine AW.block ?_; conv => whnf) | (refine AW.loop ?_; conv => whnf) | (refine AW.skip ?_; conv => whnf) | (refine AW.exit ?_; conv => whnf) | (refine AW.ret ?_; conv => whnf) | (refine AF.one hT rfl ?_; conv => whnf) | (refine AF.nil ?_; conv => whnf) | (refine AF.imm hT rfl rfl rfl ?_; conv => whnf) | (refine AH.of hT rfl ?_; conv => whnf) | (refine ASplit.yes rfl ?_; conv => whnf) | (refine ACond.yes rfl ?_; conv => whnf) | (refine ASplit.no rfl ?_; conv => whnf) | (refine ACond.no rfl ?_; conv => whnf) | (refine ASplit.yes (by decide) ?_; conv => whnf) | (refine ACond.yes (by decide) ?_; conv => whnf) | (refine AReq.mk (by decide) ?_; conv => whnf) | (refine AIdx.iff.2 ⟨by decide, ?_⟩; conv => whnf))
    refine AFin.val rfl ⟨?_, rfl⟩
    simp [hdLt]
  · conv => whnf
    repeat (first | (refine AO.cons hT ?_; conv => whnf) | (refine AO.nil ?_; conv => whnf) | (refine AW.seq ?_; conv => whnf) | (refine AW.region ?_; conv => whnf) | (refine AW.cond ?_; conv => whnf) | (refine AW.block ?_; conv => whnf) | (refine AW.loop ?_; conv => whnf) | (refine AW.skip ?_; conv => whnf) | (refine AW.exit ?_; conv => whnf) | (refine AW.ret ?_; conv => whnf) | (refine AF.one hT rfl ?_; conv => whnf) | (refine AF.nil ?_; conv => whnf) | (refine AF.imm hT rfl rfl rfl ?_; conv => whnf) | (refine AH.of hT rfl ?_; conv => whnf) | (refine ASplit.yes rfl ?_; conv => whnf) | (refine ACond.yes rfl ?_; conv => whnf) | (refine ASplit.no rfl ?_; conv => whnf) | (refine ACond.no rfl ?_; conv => whnf) | (refine ASplit.yes (by decide) ?_; conv => whnf) | (refine ACond.yes (by decide) ?_; conv => whnf) | (refine AReq.mk (by decide) ?_; conv => whnf) | (refine AIdx.iff.2 ⟨by decide, ?_⟩; conv => whnf))

    refine AFin.val rfl ⟨?_, rfl⟩
    simp [hdLt]
  · conv => whnf
    repeat (first | (refine AO.cons hT ?_; conv => whnf) | (refine AO.nil ?_; conv => whnf) | (refine AW.seq ?_; conv => whnf) | (refine AW.region ?_; conv => whnf) | (refine AW.cond ?_; conv => whnf) | (refine AW.block ?_; conv => whnf) | (refine AW.loop ?_; conv => whnf) | (refine AW.skip ?_; conv => whnf) | (refine AW.exit ?_; conv => whnf) | (refine AW.ret ?_; conv => whnf) | (refine AF.one hT rfl ?_; conv => whnf) | (refine AF.nil ?_; conv => whnf) | (refine AF.imm hT rfl rfl rfl ?_; conv => whnf) | (refine AH.of hT rfl ?_; conv => whnf) | (refine ASplit.yes rfl ?_; conv => whnf) | (refine ACond.yes rfl ?_; conv => whnf) | (refine ASplit.no rfl ?_; conv => whnf) | (refine ACond.no rfl ?_; conv => whnf) | (refine ASplit.yes (by decide) ?_; conv => whnf) | (refine ACond.yes (by decide) ?_; conv => whnf) | (refine AReq.mk (by decide) ?_; conv => whnf) | (refine AIdx.iff.2 ⟨by decide, ?_⟩; conv => whnf))
    refine AFin.val rfl ⟨?_, rfl⟩
    simp [hdLt]
  · conv => whnf
    repeat (first | (refine AO.cons hT ?_; conv => whnf) | (refine AO.nil ?_; conv => whnf) | (refine AW.seq ?_; conv => whnf) | (refine AW.region ?_; conv => whnf) | (refine AW.cond ?_; conv => whnf) | (refine AW.block ?_; conv => whnf) | (refine AW.loop ?_; conv => whnf) | (refine AW.skip ?_; conv => whnf) | (refine AW.exit ?_; conv => whnf) | (refine AW.ret ?_; conv => whnf) | (refine AF.one hT rfl ?_; conv => whnf) | (refine AF.nil ?_; conv => whnf) | (refine AF.imm hT rfl rfl rfl ?_; conv => whnf) | (refine AH.of hT rfl ?_; conv => whnf) | (refine ASplit.yes rfl ?_; conv => whnf) | (refine ACond.yes rfl ?_; conv => whnf) | (refine ASplit.no rfl ?_; conv => whnf) | (refine ACond.no rfl ?_; conv => whnf) | (refine ASplit.yes (by decide) ?_; conv => whnf) | (refine ACond.yes (by decide) ?_; conv => whnf) | (refine AReq.mk (by decide) ?_; conv => whnf) | (refine AIdx.iff.2 ⟨by decide, ?_⟩; conv => whnf))
    refine AFin.val rfl ⟨?_, rfl⟩
    simp [hdLt]

def hOf (l : List Mv) (m : Mv) : Hd := (m.p, m.i, sumOf l m.p m.i)

structure PartOf (l k : List Mv) (d : List Hd) : Prop where
  lt : d.Pairwise (fun x y => hdLt x y = true)
  mem : ∀ x, x ∈ d ↔ (∃ m ∈ k, m.p = x.1 ∧ m.i = x.2.1) ∧ x.2.2 = sumOf l x.1 x.2.1

theorem PartOf.nil (l : List Mv) : PartOf l [] [] := ⟨.nil, fun x => by simp⟩
theorem PartOf.all {l : List Mv} {d : List Hd} (h : PartOf l l d) : AllOf l d := ⟨h.lt, h.mem⟩

theorem PartOf.len {l k : List Mv} {d : List Hd} (h : PartOf l k d) : d.length ≤ k.length := by
  have hn : (d.map fun x => ((x.1, x.2.1) : Th)).Nodup := by
    rw [List.Nodup, List.pairwise_map]
    refine h.lt.imp ?_
    rintro ⟨p, i, n⟩ ⟨p', i', n'⟩ h1 h2
    simp only [Prod.mk.injEq] at h2
    obtain ⟨rfl, rfl⟩ := h2
    simp [hdLt] at h1
  have := nodup_sub (d.map fun x => ((x.1, x.2.1) : Th)) (k.map fun m => ((m.p, m.i) : Th)) hn (fun x hx => by
    obtain ⟨y, hy, rfl⟩ := List.mem_map.1 hx
    obtain ⟨⟨m, hm, h1, h2⟩, _⟩ := (h.mem y).1 hy
    exact List.mem_map.2 ⟨m, hm, by rw [h1, h2]⟩)
  simpa using this

theorem hdLt_tri {x y : Hd} (h : hdLt x y = false) (hne : ¬ (x.1 = y.1 ∧ x.2.1 = y.2.1)) : hdLt y x = true := by
  obtain ⟨p, i, q⟩ := x
  obtain ⟨p', i', q'⟩ := y
  cases p <;> cases p' <;> simp [hdLt] at h hne ⊢
  all_goals omega

theorem PartOf.same {l k : List Mv} {d : List Hd} {m : Mv} (h : PartOf l k d) (hm : hOf l m ∈ d) : PartOf l (k ++ [m]) d := ⟨h.lt, fun x => by
  rw [h.mem]
  refine ⟨fun ⟨⟨a, ha, h1⟩, h2⟩ => ⟨⟨a, by simp [ha], h1⟩, h2⟩, fun ⟨⟨a, ha, h1⟩, h2⟩ => ⟨?_, h2⟩⟩
  rcases List.mem_append.1 ha with ha | ha
  · exact ⟨a, ha, h1⟩
  · simp at ha; subst ha
    obtain ⟨⟨b, hb, h3⟩, _⟩ := (h.mem _).1 hm
    exact ⟨b, hb, h3.1.trans h1.1, h3.2.trans h1.2⟩⟩

theorem PartOf.ins {l k : List Mv} {d : List Hd} {m : Mv} {j : Nat} (h : PartOf l k d) (hj : j ≤ d.length) (hlow : ∀ (t : Nat) (ht : t < d.length), t < j → hdLt d[t] (hOf l m) = true)
    (hstop : ∀ ht : j < d.length, hdLt d[j] (hOf l m) = false ∧ d[j] ≠ hOf l m) : PartOf l (k ++ [m]) (d.take j ++ hOf l m :: d.drop j) := by
  have hlo : ∀ x ∈ d.take j, hdLt x (hOf l m) = true := fun x hx => by
    obtain ⟨t, ht, rfl⟩ := List.mem_iff_getElem.1 hx
    rw [List.getElem_take]
    have := ht; rw [List.length_take] at this
    exact hlow t (by omega) (by omega)
  have hhi : ∀ x ∈ d.drop j, hdLt (hOf l m) x = true := fun x hx => by
    obtain ⟨t, ht, rfl⟩ := List.mem_iff_getElem.1 hx
    rw [List.getElem_drop]
    have := ht; rw [List.length_drop] at this
    have hjl : j < d.length := by omega
    obtain ⟨h1, h2⟩ := hstop hjl
    have hj' : hdLt (hOf l m) d[j] = true := hdLt_tri h1 fun ⟨e1, e2⟩ => h2 (by
      have h3 := ((h.mem d[j]).1 (List.getElem_mem _)).2
      rw [e1, e2] at h3
      exact Prod.ext e1 (Prod.ext e2 h3))
    by_cases ht0 : t = 0
    · subst ht0; exact hj'
    · exact hdLt_trans hj' (List.pairwise_iff_getElem.1 h.lt j (j + t) hjl (by omega) (by omega))
  refine ⟨?_, fun x => ?_⟩
  · rw [List.pairwise_append, List.pairwise_cons]
    refine ⟨h.lt.sublist (List.take_sublist _ _), ⟨hhi, h.lt.sublist (List.drop_sublist _ _)⟩, fun a ha b hb => ?_⟩
    rcases List.mem_cons.1 hb with rfl | hb
    · exact hlo a ha
    · exact hdLt_trans (hlo a ha) (hhi b hb)
  · have hx : x ∈ d.take j ++ hOf l m :: d.drop j ↔ x = hOf l m ∨ x ∈ d := by
      rw [List.mem_append, List.mem_cons, ← or_assoc, or_comm (a := x ∈ List.take j d), or_assoc, ← List.mem_append, List.take_append_drop]
    rw [hx, h.mem]
    constructor
    · rintro (rfl | ⟨⟨a, ha, h1⟩, h2⟩)
      · exact ⟨⟨m, by simp, rfl, rfl⟩, rfl⟩
      · exact ⟨⟨a, by simp [ha], h1⟩, h2⟩
    · rintro ⟨⟨a, ha, h1, h1'⟩, h2⟩
      rcases List.mem_append.1 ha with ha | ha
      · exact .inr ⟨⟨a, ha, h1, h1'⟩, h2⟩
      · simp at ha; subst ha
        exact .inl (Prod.ext h1.symm (Prod.ext h1'.symm (by rw [h2, ← h1, ← h1']; rfl)))

def hdW (x : Hd) : List Value := [.bool x.1, .int .i64 x.2.1, .int .i64 x.2.2]
theorem eqL_hd (a b : Hd) : eqL (hdW a) (hdW b) = decide (a = b) := by
  obtain ⟨p, i, q⟩ := a
  obtain ⟨p', i', q'⟩ := b
  have := eqL_mv ⟨p, i, q⟩ ⟨p', i', q'⟩
  simp only [mvV, Mv.mk.injEq] at this
  simp only [hdW, Prod.mk.injEq]
  exact this

theorem f29 (l : List Mv) (hl : l.length ≤ 300) : Spec P 29 [mvs l] [] fun r H => (∃ d, (good l ∧ AllOf l d ∨ ¬ good l ∧ d = []) ∧ r = .tup [hds d, nV (chkF l)]) ∧ H = [] := by
  refine spec_of hT (f := 29) (fn := Go.Proofs.Try.f29) (c := body Go.Proofs.Try.f29) (by kernel_rfl) (by kernel_rfl) ?_
  conv => whnf
  repeat ((first | refine AW.plan (id := 9) hm (.one 0 (.one 1 (.one 2 (.one 3 (.one 4 (.one 5 (.one 6 (.one 7 (.one 8 (.one 9 (.one 10 (.one 11 .nil)))))))))))) (by kernel_rfl) ?_ | refine AW.plan (id := 11) hm (.one 0 (.one 1 (.one 2 (.one 3 (.one 4 (.one 5 (.one 6 (.one 7 (.one 8 (.one 9 (.one 10 (.one 11 .nil)))))))))))) (by kernel_rfl) ?_ | refine AO.cons hT ?_ | refine AO.nil ?_ | refine AW.seq ?_ | refine AW.region ?_ | refine AW.cond ?_ | refine AW.block ?_ | refine AW.loop ?_ | refine AW.skip ?_ | refine AW.exit ?_ | refine AW.ret ?_ | refine AF.one hT rfl ?_ | refine AF.nil ?_ | refine AF.imm hT rfl rfl rfl ?_ | refine AH.of hT rfl ?_ | refine AD.cons hT rfl ?_ | refine AD.nil ?_ | refine AQ.cons hT rfl ?_ | refine AQ.nil ?_); conv => whnf)
  refine ACall.val (by kernel_rfl) (f26 l (by omega)) (by simp [renL, AV.ren, renL_mvs, mvs]) rfl ?_
  conv => whnf
  repeat ((first | refine AW.plan (id := 9) hm (.one 0 (.one 1 (.one 2 (.one 3 (.one 4 (.one 5 (.one 6 (.one 7 (.one 8 (.one 9 (.one 10 (.one 11 .nil)))))))))))) (by kernel_rfl) ?_ | refine AW.plan (id := 11) hm (.one 0 (.one 1 (.one 2 (.one 3 (.one 4 (.one 5 (.one 6 (.one 7 (.one 8 (.one 9 (.one 10 (.one 11 .nil)))))))))))) (by kernel_rfl) ?_ | refine AO.cons hT ?_ | refine AO.nil ?_ | refine AW.seq ?_ | refine AW.region ?_ | refine AW.cond ?_ | refine AW.block ?_ | refine AW.loop ?_ | refine AW.skip ?_ | refine AW.exit ?_ | refine AW.ret ?_ | refine AF.one hT rfl ?_ | refine AF.nil ?_ | refine AF.imm hT rfl rfl rfl ?_ | refine AH.of hT rfl ?_ | refine AD.cons hT rfl ?_ | refine AD.nil ?_ | refine AQ.cons hT rfl ?_ | refine AQ.nil ?_); conv => whnf)
  have eb : (T 62).bytes = 24 := rfl
  have esz : (T 62).size = 3 := rfl
  by_cases hg : good l
  · rw [chkF_yes hg]
    have hsm := good_small hg
    refine ACond.no rfl ?_
    conv => whnf
    repeat ((first | refine AW.plan (id := 9) hm (.one 0 (.one 1 (.one 2 (.one 3 (.one 4 (.one 5 (.one 6 (.one 7 (.one 8 (.one 9 (.one 10 (.one 11 .nil)))))))))))) (by kernel_rfl) ?_ | refine AW.plan (id := 11) hm (.one 0 (.one 1 (.one 2 (.one 3 (.one 4 (.one 5 (.one 6 (.one 7 (.one 8 (.one 9 (.one 10 (.one 11 .nil)))))))))))) (by kernel_rfl) ?_ | refine AO.cons hT ?_ | refine AO.nil ?_ | refine AW.seq ?_ | refine AW.region ?_ | refine AW.cond ?_ | refine AW.block ?_ | refine AW.loop ?_ | refine AW.skip ?_ | refine AW.exit ?_ | refine AW.ret ?_ | refine AF.one hT rfl ?_ | refine AF.nil ?_ | refine AF.imm hT rfl rfl rfl ?_ | refine AH.of hT rfl ?_ | refine AD.cons hT rfl ?_ | refine AD.nil ?_ | refine AQ.cons hT rfl ?_ | refine AQ.nil ?_); conv => whnf)
    refine ALoop.mk (fun n E H => ∃ (i : Nat) (d : List Hd), i ≤ l.length ∧ PartOf l (l.take i) d ∧ n = l.length - i ∧ E = pad [mvs l, .any, .v (.slice none 0 0), nV 0, hds d, nV i] 79 ∧ H = []) (n := l.length) _ _ ⟨0, [], by omega, PartOf.nil l, by omega, rfl, rfl⟩ (Conv.see ?_) ?_
    · repeat' (first | exact LendL.nil | refine LendL.cons .any ?_ | refine LendL.cons (.it _) ?_ | refine LendL.cons .nil ?_ | refine LendL.cons (.vx (cs' := []) rfl) ?_ | refine LendL.cons (.sip rfl) ?_ | refine LendL.cons (.sm' rfl ?_ ?_ ?_) ?_)
    rintro _ _ _ ⟨i, d, hi, hd, rfl, rfl, rfl⟩
    conv => whnf
    repeat ((first | refine AW.plan (id := 9) hm (.one 0 (.one 1 (.one 2 (.one 3 (.one 4 (.one 5 (.one 6 (.one 7 (.one 8 (.one 9 (.one 10 (.one 11 .nil)))))))))))) (by kernel_rfl) ?_ | refine AW.plan (id := 11) hm (.one 0 (.one 1 (.one 2 (.one 3 (.one 4 (.one 5 (.one 6 (.one 7 (.one 8 (.one 9 (.one 10 (.one 11 .nil)))))))))))) (by kernel_rfl) ?_ | refine AO.cons hT ?_ | refine AO.nil ?_ | refine AW.seq ?_ | refine AW.region ?_ | refine AW.cond ?_ | refine AW.block ?_ | refine AW.loop ?_ | refine AW.skip ?_ | refine AW.exit ?_ | refine AW.ret ?_ | refine AF.one hT rfl ?_ | refine AF.nil ?_ | refine AF.imm hT rfl rfl rfl ?_ | refine AH.of hT rfl ?_ | refine AD.cons hT rfl ?_ | refine AD.nil ?_ | refine AQ.cons hT rfl ?_ | refine AQ.nil ?_); conv => whnf)
    refine ACond.dec (fun h => ?_) (fun h => ?_)
    · have hil : i < l.length := by omega
      have e1 : Int.toNat (i : Int) = i := by omega
      conv => whnf
      repeat ((first | refine AW.plan (id := 9) hm (.one 0 (.one 1 (.one 2 (.one 3 (.one 4 (.one 5 (.one 6 (.one 7 (.one 8 (.one 9 (.one 10 (.one 11 .nil)))))))))))) (by kernel_rfl) ?_ | refine AW.plan (id := 11) hm (.one 0 (.one 1 (.one 2 (.one 3 (.one 4 (.one 5 (.one 6 (.one 7 (.one 8 (.one 9 (.one 10 (.one 11 .nil)))))))))))) (by kernel_rfl) ?_ | refine AO.cons hT ?_ | refine AO.nil ?_ | refine AW.seq ?_ | refine AW.region ?_ | refine AW.cond ?_ | refine AW.block ?_ | refine AW.loop ?_ | refine AW.skip ?_ | refine AW.exit ?_ | refine AW.ret ?_ | refine AF.one hT rfl ?_ | refine AF.nil ?_ | refine AF.imm hT rfl rfl rfl ?_ | refine AH.of hT rfl ?_ | refine AD.cons hT rfl ?_ | refine AD.nil ?_ | refine AQ.cons hT rfl ?_ | refine AQ.nil ?_ | (refine AReq.mk (by omega) ?_) | (refine AIdx.at mvC_len (xs := l) i (by omega) hil ?_)); conv => whnf)
      refine AW.plan hm (.one 0 (.one 1 (.one 2 (.one 3 (.one 5 (.one 6 (.one 7 (.one 8 (.one 10 (.one 11 (.one 12 (.one 13 (.one 14 (.one 16 (.one 17 (.one 18 (.one 19 (.one 15 (.one 20 (.imm 4 (.imm 9 (.fork 21 (.one 22 (.one 23 .nil)) 23 (.one 21 (.one 22 .nil)) (.one 24 .nil))))))))))))))))))))))) (by kernel_rfl) ?_
      conv => whnf
      repeat ((first | refine AW.plan (id := 9) hm (.one 0 (.one 1 (.one 2 (.one 3 (.one 4 (.one 5 (.one 6 (.one 7 (.one 8 (.one 9 (.one 10 (.one 11 .nil)))))))))))) (by kernel_rfl) ?_ | refine AW.plan (id := 11) hm (.one 0 (.one 1 (.one 2 (.one 3 (.one 4 (.one 5 (.one 6 (.one 7 (.one 8 (.one 9 (.one 10 (.one 11 .nil)))))))))))) (by kernel_rfl) ?_ | refine AO.cons hT ?_ | refine AO.nil ?_ | refine AW.seq ?_ | refine AW.region ?_ | refine AW.cond ?_ | refine AW.block ?_ | refine AW.loop ?_ | refine AW.skip ?_ | refine AW.exit ?_ | refine AW.ret ?_ | refine AF.one hT rfl ?_ | refine AF.nil ?_ | refine AF.imm hT rfl rfl rfl ?_ | refine AH.of hT rfl ?_ | refine AD.cons hT rfl ?_ | refine AD.nil ?_ | refine AQ.cons hT rfl ?_ | refine AQ.nil ?_ | (refine AReq.mk (by omega) ?_) | (refine AIdx.at mvC_len (xs := l) i (by omega) hil ?_) | (refine ACall.val (by kernel_rfl) (f44 l l[i].p l[i].i (by omega) (hsm _ _)) (by simp [renL, AV.ren, renL_mvs, mvs]) rfl ?_)); conv => whnf)
      apply AF.meet
      · conv => whnf
        repeat ((first | refine AW.plan (id := 9) hm (.one 0 (.one 1 (.one 2 (.one 3 (.one 4 (.one 5 (.one 6 (.one 7 (.one 8 (.one 9 (.one 10 (.one 11 .nil)))))))))))) (by kernel_rfl) ?_ | refine AW.plan (id := 11) hm (.one 0 (.one 1 (.one 2 (.one 3 (.one 4 (.one 5 (.one 6 (.one 7 (.one 8 (.one 9 (.one 10 (.one 11 .nil)))))))))))) (by kernel_rfl) ?_ | refine AO.cons hT ?_ | refine AO.nil ?_ | refine AW.seq ?_ | refine AW.region ?_ | refine AW.cond ?_ | refine AW.block ?_ | refine AW.loop ?_ | refine AW.skip ?_ | refine AW.exit ?_ | refine AW.ret ?_ | refine AF.one hT rfl ?_ | refine AF.nil ?_ | refine AF.imm hT rfl rfl rfl ?_ | refine AH.of hT rfl ?_ | refine AD.cons hT rfl ?_ | refine AD.nil ?_ | refine AQ.cons hT rfl ?_ | refine AQ.nil ?_ | (refine AReq.mk (by omega) ?_) | (refine AIdx.at mvC_len (xs := l) i (by omega) hil ?_) | (refine ACall.val (by kernel_rfl) (f44 l l[i].p l[i].i (by omega) (hsm _ _)) (by simp [renL, AV.ren, renL_mvs, mvs]) rfl ?_)); conv => whnf)
        exact ⟨rfl, rfl, rfl⟩
      · conv => whnf
        repeat ((first | refine AW.plan (id := 9) hm (.one 0 (.one 1 (.one 2 (.one 3 (.one 4 (.one 5 (.one 6 (.one 7 (.one 8 (.one 9 (.one 10 (.one 11 .nil)))))))))))) (by kernel_rfl) ?_ | refine AW.plan (id := 11) hm (.one 0 (.one 1 (.one 2 (.one 3 (.one 4 (.one 5 (.one 6 (.one 7 (.one 8 (.one 9 (.one 10 (.one 11 .nil)))))))))))) (by kernel_rfl) ?_ | refine AO.cons hT ?_ | refine AO.nil ?_ | refine AW.seq ?_ | refine AW.region ?_ | refine AW.cond ?_ | refine AW.block ?_ | refine AW.loop ?_ | refine AW.skip ?_ | refine AW.exit ?_ | refine AW.ret ?_ | refine AF.one hT rfl ?_ | refine AF.nil ?_ | refine AF.imm hT rfl rfl rfl ?_ | refine AH.of hT rfl ?_ | refine AD.cons hT rfl ?_ | refine AD.nil ?_ | refine AQ.cons hT rfl ?_ | refine AQ.nil ?_ | (refine AReq.mk (by omega) ?_) | (refine AIdx.at mvC_len (xs := l) i (by omega) hil ?_) | (refine ACall.val (by kernel_rfl) (f44 l l[i].p l[i].i (by omega) (hsm _ _)) (by simp [renL, AV.ren, renL_mvs, mvs]) rfl ?_)); conv => whnf)
        exact ⟨rfl, rfl, rfl⟩
      conv => whnf
      repeat ((first | refine AW.plan (id := 9) hm (.one 0 (.one 1 (.one 2 (.one 3 (.one 4 (.one 5 (.one 6 (.one 7 (.one 8 (.one 9 (.one 10 (.one 11 .nil)))))))))))) (by kernel_rfl) ?_ | refine AW.plan (id := 11) hm (.one 0 (.one 1 (.one 2 (.one 3 (.one 4 (.one 5 (.one 6 (.one 7 (.one 8 (.one 9 (.one 10 (.one 11 .nil)))))))))))) (by kernel_rfl) ?_ | refine AO.cons hT ?_ | refine AO.nil ?_ | refine AW.seq ?_ | refine AW.region ?_ | refine AW.cond ?_ | refine AW.block ?_ | refine AW.loop ?_ | refine AW.skip ?_ | refine AW.exit ?_ | refine AW.ret ?_ | refine AF.one hT rfl ?_ | refine AF.nil ?_ | refine AF.imm hT rfl rfl rfl ?_ | refine AH.of hT rfl ?_ | refine AD.cons hT rfl ?_ | refine AD.nil ?_ | refine AQ.cons hT rfl ?_ | refine AQ.nil ?_ | (refine AReq.mk (by omega) ?_) | (refine AIdx.at mvC_len (xs := l) i (by omega) hil ?_) | (refine ACall.val (by kernel_rfl) (f44 l l[i].p l[i].i (by omega) (hsm _ _)) (by simp [renL, AV.ren, renL_mvs, mvs]) rfl ?_)); conv => whnf)
      refine ALoop.mk (fun n E H => ∃ k : Nat, k ≤ d.length ∧ (∀ (t : Nat) (ht : t < d.length), t < k → hdLt d[t] (hOf l l[i]) = true) ∧ n = d.length - k ∧ E = pad [mvs l, .any, .v (.slice none 0 0), nV 0, hds d, nV i, .ip (hdC (hOf l l[i])), nV k] 79 ∧ H = []) (n := d.length) _ _ ⟨0, by omega, fun t _ h => by omega, rfl, rfl, rfl⟩ (Conv.outs ?_ ?_) ?_
      · repeat' (first | exact LendL.nil | refine LendL.cons .any ?_ | refine LendL.cons (.it _) ?_ | refine LendL.cons .nil ?_ | refine LendL.cons (.vx (cs' := []) rfl) ?_ | refine LendL.cons (.sip rfl) ?_ | refine LendL.cons (.sm' rfl ?_ ?_ ?_) ?_)
      · intro ρ; simp only [pad, renL, AV.ren, ren_mvs, ren_hds]; rfl
      rintro _ _ _ ⟨k, hk, hlow, rfl, rfl, rfl⟩
      conv => whnf
      repeat ((first | refine AW.plan (id := 9) hm (.one 0 (.one 1 (.one 2 (.one 3 (.one 4 (.one 5 (.one 6 (.one 7 (.one 8 (.one 9 (.one 10 (.one 11 .nil)))))))))))) (by kernel_rfl) ?_ | refine AW.plan (id := 11) hm (.one 0 (.one 1 (.one 2 (.one 3 (.one 4 (.one 5 (.one 6 (.one 7 (.one 8 (.one 9 (.one 10 (.one 11 .nil)))))))))))) (by kernel_rfl) ?_ | refine AO.cons hT ?_ | refine AO.nil ?_ | refine AW.seq ?_ | refine AW.region ?_ | refine AW.cond ?_ | refine AW.block ?_ | refine AW.loop ?_ | refine AW.skip ?_ | refine AW.exit ?_ | refine AW.ret ?_ | refine AF.one hT rfl ?_ | refine AF.nil ?_ | refine AF.imm hT rfl rfl rfl ?_ | refine AH.of hT rfl ?_ | refine AD.cons hT rfl ?_ | refine AD.nil ?_ | refine AQ.cons hT rfl ?_ | refine AQ.nil ?_ | (refine AReq.mk (by omega) ?_) | (refine AIdx.at mvC_len (xs := l) i (by omega) hil ?_) | (refine ACall.val (by kernel_rfl) (f44 l l[i].p l[i].i (by omega) (hsm _ _)) (by simp [renL, AV.ren, renL_mvs, mvs]) rfl ?_)); conv => whnf)
      have e2 : Int.toNat (k : Int) = k := by omega
      have hdl := hd.len
      rw [List.length_take] at hdl
      have hdl : d.length ≤ 300 := by omega
      refine ASplit.dec (fun hkl => ?_) (fun hkl => ?_)
      · have hkd : k < d.length := by omega
        conv => whnf
        repeat ((first | refine AW.plan (id := 9) hm (.one 0 (.one 1 (.one 2 (.one 3 (.one 4 (.one 5 (.one 6 (.one 7 (.one 8 (.one 9 (.one 10 (.one 11 .nil)))))))))))) (by kernel_rfl) ?_ | refine AW.plan (id := 11) hm (.one 0 (.one 1 (.one 2 (.one 3 (.one 4 (.one 5 (.one 6 (.one 7 (.one 8 (.one 9 (.one 10 (.one 11 .nil)))))))))))) (by kernel_rfl) ?_ | refine AO.cons hT ?_ | refine AO.nil ?_ | refine AW.seq ?_ | refine AW.region ?_ | refine AW.cond ?_ | refine AW.block ?_ | refine AW.loop ?_ | refine AW.skip ?_ | refine AW.exit ?_ | refine AW.ret ?_ | refine AF.one hT rfl ?_ | refine AF.nil ?_ | refine AF.imm hT rfl rfl rfl ?_ | refine AH.of hT rfl ?_ | refine AD.cons hT rfl ?_ | refine AD.nil ?_ | refine AQ.cons hT rfl ?_ | refine AQ.nil ?_ | (refine AReq.mk (by omega) ?_) | (refine AIdx.at mvC_len (xs := l) i (by omega) hil ?_) | (refine ACall.val (by kernel_rfl) (f44 l l[i].p l[i].i (by omega) (hsm _ _)) (by simp [renL, AV.ren, renL_mvs, mvs]) rfl ?_) | (refine ACut.iff.2 ⟨by rw [hd_len]; omega, ?_⟩) | (refine AReq.mk (by rw [eb]; omega) ?_) | (refine AIdx.at hdC_len (xs := d) k (by omega) hkd ?_) | (refine ACall.val (by kernel_rfl) (f47 d[k] (hOf l l[i])) rfl rfl ?_)); conv => whnf)
        by_cases hlt : hdLt d[k] (hOf l l[i]) = true
        · refine ACond.yes hlt ?_
          conv => whnf
          repeat ((first | refine AW.plan (id := 9) hm (.one 0 (.one 1 (.one 2 (.one 3 (.one 4 (.one 5 (.one 6 (.one 7 (.one 8 (.one 9 (.one 10 (.one 11 .nil)))))))))))) (by kernel_rfl) ?_ | refine AW.plan (id := 11) hm (.one 0 (.one 1 (.one 2 (.one 3 (.one 4 (.one 5 (.one 6 (.one 7 (.one 8 (.one 9 (.one 10 (.one 11 .nil)))))))))))) (by kernel_rfl) ?_ | refine AO.cons hT ?_ | refine AO.nil ?_ | refine AW.seq ?_ | refine AW.region ?_ | refine AW.cond ?_ | refine AW.block ?_ | refine AW.loop ?_ | refine AW.skip ?_ | refine AW.exit ?_ | refine AW.ret ?_ | refine AF.one hT rfl ?_ | refine AF.nil ?_ | refine AF.imm hT rfl rfl rfl ?_ | refine AH.of hT rfl ?_ | refine AD.cons hT rfl ?_ | refine AD.nil ?_ | refine AQ.cons hT rfl ?_ | refine AQ.nil ?_ | (refine AReq.mk (by omega) ?_) | (refine AIdx.at mvC_len (xs := l) i (by omega) hil ?_) | (refine ACall.val (by kernel_rfl) (f44 l l[i].p l[i].i (by omega) (hsm _ _)) (by simp [renL, AV.ren, renL_mvs, mvs]) rfl ?_) | (refine ACut.iff.2 ⟨by rw [hd_len]; omega, ?_⟩) | (refine AReq.mk (by rw [eb]; omega) ?_) | (refine AIdx.at hdC_len (xs := d) k (by omega) hkd ?_) | (refine ACall.val (by kernel_rfl) (f47 d[k] (hOf l l[i])) rfl rfl ?_)); conv => whnf)
          rw [wrap_i64 ((k : Int) + 1) (by omega) (by omega)]
          refine AHead.mk (d.length - (k + 1)) _ _ (by omega) ⟨k + 1, by omega, fun t ht h => ?_, rfl, rfl, rfl⟩ (Conv.fit ?_)
          · by_cases htk : t = k
            · subst htk; exact hlt
            · exact hlow t ht (by omega)
          repeat' (first | exact Fit.nil | refine Fit.any ?_ | refine Fit.same ?_)
        · have hlt : hdLt d[k] (hOf l l[i]) = false := by simpa using hlt
          refine ACond.no hlt ?_
          conv => whnf
          repeat ((first | refine AW.plan (id := 9) hm (.one 0 (.one 1 (.one 2 (.one 3 (.one 4 (.one 5 (.one 6 (.one 7 (.one 8 (.one 9 (.one 10 (.one 11 .nil)))))))))))) (by kernel_rfl) ?_ | refine AW.plan (id := 11) hm (.one 0 (.one 1 (.one 2 (.one 3 (.one 4 (.one 5 (.one 6 (.one 7 (.one 8 (.one 9 (.one 10 (.one 11 .nil)))))))))))) (by kernel_rfl) ?_ | refine AO.cons hT ?_ | refine AO.nil ?_ | refine AW.seq ?_ | refine AW.region ?_ | refine AW.cond ?_ | refine AW.block ?_ | refine AW.loop ?_ | refine AW.skip ?_ | refine AW.exit ?_ | refine AW.ret ?_ | refine AF.one hT rfl ?_ | refine AF.nil ?_ | refine AF.imm hT rfl rfl rfl ?_ | refine AH.of hT rfl ?_ | refine AD.cons hT rfl ?_ | refine AD.nil ?_ | refine AQ.cons hT rfl ?_ | refine AQ.nil ?_ | (refine AReq.mk (by omega) ?_) | (refine AIdx.at mvC_len (xs := l) i (by omega) hil ?_) | (refine ACall.val (by kernel_rfl) (f44 l l[i].p l[i].i (by omega) (hsm _ _)) (by simp [renL, AV.ren, renL_mvs, mvs]) rfl ?_) | (refine ACut.iff.2 ⟨by rw [hd_len]; omega, ?_⟩) | (refine AReq.mk (by rw [eb]; omega) ?_) | (refine AIdx.at hdC_len (xs := d) k (by omega) hkd ?_) | (refine ACall.val (by kernel_rfl) (f47 d[k] (hOf l l[i])) rfl rfl ?_)); conv => whnf)
          refine AOut.stay ?_
          conv => whnf
          repeat ((first | refine AW.plan (id := 9) hm (.one 0 (.one 1 (.one 2 (.one 3 (.one 4 (.one 5 (.one 6 (.one 7 (.one 8 (.one 9 (.one 10 (.one 11 .nil)))))))))))) (by kernel_rfl) ?_ | refine AW.plan (id := 11) hm (.one 0 (.one 1 (.one 2 (.one 3 (.one 4 (.one 5 (.one 6 (.one 7 (.one 8 (.one 9 (.one 10 (.one 11 .nil)))))))))))) (by kernel_rfl) ?_ | refine AO.cons hT ?_ | refine AO.nil ?_ | refine AW.seq ?_ | refine AW.region ?_ | refine AW.cond ?_ | refine AW.block ?_ | refine AW.loop ?_ | refine AW.skip ?_ | refine AW.exit ?_ | refine AW.ret ?_ | refine AF.one hT rfl ?_ | refine AF.nil ?_ | refine AF.imm hT rfl rfl rfl ?_ | refine AH.of hT rfl ?_ | refine AD.cons hT rfl ?_ | refine AD.nil ?_ | refine AQ.cons hT rfl ?_ | refine AQ.nil ?_ | (refine AReq.mk (by omega) ?_) | (refine AIdx.at mvC_len (xs := l) i (by omega) hil ?_) | (refine ACall.val (by kernel_rfl) (f44 l l[i].p l[i].i (by omega) (hsm _ _)) (by simp [renL, AV.ren, renL_mvs, mvs]) rfl ?_) | (refine ACut.iff.2 ⟨by rw [hd_len]; omega, ?_⟩) | (refine AReq.mk (by rw [eb]; omega) ?_) | (refine AIdx.at hdC_len (xs := d) k (by omega) hkd ?_) | (refine ACall.val (by kernel_rfl) (f47 d[k] (hOf l l[i])) rfl rfl ?_)); conv => whnf)
          refine ASplit.yes (decide_eq_true hkl) ?_
          conv => whnf
          repeat ((first | refine AW.plan (id := 9) hm (.one 0 (.one 1 (.one 2 (.one 3 (.one 4 (.one 5 (.one 6 (.one 7 (.one 8 (.one 9 (.one 10 (.one 11 .nil)))))))))))) (by kernel_rfl) ?_ | refine AW.plan (id := 11) hm (.one 0 (.one 1 (.one 2 (.one 3 (.one 4 (.one 5 (.one 6 (.one 7 (.one 8 (.one 9 (.one 10 (.one 11 .nil)))))))))))) (by kernel_rfl) ?_ | refine AO.cons hT ?_ | refine AO.nil ?_ | refine AW.seq ?_ | refine AW.region ?_ | refine AW.cond ?_ | refine AW.block ?_ | refine AW.loop ?_ | refine AW.skip ?_ | refine AW.exit ?_ | refine AW.ret ?_ | refine AF.one hT rfl ?_ | refine AF.nil ?_ | refine AF.imm hT rfl rfl rfl ?_ | refine AH.of hT rfl ?_ | refine AD.cons hT rfl ?_ | refine AD.nil ?_ | refine AQ.cons hT rfl ?_ | refine AQ.nil ?_ | (refine AReq.mk (by omega) ?_) | (refine AIdx.at mvC_len (xs := l) i (by omega) hil ?_) | (refine ACall.val (by kernel_rfl) (f44 l l[i].p l[i].i (by omega) (hsm _ _)) (by simp [renL, AV.ren, renL_mvs, mvs]) rfl ?_) | (refine ACut.iff.2 ⟨by rw [hd_len]; omega, ?_⟩) | (refine AReq.mk (by rw [eb]; omega) ?_) | (refine AIdx.at hdC_len (xs := d) k (by omega) hkd ?_) | (refine ACall.val (by kernel_rfl) (f47 d[k] (hOf l l[i])) rfl rfl ?_)); conv => whnf)
          refine AEqs.eql (ks := mvK) (vx := hdW d[k]) (vy := hdW (hOf l l[i])) (by kernel_rfl) (by kernel_rfl) rfl rfl rfl rfl ?_
          rw [eqL_hd]
          conv => whnf
          repeat ((first | refine AW.plan (id := 9) hm (.one 0 (.one 1 (.one 2 (.one 3 (.one 4 (.one 5 (.one 6 (.one 7 (.one 8 (.one 9 (.one 10 (.one 11 .nil)))))))))))) (by kernel_rfl) ?_ | refine AW.plan (id := 11) hm (.one 0 (.one 1 (.one 2 (.one 3 (.one 4 (.one 5 (.one 6 (.one 7 (.one 8 (.one 9 (.one 10 (.one 11 .nil)))))))))))) (by kernel_rfl) ?_ | refine AO.cons hT ?_ | refine AO.nil ?_ | refine AW.seq ?_ | refine AW.region ?_ | refine AW.cond ?_ | refine AW.block ?_ | refine AW.loop ?_ | refine AW.skip ?_ | refine AW.exit ?_ | refine AW.ret ?_ | refine AF.one hT rfl ?_ | refine AF.nil ?_ | refine AF.imm hT rfl rfl rfl ?_ | refine AH.of hT rfl ?_ | refine AD.cons hT rfl ?_ | refine AD.nil ?_ | refine AQ.cons hT rfl ?_ | refine AQ.nil ?_ | (refine AReq.mk (by omega) ?_) | (refine AIdx.at mvC_len (xs := l) i (by omega) hil ?_) | (refine ACall.val (by kernel_rfl) (f44 l l[i].p l[i].i (by omega) (hsm _ _)) (by simp [renL, AV.ren, renL_mvs, mvs]) rfl ?_) | (refine ACut.iff.2 ⟨by rw [hd_len]; omega, ?_⟩) | (refine AReq.mk (by rw [eb]; omega) ?_) | (refine AIdx.at hdC_len (xs := d) k (by omega) hkd ?_) | (refine ACall.val (by kernel_rfl) (f47 d[k] (hOf l l[i])) rfl rfl ?_)); conv => whnf)
          refine ACond.dec (fun heq => ?_) (fun heq => ?_)
          · conv => whnf
            repeat ((first | refine AW.plan (id := 9) hm (.one 0 (.one 1 (.one 2 (.one 3 (.one 4 (.one 5 (.one 6 (.one 7 (.one 8 (.one 9 (.one 10 (.one 11 .nil)))))))))))) (by kernel_rfl) ?_ | refine AW.plan (id := 11) hm (.one 0 (.one 1 (.one 2 (.one 3 (.one 4 (.one 5 (.one 6 (.one 7 (.one 8 (.one 9 (.one 10 (.one 11 .nil)))))))))))) (by kernel_rfl) ?_ | refine AO.cons hT ?_ | refine AO.nil ?_ | refine AW.seq ?_ | refine AW.region ?_ | refine AW.cond ?_ | refine AW.block ?_ | refine AW.loop ?_ | refine AW.skip ?_ | refine AW.exit ?_ | refine AW.ret ?_ | refine AF.one hT rfl ?_ | refine AF.nil ?_ | refine AF.imm hT rfl rfl rfl ?_ | refine AH.of hT rfl ?_ | refine AD.cons hT rfl ?_ | refine AD.nil ?_ | refine AQ.cons hT rfl ?_ | refine AQ.nil ?_ | (refine AReq.mk (by omega) ?_) | (refine AIdx.at mvC_len (xs := l) i (by omega) hil ?_) | (refine ACall.val (by kernel_rfl) (f44 l l[i].p l[i].i (by omega) (hsm _ _)) (by simp [renL, AV.ren, renL_mvs, mvs]) rfl ?_) | (refine ACut.iff.2 ⟨by rw [hd_len]; omega, ?_⟩) | (refine AReq.mk (by rw [eb]; omega) ?_) | (refine AIdx.at hdC_len (xs := d) k (by omega) hkd ?_) | (refine ACall.val (by kernel_rfl) (f47 d[k] (hOf l l[i])) rfl rfl ?_)); conv => whnf)
            rw [wrap_i64 ((i : Int) + 1) (by omega) (by omega)]
            refine AHead.mk (l.length - (i + 1)) (pad [mvs l, .any, .v (.slice none 0 0), nV 0, hds d, nV ((i + 1 : Nat) : Int)] 79) [] (by omega) ⟨i + 1, d, by omega, ?_, rfl, rfl, rfl⟩ (Conv.outs ?_ ?_)
            · rw [take_snoc l i hil]
              exact hd.same (heq ▸ List.getElem_mem hkd)
            · repeat' (first | exact LendL.nil | refine LendL.cons .any ?_ | refine LendL.cons (.it _) ?_ | refine LendL.cons .nil ?_ | refine LendL.cons (.vx (cs' := []) rfl) ?_ | refine LendL.cons (.sip rfl) ?_ | refine LendL.cons (.sm' rfl ?_ ?_ ?_) ?_)
            · intro ρ; simp only [pad, renL, AV.ren, ren_mvs, ren_hds]; rfl
          · conv => whnf
            repeat ((first | refine AW.plan (id := 9) hm (.one 0 (.one 1 (.one 2 (.one 3 (.one 4 (.one 5 (.one 6 (.one 7 (.one 8 (.one 9 (.one 10 (.one 11 .nil)))))))))))) (by kernel_rfl) ?_ | refine AW.plan (id := 11) hm (.one 0 (.one 1 (.one 2 (.one 3 (.one 4 (.one 5 (.one 6 (.one 7 (.one 8 (.one 9 (.one 10 (.one 11 .nil)))))))))))) (by kernel_rfl) ?_ | refine AO.cons hT ?_ | refine AO.nil ?_ | refine AW.seq ?_ | refine AW.region ?_ | refine AW.cond ?_ | refine AW.block ?_ | refine AW.loop ?_ | refine AW.skip ?_ | refine AW.exit ?_ | refine AW.ret ?_ | refine AF.one hT rfl ?_ | refine AF.nil ?_ | refine AF.imm hT rfl rfl rfl ?_ | refine AH.of hT rfl ?_ | refine AD.cons hT rfl ?_ | refine AD.nil ?_ | refine AQ.cons hT rfl ?_ | refine AQ.nil ?_ | (refine AReq.mk (by omega) ?_) | (refine AIdx.at mvC_len (xs := l) i (by omega) hil ?_) | (refine ACall.val (by kernel_rfl) (f44 l l[i].p l[i].i (by omega) (hsm _ _)) (by simp [renL, AV.ren, renL_mvs, mvs]) rfl ?_) | (refine ACut.iff.2 ⟨by rw [hd_len]; omega, ?_⟩) | (refine AReq.mk (by rw [eb]; omega) ?_) | (refine AIdx.at hdC_len (xs := d) k (by omega) hkd ?_) | (refine ACall.val (by kernel_rfl) (f47 d[k] (hOf l l[i])) rfl rfl ?_)); conv => whnf)
            refine AW.plan hm (.one 1 (.one 2 (.one 3 (.one 8 (.one 9 (.one 10 (.imm 5 (.fork 0 (.fork 4 (.one 6 .nil) 6 (.one 4 .nil) .nil) 6 (.one 0 (.one 4 .nil)) (.one 7 (.one 11 (.one 12 .nil))))))))))) (by kernel_rfl) ?_
            conv => whnf
            repeat ((first | refine AW.plan (id := 9) hm (.one 0 (.one 1 (.one 2 (.one 3 (.one 4 (.one 5 (.one 6 (.one 7 (.one 8 (.one 9 (.one 10 (.one 11 .nil)))))))))))) (by kernel_rfl) ?_ | refine AW.plan (id := 11) hm (.one 0 (.one 1 (.one 2 (.one 3 (.one 4 (.one 5 (.one 6 (.one 7 (.one 8 (.one 9 (.one 10 (.one 11 .nil)))))))))))) (by kernel_rfl) ?_ | refine AO.cons hT ?_ | refine AO.nil ?_ | refine AW.seq ?_ | refine AW.region ?_ | refine AW.cond ?_ | refine AW.block ?_ | refine AW.loop ?_ | refine AW.skip ?_ | refine AW.exit ?_ | refine AW.ret ?_ | refine AF.one hT rfl ?_ | refine AF.nil ?_ | refine AF.imm hT rfl rfl rfl ?_ | refine AH.of hT rfl ?_ | refine AD.cons hT rfl ?_ | refine AD.nil ?_ | refine AQ.cons hT rfl ?_ | refine AQ.nil ?_ | (refine AReq.mk (by omega) ?_) | (refine AIdx.at mvC_len (xs := l) i (by omega) hil ?_) | (refine ACall.val (by kernel_rfl) (f44 l l[i].p l[i].i (by omega) (hsm _ _)) (by simp [renL, AV.ren, renL_mvs, mvs]) rfl ?_) | (refine ACut.iff.2 ⟨by rw [hd_len]; omega, ?_⟩) | (refine AReq.mk (by rw [eb]; omega) ?_) | (refine AIdx.at hdC_len (xs := d) k (by omega) hkd ?_) | (refine ACall.val (by kernel_rfl) (f47 d[k] (hOf l l[i])) rfl rfl ?_)); conv => whnf)
            rw [e2, cut_to hdC_len d k, cut_from hdC_len d k]
            rcases Nat.eq_zero_or_pos k with hk0 | hk0
            · apply AF.meet
              · conv => whnf
                repeat ((first | refine AW.plan (id := 9) hm (.one 0 (.one 1 (.one 2 (.one 3 (.one 4 (.one 5 (.one 6 (.one 7 (.one 8 (.one 9 (.one 10 (.one 11 .nil)))))))))))) (by kernel_rfl) ?_ | refine AW.plan (id := 11) hm (.one 0 (.one 1 (.one 2 (.one 3 (.one 4 (.one 5 (.one 6 (.one 7 (.one 8 (.one 9 (.one 10 (.one 11 .nil)))))))))))) (by kernel_rfl) ?_ | refine AO.cons hT ?_ | refine AO.nil ?_ | refine AW.seq ?_ | refine AW.region ?_ | refine AW.cond ?_ | refine AW.block ?_ | refine AW.loop ?_ | refine AW.skip ?_ | refine AW.exit ?_ | refine AW.ret ?_ | refine AF.one hT rfl ?_ | refine AF.nil ?_ | refine AF.imm hT rfl rfl rfl ?_ | refine AH.of hT rfl ?_ | refine AD.cons hT rfl ?_ | refine AD.nil ?_ | refine AQ.cons hT rfl ?_ | refine AQ.nil ?_ | (refine AReq.mk (by omega) ?_) | (refine AIdx.at mvC_len (xs := l) i (by omega) hil ?_) | (refine ACall.val (by kernel_rfl) (f44 l l[i].p l[i].i (by omega) (hsm _ _)) (by simp [renL, AV.ren, renL_mvs, mvs]) rfl ?_) | (refine ACut.iff.2 ⟨by rw [hd_len]; omega, ?_⟩) | (refine AReq.mk (by rw [eb]; omega) ?_) | (refine AIdx.at hdC_len (xs := d) k (by omega) hkd ?_) | (refine ACall.val (by kernel_rfl) (f47 d[k] (hOf l l[i])) rfl rfl ?_) | (refine ASplit.yes (decide_eq_true (by omega)) ?_) | (refine ASplit.no (decide_eq_false (by omega)) ?_) | (refine AReq.mk ⟨by simp only [List.nil_append, List.length_append, List.length_cons, List.length_nil, hd_len, hdC_len, esz, List.length_take] <;> omega, by rw [eb]; omega⟩ ?_)); conv => whnf)
                apply AF.meet
                · conv => whnf
                  repeat ((first | refine AW.plan (id := 9) hm (.one 0 (.one 1 (.one 2 (.one 3 (.one 4 (.one 5 (.one 6 (.one 7 (.one 8 (.one 9 (.one 10 (.one 11 .nil)))))))))))) (by kernel_rfl) ?_ | refine AW.plan (id := 11) hm (.one 0 (.one 1 (.one 2 (.one 3 (.one 4 (.one 5 (.one 6 (.one 7 (.one 8 (.one 9 (.one 10 (.one 11 .nil)))))))))))) (by kernel_rfl) ?_ | refine AO.cons hT ?_ | refine AO.nil ?_ | refine AW.seq ?_ | refine AW.region ?_ | refine AW.cond ?_ | refine AW.block ?_ | refine AW.loop ?_ | refine AW.skip ?_ | refine AW.exit ?_ | refine AW.ret ?_ | refine AF.one hT rfl ?_ | refine AF.nil ?_ | refine AF.imm hT rfl rfl rfl ?_ | refine AH.of hT rfl ?_ | refine AD.cons hT rfl ?_ | refine AD.nil ?_ | refine AQ.cons hT rfl ?_ | refine AQ.nil ?_ | (refine AReq.mk (by omega) ?_) | (refine AIdx.at mvC_len (xs := l) i (by omega) hil ?_) | (refine ACall.val (by kernel_rfl) (f44 l l[i].p l[i].i (by omega) (hsm _ _)) (by simp [renL, AV.ren, renL_mvs, mvs]) rfl ?_) | (refine ACut.iff.2 ⟨by rw [hd_len]; omega, ?_⟩) | (refine AReq.mk (by rw [eb]; omega) ?_) | (refine AIdx.at hdC_len (xs := d) k (by omega) hkd ?_) | (refine ACall.val (by kernel_rfl) (f47 d[k] (hOf l l[i])) rfl rfl ?_) | (refine ASplit.yes (decide_eq_true (by omega)) ?_) | (refine ASplit.no (decide_eq_false (by omega)) ?_) | (refine AReq.mk ⟨by simp only [List.nil_append, List.length_append, List.length_cons, List.length_nil, hd_len, hdC_len, esz, List.length_take] <;> omega, by rw [eb]; omega⟩ ?_)); conv => whnf)
                  exact ⟨rfl, rfl, rfl⟩
                · conv => whnf
                  repeat ((first | refine AW.plan (id := 9) hm (.one 0 (.one 1 (.one 2 (.one 3 (.one 4 (.one 5 (.one 6 (.one 7 (.one 8 (.one 9 (.one 10 (.one 11 .nil)))))))))))) (by kernel_rfl) ?_ | refine AW.plan (id := 11) hm (.one 0 (.one 1 (.one 2 (.one 3 (.one 4 (.one 5 (.one 6 (.one 7 (.one 8 (.one 9 (.one 10 (.one 11 .nil)))))))))))) (by kernel_rfl) ?_ | refine AO.cons hT ?_ | refine AO.nil ?_ | refine AW.seq ?_ | refine AW.region ?_ | refine AW.cond ?_ | refine AW.block ?_ | refine AW.loop ?_ | refine AW.skip ?_ | refine AW.exit ?_ | refine AW.ret ?_ | refine AF.one hT rfl ?_ | refine AF.nil ?_ | refine AF.imm hT rfl rfl rfl ?_ | refine AH.of hT rfl ?_ | refine AD.cons hT rfl ?_ | refine AD.nil ?_ | refine AQ.cons hT rfl ?_ | refine AQ.nil ?_ | (refine AReq.mk (by omega) ?_) | (refine AIdx.at mvC_len (xs := l) i (by omega) hil ?_) | (refine ACall.val (by kernel_rfl) (f44 l l[i].p l[i].i (by omega) (hsm _ _)) (by simp [renL, AV.ren, renL_mvs, mvs]) rfl ?_) | (refine ACut.iff.2 ⟨by rw [hd_len]; omega, ?_⟩) | (refine AReq.mk (by rw [eb]; omega) ?_) | (refine AIdx.at hdC_len (xs := d) k (by omega) hkd ?_) | (refine ACall.val (by kernel_rfl) (f47 d[k] (hOf l l[i])) rfl rfl ?_) | (refine ASplit.yes (decide_eq_true (by omega)) ?_) | (refine ASplit.no (decide_eq_false (by omega)) ?_) | (refine AReq.mk ⟨by simp only [List.nil_append, List.length_append, List.length_cons, List.length_nil, hd_len, hdC_len, esz, List.length_take] <;> omega, by rw [eb]; omega⟩ ?_)); conv => whnf)
                  exact ⟨rfl, rfl, rfl⟩
                · conv => whnf
                  repeat ((first | refine AW.plan (id := 9) hm (.one 0 (.one 1 (.one 2 (.one 3 (.one 4 (.one 5 (.one 6 (.one 7 (.one 8 (.one 9 (.one 10 (.one 11 .nil)))))))))))) (by kernel_rfl) ?_ | refine AW.plan (id := 11) hm (.one 0 (.one 1 (.one 2 (.one 3 (.one 4 (.one 5 (.one 6 (.one 7 (.one 8 (.one 9 (.one 10 (.one 11 .nil)))))))))))) (by kernel_rfl) ?_ | refine AO.cons hT ?_ | refine AO.nil ?_ | refine AW.seq ?_ | refine AW.region ?_ | refine AW.cond ?_ | refine AW.block ?_ | refine AW.loop ?_ | refine AW.skip ?_ | refine AW.exit ?_ | refine AW.ret ?_ | refine AF.one hT rfl ?_ | refine AF.nil ?_ | refine AF.imm hT rfl rfl rfl ?_ | refine AH.of hT rfl ?_ | refine AD.cons hT rfl ?_ | refine AD.nil ?_ | refine AQ.cons hT rfl ?_ | refine AQ.nil ?_ | (refine AReq.mk (by omega) ?_) | (refine AIdx.at mvC_len (xs := l) i (by omega) hil ?_) | (refine ACall.val (by kernel_rfl) (f44 l l[i].p l[i].i (by omega) (hsm _ _)) (by simp [renL, AV.ren, renL_mvs, mvs]) rfl ?_) | (refine ACut.iff.2 ⟨by rw [hd_len]; omega, ?_⟩) | (refine AReq.mk (by rw [eb]; omega) ?_) | (refine AIdx.at hdC_len (xs := d) k (by omega) hkd ?_) | (refine ACall.val (by kernel_rfl) (f47 d[k] (hOf l l[i])) rfl rfl ?_) | (refine ASplit.yes (decide_eq_true (by omega)) ?_) | (refine ASplit.no (decide_eq_false (by omega)) ?_) | (refine AReq.mk ⟨by simp only [List.nil_append, List.length_append, List.length_cons, List.length_nil, hd_len, hdC_len, esz, List.length_take] <;> omega, by rw [eb]; omega⟩ ?_)); conv => whnf)
                  exact ⟨rfl, rfl, rfl⟩
              · conv => whnf
                repeat ((first | refine AW.plan (id := 9) hm (.one 0 (.one 1 (.one 2 (.one 3 (.one 4 (.one 5 (.one 6 (.one 7 (.one 8 (.one 9 (.one 10 (.one 11 .nil)))))))))))) (by kernel_rfl) ?_ | refine AW.plan (id := 11) hm (.one 0 (.one 1 (.one 2 (.one 3 (.one 4 (.one 5 (.one 6 (.one 7 (.one 8 (.one 9 (.one 10 (.one 11 .nil)))))))))))) (by kernel_rfl) ?_ | refine AO.cons hT ?_ | refine AO.nil ?_ | refine AW.seq ?_ | refine AW.region ?_ | refine AW.cond ?_ | refine AW.block ?_ | refine AW.loop ?_ | refine AW.skip ?_ | refine AW.exit ?_ | refine AW.ret ?_ | refine AF.one hT rfl ?_ | refine AF.nil ?_ | refine AF.imm hT rfl rfl rfl ?_ | refine AH.of hT rfl ?_ | refine AD.cons hT rfl ?_ | refine AD.nil ?_ | refine AQ.cons hT rfl ?_ | refine AQ.nil ?_ | (refine AReq.mk (by omega) ?_) | (refine AIdx.at mvC_len (xs := l) i (by omega) hil ?_) | (refine ACall.val (by kernel_rfl) (f44 l l[i].p l[i].i (by omega) (hsm _ _)) (by simp [renL, AV.ren, renL_mvs, mvs]) rfl ?_) | (refine ACut.iff.2 ⟨by rw [hd_len]; omega, ?_⟩) | (refine AReq.mk (by rw [eb]; omega) ?_) | (refine AIdx.at hdC_len (xs := d) k (by omega) hkd ?_) | (refine ACall.val (by kernel_rfl) (f47 d[k] (hOf l l[i])) rfl rfl ?_) | (refine ASplit.yes (decide_eq_true (by omega)) ?_) | (refine ASplit.no (decide_eq_false (by omega)) ?_) | (refine AReq.mk ⟨by simp only [List.nil_append, List.length_append, List.length_cons, List.length_nil, hd_len, hdC_len, esz, List.length_take] <;> omega, by rw [eb]; omega⟩ ?_)); conv => whnf)
                exact ⟨rfl, rfl, rfl⟩
              conv => whnf
              repeat ((first | refine AW.plan (id := 9) hm (.one 0 (.one 1 (.one 2 (.one 3 (.one 4 (.one 5 (.one 6 (.one 7 (.one 8 (.one 9 (.one 10 (.one 11 .nil)))))))))))) (by kernel_rfl) ?_ | refine AW.plan (id := 11) hm (.one 0 (.one 1 (.one 2 (.one 3 (.one 4 (.one 5 (.one 6 (.one 7 (.one 8 (.one 9 (.one 10 (.one 11 .nil)))))))))))) (by kernel_rfl) ?_ | refine AO.cons hT ?_ | refine AO.nil ?_ | refine AW.seq ?_ | refine AW.region ?_ | refine AW.cond ?_ | refine AW.block ?_ | refine AW.loop ?_ | refine AW.skip ?_ | refine AW.exit ?_ | refine AW.ret ?_ | refine AF.one hT rfl ?_ | refine AF.nil ?_ | refine AF.imm hT rfl rfl rfl ?_ | refine AH.of hT rfl ?_ | refine AD.cons hT rfl ?_ | refine AD.nil ?_ | refine AQ.cons hT rfl ?_ | refine AQ.nil ?_ | (refine AReq.mk (by omega) ?_) | (refine AIdx.at mvC_len (xs := l) i (by omega) hil ?_) | (refine ACall.val (by kernel_rfl) (f44 l l[i].p l[i].i (by omega) (hsm _ _)) (by simp [renL, AV.ren, renL_mvs, mvs]) rfl ?_) | (refine ACut.iff.2 ⟨by rw [hd_len]; omega, ?_⟩) | (refine AReq.mk (by rw [eb]; omega) ?_) | (refine AIdx.at hdC_len (xs := d) k (by omega) hkd ?_) | (refine ACall.val (by kernel_rfl) (f47 d[k] (hOf l l[i])) rfl rfl ?_) | (refine ASplit.yes (decide_eq_true (by omega)) ?_) | (refine ASplit.no (decide_eq_false (by omega)) ?_) | (refine AReq.mk ⟨by simp only [List.nil_append, List.length_append, List.length_cons, List.length_nil, hd_len, hdC_len, esz, List.length_take] <;> omega, by rw [eb]; omega⟩ ?_)); conv => whnf)
              rw [wrap_i64 ((i : Int) + 1) (by omega) (by omega)]
              refine AHead.mk (l.length - (i + 1)) (pad [mvs l, .any, .v (.slice none 0 0), nV 0, hds (d.take k ++ hOf l l[i] :: d.drop k), nV ((i + 1 : Nat) : Int)] 79) [] (by omega) ⟨i + 1, _, by omega, ?_, rfl, rfl, rfl⟩ (Conv.outs ?_ ?_)
              · rw [take_snoc l i hil]
                exact hd.ins hk hlow (fun _ => ⟨hlt, heq⟩)
              · repeat' (first | exact LendL.nil | refine LendL.cons .any ?_ | refine LendL.cons (.it _) ?_ | refine LendL.cons .nil ?_ | refine LendL.cons (.vx (cs' := []) rfl) ?_ | refine LendL.cons (.sip rfl) ?_ | refine LendL.cons (.sm' rfl ?_ ?_ ?_) ?_)
                · simp only [List.length_append, List.length_cons, hd_len, List.length_take, List.length_drop, esz]
                · subst hk0; simp [hdC]
                · simp only [List.length_append, List.length_cons, List.length_take, List.length_drop]; omega
              · intro ρ; simp only [pad, renL, AV.ren, ren_mvs, ren_hds]; rfl
            · apply AF.meet
              · conv => whnf
                repeat ((first | refine AW.plan (id := 9) hm (.one 0 (.one 1 (.one 2 (.one 3 (.one 4 (.one 5 (.one 6 (.one 7 (.one 8 (.one 9 (.one 10 (.one 11 .nil)))))))))))) (by kernel_rfl) ?_ | refine AW.plan (id := 11) hm (.one 0 (.one 1 (.one 2 (.one 3 (.one 4 (.one 5 (.one 6 (.one 7 (.one 8 (.one 9 (.one 10 (.one 11 .nil)))))))))))) (by kernel_rfl) ?_ | refine AO.cons hT ?_ | refine AO.nil ?_ | refine AW.seq ?_ | refine AW.region ?_ | refine AW.cond ?_ | refine AW.block ?_ | refine AW.loop ?_ | refine AW.skip ?_ | refine AW.exit ?_ | refine AW.ret ?_ | refine AF.one hT rfl ?_ | refine AF.nil ?_ | refine AF.imm hT rfl rfl rfl ?_ | refine AH.of hT rfl ?_ | refine AD.cons hT rfl ?_ | refine AD.nil ?_ | refine AQ.cons hT rfl ?_ | refine AQ.nil ?_ | (refine AReq.mk (by omega) ?_) | (refine AIdx.at mvC_len (xs := l) i (by omega) hil ?_) | (refine ACall.val (by kernel_rfl) (f44 l l[i].p l[i].i (by omega) (hsm _ _)) (by simp [renL, AV.ren, renL_mvs, mvs]) rfl ?_) | (refine ACut.iff.2 ⟨by rw [hd_len]; omega, ?_⟩) | (refine AReq.mk (by rw [eb]; omega) ?_) | (refine AIdx.at hdC_len (xs := d) k (by omega) hkd ?_) | (refine ACall.val (by kernel_rfl) (f47 d[k] (hOf l l[i])) rfl rfl ?_) | (refine ASplit.yes (decide_eq_true (by omega)) ?_) | (refine ASplit.no (decide_eq_false (by omega)) ?_) | (refine AReq.mk ⟨by simp only [List.nil_append, List.length_append, List.length_cons, List.length_nil, hd_len, hdC_len, esz, List.length_take] <;> omega, by rw [eb]; omega⟩ ?_)); conv => whnf)
                apply AF.meet
                · conv => whnf
                  repeat ((first | refine AW.plan (id := 9) hm (.one 0 (.one 1 (.one 2 (.one 3 (.one 4 (.one 5 (.one 6 (.one 7 (.one 8 (.one 9 (.one 10 (.one 11 .nil)))))))))))) (by kernel_rfl) ?_ | refine AW.plan (id := 11) hm (.one 0 (.one 1 (.one 2 (.one 3 (.one 4 (.one 5 (.one 6 (.one 7 (.one 8 (.one 9 (.one 10 (.one 11 .nil)))))))))))) (by kernel_rfl) ?_ | refine AO.cons hT ?_ | refine AO.nil ?_ | refine AW.seq ?_ | refine AW.region ?_ | refine AW.cond ?_ | refine AW.block ?_ | refine AW.loop ?_ | refine AW.skip ?_ | refine AW.exit ?_ | refine AW.ret ?_ | refine AF.one hT rfl ?_ | refine AF.nil ?_ | refine AF.imm hT rfl rfl rfl ?_ | refine AH.of hT rfl ?_ | refine AD.cons hT rfl ?_ | refine AD.nil ?_ | refine AQ.cons hT rfl ?_ | refine AQ.nil ?_ | (refine AReq.mk (by omega) ?_) | (refine AIdx.at mvC_len (xs := l) i (by omega) hil ?_) | (refine ACall.val (by kernel_rfl) (f44 l l[i].p l[i].i (by omega) (hsm _ _)) (by simp [renL, AV.ren, renL_mvs, mvs]) rfl ?_) | (refine ACut.iff.2 ⟨by rw [hd_len]; omega, ?_⟩) | (refine AReq.mk (by rw [eb]; omega) ?_) | (refine AIdx.at hdC_len (xs := d) k (by omega) hkd ?_) | (refine ACall.val (by kernel_rfl) (f47 d[k] (hOf l l[i])) rfl rfl ?_) | (refine ASplit.yes (decide_eq_true (by omega)) ?_) | (refine ASplit.no (decide_eq_false (by omega)) ?_) | (refine AReq.mk ⟨by simp only [List.nil_append, List.length_append, List.length_cons, List.length_nil, hd_len, hdC_len, esz, List.length_take] <;> omega, by rw [eb]; omega⟩ ?_)); conv => whnf)
                  exact ⟨rfl, rfl, rfl⟩
                · conv => whnf
                  repeat ((first | refine AW.plan (id := 9) hm (.one 0 (.one 1 (.one 2 (.one 3 (.one 4 (.one 5 (.one 6 (.one 7 (.one 8 (.one 9 (.one 10 (.one 11 .nil)))))))))))) (by kernel_rfl) ?_ | refine AW.plan (id := 11) hm (.one 0 (.one 1 (.one 2 (.one 3 (.one 4 (.one 5 (.one 6 (.one 7 (.one 8 (.one 9 (.one 10 (.one 11 .nil)))))))))))) (by kernel_rfl) ?_ | refine AO.cons hT ?_ | refine AO.nil ?_ | refine AW.seq ?_ | refine AW.region ?_ | refine AW.cond ?_ | refine AW.block ?_ | refine AW.loop ?_ | refine AW.skip ?_ | refine AW.exit ?_ | refine AW.ret ?_ | refine AF.one hT rfl ?_ | refine AF.nil ?_ | refine AF.imm hT rfl rfl rfl ?_ | refine AH.of hT rfl ?_ | refine AD.cons hT rfl ?_ | refine AD.nil ?_ | refine AQ.cons hT rfl ?_ | refine AQ.nil ?_ | (refine AReq.mk (by omega) ?_) | (refine AIdx.at mvC_len (xs := l) i (by omega) hil ?_) | (refine ACall.val (by kernel_rfl) (f44 l l[i].p l[i].i (by omega) (hsm _ _)) (by simp [renL, AV.ren, renL_mvs, mvs]) rfl ?_) | (refine ACut.iff.2 ⟨by rw [hd_len]; omega, ?_⟩) | (refine AReq.mk (by rw [eb]; omega) ?_) | (refine AIdx.at hdC_len (xs := d) k (by omega) hkd ?_) | (refine ACall.val (by kernel_rfl) (f47 d[k] (hOf l l[i])) rfl rfl ?_) | (refine ASplit.yes (decide_eq_true (by omega)) ?_) | (refine ASplit.no (decide_eq_false (by omega)) ?_) | (refine AReq.mk ⟨by simp only [List.nil_append, List.length_append, List.length_cons, List.length_nil, hd_len, hdC_len, esz, List.length_take] <;> omega, by rw [eb]; omega⟩ ?_)); conv => whnf)
                  exact ⟨rfl, rfl, rfl⟩
                · conv => whnf
                  repeat ((first | refine AW.plan (id := 9) hm (.one 0 (.one 1 (.one 2 (.one 3 (.one 4 (.one 5 (.one 6 (.one 7 (.one 8 (.one 9 (.one 10 (.one 11 .nil)))))))))))) (by kernel_rfl) ?_ | refine AW.plan (id := 11) hm (.one 0 (.one 1 (.one 2 (.one 3 (.one 4 (.one 5 (.one 6 (.one 7 (.one 8 (.one 9 (.one 10 (.one 11 .nil)))))))))))) (by kernel_rfl) ?_ | refine AO.cons hT ?_ | refine AO.nil ?_ | refine AW.seq ?_ | refine AW.region ?_ | refine AW.cond ?_ | refine AW.block ?_ | refine AW.loop ?_ | refine AW.skip ?_ | refine AW.exit ?_ | refine AW.ret ?_ | refine AF.one hT rfl ?_ | refine AF.nil ?_ | refine AF.imm hT rfl rfl rfl ?_ | refine AH.of hT rfl ?_ | refine AD.cons hT rfl ?_ | refine AD.nil ?_ | refine AQ.cons hT rfl ?_ | refine AQ.nil ?_ | (refine AReq.mk (by omega) ?_) | (refine AIdx.at mvC_len (xs := l) i (by omega) hil ?_) | (refine ACall.val (by kernel_rfl) (f44 l l[i].p l[i].i (by omega) (hsm _ _)) (by simp [renL, AV.ren, renL_mvs, mvs]) rfl ?_) | (refine ACut.iff.2 ⟨by rw [hd_len]; omega, ?_⟩) | (refine AReq.mk (by rw [eb]; omega) ?_) | (refine AIdx.at hdC_len (xs := d) k (by omega) hkd ?_) | (refine ACall.val (by kernel_rfl) (f47 d[k] (hOf l l[i])) rfl rfl ?_) | (refine ASplit.yes (decide_eq_true (by omega)) ?_) | (refine ASplit.no (decide_eq_false (by omega)) ?_) | (refine AReq.mk ⟨by simp only [List.nil_append, List.length_append, List.length_cons, List.length_nil, hd_len, hdC_len, esz, List.length_take] <;> omega, by rw [eb]; omega⟩ ?_)); conv => whnf)
                  exact ⟨rfl, rfl, rfl⟩
              · conv => whnf
                repeat ((first | refine AW.plan (id := 9) hm (.one 0 (.one 1 (.one 2 (.one 3 (.one 4 (.one 5 (.one 6 (.one 7 (.one 8 (.one 9 (.one 10 (.one 11 .nil)))))))))))) (by kernel_rfl) ?_ | refine AW.plan (id := 11) hm (.one 0 (.one 1 (.one 2 (.one 3 (.one 4 (.one 5 (.one 6 (.one 7 (.one 8 (.one 9 (.one 10 (.one 11 .nil)))))))))))) (by kernel_rfl) ?_ | refine AO.cons hT ?_ | refine AO.nil ?_ | refine AW.seq ?_ | refine AW.region ?_ | refine AW.cond ?_ | refine AW.block ?_ | refine AW.loop ?_ | refine AW.skip ?_ | refine AW.exit ?_ | refine AW.ret ?_ | refine AF.one hT rfl ?_ | refine AF.nil ?_ | refine AF.imm hT rfl rfl rfl ?_ | refine AH.of hT rfl ?_ | refine AD.cons hT rfl ?_ | refine AD.nil ?_ | refine AQ.cons hT rfl ?_ | refine AQ.nil ?_ | (refine AReq.mk (by omega) ?_) | (refine AIdx.at mvC_len (xs := l) i (by omega) hil ?_) | (refine ACall.val (by kernel_rfl) (f44 l l[i].p l[i].i (by omega) (hsm _ _)) (by simp [renL, AV.ren, renL_mvs, mvs]) rfl ?_) | (refine ACut.iff.2 ⟨by rw [hd_len]; omega, ?_⟩) | (refine AReq.mk (by rw [eb]; omega) ?_) | (refine AIdx.at hdC_len (xs := d) k (by omega) hkd ?_) | (refine ACall.val (by kernel_rfl) (f47 d[k] (hOf l l[i])) rfl rfl ?_) | (refine ASplit.yes (decide_eq_true (by omega)) ?_) | (refine ASplit.no (decide_eq_false (by omega)) ?_) | (refine AReq.mk ⟨by simp only [List.nil_append, List.length_append, List.length_cons, List.length_nil, hd_len, hdC_len, esz, List.length_take] <;> omega, by rw [eb]; omega⟩ ?_)); conv => whnf)
                exact ⟨rfl, rfl, rfl⟩
              conv => whnf
              repeat ((first | refine AW.plan (id := 9) hm (.one 0 (.one 1 (.one 2 (.one 3 (.one 4 (.one 5 (.one 6 (.one 7 (.one 8 (.one 9 (.one 10 (.one 11 .nil)))))))))))) (by kernel_rfl) ?_ | refine AW.plan (id := 11) hm (.one 0 (.one 1 (.one 2 (.one 3 (.one 4 (.one 5 (.one 6 (.one 7 (.one 8 (.one 9 (.one 10 (.one 11 .nil)))))))))))) (by kernel_rfl) ?_ | refine AO.cons hT ?_ | refine AO.nil ?_ | refine AW.seq ?_ | refine AW.region ?_ | refine AW.cond ?_ | refine AW.block ?_ | refine AW.loop ?_ | refine AW.skip ?_ | refine AW.exit ?_ | refine AW.ret ?_ | refine AF.one hT rfl ?_ | refine AF.nil ?_ | refine AF.imm hT rfl rfl rfl ?_ | refine AH.of hT rfl ?_ | refine AD.cons hT rfl ?_ | refine AD.nil ?_ | refine AQ.cons hT rfl ?_ | refine AQ.nil ?_ | (refine AReq.mk (by omega) ?_) | (refine AIdx.at mvC_len (xs := l) i (by omega) hil ?_) | (refine ACall.val (by kernel_rfl) (f44 l l[i].p l[i].i (by omega) (hsm _ _)) (by simp [renL, AV.ren, renL_mvs, mvs]) rfl ?_) | (refine ACut.iff.2 ⟨by rw [hd_len]; omega, ?_⟩) | (refine AReq.mk (by rw [eb]; omega) ?_) | (refine AIdx.at hdC_len (xs := d) k (by omega) hkd ?_) | (refine ACall.val (by kernel_rfl) (f47 d[k] (hOf l l[i])) rfl rfl ?_) | (refine ASplit.yes (decide_eq_true (by omega)) ?_) | (refine ASplit.no (decide_eq_false (by omega)) ?_) | (refine AReq.mk ⟨by simp only [List.nil_append, List.length_append, List.length_cons, List.length_nil, hd_len, hdC_len, esz, List.length_take] <;> omega, by rw [eb]; omega⟩ ?_)); conv => whnf)
              rw [wrap_i64 ((i : Int) + 1) (by omega) (by omega)]
              refine AHead.mk (l.length - (i + 1)) (pad [mvs l, .any, .v (.slice none 0 0), nV 0, hds (d.take k ++ hOf l l[i] :: d.drop k), nV ((i + 1 : Nat) : Int)] 79) [] (by omega) ⟨i + 1, _, by omega, ?_, rfl, rfl, rfl⟩ (Conv.outs ?_ ?_)
              · rw [take_snoc l i hil]
                exact hd.ins hk hlow (fun _ => ⟨hlt, heq⟩)
              · repeat' (first | exact LendL.nil | refine LendL.cons .any ?_ | refine LendL.cons (.it _) ?_ | refine LendL.cons .nil ?_ | refine LendL.cons (.vx (cs' := []) rfl) ?_ | refine LendL.cons (.sip rfl) ?_ | refine LendL.cons (.sm' rfl ?_ ?_ ?_) ?_)
                · simp only [List.length_append, List.length_cons, hd_len, List.length_take, List.length_drop, esz]
                · simp [hdC]
                · simp only [List.length_append, List.length_cons, List.length_take, List.length_drop]; omega
              · intro ρ; simp only [pad, renL, AV.ren, ren_mvs, ren_hds]; rfl
      · have hkd : k = d.length := by omega
        conv => whnf
        repeat (first | (refine AW.plan (id := 9) hm (.one 0 (.one 1 (.one 2 (.one 3 (.one 4 (.one 5 (.one 6 (.one 7 (.one 8 (.one 9 (.one 10 (.one 11 .nil)))))))))))) (by kernel_rfl) ?_; conv => whnf) | (refine AW.plan (id := 11) hm (.one 0 (.one 1 (.one 2 (.one 3 (.one 4 (.one 5 (.one 6 (.one 7 (.one 8 (.one 9 (.one 10 (.one 11 .nil)))))))))))) (by kernel_rfl) ?_; conv => whnf) | (refine AO.cons hT ?_; conv => whnf) | (refine AO.nil ?_; conv => whnf) | (refine AW.seq ?_; conv => whnf) | (refine AW.region ?_; conv => whnf) | (refine AW.cond ?_; conv => whnf) | (refine AW.block ?_; conv => whnf) | (refine AW.loop ?_; conv => whnf) | (refine AW.skip ?_; conv => whnf) | (refine AW.exit ?_; conv => whnf) | (refine AW.ret ?_; conv => whnf) | (refine AF.one hT rfl ?_; conv => whnf) | (refine AF.nil ?_; conv => whnf) | (refine AF.imm hT rfl rfl rfl ?_; conv => whnf) | (refine AH.of hT rfl ?_; conv => whnf) | (refine ASplit.yes rfl ?_; conv => whnf) | (refine ACond.yes rfl ?_; conv => whnf) | (refine ASplit.no rfl ?_; conv => whnf) | (refine ACond.no rfl ?_; conv => whnf) | (refine ASplit.yes (by decide) ?_; conv => whnf) | (refine ACond.yes (by decide) ?_; conv => whnf) | (refine AReq.mk (by decide) ?_; conv => whnf) | (refine AIdx.iff.2 ⟨by decide, ?_⟩; conv => whnf) | (refine AReq.mk (by omega) ?_; conv => whnf) | (refine AIdx.at mvC_len (xs := l) i (by omega) hil ?_; conv => whnf) | (refine ACall.val (by kernel_rfl) (f44 l l[i].p l[i].i (by omega) (hsm _ _)) (by simp [renL, AV.ren, renL_mvs, mvs]) rfl ?_; conv => whnf) | (refine ACut.iff.2 ⟨by rw [hd_len]; omega, ?_⟩; conv => whnf) | (refine AReq.mk (by rw [eb]; omega) ?_; conv => whnf) | (refine AIdx.at hdC_len (xs := d) k (by omega) hkd ?_; conv => whnf) | (refine ACall.val (by kernel_rfl) (f47 d[k] (hOf l l[i])) rfl rfl ?_; conv => whnf) | (refine ASplit.yes (decide_eq_true (by omega)) ?_; conv => whnf) | (refine ASplit.no (decide_eq_false (by omega)) ?_; conv => whnf) | (refine AReq.mk ⟨by simp only [List.nil_append, List.length_append, List.length_cons, List.length_nil, hd_len, hdC_len, esz, List.length_take] <;> omega, by rw [eb]; omega⟩ ?_; conv => whnf))
        refine AOut.stay ?_
        conv => whnf
        repeat (first | (refine AW.plan (id := 9) hm (.one 0 (.one 1 (.one 2 (.one 3 (.one 4 (.one 5 (.one 6 (.one 7 (.one 8 (.one 9 (.one 10 (.one 11 .nil)))))))))))) (by kernel_rfl) ?_; conv => whnf) | (refine AW.plan (id := 11) hm (.one 0 (.one 1 (.one 2 (.one 3 (.one 4 (.one 5 (.one 6 (.one 7 (.one 8 (.one 9 (.one 10 (.one 11 .nil)))))))))))) (by kernel_rfl) ?_; conv => whnf) | (refine AO.cons hT ?_; conv => whnf) | (refine AO.nil ?_; conv => whnf) | (refine AW.seq ?_; conv => whnf) | (refine AW.region ?_; conv => whnf) | (refine AW.cond ?_; conv => whnf) | (refine AW.block ?_; conv => whnf) | (refine AW.loop ?_; conv => whnf) | (refine AW.skip ?_; conv => whnf) | (refine AW.exit ?_; conv => whnf) | (refine AW.ret ?_; conv => whnf) | (refine AF.one hT rfl ?_; conv => whnf) | (refine AF.nil ?_; conv => whnf) | (refine AF.imm hT rfl rfl rfl ?_; conv => whnf) | (refine AH.of hT rfl ?_; conv => whnf) | (refine ASplit.yes rfl ?_; conv => whnf) | (refine ACond.yes rfl ?_; conv => whnf) | (refine ASplit.no rfl ?_; conv => whnf) | (refine ACond.no rfl ?_; conv => whnf) | (refine ASplit.yes (by decide) ?_; conv => whnf) | (refine ACond.yes (by decide) ?_; conv => whnf) | (refine AReq.mk (by decide) ?_; conv => whnf) | (refine AIdx.iff.2 ⟨by decide, ?_⟩; conv => whnf) | (refine AReq.mk (by omega) ?_; conv => whnf) | (refine AIdx.at mvC_len (xs := l) i (by omega) hil ?_; conv => whnf) | (refine ACall.val (by kernel_rfl) (f44 l l[i].p l[i].i (by omega) (hsm _ _)) (by simp [renL, AV.ren, renL_mvs, mvs]) rfl ?_; conv => whnf) | (refine ACut.iff.2 ⟨by rw [hd_len]; omega, ?_⟩; conv => whnf) | (refine AReq.mk (by rw [eb]; omega) ?_; conv => whnf) | (refine AIdx.at hdC_len (xs := d) k (by omega) hkd ?_; conv => whnf) | (refine ACall.val (by kernel_rfl) (f47 d[k] (hOf l l[i])) rfl rfl ?_; conv => whnf) | (refine ASplit.yes (decide_eq_true (by omega)) ?_; conv => whnf) | (refine ASplit.no (decide_eq_false (by omega)) ?_; conv => whnf) | (refine AReq.mk ⟨by simp only [List.nil_append, List.length_append, List.length_cons, List.length_nil, hd_len, hdC_len, esz, List.length_take] <;> omega, by rw [eb]; omega⟩ ?_; conv => whnf))
        refine AW.plan hm (.one 1 (.one 2 (.one 3 (.one 8 (.one 9 (.one 10 (.imm 5 (.fork 0 (.fork 4 (.one 6 .nil) 6 (.one 4 .nil) .nil) 6 (.one 0 (.one 4 .nil)) (.one 7 (.one 11 (.one 12 .nil))))))))))) (by kernel_rfl) ?_
        conv => whnf
        repeat ((first | refine AW.plan (id := 9) hm (.one 0 (.one 1 (.one 2 (.one 3 (.one 4 (.one 5 (.one 6 (.one 7 (.one 8 (.one 9 (.one 10 (.one 11 .nil)))))))))))) (by kernel_rfl) ?_ | refine AW.plan (id := 11) hm (.one 0 (.one 1 (.one 2 (.one 3 (.one 4 (.one 5 (.one 6 (.one 7 (.one 8 (.one 9 (.one 10 (.one 11 .nil)))))))))))) (by kernel_rfl) ?_ | refine AO.cons hT ?_ | refine AO.nil ?_ | refine AW.seq ?_ | refine AW.region ?_ | refine AW.cond ?_ | refine AW.block ?_ | refine AW.loop ?_ | refine AW.skip ?_ | refine AW.exit ?_ | refine AW.ret ?_ | refine AF.one hT rfl ?_ | refine AF.nil ?_ | refine AF.imm hT rfl rfl rfl ?_ | refine AH.of hT rfl ?_ | refine AD.cons hT rfl ?_ | refine AD.nil ?_ | refine AQ.cons hT rfl ?_ | refine AQ.nil ?_ | (refine AReq.mk (by omega) ?_) | (refine AIdx.at mvC_len (xs := l) i (by omega) hil ?_) | (refine ACall.val (by kernel_rfl) (f44 l l[i].p l[i].i (by omega) (hsm _ _)) (by simp [renL, AV.ren, renL_mvs, mvs]) rfl ?_) | (refine ACut.iff.2 ⟨by rw [hd_len]; omega, ?_⟩) | (refine AReq.mk (by rw [eb]; omega) ?_) | (refine AIdx.at hdC_len (xs := d) k (by omega) hkd ?_) | (refine ACall.val (by kernel_rfl) (f47 d[k] (hOf l l[i])) rfl rfl ?_) | (refine ASplit.yes (decide_eq_true (by omega)) ?_) | (refine ASplit.no (decide_eq_false (by omega)) ?_) | (refine AReq.mk ⟨by simp only [List.nil_append, List.length_append, List.length_cons, List.length_nil, hd_len, hdC_len, esz, List.length_take] <;> omega, by rw [eb]; omega⟩ ?_)); conv => whnf)
        rw [e2, cut_to hdC_len d k, cut_from hdC_len d k]
        rcases Nat.eq_zero_or_pos k with hk0 | hk0
        · apply AF.meet
          · conv => whnf
            repeat ((first | refine AW.plan (id := 9) hm (.one 0 (.one 1 (.one 2 (.one 3 (.one 4 (.one 5 (.one 6 (.one 7 (.one 8 (.one 9 (.one 10 (.one 11 .nil)))))))))))) (by kernel_rfl) ?_ | refine AW.plan (id := 11) hm (.one 0 (.one 1 (.one 2 (.one 3 (.one 4 (.one 5 (.one 6 (.one 7 (.one 8 (.one 9 (.one 10 (.one 11 .nil)))))))))))) (by kernel_rfl) ?_ | refine AO.cons hT ?_ | refine AO.nil ?_ | refine AW.seq ?_ | refine AW.region ?_ | refine AW.cond ?_ | refine AW.block ?_ | refine AW.loop ?_ | refine AW.skip ?_ | refine AW.exit ?_ | refine AW.ret ?_ | refine AF.one hT rfl ?_ | refine AF.nil ?_ | refine AF.imm hT rfl rfl rfl ?_ | refine AH.of hT rfl ?_ | refine AD.cons hT rfl ?_ | refine AD.nil ?_ | refine AQ.cons hT rfl ?_ | refine AQ.nil ?_ | (refine AReq.mk (by omega) ?_) | (refine AIdx.at mvC_len (xs := l) i (by omega) hil ?_) | (refine ACall.val (by kernel_rfl) (f44 l l[i].p l[i].i (by omega) (hsm _ _)) (by simp [renL, AV.ren, renL_mvs, mvs]) rfl ?_) | (refine ACut.iff.2 ⟨by rw [hd_len]; omega, ?_⟩) | (refine AReq.mk (by rw [eb]; omega) ?_) | (refine AIdx.at hdC_len (xs := d) k (by omega) hkd ?_) | (refine ACall.val (by kernel_rfl) (f47 d[k] (hOf l l[i])) rfl rfl ?_) | (refine ASplit.yes (decide_eq_true (by omega)) ?_) | (refine ASplit.no (decide_eq_false (by omega)) ?_) | (refine AReq.mk ⟨by simp only [List.nil_append, List.length_append, List.length_cons, List.length_nil, hd_len, hdC_len, esz, List.length_take] <;> omega, by rw [eb]; omega⟩ ?_)); conv => whnf)
            apply AF.meet
            · conv => whnf
              repeat ((first | refine AW.plan (id := 9) hm (.one 0 (.one 1 (.one 2 (.one 3 (.one 4 (.one 5 (.one 6 (.one 7 (.one 8 (.one 9 (.one 10 (.one 11 .nil)))))))))))) (by kernel_rfl) ?_ | refine AW.plan (id := 11) hm (.one 0 (.one 1 (.one 2 (.one 3 (.one 4 (.one 5 (.one 6 (.one 7 (.one 8 (.one 9 (.one 10 (.one 11 .nil)))))))))))) (by kernel_rfl) ?_ | refine AO.cons hT ?_ | refine AO.nil ?_ | refine AW.seq ?_ | refine AW.region ?_ | refine AW.cond ?_ | refine AW.block ?_ | refine AW.loop ?_ | refine AW.skip ?_ | refine AW.exit ?_ | refine AW.ret ?_ | refine AF.one hT rfl ?_ | refine AF.nil ?_ | refine AF.imm hT rfl rfl rfl ?_ | refine AH.of hT rfl ?_ | refine AD.cons hT rfl ?_ | refine AD.nil ?_ | refine AQ.cons hT rfl ?_ | refine AQ.nil ?_ | (refine AReq.mk (by omega) ?_) | (refine AIdx.at mvC_len (xs := l) i (by omega) hil ?_) | (refine ACall.val (by kernel_rfl) (f44 l l[i].p l[i].i (by omega) (hsm _ _)) (by simp [renL, AV.ren, renL_mvs, mvs]) rfl ?_) | (refine ACut.iff.2 ⟨by rw [hd_len]; omega, ?_⟩) | (refine AReq.mk (by rw [eb]; omega) ?_) | (refine AIdx.at hdC_len (xs := d) k (by omega) hkd ?_) | (refine ACall.val (by kernel_rfl) (f47 d[k] (hOf l l[i])) rfl rfl ?_) | (refine ASplit.yes (decide_eq_true (by omega)) ?_) | (refine ASplit.no (decide_eq_false (by omega)) ?_) | (refine AReq.mk ⟨by simp only [List.nil_append, List.length_append, List.length_cons, List.length_nil, hd_len, hdC_len, esz, List.length_take] <;> omega, by rw [eb]; omega⟩ ?_)); conv => whnf)
              exact ⟨rfl, rfl, rfl⟩
            · conv => whnf
              repeat ((first | refine AW.plan (id := 9) hm (.one 0 (.one 1 (.one 2 (.one 3 (.one 4 (.one 5 (.one 6 (.one 7 (.one 8 (.one 9 (.one 10 (.one 11 .nil)))))))))))) (by kernel_rfl) ?_ | refine AW.plan (id := 11) hm (.one 0 (.one 1 (.one 2 (.one 3 (.one 4 (.one 5 (.one 6 (.one 7 (.one 8 (.one 9 (.one 10 (.one 11 .nil)))))))))))) (by kernel_rfl) ?_ | refine AO.cons hT ?_ | refine AO.nil ?_ | refine AW.seq ?_ | refine AW.region ?_ | refine AW.cond ?_ | refine AW.block ?_ | refine AW.loop ?_ | refine AW.skip ?_ | refine AW.exit ?_ | refine AW.ret ?_ | refine AF.one hT rfl ?_ | refine AF.nil ?_ | refine AF.imm hT rfl rfl rfl ?_ | refine AH.of hT rfl ?_ | refine AD.cons hT rfl ?_ | refine AD.nil ?_ | refine AQ.cons hT rfl ?_ | refine AQ.nil ?_ | (refine AReq.mk (by omega) ?_) | (refine AIdx.at mvC_len (xs := l) i (by omega) hil ?_) | (refine ACall.val (by kernel_rfl) (f44 l l[i].p l[i].i (by omega) (hsm _ _)) (by simp [renL, AV.ren, renL_mvs, mvs]) rfl ?_) | (refine ACut.iff.2 ⟨by rw [hd_len]; omega, ?_⟩) | (refine AReq.mk (by rw [eb]; omega) ?_) | (refine AIdx.at hdC_len (xs := d) k (by omega) hkd ?_) | (refine ACall.val (by kernel_rfl) (f47 d[k] (hOf l l[i])) rfl rfl ?_) | (refine ASplit.yes (decide_eq_true (by omega)) ?_) | (refine ASplit.no (decide_eq_false (by omega)) ?_) | (refine AReq.mk ⟨by simp only [List.nil_append, List.length_append, List.length_cons, List.length_nil, hd_len, hdC_len, esz, List.length_take] <;> omega, by rw [eb]; omega⟩ ?_)); conv => whnf)
              exact ⟨rfl, rfl, rfl⟩
            · conv => whnf
              repeat ((first | refine AW.plan (id := 9) hm (.one 0 (.one 1 (.one 2 (.one 3 (.one 4 (.one 5 (.one 6 (.one 7 (.one 8 (.one 9 (.one 10 (.one 11 .nil)))))))))))) (by kernel_rfl) ?_ | refine AW.plan (id := 11) hm (.one 0 (.one 1 (.one 2 (.one 3 (.one 4 (.one 5 (.one 6 (.one 7 (.one 8 (.one 9 (.one 10 (.one 11 .nil)))))))))))) (by kernel_rfl) ?_ | refine AO.cons hT ?_ | refine AO.nil ?_ | refine AW.seq ?_ | refine AW.region ?_ | refine AW.cond ?_ | refine AW.block ?_ | refine AW.loop ?_ | refine AW.skip ?_ | refine AW.exit ?_ | refine AW.ret ?_ | refine AF.one hT rfl ?_ | refine AF.nil ?_ | refine AF.imm hT rfl rfl rfl ?_ | refine AH.of hT rfl ?_ | refine AD.cons hT rfl ?_ | refine AD.nil ?_ | refine AQ.cons hT rfl ?_ | refine AQ.nil ?_ | (refine AReq.mk (by omega) ?_) | (refine AIdx.at mvC_len (xs := l) i (by omega) hil ?_) | (refine ACall.val (by kernel_rfl) (f44 l l[i].p l[i].i (by omega) (hsm _ _)) (by simp [renL, AV.ren, renL_mvs, mvs]) rfl ?_) | (refine ACut.iff.2 ⟨by rw [hd_len]; omega, ?_⟩) | (refine AReq.mk (by rw [eb]; omega) ?_) | (refine AIdx.at hdC_len (xs := d) k (by omega) hkd ?_) | (refine ACall.val (by kernel_rfl) (f47 d[k] (hOf l l[i])) rfl rfl ?_) | (refine ASplit.yes (decide_eq_true (by omega)) ?_) | (refine ASplit.no (decide_eq_false (by omega)) ?_) | (refine AReq.mk ⟨by simp only [List.nil_append, List.length_append, List.length_cons, List.length_nil, hd_len, hdC_len, esz, List.length_take] <;> omega, by rw [eb]; omega⟩ ?_)); conv => whnf)
              exact ⟨rfl, rfl, rfl⟩
          · conv => whnf
            repeat ((first | refine AW.plan (id := 9) hm (.one 0 (.one 1 (.one 2 (.one 3 (.one 4 (.one 5 (.one 6 (.one 7 (.one 8 (.one 9 (.one 10 (.one 11 .nil)))))))))))) (by kernel_rfl) ?_ | refine AW.plan (id := 11) hm (.one 0 (.one 1 (.one 2 (.one 3 (.one 4 (.one 5 (.one 6 (.one 7 (.one 8 (.one 9 (.one 10 (.one 11 .nil)))))))))))) (by kernel_rfl) ?_ | refine AO.cons hT ?_ | refine AO.nil ?_ | refine AW.seq ?_ | refine AW.region ?_ | refine AW.cond ?_ | refine AW.block ?_ | refine AW.loop ?_ | refine AW.skip ?_ | refine AW.exit ?_ | refine AW.ret ?_ | refine AF.one hT rfl ?_ | refine AF.nil ?_ | refine AF.imm hT rfl rfl rfl ?_ | refine AH.of hT rfl ?_ | refine AD.cons hT rfl ?_ | refine AD.nil ?_ | refine AQ.cons hT rfl ?_ | refine AQ.nil ?_ | (refine AReq.mk (by omega) ?_) | (refine AIdx.at mvC_len (xs := l) i (by omega) hil ?_) | (refine ACall.val (by kernel_rfl) (f44 l l[i].p l[i].i (by omega) (hsm _ _)) (by simp [renL, AV.ren, renL_mvs, mvs]) rfl ?_) | (refine ACut.iff.2 ⟨by rw [hd_len]; omega, ?_⟩) | (refine AReq.mk (by rw [eb]; omega) ?_) | (refine AIdx.at hdC_len (xs := d) k (by omega) hkd ?_) | (refine ACall.val (by kernel_rfl) (f47 d[k] (hOf l l[i])) rfl rfl ?_) | (refine ASplit.yes (decide_eq_true (by omega)) ?_) | (refine ASplit.no (decide_eq_false (by omega)) ?_) | (refine AReq.mk ⟨by simp only [List.nil_append, List.length_append, List.length_cons, List.length_nil, hd_len, hdC_len, esz, List.length_take] <;> omega, by rw [eb]; omega⟩ ?_)); conv => whnf)
            exact ⟨rfl, rfl, rfl⟩
          conv => whnf
          repeat ((first | refine AW.plan (id := 9) hm (.one 0 (.one 1 (.one 2 (.one 3 (.one 4 (.one 5 (.one 6 (.one 7 (.one 8 (.one 9 (.one 10 (.one 11 .nil)))))))))))) (by kernel_rfl) ?_ | refine AW.plan (id := 11) hm (.one 0 (.one 1 (.one 2 (.one 3 (.one 4 (.one 5 (.one 6 (.one 7 (.one 8 (.one 9 (.one 10 (.one 11 .nil)))))))))))) (by kernel_rfl) ?_ | refine AO.cons hT ?_ | refine AO.nil ?_ | refine AW.seq ?_ | refine AW.region ?_ | refine AW.cond ?_ | refine AW.block ?_ | refine AW.loop ?_ | refine AW.skip ?_ | refine AW.exit ?_ | refine AW.ret ?_ | refine AF.one hT rfl ?_ | refine AF.nil ?_ | refine AF.imm hT rfl rfl rfl ?_ | refine AH.of hT rfl ?_ | refine AD.cons hT rfl ?_ | refine AD.nil ?_ | refine AQ.cons hT rfl ?_ | refine AQ.nil ?_ | (refine AReq.mk (by omega) ?_) | (refine AIdx.at mvC_len (xs := l) i (by omega) hil ?_) | (refine ACall.val (by kernel_rfl) (f44 l l[i].p l[i].i (by omega) (hsm _ _)) (by simp [renL, AV.ren, renL_mvs, mvs]) rfl ?_) | (refine ACut.iff.2 ⟨by rw [hd_len]; omega, ?_⟩) | (refine AReq.mk (by rw [eb]; omega) ?_) | (refine AIdx.at hdC_len (xs := d) k (by omega) hkd ?_) | (refine ACall.val (by kernel_rfl) (f47 d[k] (hOf l l[i])) rfl rfl ?_) | (refine ASplit.yes (decide_eq_true (by omega)) ?_) | (refine ASplit.no (decide_eq_false (by omega)) ?_) | (refine AReq.mk ⟨by simp only [List.nil_append, List.length_append, List.length_cons, List.length_nil, hd_len, hdC_len, esz, List.length_take] <;> omega, by rw [eb]; omega⟩ ?_)); conv => whnf)
          rw [wrap_i64 ((i : Int) + 1) (by omega) (by omega)]
          refine AHead.mk (l.length - (i + 1)) (pad [mvs l, .any, .v (.slice none 0 0), nV 0, hds (d.take k ++ hOf l l[i] :: d.drop k), nV ((i + 1 : Nat) : Int)] 79) [] (by omega) ⟨i + 1, _, by omega, ?_, rfl, rfl, rfl⟩ (Conv.outs ?_ ?_)
          · rw [take_snoc l i hil]
            exact hd.ins hk hlow (fun ht => absurd ht (by omega))
          · repeat' (first | exact LendL.nil | refine LendL.cons .any ?_ | refine LendL.cons (.it _) ?_ | refine LendL.cons .nil ?_ | refine LendL.cons (.vx (cs' := []) rfl) ?_ | refine LendL.cons (.sip rfl) ?_ | refine LendL.cons (.sm' rfl ?_ ?_ ?_) ?_)
            · simp only [List.length_append, List.length_cons, hd_len, List.length_take, List.length_drop, esz]
            · have hdn : d = [] := List.eq_nil_of_length_eq_zero (by omega); simp [hdn, hdC]
            · simp only [List.length_append, List.length_cons, List.length_take, List.length_drop]; omega
          · intro ρ; simp only [pad, renL, AV.ren, ren_mvs, ren_hds]; rfl
        · apply AF.meet
          · conv => whnf
            repeat ((first | refine AW.plan (id := 9) hm (.one 0 (.one 1 (.one 2 (.one 3 (.one 4 (.one 5 (.one 6 (.one 7 (.one 8 (.one 9 (.one 10 (.one 11 .nil)))))))))))) (by kernel_rfl) ?_ | refine AW.plan (id := 11) hm (.one 0 (.one 1 (.one 2 (.one 3 (.one 4 (.one 5 (.one 6 (.one 7 (.one 8 (.one 9 (.one 10 (.one 11 .nil)))))))))))) (by kernel_rfl) ?_ | refine AO.cons hT ?_ | refine AO.nil ?_ | refine AW.seq ?_ | refine AW.region ?_ | refine AW.cond ?_ | refine AW.block ?_ | refine AW.loop ?_ | refine AW.skip ?_ | refine AW.exit ?_ | refine AW.ret ?_ | refine AF.one hT rfl ?_ | refine AF.nil ?_ | refine AF.imm hT rfl rfl rfl ?_ | refine AH.of hT rfl ?_ | refine AD.cons hT rfl ?_ | refine AD.nil ?_ | refine AQ.cons hT rfl ?_ | refine AQ.nil ?_ | (refine AReq.mk (by omega) ?_) | (refine AIdx.at mvC_len (xs := l) i (by omega) hil ?_) | (refine ACall.val (by kernel_rfl) (f44 l l[i].p l[i].i (by omega) (hsm _ _)) (by simp [renL, AV.ren, renL_mvs, mvs]) rfl ?_) | (refine ACut.iff.2 ⟨by rw [hd_len]; omega, ?_⟩) | (refine AReq.mk (by rw [eb]; omega) ?_) | (refine AIdx.at hdC_len (xs := d) k (by omega) hkd ?_) | (refine ACall.val (by kernel_rfl) (f47 d[k] (hOf l l[i])) rfl rfl ?_) | (refine ASplit.yes (decide_eq_true (by omega)) ?_) | (refine ASplit.no (decide_eq_false (by omega)) ?_) | (refine AReq.mk ⟨by simp only [List.nil_append, List.length_append, List.length_cons, List.length_nil, hd_len, hdC_len, esz, List.length_take] <;> omega, by rw [eb]; omega⟩ ?_)); conv => whnf)
            apply AF.meet
            · conv => whnf
              repeat ((first | refine AW.plan (id := 9) hm (.one 0 (.one 1 (.one 2 (.one 3 (.one 4 (.one 5 (.one 6 (.one 7 (.one 8 (.one 9 (.one 10 (.one 11 .nil)))))))))))) (by kernel_rfl) ?_ | refine AW.plan (id := 11) hm (.one 0 (.one 1 (.one 2 (.one 3 (.one 4 (.one 5 (.one 6 (.one 7 (.one 8 (.one 9 (.one 10 (.one 11 .nil)))))))))))) (by kernel_rfl) ?_ | refine AO.cons hT ?_ | refine AO.nil ?_ | refine AW.seq ?_ | refine AW.region ?_ | refine AW.cond ?_ | refine AW.block ?_ | refine AW.loop ?_ | refine AW.skip ?_ | refine AW.exit ?_ | refine AW.ret ?_ | refine AF.one hT rfl ?_ | refine AF.nil ?_ | refine AF.imm hT rfl rfl rfl ?_ | refine AH.of hT rfl ?_ | refine AD.cons hT rfl ?_ | refine AD.nil ?_ | refine AQ.cons hT rfl ?_ | refine AQ.nil ?_ | (refine AReq.mk (by omega) ?_) | (refine AIdx.at mvC_len (xs := l) i (by omega) hil ?_) | (refine ACall.val (by kernel_rfl) (f44 l l[i].p l[i].i (by omega) (hsm _ _)) (by simp [renL, AV.ren, renL_mvs, mvs]) rfl ?_) | (refine ACut.iff.2 ⟨by rw [hd_len]; omega, ?_⟩) | (refine AReq.mk (by rw [eb]; omega) ?_) | (refine AIdx.at hdC_len (xs := d) k (by omega) hkd ?_) | (refine ACall.val (by kernel_rfl) (f47 d[k] (hOf l l[i])) rfl rfl ?_) | (refine ASplit.yes (decide_eq_true (by omega)) ?_) | (refine ASplit.no (decide_eq_false (by omega)) ?_) | (refine AReq.mk ⟨by simp only [List.nil_append, List.length_append, List.length_cons, List.length_nil, hd_len, hdC_len, esz, List.length_take] <;> omega, by rw [eb]; omega⟩ ?_)); conv => whnf)
              exact ⟨rfl, rfl, rfl⟩
            · conv => whnf
              repeat ((first | refine AW.plan (id := 9) hm (.one 0 (.one 1 (.one 2 (.one 3 (.one 4 (.one 5 (.one 6 (.one 7 (.one 8 (.one 9 (.one 10 (.one 11 .nil)))))))))))) (by kernel_rfl) ?_ | refine AW.plan (id := 11) hm (.one 0 (.one 1 (.one 2 (.one 3 (.one 4 (.one 5 (.one 6 (.one 7 (.one 8 (.one 9 (.one 10 (.one 11 .nil)))))))))))) (by kernel_rfl) ?_ | refine AO.cons hT ?_ | refine AO.nil ?_ | refine AW.seq ?_ | refine AW.region ?_ | refine AW.cond ?_ | refine AW.block ?_ | refine AW.loop ?_ | refine AW.skip ?_ | refine AW.exit ?_ | refine AW.ret ?_ | refine AF.one hT rfl ?_ | refine AF.nil ?_ | refine AF.imm hT rfl rfl rfl ?_ | refine AH.of hT rfl ?_ | refine AD.cons hT rfl ?_ | refine AD.nil ?_ | refine AQ.cons hT rfl ?_ | refine AQ.nil ?_ | (refine AReq.mk (by omega) ?_) | (refine AIdx.at mvC_len (xs := l) i (by omega) hil ?_) | (refine ACall.val (by kernel_rfl) (f44 l l[i].p l[i].i (by omega) (hsm _ _)) (by simp [renL, AV.ren, renL_mvs, mvs]) rfl ?_) | (refine ACut.iff.2 ⟨by rw [hd_len]; omega, ?_⟩) | (refine AReq.mk (by rw [eb]; omega) ?_) | (refine AIdx.at hdC_len (xs := d) k (by omega) hkd ?_) | (refine ACall.val (by kernel_rfl) (f47 d[k] (hOf l l[i])) rfl rfl ?_) | (refine ASplit.yes (decide_eq_true (by omega)) ?_) | (refine ASplit.no (decide_eq_false (by omega)) ?_) | (refine AReq.mk ⟨by simp only [List.nil_append, List.length_append, List.length_cons, List.length_nil, hd_len, hdC_len, esz, List.length_take] <;> omega, by rw [eb]; omega⟩ ?_)); conv => whnf)
              exact ⟨rfl, rfl, rfl⟩
            · conv => whnf
              repeat ((first | refine AW.plan (id := 9) hm (.one 0 (.one 1 (.one 2 (.one 3 (.one 4 (.one 5 (.one 6 (.one 7 (.one 8 (.one 9 (.one 10 (.one 11 .nil)))))))))))) (by kernel_rfl) ?_ | refine AW.plan (id := 11) hm (.one 0 (.one 1 (.one 2 (.one 3 (.one 4 (.one 5 (.one 6 (.one 7 (.one 8 (.one 9 (.one 10 (.one 11 .nil)))))))))))) (by kernel_rfl) ?_ | refine AO.cons hT ?_ | refine AO.nil ?_ | refine AW.seq ?_ | refine AW.region ?_ | refine AW.cond ?_ | refine AW.block ?_ | refine AW.loop ?_ | refine AW.skip ?_ | refine AW.exit ?_ | refine AW.ret ?_ | refine AF.one hT rfl ?_ | refine AF.nil ?_ | refine AF.imm hT rfl rfl rfl ?_ | refine AH.of hT rfl ?_ | refine AD.cons hT rfl ?_ | refine AD.nil ?_ | refine AQ.cons hT rfl ?_ | refine AQ.nil ?_ | (refine AReq.mk (by omega) ?_) | (refine AIdx.at mvC_len (xs := l) i (by omega) hil ?_) | (refine ACall.val (by kernel_rfl) (f44 l l[i].p l[i].i (by omega) (hsm _ _)) (by simp [renL, AV.ren, renL_mvs, mvs]) rfl ?_) | (refine ACut.iff.2 ⟨by rw [hd_len]; omega, ?_⟩) | (refine AReq.mk (by rw [eb]; omega) ?_) | (refine AIdx.at hdC_len (xs := d) k (by omega) hkd ?_) | (refine ACall.val (by kernel_rfl) (f47 d[k] (hOf l l[i])) rfl rfl ?_) | (refine ASplit.yes (decide_eq_true (by omega)) ?_) | (refine ASplit.no (decide_eq_false (by omega)) ?_) | (refine AReq.mk ⟨by simp only [List.nil_append, List.length_append, List.length_cons, List.length_nil, hd_len, hdC_len, esz, List.length_take] <;> omega, by rw [eb]; omega⟩ ?_)); conv => whnf)
              exact ⟨rfl, rfl, rfl⟩
          · conv => whnf
            repeat ((first | refine AW.plan (id := 9) hm (.one 0 (.one 1 (.one 2 (.one 3 (.one 4 (.one 5 (.one 6 (.one 7 (.one 8 (.one 9 (.one 10 (.one 11 .nil)))))))))))) (by kernel_rfl) ?_ | refine AW.plan (id := 11) hm (.one 0 (.one 1 (.one 2 (.one 3 (.one 4 (.one 5 (.one 6 (.one 7 (.one 8 (.one 9 (.one 10 (.one 11 .nil)))))))))))) (by kernel_rfl) ?_ | refine AO.cons hT ?_ | refine AO.nil ?_ | refine AW.seq ?_ | refine AW.region ?_ | refine AW.cond ?_ | refine AW.block ?_ | refine AW.loop ?_ | refine AW.skip ?_ | refine AW.exit ?_ | refine AW.ret ?_ | refine AF.one hT rfl ?_ | refine AF.nil ?_ | refine AF.imm hT rfl rfl rfl ?_ | refine AH.of hT rfl ?_ | refine AD.cons hT rfl ?_ | refine AD.nil ?_ | refine AQ.cons hT rfl ?_ | refine AQ.nil ?_ | (refine AReq.mk (by omega) ?_) | (refine AIdx.at mvC_len (xs := l) i (by omega) hil ?_) | (refine ACall.val (by kernel_rfl) (f44 l l[i].p l[i].i (by omega) (hsm _ _)) (by simp [renL, AV.ren, renL_mvs, mvs]) rfl ?_) | (refine ACut.iff.2 ⟨by rw [hd_len]; omega, ?_⟩) | (refine AReq.mk (by rw [eb]; omega) ?_) | (refine AIdx.at hdC_len (xs := d) k (by omega) hkd ?_) | (refine ACall.val (by kernel_rfl) (f47 d[k] (hOf l l[i])) rfl rfl ?_) | (refine ASplit.yes (decide_eq_true (by omega)) ?_) | (refine ASplit.no (decide_eq_false (by omega)) ?_) | (refine AReq.mk ⟨by simp only [List.nil_append, List.length_append, List.length_cons, List.length_nil, hd_len, hdC_len, esz, List.length_take] <;> omega, by rw [eb]; omega⟩ ?_)); conv => whnf)
            exact ⟨rfl, rfl, rfl⟩
          conv => whnf
          repeat ((first | refine AW.plan (id := 9) hm (.one 0 (.one 1 (.one 2 (.one 3 (.one 4 (.one 5 (.one 6 (.one 7 (.one 8 (.one 9 (.one 10 (.one 11 .nil)))))))))))) (by kernel_rfl) ?_ | refine AW.plan (id := 11) hm (.one 0 (.one 1 (.one 2 (.one 3 (.one 4 (.one 5 (.one 6 (.one 7 (.one 8 (.one 9 (.one 10 (.one 11 .nil)))))))))))) (by kernel_rfl) ?_ | refine AO.cons hT ?_ | refine AO.nil ?_ | refine AW.seq ?_ | refine AW.region ?_ | refine AW.cond ?_ | refine AW.block ?_ | refine AW.loop ?_ | refine AW.skip ?_ | refine AW.exit ?_ | refine AW.ret ?_ | refine AF.one hT rfl ?_ | refine AF.nil ?_ | refine AF.imm hT rfl rfl rfl ?_ | refine AH.of hT rfl ?_ | refine AD.cons hT rfl ?_ | refine AD.nil ?_ | refine AQ.cons hT rfl ?_ | refine AQ.nil ?_ | (refine AReq.mk (by omega) ?_) | (refine AIdx.at mvC_len (xs := l) i (by omega) hil ?_) | (refine ACall.val (by kernel_rfl) (f44 l l[i].p l[i].i (by omega) (hsm _ _)) (by simp [renL, AV.ren, renL_mvs, mvs]) rfl ?_) | (refine ACut.iff.2 ⟨by rw [hd_len]; omega, ?_⟩) | (refine AReq.mk (by rw [eb]; omega) ?_) | (refine AIdx.at hdC_len (xs := d) k (by omega) hkd ?_) | (refine ACall.val (by kernel_rfl) (f47 d[k] (hOf l l[i])) rfl rfl ?_) | (refine ASplit.yes (decide_eq_true (by omega)) ?_) | (refine ASplit.no (decide_eq_false (by omega)) ?_) | (refine AReq.mk ⟨by simp only [List.nil_append, List.length_append, List.length_cons, List.length_nil, hd_len, hdC_len, esz, List.length_take] <;> omega, by rw [eb]; omega⟩ ?_)); conv => whnf)
          rw [wrap_i64 ((i : Int) + 1) (by omega) (by omega)]
          refine AHead.mk (l.length - (i + 1)) (pad [mvs l, .any, .v (.slice none 0 0), nV 0, hds (d.take k ++ hOf l l[i] :: d.drop k), nV ((i + 1 : Nat) : Int)] 79) [] (by omega) ⟨i + 1, _, by omega, ?_, rfl, rfl, rfl⟩ (Conv.outs ?_ ?_)
          · rw [take_snoc l i hil]
            exact hd.ins hk hlow (fun ht => absurd ht (by omega))
          · repeat' (first | exact LendL.nil | refine LendL.cons .any ?_ | refine LendL.cons (.it _) ?_ | refine LendL.cons .nil ?_ | refine LendL.cons (.vx (cs' := []) rfl) ?_ | refine LendL.cons (.sip rfl) ?_ | refine LendL.cons (.sm' rfl ?_ ?_ ?_) ?_)
            · simp only [List.length_append, List.length_cons, hd_len, List.length_take, List.length_drop, esz]
            · rw [hkd]; simp [hdC]
            · simp only [List.length_append, List.length_cons, List.length_take, List.length_drop]; omega
          · intro ρ; simp only [pad, renL, AV.ren, ren_mvs, ren_hds]; rfl
    · have hil : i = l.length := by omega
      subst hil
      rw [List.take_length] at hd
      conv => whnf
      repeat ((first | refine AW.plan (id := 9) hm (.one 0 (.one 1 (.one 2 (.one 3 (.one 4 (.one 5 (.one 6 (.one 7 (.one 8 (.one 9 (.one 10 (.one 11 .nil)))))))))))) (by kernel_rfl) ?_ | refine AW.plan (id := 11) hm (.one 0 (.one 1 (.one 2 (.one 3 (.one 4 (.one 5 (.one 6 (.one 7 (.one 8 (.one 9 (.one 10 (.one 11 .nil)))))))))))) (by kernel_rfl) ?_ | refine AO.cons hT ?_ | refine AO.nil ?_ | refine AW.seq ?_ | refine AW.region ?_ | refine AW.cond ?_ | refine AW.block ?_ | refine AW.loop ?_ | refine AW.skip ?_ | refine AW.exit ?_ | refine AW.ret ?_ | refine AF.one hT rfl ?_ | refine AF.nil ?_ | refine AF.imm hT rfl rfl rfl ?_ | refine AH.of hT rfl ?_ | refine AD.cons hT rfl ?_ | refine AD.nil ?_ | refine AQ.cons hT rfl ?_ | refine AQ.nil ?_ | (refine AReq.mk (by omega) ?_) | (refine AIdx.at mvC_len (xs := l) i (by omega) hil ?_) | (refine ACall.val (by kernel_rfl) (f44 l l[i].p l[i].i (by omega) (hsm _ _)) (by simp [renL, AV.ren, renL_mvs, mvs]) rfl ?_) | (refine ACut.iff.2 ⟨by rw [hd_len]; omega, ?_⟩) | (refine AReq.mk (by rw [eb]; omega) ?_) | (refine AIdx.at hdC_len (xs := d) k (by omega) hkd ?_) | (refine ACall.val (by kernel_rfl) (f47 d[k] (hOf l l[i])) rfl rfl ?_) | (refine ASplit.yes (decide_eq_true (by omega)) ?_) | (refine ASplit.no (decide_eq_false (by omega)) ?_) | (refine AReq.mk ⟨by simp only [List.nil_append, List.length_append, List.length_cons, List.length_nil, hd_len, hdC_len, esz, List.length_take] <;> omega, by rw [eb]; omega⟩ ?_)); conv => whnf)
      refine AOut.stay ?_
      conv => whnf
      repeat ((first | refine AW.plan (id := 9) hm (.one 0 (.one 1 (.one 2 (.one 3 (.one 4 (.one 5 (.one 6 (.one 7 (.one 8 (.one 9 (.one 10 (.one 11 .nil)))))))))))) (by kernel_rfl) ?_ | refine AW.plan (id := 11) hm (.one 0 (.one 1 (.one 2 (.one 3 (.one 4 (.one 5 (.one 6 (.one 7 (.one 8 (.one 9 (.one 10 (.one 11 .nil)))))))))))) (by kernel_rfl) ?_ | refine AO.cons hT ?_ | refine AO.nil ?_ | refine AW.seq ?_ | refine AW.region ?_ | refine AW.cond ?_ | refine AW.block ?_ | refine AW.loop ?_ | refine AW.skip ?_ | refine AW.exit ?_ | refine AW.ret ?_ | refine AF.one hT rfl ?_ | refine AF.nil ?_ | refine AF.imm hT rfl rfl rfl ?_ | refine AH.of hT rfl ?_ | refine AD.cons hT rfl ?_ | refine AD.nil ?_ | refine AQ.cons hT rfl ?_ | refine AQ.nil ?_ | (refine AReq.mk (by omega) ?_) | (refine AIdx.at mvC_len (xs := l) i (by omega) hil ?_) | (refine ACall.val (by kernel_rfl) (f44 l l[i].p l[i].i (by omega) (hsm _ _)) (by simp [renL, AV.ren, renL_mvs, mvs]) rfl ?_) | (refine ACut.iff.2 ⟨by rw [hd_len]; omega, ?_⟩) | (refine AReq.mk (by rw [eb]; omega) ?_) | (refine AIdx.at hdC_len (xs := d) k (by omega) hkd ?_) | (refine ACall.val (by kernel_rfl) (f47 d[k] (hOf l l[i])) rfl rfl ?_) | (refine ASplit.yes (decide_eq_true (by omega)) ?_) | (refine ASplit.no (decide_eq_false (by omega)) ?_) | (refine AReq.mk ⟨by simp only [List.nil_append, List.length_append, List.length_cons, List.length_nil, hd_len, hdC_len, esz, List.length_take] <;> omega, by rw [eb]; omega⟩ ?_)); conv => whnf)
      exact AFin.mk ⟨⟨d, .inl ⟨hg, hd.all⟩, rfl⟩, rfl⟩
  · rw [chkF_no hg]
    refine ACond.yes rfl ?_
    conv => whnf
    repeat ((first | refine AW.plan (id := 9) hm (.one 0 (.one 1 (.one 2 (.one 3 (.one 4 (.one 5 (.one 6 (.one 7 (.one 8 (.one 9 (.one 10 (.one 11 .nil)))))))))))) (by kernel_rfl) ?_ | refine AW.plan (id := 11) hm (.one 0 (.one 1 (.one 2 (.one 3 (.one 4 (.one 5 (.one 6 (.one 7 (.one 8 (.one 9 (.one 10 (.one 11 .nil)))))))))))) (by kernel_rfl) ?_ | refine AO.cons hT ?_ | refine AO.nil ?_ | refine AW.seq ?_ | refine AW.region ?_ | refine AW.cond ?_ | refine AW.block ?_ | refine AW.loop ?_ | refine AW.skip ?_ | refine AW.exit ?_ | refine AW.ret ?_ | refine AF.one hT rfl ?_ | refine AF.nil ?_ | refine AF.imm hT rfl rfl rfl ?_ | refine AH.of hT rfl ?_ | refine AD.cons hT rfl ?_ | refine AD.nil ?_ | refine AQ.cons hT rfl ?_ | refine AQ.nil ?_ | (refine AReq.mk (by omega) ?_) | (refine AIdx.at mvC_len (xs := l) i (by omega) hil ?_) | (refine ACall.val (by kernel_rfl) (f44 l l[i].p l[i].i (by omega) (hsm _ _)) (by simp [renL, AV.ren, renL_mvs, mvs]) rfl ?_) | (refine ACut.iff.2 ⟨by rw [hd_len]; omega, ?_⟩) | (refine AReq.mk (by rw [eb]; omega) ?_) | (refine AIdx.at hdC_len (xs := d) k (by omega) hkd ?_) | (refine ACall.val (by kernel_rfl) (f47 d[k] (hOf l l[i])) rfl rfl ?_) | (refine ASplit.yes (decide_eq_true (by omega)) ?_) | (refine ASplit.no (decide_eq_false (by omega)) ?_) | (refine AReq.mk ⟨by simp only [List.nil_append, List.length_append, List.length_cons, List.length_nil, hd_len, hdC_len, esz, List.length_take] <;> omega, by rw [eb]; omega⟩ ?_)); conv => whnf)
    refine AFin.to (.tup [hds [], nV 40]) [] (Conv.outs (.cons (.tup (.cons .nil (.cons (.it _) .nil))) .nil) (fun ρ => by rw [renL, ren_two _ _ _ (ren_hds _ _) rfl]; rfl)) ⟨⟨[], .inr ⟨hg, rfl⟩, rfl⟩, rfl⟩
end Go.Aw.R1

set_option linter.unusedSimpArgs false
set_option linter.unusedVariables false
set_option maxHeartbeats 4000000
namespace Go.Aw.R1
open Go

theorem f31v (l : List Mv) (hl : l.length ≤ 4611686018427387904) : Fun P 31 [mvs l] (.tup [mvs (if chkF l = 0 then turnF l else []), nV (chkF l)]) := by
  refine Fun.value _ (f31 l hl) ?_
  rintro _ _ (⟨hg, rfl, rfl⟩ | ⟨hg, rfl, rfl⟩)
  · rw [chkF_yes hg, if_pos rfl]
    refine ⟨.tup (.cons ?_ (.cons (.it _) .nil)), fun ρ => ren_two _ _ _ (ren_mvs _ _) rfl⟩
    have h2 := Lend.sm (H := [ABlk.ice 41 ((turnF l).flatMap mvC)]) (sz := 3) (l := 0) (n := l.length) (t := 41) rfl (by rw [mvs_len, turnF_len])
    rw [mvs, turnF_len]; exact h2
  · rw [chkF_no hg, if_neg (by decide)]
    exact ⟨.tup (.cons .nil (.cons (.it _) .nil)), fun ρ => ren_two _ _ _ (ren_mvs _ _) rfl⟩

theorem f7 (l : List Mv) (p : Bool) (id : Int) (hid : thOk (p, id)) : Spec P 7 [mvs l, .v (.bool p), nV id] [] fun r _ => r = .v (.bool true) := by
  refine spec_of hT (f := 7) (fn := Go.Proofs.Try.f7) (c := body Go.Proofs.Try.f7) (by kernel_rfl) (by kernel_rfl) ?_
  have hawake := f20 sortOk sortNil
  have hfin : ∀ {H : List ABlk}, AFin 0 (.v (.bool true)) H (fun r _ => r = .v (.bool true)) := AFin.mk rfl
  conv => whnf
  repeat ((first | refine AW.plan (id := 12) hm (.one 0 (.one 1 (.one 2 (.one 3 (.one 5 (.one 6 (.one 7 (.one 8 (.one 4 (.one 9 (.one 10 (.one 11 (.one 12 (.one 13 (.one 14 (.one 15 (.one 17 (.one 18 (.one 19 (.one 20 (.one 16 (.one 21 (.one 22 (.one 23 (.one 24 (.one 25 (.one 26 (.one 27 (.one 28 (.one 30 (.one 31 (.one 32 (.one 33 (.one 29 (.one 34 (.one 35 (.one 36 .nil))))))))))))))))))))))))))))))))))))) (by kernel_rfl) ?_ | refine AO.cons hT ?_ | refine AO.nil ?_ | refine AW.seq ?_ | refine AW.region ?_ | refine AW.cond ?_ | refine AW.block ?_ | refine AW.loop ?_ | refine AW.skip ?_ | refine AW.exit ?_ | refine AW.ret ?_ | refine AF.one hT rfl ?_ | refine AF.nil ?_ | refine AF.imm hT rfl rfl rfl ?_ | refine AH.of hT rfl ?_ | refine AD.cons hT rfl ?_ | refine AD.nil ?_ | refine AQ.cons hT rfl ?_ | refine AQ.nil ?_ | (refine ACall.val (by kernel_rfl) hawake rfl rfl ?_)); conv => whnf)
  refine ACond.dec (fun h => ?_) (fun h => ?_)
  · conv => whnf
    repeat ((first | refine AW.plan (id := 12) hm (.one 0 (.one 1 (.one 2 (.one 3 (.one 5 (.one 6 (.one 7 (.one 8 (.one 4 (.one 9 (.one 10 (.one 11 (.one 12 (.one 13 (.one 14 (.one 15 (.one 17 (.one 18 (.one 19 (.one 20 (.one 16 (.one 21 (.one 22 (.one 23 (.one 24 (.one 25 (.one 26 (.one 27 (.one 28 (.one 30 (.one 31 (.one 32 (.one 33 (.one 29 (.one 34 (.one 35 (.one 36 .nil))))))))))))))))))))))))))))))))))))) (by kernel_rfl) ?_ | refine AO.cons hT ?_ | refine AO.nil ?_ | refine AW.seq ?_ | refine AW.region ?_ | refine AW.cond ?_ | refine AW.block ?_ | refine AW.loop ?_ | refine AW.skip ?_ | refine AW.exit ?_ | refine AW.ret ?_ | refine AF.one hT rfl ?_ | refine AF.nil ?_ | refine AF.imm hT rfl rfl rfl ?_ | refine AH.of hT rfl ?_ | refine AD.cons hT rfl ?_ | refine AD.nil ?_ | refine AQ.cons hT rfl ?_ | refine AQ.nil ?_ | (refine ACall.val (by kernel_rfl) hawake rfl rfl ?_)); conv => whnf)
    exact hfin
  have hl : l.length ≤ 300 := by omega
  conv => whnf
  repeat ((first | refine AW.plan (id := 12) hm (.one 0 (.one 1 (.one 2 (.one 3 (.one 5 (.one 6 (.one 7 (.one 8 (.one 4 (.one 9 (.one 10 (.one 11 (.one 12 (.one 13 (.one 14 (.one 15 (.one 17 (.one 18 (.one 19 (.one 20 (.one 16 (.one 21 (.one 22 (.one 23 (.one 24 (.one 25 (.one 26 (.one 27 (.one 28 (.one 30 (.one 31 (.one 32 (.one 33 (.one 29 (.one 34 (.one 35 (.one 36 .nil))))))))))))))))))))))))))))))))))))) (by kernel_rfl) ?_ | refine AO.cons hT ?_ | refine AO.nil ?_ | refine AW.seq ?_ | refine AW.region ?_ | refine AW.cond ?_ | refine AW.block ?_ | refine AW.loop ?_ | refine AW.skip ?_ | refine AW.exit ?_ | refine AW.ret ?_ | refine AF.one hT rfl ?_ | refine AF.nil ?_ | refine AF.imm hT rfl rfl rfl ?_ | refine AH.of hT rfl ?_ | refine AD.cons hT rfl ?_ | refine AD.nil ?_ | refine AQ.cons hT rfl ?_ | refine AQ.nil ?_ | (refine ACall.val (by kernel_rfl) hawake rfl rfl ?_)); conv => whnf)
  refine ACall.out (by kernel_rfl) (f28v l (by omega)) (renL_one _ _) ?_
  rintro _ ⟨d, hd, rfl⟩
  rw [ren_two _ _ _ (ren_hds _ _) rfl]
  conv => whnf
  repeat ((first | refine AW.plan (id := 12) hm (.one 0 (.one 1 (.one 2 (.one 3 (.one 5 (.one 6 (.one 7 (.one 8 (.one 4 (.one 9 (.one 10 (.one 11 (.one 12 (.one 13 (.one 14 (.one 15 (.one 17 (.one 18 (.one 19 (.one 20 (.one 16 (.one 21 (.one 22 (.one 23 (.one 24 (.one 25 (.one 26 (.one 27 (.one 28 (.one 30 (.one 31 (.one 32 (.one 33 (.one 29 (.one 34 (.one 35 (.one 36 .nil))))))))))))))))))))))))))))))))))))) (by kernel_rfl) ?_ | refine AO.cons hT ?_ | refine AO.nil ?_ | refine AW.seq ?_ | refine AW.region ?_ | refine AW.cond ?_ | refine AW.block ?_ | refine AW.loop ?_ | refine AW.skip ?_ | refine AW.exit ?_ | refine AW.ret ?_ | refine AF.one hT rfl ?_ | refine AF.nil ?_ | refine AF.imm hT rfl rfl rfl ?_ | refine AH.of hT rfl ?_ | refine AD.cons hT rfl ?_ | refine AD.nil ?_ | refine AQ.cons hT rfl ?_ | refine AQ.nil ?_ | (refine ACall.val (by kernel_rfl) hawake rfl rfl ?_)); conv => whnf)
  refine ACall.out (by kernel_rfl) (f29 l (by omega)) (renL_one _ _) ?_
  rintro _ ⟨d', hd', rfl⟩
  rw [ren_two _ _ _ (ren_hds _ _) rfl]
  obtain rfl : d' = d := by
    rcases hd with ⟨h1, h2⟩ | ⟨h1, h2⟩ <;> rcases hd' with ⟨h3, h4⟩ | ⟨h3, h4⟩
    · exact allOf_unique h4 h2
    · exact absurd h1 h3
    · exact absurd h3 h1
    · rw [h2, h4]
  have hdl : d'.length ≤ 300 := by
    rcases hd with ⟨h1, h2⟩ | ⟨h1, rfl⟩
    · have := allOf_len h2; omega
    · simp
  have hsame := f27 (if chkF l = 0 then turnF l else []) (if chkF l = 0 then turnF l else []) (by split <;> simp [turnF_len]; omega) (by split <;> simp [turnF_len]; omega)
  rw [decide_eq_true rfl] at hsame
  conv => whnf
  repeat ((first | refine AW.plan (id := 12) hm (.one 0 (.one 1 (.one 2 (.one 3 (.one 5 (.one 6 (.one 7 (.one 8 (.one 4 (.one 9 (.one 10 (.one 11 (.one 12 (.one 13 (.one 14 (.one 15 (.one 17 (.one 18 (.one 19 (.one 20 (.one 16 (.one 21 (.one 22 (.one 23 (.one 24 (.one 25 (.one 26 (.one 27 (.one 28 (.one 30 (.one 31 (.one 32 (.one 33 (.one 29 (.one 34 (.one 35 (.one 36 .nil))))))))))))))))))))))))))))))))))))) (by kernel_rfl) ?_ | refine AO.cons hT ?_ | refine AO.nil ?_ | refine AW.seq ?_ | refine AW.region ?_ | refine AW.cond ?_ | refine AW.block ?_ | refine AW.loop ?_ | refine AW.skip ?_ | refine AW.exit ?_ | refine AW.ret ?_ | refine AF.one hT rfl ?_ | refine AF.nil ?_ | refine AF.imm hT rfl rfl rfl ?_ | refine AH.of hT rfl ?_ | refine AD.cons hT rfl ?_ | refine AD.nil ?_ | refine AQ.cons hT rfl ?_ | refine AQ.nil ?_ | (refine ACall.val (by kernel_rfl) hawake rfl rfl ?_)); conv => whnf)
  refine ACall.val (by kernel_rfl) (f30v l (by omega)) (renL_one _ _) (ren_two _ _ _ (ren_mvs _ _) rfl) ?_
  conv => whnf
  repeat ((first | refine AW.plan (id := 12) hm (.one 0 (.one 1 (.one 2 (.one 3 (.one 5 (.one 6 (.one 7 (.one 8 (.one 4 (.one 9 (.one 10 (.one 11 (.one 12 (.one 13 (.one 14 (.one 15 (.one 17 (.one 18 (.one 19 (.one 20 (.one 16 (.one 21 (.one 22 (.one 23 (.one 24 (.one 25 (.one 26 (.one 27 (.one 28 (.one 30 (.one 31 (.one 32 (.one 33 (.one 29 (.one 34 (.one 35 (.one 36 .nil))))))))))))))))))))))))))))))))))))) (by kernel_rfl) ?_ | refine AO.cons hT ?_ | refine AO.nil ?_ | refine AW.seq ?_ | refine AW.region ?_ | refine AW.cond ?_ | refine AW.block ?_ | refine AW.loop ?_ | refine AW.skip ?_ | refine AW.exit ?_ | refine AW.ret ?_ | refine AF.one hT rfl ?_ | refine AF.nil ?_ | refine AF.imm hT rfl rfl rfl ?_ | refine AH.of hT rfl ?_ | refine AD.cons hT rfl ?_ | refine AD.nil ?_ | refine AQ.cons hT rfl ?_ | refine AQ.nil ?_ | (refine ACall.val (by kernel_rfl) hawake rfl rfl ?_)); conv => whnf)
  refine ACall.val (by kernel_rfl) (f31v l (by omega)) (renL_one _ _) (ren_two _ _ _ (ren_mvs _ _) rfl) ?_
  conv => whnf
  repeat ((first | refine AW.plan (id := 12) hm (.one 0 (.one 1 (.one 2 (.one 3 (.one 5 (.one 6 (.one 7 (.one 8 (.one 4 (.one 9 (.one 10 (.one 11 (.one 12 (.one 13 (.one 14 (.one 15 (.one 17 (.one 18 (.one 19 (.one 20 (.one 16 (.one 21 (.one 22 (.one 23 (.one 24 (.one 25 (.one 26 (.one 27 (.one 28 (.one 30 (.one 31 (.one 32 (.one 33 (.one 29 (.one 34 (.one 35 (.one 36 .nil))))))))))))))))))))))))))))))))))))) (by kernel_rfl) ?_ | refine AO.cons hT ?_ | refine AO.nil ?_ | refine AW.seq ?_ | refine AW.region ?_ | refine AW.cond ?_ | refine AW.block ?_ | refine AW.loop ?_ | refine AW.skip ?_ | refine AW.exit ?_ | refine AW.ret ?_ | refine AF.one hT rfl ?_ | refine AF.nil ?_ | refine AF.imm hT rfl rfl rfl ?_ | refine AH.of hT rfl ?_ | refine AD.cons hT rfl ?_ | refine AD.nil ?_ | refine AQ.cons hT rfl ?_ | refine AQ.nil ?_ | (refine ACall.val (by kernel_rfl) hawake rfl rfl ?_)); conv => whnf)
  generalize (if chkF l = 0 then turnF l else []) = t at hsame ⊢
  conv => whnf
  repeat ((first | refine AW.plan (id := 12) hm (.one 0 (.one 1 (.one 2 (.one 3 (.one 5 (.one 6 (.one 7 (.one 8 (.one 4 (.one 9 (.one 10 (.one 11 (.one 12 (.one 13 (.one 14 (.one 15 (.one 17 (.one 18 (.one 19 (.one 20 (.one 16 (.one 21 (.one 22 (.one 23 (.one 24 (.one 25 (.one 26 (.one 27 (.one 28 (.one 30 (.one 31 (.one 32 (.one 33 (.one 29 (.one 34 (.one 35 (.one 36 .nil))))))))))))))))))))))))))))))))))))) (by kernel_rfl) ?_ | refine AO.cons hT ?_ | refine AO.nil ?_ | refine AW.seq ?_ | refine AW.region ?_ | refine AW.cond ?_ | refine AW.block ?_ | refine AW.loop ?_ | refine AW.skip ?_ | refine AW.exit ?_ | refine AW.ret ?_ | refine AF.one hT rfl ?_ | refine AF.nil ?_ | refine AF.imm hT rfl rfl rfl ?_ | refine AH.of hT rfl ?_ | refine AD.cons hT rfl ?_ | refine AD.nil ?_ | refine AQ.cons hT rfl ?_ | refine AQ.nil ?_ | (refine ACall.val (by kernel_rfl) hawake rfl rfl ?_) | (refine ASplit.no (by simp) ?_) | (refine ACond.no (by simp) ?_) | (refine ACall.val (by kernel_rfl) hsame (by simp [renL, AV.ren, renL_mvs, mvs]) rfl ?_) | (refine ACall.val (by kernel_rfl) (f32 l p id (by omega) hid) (by simp [renL, AV.ren, renL_mvs, mvs, nV]) rfl ?_) | (refine ACall.val (by kernel_rfl) (f33 l p id (by omega)) (by simp [renL, AV.ren, renL_mvs, mvs, nV]) rfl ?_)); conv => whnf)
  refine ALoop.mk (fun k E H => ∃ i : Nat, i ≤ d'.length ∧ k = d'.length - i ∧ E = pad [mvs l, .any, .any, .any, .any, .any, .v (.bool false), hds d', .any, hds d', .any, .any, .any, .any, .any, nV i] 116 ∧ H = []) (n := d'.length) _ _ ⟨0, by omega, rfl, rfl, rfl⟩ (Conv.fit ?_) ?_
  · repeat' (first | exact Fit.nil | refine Fit.any ?_ | refine Fit.same ?_)
  rintro _ _ _ ⟨i, hi, rfl, rfl, rfl⟩
  conv => whnf
  repeat ((first | refine AW.plan (id := 12) hm (.one 0 (.one 1 (.one 2 (.one 3 (.one 5 (.one 6 (.one 7 (.one 8 (.one 4 (.one 9 (.one 10 (.one 11 (.one 12 (.one 13 (.one 14 (.one 15 (.one 17 (.one 18 (.one 19 (.one 20 (.one 16 (.one 21 (.one 22 (.one 23 (.one 24 (.one 25 (.one 26 (.one 27 (.one 28 (.one 30 (.one 31 (.one 32 (.one 33 (.one 29 (.one 34 (.one 35 (.one 36 .nil))))))))))))))))))))))))))))))))))))) (by kernel_rfl) ?_ | refine AO.cons hT ?_ | refine AO.nil ?_ | refine AW.seq ?_ | refine AW.region ?_ | refine AW.cond ?_ | refine AW.block ?_ | refine AW.loop ?_ | refine AW.skip ?_ | refine AW.exit ?_ | refine AW.ret ?_ | refine AF.one hT rfl ?_ | refine AF.nil ?_ | refine AF.imm hT rfl rfl rfl ?_ | refine AH.of hT rfl ?_ | refine AD.cons hT rfl ?_ | refine AD.nil ?_ | refine AQ.cons hT rfl ?_ | refine AQ.nil ?_); conv => whnf)
  refine ACond.dec (fun h => ?_) (fun h => ?_)
  · have hil : i < d'.length := by omega
    conv => whnf
    repeat ((first | refine AW.plan (id := 12) hm (.one 0 (.one 1 (.one 2 (.one 3 (.one 5 (.one 6 (.one 7 (.one 8 (.one 4 (.one 9 (.one 10 (.one 11 (.one 12 (.one 13 (.one 14 (.one 15 (.one 17 (.one 18 (.one 19 (.one 20 (.one 16 (.one 21 (.one 22 (.one 23 (.one 24 (.one 25 (.one 26 (.one 27 (.one 28 (.one 30 (.one 31 (.one 32 (.one 33 (.one 29 (.one 34 (.one 35 (.one 36 .nil))))))))))))))))))))))))))))))))))))) (by kernel_rfl) ?_ | refine AO.cons hT ?_ | refine AO.nil ?_ | refine AW.seq ?_ | refine AW.region ?_ | refine AW.cond ?_ | refine AW.block ?_ | refine AW.loop ?_ | refine AW.skip ?_ | refine AW.exit ?_ | refine AW.ret ?_ | refine AF.one hT rfl ?_ | refine AF.nil ?_ | refine AF.imm hT rfl rfl rfl ?_ | refine AH.of hT rfl ?_ | refine AD.cons hT rfl ?_ | refine AD.nil ?_ | refine AQ.cons hT rfl ?_ | refine AQ.nil ?_ | (refine AReq.mk (by omega) ?_) | (refine AIdx.at hdC_len (xs := d') i (by omega) hil ?_) | (refine ASplit.no (by simp) ?_) | (refine ACond.no (by simp) ?_)); conv => whnf)
    rw [wrap_i64 ((i : Int) + 1) (by omega) (by omega)]
    refine AHead.mk (d'.length - (i + 1)) _ _ (by omega) ⟨i + 1, by omega, rfl, rfl, rfl⟩ (Conv.fit ?_)
    repeat' (first | exact Fit.nil | refine Fit.any ?_ | refine Fit.same ?_)
  · conv => whnf
    repeat ((first | refine AW.plan (id := 12) hm (.one 0 (.one 1 (.one 2 (.one 3 (.one 5 (.one 6 (.one 7 (.one 8 (.one 4 (.one 9 (.one 10 (.one 11 (.one 12 (.one 13 (.one 14 (.one 15 (.one 17 (.one 18 (.one 19 (.one 20 (.one 16 (.one 21 (.one 22 (.one 23 (.one 24 (.one 25 (.one 26 (.one 27 (.one 28 (.one 30 (.one 31 (.one 32 (.one 33 (.one 29 (.one 34 (.one 35 (.one 36 .nil))))))))))))))))))))))))))))))))))))) (by kernel_rfl) ?_ | refine AO.cons hT ?_ | refine AO.nil ?_ | refine AW.seq ?_ | refine AW.region ?_ | refine AW.cond ?_ | refine AW.block ?_ | refine AW.loop ?_ | refine AW.skip ?_ | refine AW.exit ?_ | refine AW.ret ?_ | refine AF.one hT rfl ?_ | refine AF.nil ?_ | refine AF.imm hT rfl rfl rfl ?_ | refine AH.of hT rfl ?_ | refine AD.cons hT rfl ?_ | refine AD.nil ?_ | refine AQ.cons hT rfl ?_ | refine AQ.nil ?_ | (refine AReq.mk (by omega) ?_) | (refine AIdx.at hdC_len (xs := d') i (by omega) hil ?_) | (refine ASplit.no (by simp) ?_) | (refine ACond.no (by simp) ?_)); conv => whnf)
    refine AOut.stay ?_
    conv => whnf
    repeat ((first | refine AW.plan (id := 12) hm (.one 0 (.one 1 (.one 2 (.one 3 (.one 5 (.one 6 (.one 7 (.one 8 (.one 4 (.one 9 (.one 10 (.one 11 (.one 12 (.one 13 (.one 14 (.one 15 (.one 17 (.one 18 (.one 19 (.one 20 (.one 16 (.one 21 (.one 22 (.one 23 (.one 24 (.one 25 (.one 26 (.one 27 (.one 28 (.one 30 (.one 31 (.one 32 (.one 33 (.one 29 (.one 34 (.one 35 (.one 36 .nil))))))))))))))))))))))))))))))))))))) (by kernel_rfl) ?_ | refine AO.cons hT ?_ | refine AO.nil ?_ | refine AW.seq ?_ | refine AW.region ?_ | refine AW.cond ?_ | refine AW.block ?_ | refine AW.loop ?_ | refine AW.skip ?_ | refine AW.exit ?_ | refine AW.ret ?_ | refine AF.one hT rfl ?_ | refine AF.nil ?_ | refine AF.imm hT rfl rfl rfl ?_ | refine AH.of hT rfl ?_ | refine AD.cons hT rfl ?_ | refine AD.nil ?_ | refine AQ.cons hT rfl ?_ | refine AQ.nil ?_ | (refine AReq.mk (by omega) ?_) | (refine AIdx.at hdC_len (xs := d') i (by omega) hil ?_) | (refine ASplit.no (by simp) ?_) | (refine ACond.no (by simp) ?_)); conv => whnf)
    refine ACall.val (by kernel_rfl) hawake rfl rfl ?_
    conv => whnf
    repeat ((first | refine AW.plan (id := 12) hm (.one 0 (.one 1 (.one 2 (.one 3 (.one 5 (.one 6 (.one 7 (.one 8 (.one 4 (.one 9 (.one 10 (.one 11 (.one 12 (.one 13 (.one 14 (.one 15 (.one 17 (.one 18 (.one 19 (.one 20 (.one 16 (.one 21 (.one 22 (.one 23 (.one 24 (.one 25 (.one 26 (.one 27 (.one 28 (.one 30 (.one 31 (.one 32 (.one 33 (.one 29 (.one 34 (.one 35 (.one 36 .nil))))))))))))))))))))))))))))))))))))) (by kernel_rfl) ?_ | refine AO.cons hT ?_ | refine AO.nil ?_ | refine AW.seq ?_ | refine AW.region ?_ | refine AW.cond ?_ | refine AW.block ?_ | refine AW.loop ?_ | refine AW.skip ?_ | refine AW.exit ?_ | refine AW.ret ?_ | refine AF.one hT rfl ?_ | refine AF.nil ?_ | refine AF.imm hT rfl rfl rfl ?_ | refine AH.of hT rfl ?_ | refine AD.cons hT rfl ?_ | refine AD.nil ?_ | refine AQ.cons hT rfl ?_ | refine AQ.nil ?_ | (refine AReq.mk (by omega) ?_) | (refine AIdx.at hdC_len (xs := d') i (by omega) hil ?_) | (refine ASplit.no (by simp) ?_) | (refine ACond.no (by simp) ?_)); conv => whnf)
    exact hfin
end Go.Aw.R1

set_option linter.unusedSimpArgs false
set_option linter.unusedVariables false
namespace Go.Proofs.Ytdhafeekjbnapaa
open Go Go.Aw Go.Aw.R1 Go.ChangeShapes Go.WideShapes Go.ChangeAt Go.RowKit

theorem tells_own : ownKnob Try.prog.godebug = none := by kernel_rfl
theorem tells_laid : laidOutB Try.prog = true := by kernel_rfl

theorem tells_open : OpenA Try.prog [39, 4, 3] (fun x : List Mv × (Bool × (Int × Unit)) => [mvs x.1, .v (.bool x.2.1), .v (.int .i64 x.2.2.1)]) (fun x => (x.1.length ≤ maxLen ∧ ∀ y ∈ x.1, mwf y ∧ (mvC y).length = 3) ∧ True ∧ (Lit.int .i64 x.2.2.1).wf = true ∧ True) :=
  openA_cons openV_mvs (openA_cons (openV_bool Try.underlying4) (openA_cons (openV_int Try.underlying3) openA_nil))

set_option maxRecDepth 100000 in
theorem tells_contract (H : Type) (enc : TypeId × Value → H) (W : World) (base : Nat) (args : Array Value) (ds gs : List (DataW H)) (before : List MemPlace)
    (hval : ∀ (j : Nat) t v, Try.f7.params[j]? = some t → args[j]? = some v → Value.okWide Try.prog W .any base t v)
    (hW : DataW.Whole enc Try.prog Try.f7.params.toList Rows.stockTellsSpec.vars false W args.toList ds gs before) :
    Calls Try.prog 7 args W fun e W' => ∃ v, e = .returned v ∧ Rows.stockTellsSpec.post enc Try.prog Try.f7 false true false false W args v W' :=
  law_contract tells_laid (by kernel_rfl) (t0 := 4) (by kernel_rfl) Try.underlying4 rfl (by rw [Try.params7]; exact tells_open)
    (fun a ha => by
      exact f7 a.1 a.2.1 a.2.2.1 ha.2.2.1)
    (fun H ds h => by
      rw [Try.params7] at h
      match ds, h with
      | [d0, d1, d2], _ => rfl) hval hW

set_option maxRecDepth 100000 in
theorem tells_lifted (os : Os) (started : os.Started) (H : Type) (enc : TypeId × Value → H) :
    ReturnsInHanded {} Try.checked os 7 .any (Rows.stockTellsSpec.pre6 enc Try.prog Try.f7 Rows.stockTellsRow.domain false) (Rows.stockTellsSpec.post enc Try.prog Try.f7 false true false false) := by
  refine returnsInHanded_of_change (C := Try.checked) tells_own started (by kernel_rfl) Try.func7
    (ChangeSpec.witness6 (enc := enc) (C := Try.checked) false ⟨#[], #[.slice none 0 0, .bool false, .int .i64 0], []⟩ 8 (by kernel_rfl) (by kernel_rfl) (by kernel_rfl) (by kernel_rfl)) ?_
  intro W base args ds gs before hval hW hcnd _
  exact tells_contract H enc W base args ds gs before hval hW

theorem tells_over : Rows.stockTellsRow.holds Try.pinned (OpenSpec.ofChange Rows.stockTellsSpec) :=
  OpenClaim.holds_of_wide 7 Try.f7 rfl rfl rfl rfl rfl rfl rfl ⟨rfl, rfl, rfl, rfl, rfl⟩ rfl rfl rfl rfl rfl (by kernel_rfl) Try.func7 (by kernel_rfl)
    (of_decide_eq_true (by kernel_rfl)) (by unfold Func.isWrapper; first | (rw [if_pos (by decide +kernel)]; kernel_rfl) | (rw [if_neg (by decide +kernel)]; exact ⟨rfl, rfl⟩))
    (fun os started H enc _ => tells_lifted os started H enc)

theorem stockTells : Rows.StockTellsSaid := tells_over
#print axioms stockTells
end Go.Proofs.Ytdhafeekjbnapaa

