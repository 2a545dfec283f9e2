/-
  The statement StateStock: of a state that may be, stock and parts are never below nothing, the stock of an item is how many of its units were restocked, and what a memo says of a unit is what it is worth, without any condition.
-/
import Derived.Test.YtnfbiphfhkfnaaaGreatUgI
import Derived.Test.YtnfbiphfhkfnaaaGreatUgA
import Derived.Test.YtnfbiphfhkfnaaaGreatAwK
import Derived.Test.YtnfbiphfhkfnaaaGreatAwL
set_option linter.unusedSimpArgs false
set_option linter.unusedVariables false
set_option linter.unusedSimpArgs false
set_option linter.unusedVariables false
set_option maxHeartbeats 4000000
set_option maxRecDepth 8000
namespace Go.Aw.U1
open Go Go.Proofs

theorem sumOf_ge {l : List UR.Mv} (h : ∀ k, UR.okAt l k) (p : Bool) (i : Int) : ∀ k, k ≤ l.length → 0 ≤ UR.sumOf (l.take k) p i
  | 0, _ => by simp [UR.sumOf]
  | k + 1, hk => by
    have hkl : k < l.length := by omega
    have ih := sumOf_ge h p i k (by omega)
    rw [UR.take_snoc l k hkl, UR.sumOf_snoc]
    split
    · rename_i hm
      have h1 := (h k hkl).2.1
      simp only [UR.mat, Bool.and_eq_true, beq_iff_eq, decide_eq_true_eq] at hm
      rw [UR.take_snoc l k hkl, UR.sumOf_snoc] at h1
      rw [if_pos (by simp [UR.mat])] at h1
      rw [hm.1, hm.2] at h1
      exact h1
    · exact ih
theorem StockOk.same {s : Sta} {d d' : List UR.Hd} (h : StockOk s d) (h' : UR.AllOf (mvL s) d') : ∀ x ∈ d', 0 ≤ x.2.2 ∧ (x.1 = false → x.2.2 = cntS s x.2.1 s.units) := fun x hx => by
  have hm := (h'.mem x).1 hx
  refine ⟨?_, fun hp => h.cnt x ((h.all.mem x).2 hm) hp⟩
  rw [hm.2]
  have := sumOf_ge h.good.2 x.1 x.2.1 (mvL s).length (Nat.le_refl _)
  rwa [List.take_length] at this
theorem all_len {s : Sta} {d : List UR.Hd} (hall : UR.AllOf (mvL s) d) (hm : s.moves.length ≤ 300) : d.length ≤ 300 := by
  have h1 : (d.map fun x => (x.1, x.2.1)).Nodup := by
    rw [List.Nodup, List.pairwise_map]
    refine hall.lt.imp fun {x y} hxy he => ?_
    simp only [Prod.mk.injEq] at he
    simp only [UR.hdLt, decide_eq_true_eq] at hxy
    rcases hxy with ⟨_, h3⟩ | ⟨h3, h4⟩
    · omega
    · rw [he.1] at h3; rw [h3] at h4; cases h4
  have h2 := nodup_le h1 (l' := (mvL s).map fun m => (m.p, m.i)) (fun y hy => by
    obtain ⟨x, hx, rfl⟩ := List.mem_map.1 hy
    obtain ⟨m, hm1, hm2, hm3⟩ := ((hall.mem x).1 hx).1
    exact List.mem_map.2 ⟨m, hm1, by rw [hm2, hm3]⟩)
  simp only [List.length_map, mvL] at h2
  omega
/-- what the walk asks of a state -/
structure Wf (s : Sta) : Prop where
  ids : idsOk s
  ords : ∀ o ∈ s.orders, ∀ x ∈ o.ls, ∀ y ∈ x.ss, sOk y
  rmas : ∀ r ∈ s.rmas, rmOk r
  units : ∀ u ∈ s.units, sOk u.s
  works : ∀ u ∈ s.works, sOk u.s
  claims : ∀ u ∈ s.claims, ssOk u.ss
  memos : ∀ u ∈ s.memos, ssOk u.ss ∧ u.am.length ≤ 9223372036854775807
theorem Wf.sta {s : Sta} (h : Wf s) (f : FewOk s) : StaOk s where
  items := by have := f.items; omega
  orders := ⟨by have := f.orders; omega, fun o ho => ⟨by have := (f.lines o ho).1; omega, fun x hx => ⟨⟨by have := ((f.lines o ho).2 x hx).1; omega, fun y hy => h.ords o ho x hx y hy⟩, by have := ((f.lines o ho).2 x hx).1; omega⟩⟩⟩
  rmas := ⟨by have := f.rmas; omega, h.rmas⟩
  units := ⟨by have := f.units; omega, h.units⟩
  works := ⟨by have := f.works; omega, h.works⟩
  claims := ⟨by have := f.claims; omega, h.claims⟩
  memos := ⟨by have := f.memos; omega, h.memos⟩
  moves := f.moves
  asks := by have := f.asks; omega
  cuts := by have := f.cuts; omega
  fees := by have := f.fees; omega
  rows := by have := f.rows; omega
  keys := by have := f.keys; omega
theorem f3 (hA : Fun P 7 [] (bV true)) (s : Sta) (hw : Wf s) : Spec P 3 [stA s] [] (fun r _ => r = bV true) := by
  refine spec_of hT (f := 3) (fn := Go.Proofs.Tryz.f3) (c := body Go.Proofs.Tryz.f3) (by kernel_rfl) (by kernel_rfl) ?_
  conv => whnf
  repeat (first | refine go ?_ | ((first | refine AW.plan (id := 16) hm (.one 0 (.one 2 (.one 1 (.one 3 (.one 4 (.one 5 (.one 6 (.one 7 (.one 8 (.one 10 (.one 12 (.one 19 (.one 20 (.one 21 (.one 22 (.one 11 (.one 13 (.one 14 (.one 9 (.one 15 (.one 16 (.one 17 (.one 18 (.one 23 (.one 24 (.one 25 .nil)))))))))))))))))))))))))) (by kernel_rfl) ?_ | refine AW.plan (id := 30) hm (.one 0 (.one 2 (.one 6 (.one 8 (.one 9 (.one 11 (.one 1 (.one 3 (.one 4 (.one 5 (.one 7 (.one 10 (.one 12 (.one 13 (.one 14 (.one 15 (.one 16 (.one 17 (.one 18 .nil))))))))))))))))))) (by kernel_rfl) ?_); conv => whnf))
  refine ACall.spec (args := [stA s]) (by kernel_rfl) (f5 s) (by (first | rfl | (simp only [renL, AV.ren, List.nil_append, List.cons_append, rens]; try rfl))) ?_
  rintro _ _ ⟨⟨b, rfl, hb⟩, rfl⟩
  cases b with
  | false =>
    conv => whnf
    repeat (first | refine ru ?_ | ((first | refine AW.plan (id := 16) hm (.one 0 (.one 2 (.one 1 (.one 3 (.one 4 (.one 5 (.one 6 (.one 7 (.one 8 (.one 10 (.one 12 (.one 19 (.one 20 (.one 21 (.one 22 (.one 11 (.one 13 (.one 14 (.one 9 (.one 15 (.one 16 (.one 17 (.one 18 (.one 23 (.one 24 (.one 25 .nil)))))))))))))))))))))))))) (by kernel_rfl) ?_ | refine AW.plan (id := 30) hm (.one 0 (.one 2 (.one 6 (.one 8 (.one 9 (.one 11 (.one 1 (.one 3 (.one 4 (.one 5 (.one 7 (.one 10 (.one 12 (.one 13 (.one 14 (.one 15 (.one 16 (.one 17 (.one 18 .nil))))))))))))))))))) (by kernel_rfl) ?_); conv => whnf))
    refine ACall.val (args := []) (by kernel_rfl) hA rfl rfl ?_
    conv => whnf
    repeat (first | refine ru ?_ | ((first | refine AW.plan (id := 16) hm (.one 0 (.one 2 (.one 1 (.one 3 (.one 4 (.one 5 (.one 6 (.one 7 (.one 8 (.one 10 (.one 12 (.one 19 (.one 20 (.one 21 (.one 22 (.one 11 (.one 13 (.one 14 (.one 9 (.one 15 (.one 16 (.one 17 (.one 18 (.one 23 (.one 24 (.one 25 .nil)))))))))))))))))))))))))) (by kernel_rfl) ?_ | refine AW.plan (id := 30) hm (.one 0 (.one 2 (.one 6 (.one 8 (.one 9 (.one 11 (.one 1 (.one 3 (.one 4 (.one 5 (.one 7 (.one 10 (.one 12 (.one 13 (.one 14 (.one 15 (.one 16 (.one 17 (.one 18 .nil))))))))))))))))))) (by kernel_rfl) ?_); conv => whnf))
    exact AFin.mk rfl
  | true =>
  have hs := hw.sta (hb rfl)
  have hmv := hs.moves
  conv => whnf
  repeat (first | refine ru ?_ | ((first | refine AW.plan (id := 16) hm (.one 0 (.one 2 (.one 1 (.one 3 (.one 4 (.one 5 (.one 6 (.one 7 (.one 8 (.one 10 (.one 12 (.one 19 (.one 20 (.one 21 (.one 22 (.one 11 (.one 13 (.one 14 (.one 9 (.one 15 (.one 16 (.one 17 (.one 18 (.one 23 (.one 24 (.one 25 .nil)))))))))))))))))))))))))) (by kernel_rfl) ?_ | refine AW.plan (id := 30) hm (.one 0 (.one 2 (.one 6 (.one 8 (.one 9 (.one 11 (.one 1 (.one 3 (.one 4 (.one 5 (.one 7 (.one 10 (.one 12 (.one 13 (.one 14 (.one 15 (.one 16 (.one 17 (.one 18 .nil))))))))))))))))))) (by kernel_rfl) ?_); conv => whnf))
  refine ACall.spec (args := [stA s]) (by kernel_rfl) (f6 s hs hw.ids) (by (first | rfl | (simp only [renL, AV.ren, List.nil_append, List.cons_append, rens]; try rfl))) ?_
  rintro _ _ ⟨⟨n, rfl, hck, _, _⟩, rfl⟩
  conv => whnf
  repeat (first | refine ru ?_ | ((first | refine AW.plan (id := 16) hm (.one 0 (.one 2 (.one 1 (.one 3 (.one 4 (.one 5 (.one 6 (.one 7 (.one 8 (.one 10 (.one 12 (.one 19 (.one 20 (.one 21 (.one 22 (.one 11 (.one 13 (.one 14 (.one 9 (.one 15 (.one 16 (.one 17 (.one 18 (.one 23 (.one 24 (.one 25 .nil)))))))))))))))))))))))))) (by kernel_rfl) ?_ | refine AW.plan (id := 30) hm (.one 0 (.one 2 (.one 6 (.one 8 (.one 9 (.one 11 (.one 1 (.one 3 (.one 4 (.one 5 (.one 7 (.one 10 (.one 12 (.one 13 (.one 14 (.one 15 (.one 16 (.one 17 (.one 18 .nil))))))))))))))))))) (by kernel_rfl) ?_); conv => whnf))
  refine ACond.ndec (fun h1 => ?_) (fun h1 => ?_)
  · conv => whnf
    repeat (first | refine ru ?_ | ((first | refine AW.plan (id := 16) hm (.one 0 (.one 2 (.one 1 (.one 3 (.one 4 (.one 5 (.one 6 (.one 7 (.one 8 (.one 10 (.one 12 (.one 19 (.one 20 (.one 21 (.one 22 (.one 11 (.one 13 (.one 14 (.one 9 (.one 15 (.one 16 (.one 17 (.one 18 (.one 23 (.one 24 (.one 25 .nil)))))))))))))))))))))))))) (by kernel_rfl) ?_ | refine AW.plan (id := 30) hm (.one 0 (.one 2 (.one 6 (.one 8 (.one 9 (.one 11 (.one 1 (.one 3 (.one 4 (.one 5 (.one 7 (.one 10 (.one 12 (.one 13 (.one 14 (.one 15 (.one 16 (.one 17 (.one 18 .nil))))))))))))))))))) (by kernel_rfl) ?_); conv => whnf))
    refine ACall.val (args := []) (by kernel_rfl) hA rfl rfl ?_
    conv => whnf
    repeat (first | refine ru ?_ | ((first | refine AW.plan (id := 16) hm (.one 0 (.one 2 (.one 1 (.one 3 (.one 4 (.one 5 (.one 6 (.one 7 (.one 8 (.one 10 (.one 12 (.one 19 (.one 20 (.one 21 (.one 22 (.one 11 (.one 13 (.one 14 (.one 9 (.one 15 (.one 16 (.one 17 (.one 18 (.one 23 (.one 24 (.one 25 .nil)))))))))))))))))))))))))) (by kernel_rfl) ?_ | refine AW.plan (id := 30) hm (.one 0 (.one 2 (.one 6 (.one 8 (.one 9 (.one 11 (.one 1 (.one 3 (.one 4 (.one 5 (.one 7 (.one 10 (.one 12 (.one 13 (.one 14 (.one 15 (.one 16 (.one 17 (.one 18 .nil))))))))))))))))))) (by kernel_rfl) ?_); conv => whnf))
    exact AFin.mk rfl
  have hC := hck h1
  obtain ⟨d0, hst⟩ := hC.stock
  have hord := ships_all hC.ships
  conv => whnf
  repeat (first | refine ru ?_ | ((first | refine AW.plan (id := 16) hm (.one 0 (.one 2 (.one 1 (.one 3 (.one 4 (.one 5 (.one 6 (.one 7 (.one 8 (.one 10 (.one 12 (.one 19 (.one 20 (.one 21 (.one 22 (.one 11 (.one 13 (.one 14 (.one 9 (.one 15 (.one 16 (.one 17 (.one 18 (.one 23 (.one 24 (.one 25 .nil)))))))))))))))))))))))))) (by kernel_rfl) ?_ | refine AW.plan (id := 30) hm (.one 0 (.one 2 (.one 6 (.one 8 (.one 9 (.one 11 (.one 1 (.one 3 (.one 4 (.one 5 (.one 7 (.one 10 (.one 12 (.one 13 (.one 14 (.one 15 (.one 16 (.one 17 (.one 18 .nil))))))))))))))))))) (by kernel_rfl) ?_); conv => whnf))
  refine ACall.spec (args := [mvs s.moves]) (by kernel_rfl) (f8 s hs.moves) (by (first | rfl | (simp only [renL, AV.ren, List.nil_append, List.cons_append, rens]; try rfl))) ?_
  rintro _ _ ⟨⟨d, hd, rfl⟩, rfl⟩
  simp only [AV.ren, renL, UR.ren_hds]
  have hall : UR.AllOf (mvL s) d := by
    rcases hd with hd | ⟨hd, _⟩
    · exact hd.2
    · exact absurd hst.good hd
  rw [UR.chkF_yes hst.good]
  have hsame := hst.same hall
  have hdl := all_len hall hmv
  have hul := hs.units.1
  have hml := hs.memos.1
  clear hd hb hck
  conv => whnf
  repeat (first | refine ru ?_ | ((first | refine AW.plan (id := 16) hm (.one 0 (.one 2 (.one 1 (.one 3 (.one 4 (.one 5 (.one 6 (.one 7 (.one 8 (.one 10 (.one 12 (.one 19 (.one 20 (.one 21 (.one 22 (.one 11 (.one 13 (.one 14 (.one 9 (.one 15 (.one 16 (.one 17 (.one 18 (.one 23 (.one 24 (.one 25 .nil)))))))))))))))))))))))))) (by kernel_rfl) ?_ | refine AW.plan (id := 30) hm (.one 0 (.one 2 (.one 6 (.one 8 (.one 9 (.one 11 (.one 1 (.one 3 (.one 4 (.one 5 (.one 7 (.one 10 (.one 12 (.one 13 (.one 14 (.one 15 (.one 16 (.one 17 (.one 18 .nil))))))))))))))))))) (by kernel_rfl) ?_); conv => whnf))
  refine ALoop.mk (fun n E H => ∃ (i : Nat), n = d.length - i ∧ i ≤ d.length ∧
      E = pad [stA s, .ptr 0 0, bV false, UR.hds d, .any, nV i] 240 ∧ H = [.ice 36 (stC s)]) (n := d.length) _ _
    ⟨0, rfl, Nat.zero_le _, rfl, rfl⟩ (Conv.trans (Conv.fit (by repeat' (first | exact Fit.nil | refine Fit.any ?_ | refine Fit.same ?_))) (Conv.freeze 0 rfl)) ?_
  rintro _ _ _ ⟨i, rfl, hi, rfl, rfl⟩
  conv => whnf
  repeat (first | refine go ?_ | ((first | refine AW.plan (id := 16) hm (.one 0 (.one 2 (.one 1 (.one 3 (.one 4 (.one 5 (.one 6 (.one 7 (.one 8 (.one 10 (.one 12 (.one 19 (.one 20 (.one 21 (.one 22 (.one 11 (.one 13 (.one 14 (.one 9 (.one 15 (.one 16 (.one 17 (.one 18 (.one 23 (.one 24 (.one 25 .nil)))))))))))))))))))))))))) (by kernel_rfl) ?_ | refine AW.plan (id := 30) hm (.one 0 (.one 2 (.one 6 (.one 8 (.one 9 (.one 11 (.one 1 (.one 3 (.one 4 (.one 5 (.one 7 (.one 10 (.one 12 (.one 13 (.one 14 (.one 15 (.one 16 (.one 17 (.one 18 .nil))))))))))))))))))) (by kernel_rfl) ?_); conv => whnf))
  refine ACond.dec (fun h2 => ?_) (fun h2 => ?_)
  · have hil : i < d.length := by omega
    have w1 : IntKind.wrap .i64 ((i : Int) + 1) = ((i + 1 : Nat) : Int) := by rw [wrap_i64 _ (by omega) (by omega)]; omega
    have hx := hsame _ (List.getElem_mem hil)
    conv => whnf
    repeat (first | refine go ?_ | ((first | refine AW.plan (id := 16) hm (.one 0 (.one 2 (.one 1 (.one 3 (.one 4 (.one 5 (.one 6 (.one 7 (.one 8 (.one 10 (.one 12 (.one 19 (.one 20 (.one 21 (.one 22 (.one 11 (.one 13 (.one 14 (.one 9 (.one 15 (.one 16 (.one 17 (.one 18 (.one 23 (.one 24 (.one 25 .nil)))))))))))))))))))))))))) (by kernel_rfl) ?_ | refine AW.plan (id := 30) hm (.one 0 (.one 2 (.one 6 (.one 8 (.one 9 (.one 11 (.one 1 (.one 3 (.one 4 (.one 5 (.one 7 (.one 10 (.one 12 (.one 13 (.one 14 (.one 15 (.one 16 (.one 17 (.one 18 .nil))))))))))))))))))) (by kernel_rfl) ?_); conv => whnf))
    refine ALoop.mk (fun n E H => ∃ (k : Nat), n = s.units.length - k ∧ k ≤ s.units.length ∧
        E = pad [stA s, .ptr 0 0, bV false, UR.hds d, .any, nV i, nV (cntS s d[i].2.1 (s.units.take k)), nV k] 240 ∧ H = [.ice 36 (stC s)]) (n := s.units.length) _ _
      ⟨0, rfl, Nat.zero_le _, rfl, rfl⟩ (Conv.fit (by repeat' (first | exact Fit.nil | refine Fit.any ?_ | refine Fit.same ?_))) ?_
    rintro _ _ _ ⟨k, rfl, hk, rfl, rfl⟩
    conv => whnf
    repeat (first | refine go ?_ | ((first | refine AW.plan (id := 16) hm (.one 0 (.one 2 (.one 1 (.one 3 (.one 4 (.one 5 (.one 6 (.one 7 (.one 8 (.one 10 (.one 12 (.one 19 (.one 20 (.one 21 (.one 22 (.one 11 (.one 13 (.one 14 (.one 9 (.one 15 (.one 16 (.one 17 (.one 18 (.one 23 (.one 24 (.one 25 .nil)))))))))))))))))))))))))) (by kernel_rfl) ?_ | refine AW.plan (id := 30) hm (.one 0 (.one 2 (.one 6 (.one 8 (.one 9 (.one 11 (.one 1 (.one 3 (.one 4 (.one 5 (.one 7 (.one 10 (.one 12 (.one 13 (.one 14 (.one 15 (.one 16 (.one 17 (.one 18 .nil))))))))))))))))))) (by kernel_rfl) ?_); conv => whnf))
    refine ACond.dec (fun h3 => ?_) (fun h3 => ?_)
    · have hkl : k < s.units.length := by omega
      have w2 : IntKind.wrap .i64 ((k : Int) + 1) = ((k + 1 : Nat) : Int) := by rw [wrap_i64 _ (by omega) (by omega)]; omega
      obtain ⟨o, q, j, hat⟩ := came_at hC.base.tab (hC.base.came _ (List.getElem_mem hkl))
      obtain ⟨e1, e2, e3⟩ := hat.item
      have hf := f9 s s.units[k].order hs.orders.1
      rw [hat.find] at hf
      have htk : s.units.take (k + 1) = s.units.take k ++ [s.units[k]] := by rw [List.take_add_one, List.getElem?_eq_getElem hkl]; rfl
      have hcnt : cntS s d[i].2.1 (s.units.take (k + 1)) = cntS s d[i].2.1 (s.units.take k) + (if s.units[k].state = 6 ∧ itemU s s.units[k] = d[i].2.1 then 1 else 0) := by rw [htk, cntS_snoc]
      have hbd := cntS_bd s d[i].2.1 (s.units.take k)
      have hle : (s.units.take k).length ≤ k := by simp; omega
      have w3 : IntKind.wrap .i64 (cntS s d[i].2.1 (s.units.take k) + 1) = cntS s d[i].2.1 (s.units.take k) + 1 := by rw [wrap_i64 _ (by omega) (by omega)]
      have hql := hat.klt
      have hline := hat.line
      conv => whnf
      repeat (first | refine go ?_ | ((first | refine AW.plan (id := 16) hm (.one 0 (.one 2 (.one 1 (.one 3 (.one 4 (.one 5 (.one 6 (.one 7 (.one 8 (.one 10 (.one 12 (.one 19 (.one 20 (.one 21 (.one 22 (.one 11 (.one 13 (.one 14 (.one 9 (.one 15 (.one 16 (.one 17 (.one 18 (.one 23 (.one 24 (.one 25 .nil)))))))))))))))))))))))))) (by kernel_rfl) ?_ | refine AW.plan (id := 30) hm (.one 0 (.one 2 (.one 6 (.one 8 (.one 9 (.one 11 (.one 1 (.one 3 (.one 4 (.one 5 (.one 7 (.one 10 (.one 12 (.one 13 (.one 14 (.one 15 (.one 16 (.one 17 (.one 18 .nil))))))))))))))))))) (by kernel_rfl) ?_); conv => whnf))
      refine AW.plan hm (.one 1 (.one 3 (.one 2 (.one 4 (.one 5 (.one 0 (.one 6 (.fork 7 (.one 8 (.one 9 (.one 10 (.one 11 .nil)))) 11 (.one 7 (.one 8 (.one 9 (.one 10 .nil)))) (.one 12 (.one 13 .nil)))))))))) (by kernel_rfl) ?_
      conv => whnf
      repeat (first | refine go ?_ | ((first | refine AW.plan (id := 16) hm (.one 0 (.one 2 (.one 1 (.one 3 (.one 4 (.one 5 (.one 6 (.one 7 (.one 8 (.one 10 (.one 12 (.one 19 (.one 20 (.one 21 (.one 22 (.one 11 (.one 13 (.one 14 (.one 9 (.one 15 (.one 16 (.one 17 (.one 18 (.one 23 (.one 24 (.one 25 .nil)))))))))))))))))))))))))) (by kernel_rfl) ?_ | refine AW.plan (id := 30) hm (.one 0 (.one 2 (.one 6 (.one 8 (.one 9 (.one 11 (.one 1 (.one 3 (.one 4 (.one 5 (.one 7 (.one 10 (.one 12 (.one 13 (.one 14 (.one 15 (.one 16 (.one 17 (.one 18 .nil))))))))))))))))))) (by kernel_rfl) ?_ | refine AReq.mk (by omega) ?_ | refine AIdx.flat (enc := unC) unC_len (xs := s.units) (i := k) hkl ?_ | refine ACall.val (args := [stA s, nV s.units[k].order]) (by kernel_rfl) hf (by (first | rfl | (simp only [renL, AV.ren, List.nil_append, List.cons_append, rens]; try rfl))) (by (first | rfl | (simp only [renL, AV.ren, List.nil_append, List.cons_append, rens]; try rfl))) ?_); conv => whnf))
      apply AF.meet
      · conv => whnf
        repeat (first | refine go ?_ | ((first | refine AW.plan (id := 16) hm (.one 0 (.one 2 (.one 1 (.one 3 (.one 4 (.one 5 (.one 6 (.one 7 (.one 8 (.one 10 (.one 12 (.one 19 (.one 20 (.one 21 (.one 22 (.one 11 (.one 13 (.one 14 (.one 9 (.one 15 (.one 16 (.one 17 (.one 18 (.one 23 (.one 24 (.one 25 .nil)))))))))))))))))))))))))) (by kernel_rfl) ?_ | refine AW.plan (id := 30) hm (.one 0 (.one 2 (.one 6 (.one 8 (.one 9 (.one 11 (.one 1 (.one 3 (.one 4 (.one 5 (.one 7 (.one 10 (.one 12 (.one 13 (.one 14 (.one 15 (.one 16 (.one 17 (.one 18 .nil))))))))))))))))))) (by kernel_rfl) ?_ | refine AReq.mk (by omega) ?_ | refine AIdx.flat (enc := unC) unC_len (xs := s.units) (i := k) hkl ?_ | refine ACall.val (args := [stA s, nV s.units[k].order]) (by kernel_rfl) hf (by (first | rfl | (simp only [renL, AV.ren, List.nil_append, List.cons_append, rens]; try rfl))) (by (first | rfl | (simp only [renL, AV.ren, List.nil_append, List.cons_append, rens]; try rfl))) ?_); conv => whnf))
        exact ⟨rfl, rfl, rfl⟩
      · conv => whnf
        repeat (first | refine go ?_ | ((first | refine AW.plan (id := 16) hm (.one 0 (.one 2 (.one 1 (.one 3 (.one 4 (.one 5 (.one 6 (.one 7 (.one 8 (.one 10 (.one 12 (.one 19 (.one 20 (.one 21 (.one 22 (.one 11 (.one 13 (.one 14 (.one 9 (.one 15 (.one 16 (.one 17 (.one 18 (.one 23 (.one 24 (.one 25 .nil)))))))))))))))))))))))))) (by kernel_rfl) ?_ | refine AW.plan (id := 30) hm (.one 0 (.one 2 (.one 6 (.one 8 (.one 9 (.one 11 (.one 1 (.one 3 (.one 4 (.one 5 (.one 7 (.one 10 (.one 12 (.one 13 (.one 14 (.one 15 (.one 16 (.one 17 (.one 18 .nil))))))))))))))))))) (by kernel_rfl) ?_ | refine AReq.mk (by omega) ?_ | refine AIdx.flat (enc := unC) unC_len (xs := s.units) (i := k) hkl ?_ | refine ACall.val (args := [stA s, nV s.units[k].order]) (by kernel_rfl) hf (by (first | rfl | (simp only [renL, AV.ren, List.nil_append, List.cons_append, rens]; try rfl))) (by (first | rfl | (simp only [renL, AV.ren, List.nil_append, List.cons_append, rens]; try rfl))) ?_); conv => whnf))
        exact ⟨rfl, rfl, rfl⟩
      conv => whnf
      repeat (first | refine go ?_ | ((first | refine AW.plan (id := 16) hm (.one 0 (.one 2 (.one 1 (.one 3 (.one 4 (.one 5 (.one 6 (.one 7 (.one 8 (.one 10 (.one 12 (.one 19 (.one 20 (.one 21 (.one 22 (.one 11 (.one 13 (.one 14 (.one 9 (.one 15 (.one 16 (.one 17 (.one 18 (.one 23 (.one 24 (.one 25 .nil)))))))))))))))))))))))))) (by kernel_rfl) ?_ | refine AW.plan (id := 30) hm (.one 0 (.one 2 (.one 6 (.one 8 (.one 9 (.one 11 (.one 1 (.one 3 (.one 4 (.one 5 (.one 7 (.one 10 (.one 12 (.one 13 (.one 14 (.one 15 (.one 16 (.one 17 (.one 18 .nil))))))))))))))))))) (by kernel_rfl) ?_ | refine AReq.mk (by omega) ?_ | refine AIdx.flat (enc := unC) unC_len (xs := s.units) (i := k) hkl ?_ | refine ACall.val (args := [stA s, nV s.units[k].order]) (by kernel_rfl) hf (by (first | rfl | (simp only [renL, AV.ren, List.nil_append, List.cons_append, rens]; try rfl))) (by (first | rfl | (simp only [renL, AV.ren, List.nil_append, List.cons_append, rens]; try rfl))) ?_); conv => whnf))
      simp only [Option.getD_some, Option.isSome_some]
      refine AW.conv _ _ (Conv.freeze 1 rfl) ?_
      refine AW.plan hm (.one 0 (.one 1 (.one 2 (.one 3 (.one 5 (.one 4 (.one 6 (.one 7 (.one 8 (.one 9 (.one 10 (.one 11 (.one 12 (.one 14 (.one 18 (.imm 13 (.one 15 (.one 16 (.imm 17 (.imm 19 (.one 20 (.one 21 (.one 22 .nil))))))))))))))))))))))) (by kernel_rfl) ?_
      conv => whnf
      repeat (first | refine ru ?_ | ((first | refine AW.plan (id := 16) hm (.one 0 (.one 2 (.one 1 (.one 3 (.one 4 (.one 5 (.one 6 (.one 7 (.one 8 (.one 10 (.one 12 (.one 19 (.one 20 (.one 21 (.one 22 (.one 11 (.one 13 (.one 14 (.one 9 (.one 15 (.one 16 (.one 17 (.one 18 (.one 23 (.one 24 (.one 25 .nil)))))))))))))))))))))))))) (by kernel_rfl) ?_ | refine AW.plan (id := 30) hm (.one 0 (.one 2 (.one 6 (.one 8 (.one 9 (.one 11 (.one 1 (.one 3 (.one 4 (.one 5 (.one 7 (.one 10 (.one 12 (.one 13 (.one 14 (.one 15 (.one 16 (.one 17 (.one 18 .nil))))))))))))))))))) (by kernel_rfl) ?_ | refine AReq.mk (by omega) ?_ | refine AIdx.flat (enc := unC) unC_len (xs := s.units) (i := k) hkl ?_ | refine ACall.val (args := [stA s, nV s.units[k].order]) (by kernel_rfl) hf (by (first | rfl | (simp only [renL, AV.ren, List.nil_append, List.cons_append, rens]; try rfl))) (by (first | rfl | (simp only [renL, AV.ren, List.nil_append, List.cons_append, rens]; try rfl))) ?_ | refine AF.immG hT rfl rfl rfl rfl ?_); conv => whnf))
      refine ASplit.no (decide_eq_false (by omega)) ?_
      conv => whnf
      repeat (first | refine ru ?_ | ((first | refine AW.plan (id := 16) hm (.one 0 (.one 2 (.one 1 (.one 3 (.one 4 (.one 5 (.one 6 (.one 7 (.one 8 (.one 10 (.one 12 (.one 19 (.one 20 (.one 21 (.one 22 (.one 11 (.one 13 (.one 14 (.one 9 (.one 15 (.one 16 (.one 17 (.one 18 (.one 23 (.one 24 (.one 25 .nil)))))))))))))))))))))))))) (by kernel_rfl) ?_ | refine AW.plan (id := 30) hm (.one 0 (.one 2 (.one 6 (.one 8 (.one 9 (.one 11 (.one 1 (.one 3 (.one 4 (.one 5 (.one 7 (.one 10 (.one 12 (.one 13 (.one 14 (.one 15 (.one 16 (.one 17 (.one 18 .nil))))))))))))))))))) (by kernel_rfl) ?_ | refine AReq.mk (by omega) ?_ | refine AIdx.flat (enc := unC) unC_len (xs := s.units) (i := k) hkl ?_ | refine ACall.val (args := [stA s, nV s.units[k].order]) (by kernel_rfl) hf (by (first | rfl | (simp only [renL, AV.ren, List.nil_append, List.cons_append, rens]; try rfl))) (by (first | rfl | (simp only [renL, AV.ren, List.nil_append, List.cons_append, rens]; try rfl))) ?_ | refine AF.immG hT rfl rfl rfl rfl ?_); conv => whnf))
      refine ACond.no (decide_eq_false (by omega)) ?_
      conv => whnf
      repeat (first | refine ru ?_ | ((first | refine AW.plan (id := 16) hm (.one 0 (.one 2 (.one 1 (.one 3 (.one 4 (.one 5 (.one 6 (.one 7 (.one 8 (.one 10 (.one 12 (.one 19 (.one 20 (.one 21 (.one 22 (.one 11 (.one 13 (.one 14 (.one 9 (.one 15 (.one 16 (.one 17 (.one 18 (.one 23 (.one 24 (.one 25 .nil)))))))))))))))))))))))))) (by kernel_rfl) ?_ | refine AW.plan (id := 30) hm (.one 0 (.one 2 (.one 6 (.one 8 (.one 9 (.one 11 (.one 1 (.one 3 (.one 4 (.one 5 (.one 7 (.one 10 (.one 12 (.one 13 (.one 14 (.one 15 (.one 16 (.one 17 (.one 18 .nil))))))))))))))))))) (by kernel_rfl) ?_ | refine AReq.mk (by omega) ?_ | refine AIdx.flat (enc := unC) unC_len (xs := s.units) (i := k) hkl ?_ | refine ACall.val (args := [stA s, nV s.units[k].order]) (by kernel_rfl) hf (by (first | rfl | (simp only [renL, AV.ren, List.nil_append, List.cons_append, rens]; try rfl))) (by (first | rfl | (simp only [renL, AV.ren, List.nil_append, List.cons_append, rens]; try rfl))) ?_ | refine AF.immG hT rfl rfl rfl rfl ?_); conv => whnf))
      refine ASplit.dec (fun h4 => ?_) (fun h4 => ?_)
      · conv => whnf
        repeat (first | refine ru ?_ | ((first | refine AW.plan (id := 16) hm (.one 0 (.one 2 (.one 1 (.one 3 (.one 4 (.one 5 (.one 6 (.one 7 (.one 8 (.one 10 (.one 12 (.one 19 (.one 20 (.one 21 (.one 22 (.one 11 (.one 13 (.one 14 (.one 9 (.one 15 (.one 16 (.one 17 (.one 18 (.one 23 (.one 24 (.one 25 .nil)))))))))))))))))))))))))) (by kernel_rfl) ?_ | refine AW.plan (id := 30) hm (.one 0 (.one 2 (.one 6 (.one 8 (.one 9 (.one 11 (.one 1 (.one 3 (.one 4 (.one 5 (.one 7 (.one 10 (.one 12 (.one 13 (.one 14 (.one 15 (.one 16 (.one 17 (.one 18 .nil))))))))))))))))))) (by kernel_rfl) ?_ | refine AReq.mk (by omega) ?_ | refine AIdx.flat (enc := unC) unC_len (xs := s.units) (i := k) hkl ?_ | refine ACall.val (args := [stA s, nV s.units[k].order]) (by kernel_rfl) hf (by (first | rfl | (simp only [renL, AV.ren, List.nil_append, List.cons_append, rens]; try rfl))) (by (first | rfl | (simp only [renL, AV.ren, List.nil_append, List.cons_append, rens]; try rfl))) ?_ | refine AF.immG hT rfl rfl rfl rfl ?_); conv => whnf))
        refine AIdx.flat (enc := UR.hdC) UR.hdC_len (xs := d) (i := i) hil ?_
        conv => whnf
        repeat (first | refine ru ?_ | ((first | refine AW.plan (id := 16) hm (.one 0 (.one 2 (.one 1 (.one 3 (.one 4 (.one 5 (.one 6 (.one 7 (.one 8 (.one 10 (.one 12 (.one 19 (.one 20 (.one 21 (.one 22 (.one 11 (.one 13 (.one 14 (.one 9 (.one 15 (.one 16 (.one 17 (.one 18 (.one 23 (.one 24 (.one 25 .nil)))))))))))))))))))))))))) (by kernel_rfl) ?_ | refine AW.plan (id := 30) hm (.one 0 (.one 2 (.one 6 (.one 8 (.one 9 (.one 11 (.one 1 (.one 3 (.one 4 (.one 5 (.one 7 (.one 10 (.one 12 (.one 13 (.one 14 (.one 15 (.one 16 (.one 17 (.one 18 .nil))))))))))))))))))) (by kernel_rfl) ?_ | refine AReq.mk (by omega) ?_ | refine AIdx.flat (enc := unC) unC_len (xs := s.units) (i := k) hkl ?_ | refine ACall.val (args := [stA s, nV s.units[k].order]) (by kernel_rfl) hf (by (first | rfl | (simp only [renL, AV.ren, List.nil_append, List.cons_append, rens]; try rfl))) (by (first | rfl | (simp only [renL, AV.ren, List.nil_append, List.cons_append, rens]; try rfl))) ?_ | refine AF.immG hT rfl rfl rfl rfl ?_); conv => whnf))
        refine AIdx.at lnC_len q (by omega) hql ?_
        conv => whnf
        repeat (first | refine ru ?_ | ((first | refine AW.plan (id := 16) hm (.one 0 (.one 2 (.one 1 (.one 3 (.one 4 (.one 5 (.one 6 (.one 7 (.one 8 (.one 10 (.one 12 (.one 19 (.one 20 (.one 21 (.one 22 (.one 11 (.one 13 (.one 14 (.one 9 (.one 15 (.one 16 (.one 17 (.one 18 (.one 23 (.one 24 (.one 25 .nil)))))))))))))))))))))))))) (by kernel_rfl) ?_ | refine AW.plan (id := 30) hm (.one 0 (.one 2 (.one 6 (.one 8 (.one 9 (.one 11 (.one 1 (.one 3 (.one 4 (.one 5 (.one 7 (.one 10 (.one 12 (.one 13 (.one 14 (.one 15 (.one 16 (.one 17 (.one 18 .nil))))))))))))))))))) (by kernel_rfl) ?_ | refine AReq.mk (by omega) ?_ | refine AIdx.flat (enc := unC) unC_len (xs := s.units) (i := k) hkl ?_ | refine ACall.val (args := [stA s, nV s.units[k].order]) (by kernel_rfl) hf (by (first | rfl | (simp only [renL, AV.ren, List.nil_append, List.cons_append, rens]; try rfl))) (by (first | rfl | (simp only [renL, AV.ren, List.nil_append, List.cons_append, rens]; try rfl))) ?_ | refine AF.immG hT rfl rfl rfl rfl ?_); conv => whnf))
        refine ACond.dec (fun h5 => ?_) (fun h5 => ?_)
        · conv => whnf
          repeat (first | refine ru ?_ | ((first | refine AW.plan (id := 16) hm (.one 0 (.one 2 (.one 1 (.one 3 (.one 4 (.one 5 (.one 6 (.one 7 (.one 8 (.one 10 (.one 12 (.one 19 (.one 20 (.one 21 (.one 22 (.one 11 (.one 13 (.one 14 (.one 9 (.one 15 (.one 16 (.one 17 (.one 18 (.one 23 (.one 24 (.one 25 .nil)))))))))))))))))))))))))) (by kernel_rfl) ?_ | refine AW.plan (id := 30) hm (.one 0 (.one 2 (.one 6 (.one 8 (.one 9 (.one 11 (.one 1 (.one 3 (.one 4 (.one 5 (.one 7 (.one 10 (.one 12 (.one 13 (.one 14 (.one 15 (.one 16 (.one 17 (.one 18 .nil))))))))))))))))))) (by kernel_rfl) ?_ | refine AReq.mk (by omega) ?_ | refine AIdx.flat (enc := unC) unC_len (xs := s.units) (i := k) hkl ?_ | refine ACall.val (args := [stA s, nV s.units[k].order]) (by kernel_rfl) hf (by (first | rfl | (simp only [renL, AV.ren, List.nil_append, List.cons_append, rens]; try rfl))) (by (first | rfl | (simp only [renL, AV.ren, List.nil_append, List.cons_append, rens]; try rfl))) ?_ | refine AF.immG hT rfl rfl rfl rfl ?_); conv => whnf))
          rw [w2, w3]
          refine AHead.mk (s.units.length - (k + 1)) _ _ (by omega) ⟨k + 1, rfl, by omega, rfl, rfl⟩ ?_
          rw [hcnt, if_pos ⟨h4, by rw [e3]; exact h5⟩]
          exact Conv.ren [0] _ (by simp) (by simp) (by simp only [pad, renL, AV.ren, stC_ren, UR.ren_hds]; repeat' (first | exact Fit.nil | refine Fit.any ?_ | refine Fit.same ?_)) (.same (by simp only [ABlk.ren, stC_ren]; rfl) .nil)
        · conv => whnf
          repeat (first | refine ru ?_ | ((first | refine AW.plan (id := 16) hm (.one 0 (.one 2 (.one 1 (.one 3 (.one 4 (.one 5 (.one 6 (.one 7 (.one 8 (.one 10 (.one 12 (.one 19 (.one 20 (.one 21 (.one 22 (.one 11 (.one 13 (.one 14 (.one 9 (.one 15 (.one 16 (.one 17 (.one 18 (.one 23 (.one 24 (.one 25 .nil)))))))))))))))))))))))))) (by kernel_rfl) ?_ | refine AW.plan (id := 30) hm (.one 0 (.one 2 (.one 6 (.one 8 (.one 9 (.one 11 (.one 1 (.one 3 (.one 4 (.one 5 (.one 7 (.one 10 (.one 12 (.one 13 (.one 14 (.one 15 (.one 16 (.one 17 (.one 18 .nil))))))))))))))))))) (by kernel_rfl) ?_ | refine AReq.mk (by omega) ?_ | refine AIdx.flat (enc := unC) unC_len (xs := s.units) (i := k) hkl ?_ | refine ACall.val (args := [stA s, nV s.units[k].order]) (by kernel_rfl) hf (by (first | rfl | (simp only [renL, AV.ren, List.nil_append, List.cons_append, rens]; try rfl))) (by (first | rfl | (simp only [renL, AV.ren, List.nil_append, List.cons_append, rens]; try rfl))) ?_ | refine AF.immG hT rfl rfl rfl rfl ?_); conv => whnf))
          rw [w2]
          refine AHead.mk (s.units.length - (k + 1)) _ _ (by omega) ⟨k + 1, rfl, by omega, rfl, rfl⟩ ?_
          rw [hcnt, if_neg (fun h => h5 (by rw [← e3]; exact h.2)), Int.add_zero]
          exact Conv.ren [0] _ (by simp) (by simp) (by simp only [pad, renL, AV.ren, stC_ren, UR.ren_hds]; repeat' (first | exact Fit.nil | refine Fit.any ?_ | refine Fit.same ?_)) (.same (by simp only [ABlk.ren, stC_ren]; rfl) .nil)
      · conv => whnf
        repeat (first | refine ru ?_ | ((first | refine AW.plan (id := 16) hm (.one 0 (.one 2 (.one 1 (.one 3 (.one 4 (.one 5 (.one 6 (.one 7 (.one 8 (.one 10 (.one 12 (.one 19 (.one 20 (.one 21 (.one 22 (.one 11 (.one 13 (.one 14 (.one 9 (.one 15 (.one 16 (.one 17 (.one 18 (.one 23 (.one 24 (.one 25 .nil)))))))))))))))))))))))))) (by kernel_rfl) ?_ | refine AW.plan (id := 30) hm (.one 0 (.one 2 (.one 6 (.one 8 (.one 9 (.one 11 (.one 1 (.one 3 (.one 4 (.one 5 (.one 7 (.one 10 (.one 12 (.one 13 (.one 14 (.one 15 (.one 16 (.one 17 (.one 18 .nil))))))))))))))))))) (by kernel_rfl) ?_ | refine AReq.mk (by omega) ?_ | refine AIdx.flat (enc := unC) unC_len (xs := s.units) (i := k) hkl ?_ | refine ACall.val (args := [stA s, nV s.units[k].order]) (by kernel_rfl) hf (by (first | rfl | (simp only [renL, AV.ren, List.nil_append, List.cons_append, rens]; try rfl))) (by (first | rfl | (simp only [renL, AV.ren, List.nil_append, List.cons_append, rens]; try rfl))) ?_ | refine AF.immG hT rfl rfl rfl rfl ?_); conv => whnf))
        rw [w2]
        refine AHead.mk (s.units.length - (k + 1)) _ _ (by omega) ⟨k + 1, rfl, by omega, rfl, rfl⟩ ?_
        rw [hcnt, if_neg (fun h => h4 h.1), Int.add_zero]
        exact Conv.ren [0] _ (by simp) (by simp) (by simp only [pad, renL, AV.ren, stC_ren, UR.ren_hds]; repeat' (first | exact Fit.nil | refine Fit.any ?_ | refine Fit.same ?_)) (.same (by simp only [ABlk.ren, stC_ren]; rfl) .nil)
    · have hkk : k = s.units.length := by omega
      conv => whnf
      repeat (first | refine ru ?_ | ((first | refine AW.plan (id := 16) hm (.one 0 (.one 2 (.one 1 (.one 3 (.one 4 (.one 5 (.one 6 (.one 7 (.one 8 (.one 10 (.one 12 (.one 19 (.one 20 (.one 21 (.one 22 (.one 11 (.one 13 (.one 14 (.one 9 (.one 15 (.one 16 (.one 17 (.one 18 (.one 23 (.one 24 (.one 25 .nil)))))))))))))))))))))))))) (by kernel_rfl) ?_ | refine AW.plan (id := 30) hm (.one 0 (.one 2 (.one 6 (.one 8 (.one 9 (.one 11 (.one 1 (.one 3 (.one 4 (.one 5 (.one 7 (.one 10 (.one 12 (.one 13 (.one 14 (.one 15 (.one 16 (.one 17 (.one 18 .nil))))))))))))))))))) (by kernel_rfl) ?_ | refine AReq.mk (by omega) ?_ | refine AIdx.flat (enc := UR.hdC) UR.hdC_len (xs := d) (i := i) hil ?_); conv => whnf))
      refine AOut.stay ?_
      conv => whnf
      repeat (first | refine ru ?_ | ((first | refine AW.plan (id := 16) hm (.one 0 (.one 2 (.one 1 (.one 3 (.one 4 (.one 5 (.one 6 (.one 7 (.one 8 (.one 10 (.one 12 (.one 19 (.one 20 (.one 21 (.one 22 (.one 11 (.one 13 (.one 14 (.one 9 (.one 15 (.one 16 (.one 17 (.one 18 (.one 23 (.one 24 (.one 25 .nil)))))))))))))))))))))))))) (by kernel_rfl) ?_ | refine AW.plan (id := 30) hm (.one 0 (.one 2 (.one 6 (.one 8 (.one 9 (.one 11 (.one 1 (.one 3 (.one 4 (.one 5 (.one 7 (.one 10 (.one 12 (.one 13 (.one 14 (.one 15 (.one 16 (.one 17 (.one 18 .nil))))))))))))))))))) (by kernel_rfl) ?_ | refine AReq.mk (by omega) ?_ | refine AIdx.flat (enc := UR.hdC) UR.hdC_len (xs := d) (i := i) hil ?_); conv => whnf))
      refine ASplit.no (decide_eq_false (by omega)) ?_
      conv => whnf
      repeat (first | refine ru ?_ | ((first | refine AW.plan (id := 16) hm (.one 0 (.one 2 (.one 1 (.one 3 (.one 4 (.one 5 (.one 6 (.one 7 (.one 8 (.one 10 (.one 12 (.one 19 (.one 20 (.one 21 (.one 22 (.one 11 (.one 13 (.one 14 (.one 9 (.one 15 (.one 16 (.one 17 (.one 18 (.one 23 (.one 24 (.one 25 .nil)))))))))))))))))))))))))) (by kernel_rfl) ?_ | refine AW.plan (id := 30) hm (.one 0 (.one 2 (.one 6 (.one 8 (.one 9 (.one 11 (.one 1 (.one 3 (.one 4 (.one 5 (.one 7 (.one 10 (.one 12 (.one 13 (.one 14 (.one 15 (.one 16 (.one 17 (.one 18 .nil))))))))))))))))))) (by kernel_rfl) ?_ | refine AReq.mk (by omega) ?_ | refine AIdx.flat (enc := UR.hdC) UR.hdC_len (xs := d) (i := i) hil ?_); conv => whnf))
      rcases Bool.eq_false_or_eq_true d[i].1 with hp | hp
      · refine ASplit.no (by rw [hp]; rfl) ?_
        conv => whnf
        repeat (first | refine ru ?_ | ((first | refine AW.plan (id := 16) hm (.one 0 (.one 2 (.one 1 (.one 3 (.one 4 (.one 5 (.one 6 (.one 7 (.one 8 (.one 10 (.one 12 (.one 19 (.one 20 (.one 21 (.one 22 (.one 11 (.one 13 (.one 14 (.one 9 (.one 15 (.one 16 (.one 17 (.one 18 (.one 23 (.one 24 (.one 25 .nil)))))))))))))))))))))))))) (by kernel_rfl) ?_ | refine AW.plan (id := 30) hm (.one 0 (.one 2 (.one 6 (.one 8 (.one 9 (.one 11 (.one 1 (.one 3 (.one 4 (.one 5 (.one 7 (.one 10 (.one 12 (.one 13 (.one 14 (.one 15 (.one 16 (.one 17 (.one 18 .nil))))))))))))))))))) (by kernel_rfl) ?_ | refine AReq.mk (by omega) ?_ | refine AIdx.flat (enc := UR.hdC) UR.hdC_len (xs := d) (i := i) hil ?_); conv => whnf))
        rw [w1]
        exact AHead.mk (d.length - (i + 1)) _ _ (by omega) ⟨i + 1, rfl, by omega, rfl, rfl⟩ (Conv.fit (by repeat' (first | exact Fit.nil | refine Fit.any ?_ | refine Fit.same ?_)))
      · refine ASplit.yes (by rw [hp]; rfl) ?_
        conv => whnf
        repeat (first | refine ru ?_ | ((first | refine AW.plan (id := 16) hm (.one 0 (.one 2 (.one 1 (.one 3 (.one 4 (.one 5 (.one 6 (.one 7 (.one 8 (.one 10 (.one 12 (.one 19 (.one 20 (.one 21 (.one 22 (.one 11 (.one 13 (.one 14 (.one 9 (.one 15 (.one 16 (.one 17 (.one 18 (.one 23 (.one 24 (.one 25 .nil)))))))))))))))))))))))))) (by kernel_rfl) ?_ | refine AW.plan (id := 30) hm (.one 0 (.one 2 (.one 6 (.one 8 (.one 9 (.one 11 (.one 1 (.one 3 (.one 4 (.one 5 (.one 7 (.one 10 (.one 12 (.one 13 (.one 14 (.one 15 (.one 16 (.one 17 (.one 18 .nil))))))))))))))))))) (by kernel_rfl) ?_ | refine AReq.mk (by omega) ?_ | refine AIdx.flat (enc := UR.hdC) UR.hdC_len (xs := d) (i := i) hil ?_); conv => whnf))
        refine ACond.no ?_ ?_
        · rw [hkk, List.take_length, ← hx.2 hp]; simp
        conv => whnf
        repeat (first | refine ru ?_ | ((first | refine AW.plan (id := 16) hm (.one 0 (.one 2 (.one 1 (.one 3 (.one 4 (.one 5 (.one 6 (.one 7 (.one 8 (.one 10 (.one 12 (.one 19 (.one 20 (.one 21 (.one 22 (.one 11 (.one 13 (.one 14 (.one 9 (.one 15 (.one 16 (.one 17 (.one 18 (.one 23 (.one 24 (.one 25 .nil)))))))))))))))))))))))))) (by kernel_rfl) ?_ | refine AW.plan (id := 30) hm (.one 0 (.one 2 (.one 6 (.one 8 (.one 9 (.one 11 (.one 1 (.one 3 (.one 4 (.one 5 (.one 7 (.one 10 (.one 12 (.one 13 (.one 14 (.one 15 (.one 16 (.one 17 (.one 18 .nil))))))))))))))))))) (by kernel_rfl) ?_ | refine AReq.mk (by omega) ?_ | refine AIdx.flat (enc := UR.hdC) UR.hdC_len (xs := d) (i := i) hil ?_); conv => whnf))
        rw [w1]
        exact AHead.mk (d.length - (i + 1)) _ _ (by omega) ⟨i + 1, rfl, by omega, rfl, rfl⟩ (Conv.fit (by repeat' (first | exact Fit.nil | refine Fit.any ?_ | refine Fit.same ?_)))
  conv => whnf
  repeat (first | refine ru ?_ | ((first | refine AW.plan (id := 16) hm (.one 0 (.one 2 (.one 1 (.one 3 (.one 4 (.one 5 (.one 6 (.one 7 (.one 8 (.one 10 (.one 12 (.one 19 (.one 20 (.one 21 (.one 22 (.one 11 (.one 13 (.one 14 (.one 9 (.one 15 (.one 16 (.one 17 (.one 18 (.one 23 (.one 24 (.one 25 .nil)))))))))))))))))))))))))) (by kernel_rfl) ?_ | refine AW.plan (id := 30) hm (.one 0 (.one 2 (.one 6 (.one 8 (.one 9 (.one 11 (.one 1 (.one 3 (.one 4 (.one 5 (.one 7 (.one 10 (.one 12 (.one 13 (.one 14 (.one 15 (.one 16 (.one 17 (.one 18 .nil))))))))))))))))))) (by kernel_rfl) ?_); conv => whnf))
  refine AOut.stay ?_
  conv => whnf
  repeat (first | refine ru ?_ | ((first | refine AW.plan (id := 16) hm (.one 0 (.one 2 (.one 1 (.one 3 (.one 4 (.one 5 (.one 6 (.one 7 (.one 8 (.one 10 (.one 12 (.one 19 (.one 20 (.one 21 (.one 22 (.one 11 (.one 13 (.one 14 (.one 9 (.one 15 (.one 16 (.one 17 (.one 18 (.one 23 (.one 24 (.one 25 .nil)))))))))))))))))))))))))) (by kernel_rfl) ?_ | refine AW.plan (id := 30) hm (.one 0 (.one 2 (.one 6 (.one 8 (.one 9 (.one 11 (.one 1 (.one 3 (.one 4 (.one 5 (.one 7 (.one 10 (.one 12 (.one 13 (.one 14 (.one 15 (.one 16 (.one 17 (.one 18 .nil))))))))))))))))))) (by kernel_rfl) ?_); conv => whnf))
  refine ALoop.mk (fun n E H => ∃ (i : Nat), n = s.memos.length - i ∧ i ≤ s.memos.length ∧
      E = pad [stA s, .ptr 0 0, bV false, UR.hds d, .any, .any, .any, .any, .any, .any, nV i] 240 ∧ H = [.ice 36 (stC s)]) (n := s.memos.length) _ _
    ⟨0, rfl, Nat.zero_le _, rfl, rfl⟩ (Conv.fit (by repeat' (first | exact Fit.nil | refine Fit.any ?_ | refine Fit.same ?_))) ?_
  rintro _ _ _ ⟨i, rfl, hi, rfl, rfl⟩
  conv => whnf
  repeat (first | refine go ?_ | ((first | refine AW.plan (id := 16) hm (.one 0 (.one 2 (.one 1 (.one 3 (.one 4 (.one 5 (.one 6 (.one 7 (.one 8 (.one 10 (.one 12 (.one 19 (.one 20 (.one 21 (.one 22 (.one 11 (.one 13 (.one 14 (.one 9 (.one 15 (.one 16 (.one 17 (.one 18 (.one 23 (.one 24 (.one 25 .nil)))))))))))))))))))))))))) (by kernel_rfl) ?_ | refine AW.plan (id := 30) hm (.one 0 (.one 2 (.one 6 (.one 8 (.one 9 (.one 11 (.one 1 (.one 3 (.one 4 (.one 5 (.one 7 (.one 10 (.one 12 (.one 13 (.one 14 (.one 15 (.one 16 (.one 17 (.one 18 .nil))))))))))))))))))) (by kernel_rfl) ?_); conv => whnf))
  refine ACond.dec (fun h2 => ?_) (fun h2 => ?_)
  · have hil : i < s.memos.length := by omega
    have w1 : IntKind.wrap .i64 ((i : Int) + 1) = ((i + 1 : Nat) : Int) := by rw [wrap_i64 _ (by omega) (by omega)]; omega
    have hmok := hC.memos _ (List.getElem_mem hil)
    have hmss := (hs.memos.2 _ (List.getElem_mem hil)).1.1
    have hlen := hmok.len
    conv => whnf
    repeat (first | refine go ?_ | ((first | refine AW.plan (id := 16) hm (.one 0 (.one 2 (.one 1 (.one 3 (.one 4 (.one 5 (.one 6 (.one 7 (.one 8 (.one 10 (.one 12 (.one 19 (.one 20 (.one 21 (.one 22 (.one 11 (.one 13 (.one 14 (.one 9 (.one 15 (.one 16 (.one 17 (.one 18 (.one 23 (.one 24 (.one 25 .nil)))))))))))))))))))))))))) (by kernel_rfl) ?_ | refine AW.plan (id := 30) hm (.one 0 (.one 2 (.one 6 (.one 8 (.one 9 (.one 11 (.one 1 (.one 3 (.one 4 (.one 5 (.one 7 (.one 10 (.one 12 (.one 13 (.one 14 (.one 15 (.one 16 (.one 17 (.one 18 .nil))))))))))))))))))) (by kernel_rfl) ?_); conv => whnf))
    refine ALoop.mk (fun n E H => ∃ (k : Nat), n = s.memos[i].ss.length - k ∧ k ≤ s.memos[i].ss.length ∧
        E = pad [stA s, .ptr 0 0, bV false, UR.hds d, .any, .any, .any, .any, .any, .any, nV i, nV k] 240 ∧ H = [.ice 36 (stC s)]) (n := s.memos[i].ss.length) _ _
      ⟨0, rfl, Nat.zero_le _, rfl, rfl⟩ (Conv.fit (by repeat' (first | exact Fit.nil | refine Fit.any ?_ | refine Fit.same ?_))) ?_
    rintro _ _ _ ⟨k, rfl, hk, rfl, rfl⟩
    conv => whnf
    repeat (first | refine go ?_ | ((first | refine AW.plan (id := 16) hm (.one 0 (.one 2 (.one 1 (.one 3 (.one 4 (.one 5 (.one 6 (.one 7 (.one 8 (.one 10 (.one 12 (.one 19 (.one 20 (.one 21 (.one 22 (.one 11 (.one 13 (.one 14 (.one 9 (.one 15 (.one 16 (.one 17 (.one 18 (.one 23 (.one 24 (.one 25 .nil)))))))))))))))))))))))))) (by kernel_rfl) ?_ | refine AW.plan (id := 30) hm (.one 0 (.one 2 (.one 6 (.one 8 (.one 9 (.one 11 (.one 1 (.one 3 (.one 4 (.one 5 (.one 7 (.one 10 (.one 12 (.one 13 (.one 14 (.one 15 (.one 16 (.one 17 (.one 18 .nil))))))))))))))))))) (by kernel_rfl) ?_ | refine AReq.mk (by omega) ?_ | refine AIdx.flat (enc := moC) moC_len (xs := s.memos) (i := i) hil ?_); conv => whnf))
    refine ACond.dec (fun h3 => ?_) (fun h3 => ?_)
    · have hkl : k < s.memos[i].ss.length := by omega
      have hkl2 : k < s.memos[i].am.length := by omega
      have w2 : IntKind.wrap .i64 ((k : Int) + 1) = ((k + 1 : Nat) : Int) := by rw [wrap_i64 _ (by omega) (by omega)]; omega
      obtain ⟨u, hum, hfu, huo, o, q, j, hat, l, hl, hval⟩ := hmok.one k hkl hkl2
      have hf10 := f10' s s.memos[i].ss[k] hs
      rw [hfu] at hf10
      have hf9 := f9 s u.order hs.orders.1
      rw [hat.find] at hf9
      simp only [Option.getD_some, Option.isSome_some] at hf10 hf9
      have hoo := hs.orders.2 _ hat.mem
      have hoc := hord _ hat.mem
      have hf11 := f11 o hoo
      rw [hoc] at hf11
      have hql := hat.klt
      have hline := hat.line
      obtain rfl : l = o.ls[q] := by rw [List.getElem?_eq_getElem hql] at hl; cases hl; rfl
      have hf12 := f12 o.ls[q] u.place s.rules.fees u.grade (hoo.2 _ (List.getElem_mem hql))
      rw [hval] at hf12
      conv => whnf
      repeat (first | refine go ?_ | ((first | refine AW.plan (id := 16) hm (.one 0 (.one 2 (.one 1 (.one 3 (.one 4 (.one 5 (.one 6 (.one 7 (.one 8 (.one 10 (.one 12 (.one 19 (.one 20 (.one 21 (.one 22 (.one 11 (.one 13 (.one 14 (.one 9 (.one 15 (.one 16 (.one 17 (.one 18 (.one 23 (.one 24 (.one 25 .nil)))))))))))))))))))))))))) (by kernel_rfl) ?_ | refine AW.plan (id := 30) hm (.one 0 (.one 2 (.one 6 (.one 8 (.one 9 (.one 11 (.one 1 (.one 3 (.one 4 (.one 5 (.one 7 (.one 10 (.one 12 (.one 13 (.one 14 (.one 15 (.one 16 (.one 17 (.one 18 .nil))))))))))))))))))) (by kernel_rfl) ?_); conv => whnf))
      refine AW.plan hm (.one 1 (.one 3 (.one 7 (.one 2 (.one 4 (.one 5 (.one 6 (.one 8 (.one 0 (.one 9 (.fork 10 (.one 11 (.one 12 (.one 13 (.one 14 .nil)))) 14 (.one 10 (.one 11 (.one 12 (.one 13 .nil)))) (.one 15 (.one 16 .nil))))))))))))) (by kernel_rfl) ?_
      conv => whnf
      repeat (first | refine go ?_ | ((first | refine AW.plan (id := 16) hm (.one 0 (.one 2 (.one 1 (.one 3 (.one 4 (.one 5 (.one 6 (.one 7 (.one 8 (.one 10 (.one 12 (.one 19 (.one 20 (.one 21 (.one 22 (.one 11 (.one 13 (.one 14 (.one 9 (.one 15 (.one 16 (.one 17 (.one 18 (.one 23 (.one 24 (.one 25 .nil)))))))))))))))))))))))))) (by kernel_rfl) ?_ | refine AW.plan (id := 30) hm (.one 0 (.one 2 (.one 6 (.one 8 (.one 9 (.one 11 (.one 1 (.one 3 (.one 4 (.one 5 (.one 7 (.one 10 (.one 12 (.one 13 (.one 14 (.one 15 (.one 16 (.one 17 (.one 18 .nil))))))))))))))))))) (by kernel_rfl) ?_ | refine AReq.mk (by omega) ?_ | refine AIdx.flat (enc := moC) moC_len (xs := s.memos) (i := i) hil ?_ | refine AIdx.flat (enc := sC) sC_len (xs := s.memos[i].ss) (i := k) hkl ?_ | refine ACall.val (args := [stA s, sV s.memos[i].ss[k]]) (by kernel_rfl) hf10 (by (first | rfl | (simp only [renL, AV.ren, List.nil_append, List.cons_append, rens]; try rfl))) (by (first | rfl | (simp only [renL, AV.ren, List.nil_append, List.cons_append, rens]; try rfl))) ?_); conv => whnf))
      apply AF.meet
      · conv => whnf
        repeat (first | refine go ?_ | ((first | refine AW.plan (id := 16) hm (.one 0 (.one 2 (.one 1 (.one 3 (.one 4 (.one 5 (.one 6 (.one 7 (.one 8 (.one 10 (.one 12 (.one 19 (.one 20 (.one 21 (.one 22 (.one 11 (.one 13 (.one 14 (.one 9 (.one 15 (.one 16 (.one 17 (.one 18 (.one 23 (.one 24 (.one 25 .nil)))))))))))))))))))))))))) (by kernel_rfl) ?_ | refine AW.plan (id := 30) hm (.one 0 (.one 2 (.one 6 (.one 8 (.one 9 (.one 11 (.one 1 (.one 3 (.one 4 (.one 5 (.one 7 (.one 10 (.one 12 (.one 13 (.one 14 (.one 15 (.one 16 (.one 17 (.one 18 .nil))))))))))))))))))) (by kernel_rfl) ?_ | refine AReq.mk (by omega) ?_ | refine AIdx.flat (enc := moC) moC_len (xs := s.memos) (i := i) hil ?_ | refine AIdx.flat (enc := sC) sC_len (xs := s.memos[i].ss) (i := k) hkl ?_ | refine ACall.val (args := [stA s, sV s.memos[i].ss[k]]) (by kernel_rfl) hf10 (by (first | rfl | (simp only [renL, AV.ren, List.nil_append, List.cons_append, rens]; try rfl))) (by (first | rfl | (simp only [renL, AV.ren, List.nil_append, List.cons_append, rens]; try rfl))) ?_); conv => whnf))
        exact ⟨rfl, rfl, rfl⟩
      · conv => whnf
        repeat (first | refine go ?_ | ((first | refine AW.plan (id := 16) hm (.one 0 (.one 2 (.one 1 (.one 3 (.one 4 (.one 5 (.one 6 (.one 7 (.one 8 (.one 10 (.one 12 (.one 19 (.one 20 (.one 21 (.one 22 (.one 11 (.one 13 (.one 14 (.one 9 (.one 15 (.one 16 (.one 17 (.one 18 (.one 23 (.one 24 (.one 25 .nil)))))))))))))))))))))))))) (by kernel_rfl) ?_ | refine AW.plan (id := 30) hm (.one 0 (.one 2 (.one 6 (.one 8 (.one 9 (.one 11 (.one 1 (.one 3 (.one 4 (.one 5 (.one 7 (.one 10 (.one 12 (.one 13 (.one 14 (.one 15 (.one 16 (.one 17 (.one 18 .nil))))))))))))))))))) (by kernel_rfl) ?_ | refine AReq.mk (by omega) ?_ | refine AIdx.flat (enc := moC) moC_len (xs := s.memos) (i := i) hil ?_ | refine AIdx.flat (enc := sC) sC_len (xs := s.memos[i].ss) (i := k) hkl ?_ | refine ACall.val (args := [stA s, sV s.memos[i].ss[k]]) (by kernel_rfl) hf10 (by (first | rfl | (simp only [renL, AV.ren, List.nil_append, List.cons_append, rens]; try rfl))) (by (first | rfl | (simp only [renL, AV.ren, List.nil_append, List.cons_append, rens]; try rfl))) ?_); conv => whnf))
        exact ⟨rfl, rfl, rfl⟩
      conv => whnf
      repeat (first | refine ru ?_ | ((first | refine AW.plan (id := 16) hm (.one 0 (.one 2 (.one 1 (.one 3 (.one 4 (.one 5 (.one 6 (.one 7 (.one 8 (.one 10 (.one 12 (.one 19 (.one 20 (.one 21 (.one 22 (.one 11 (.one 13 (.one 14 (.one 9 (.one 15 (.one 16 (.one 17 (.one 18 (.one 23 (.one 24 (.one 25 .nil)))))))))))))))))))))))))) (by kernel_rfl) ?_ | refine AW.plan (id := 30) hm (.one 0 (.one 2 (.one 6 (.one 8 (.one 9 (.one 11 (.one 1 (.one 3 (.one 4 (.one 5 (.one 7 (.one 10 (.one 12 (.one 13 (.one 14 (.one 15 (.one 16 (.one 17 (.one 18 .nil))))))))))))))))))) (by kernel_rfl) ?_ | refine AReq.mk (by omega) ?_ | refine AIdx.flat (enc := moC) moC_len (xs := s.memos) (i := i) hil ?_ | refine AIdx.flat (enc := sC) sC_len (xs := s.memos[i].ss) (i := k) hkl ?_ | refine ACall.val (args := [stA s, sV s.memos[i].ss[k]]) (by kernel_rfl) hf10 (by (first | rfl | (simp only [renL, AV.ren, List.nil_append, List.cons_append, rens]; try rfl))) (by (first | rfl | (simp only [renL, AV.ren, List.nil_append, List.cons_append, rens]; try rfl))) ?_ | refine ACall.val (args := [stA s, nV u.order]) (by kernel_rfl) hf9 (by (first | rfl | (simp only [renL, AV.ren, List.nil_append, List.cons_append, rens]; try rfl))) (by (first | rfl | (simp only [renL, AV.ren, List.nil_append, List.cons_append, rens]; try rfl))) ?_ | refine ACall.val (args := [odA o]) (by kernel_rfl) hf11 (by (first | rfl | (simp only [renL, AV.ren, List.nil_append, List.cons_append, rens]; try rfl))) (by (first | rfl | (simp only [renL, AV.ren, List.nil_append, List.cons_append, rens]; try rfl))) ?_); conv => whnf))
      refine ASplit.no (decide_eq_false (by omega)) ?_
      conv => whnf
      repeat (first | refine ru ?_ | ((first | refine AW.plan (id := 16) hm (.one 0 (.one 2 (.one 1 (.one 3 (.one 4 (.one 5 (.one 6 (.one 7 (.one 8 (.one 10 (.one 12 (.one 19 (.one 20 (.one 21 (.one 22 (.one 11 (.one 13 (.one 14 (.one 9 (.one 15 (.one 16 (.one 17 (.one 18 (.one 23 (.one 24 (.one 25 .nil)))))))))))))))))))))))))) (by kernel_rfl) ?_ | refine AW.plan (id := 30) hm (.one 0 (.one 2 (.one 6 (.one 8 (.one 9 (.one 11 (.one 1 (.one 3 (.one 4 (.one 5 (.one 7 (.one 10 (.one 12 (.one 13 (.one 14 (.one 15 (.one 16 (.one 17 (.one 18 .nil))))))))))))))))))) (by kernel_rfl) ?_ | refine AReq.mk (by omega) ?_ | refine AIdx.flat (enc := moC) moC_len (xs := s.memos) (i := i) hil ?_ | refine AIdx.flat (enc := sC) sC_len (xs := s.memos[i].ss) (i := k) hkl ?_ | refine ACall.val (args := [stA s, sV s.memos[i].ss[k]]) (by kernel_rfl) hf10 (by (first | rfl | (simp only [renL, AV.ren, List.nil_append, List.cons_append, rens]; try rfl))) (by (first | rfl | (simp only [renL, AV.ren, List.nil_append, List.cons_append, rens]; try rfl))) ?_ | refine ACall.val (args := [stA s, nV u.order]) (by kernel_rfl) hf9 (by (first | rfl | (simp only [renL, AV.ren, List.nil_append, List.cons_append, rens]; try rfl))) (by (first | rfl | (simp only [renL, AV.ren, List.nil_append, List.cons_append, rens]; try rfl))) ?_ | refine ACall.val (args := [odA o]) (by kernel_rfl) hf11 (by (first | rfl | (simp only [renL, AV.ren, List.nil_append, List.cons_append, rens]; try rfl))) (by (first | rfl | (simp only [renL, AV.ren, List.nil_append, List.cons_append, rens]; try rfl))) ?_); conv => whnf))
      refine ASplit.no (decide_eq_false (by omega)) ?_
      conv => whnf
      repeat (first | refine ru ?_ | ((first | refine AW.plan (id := 16) hm (.one 0 (.one 2 (.one 1 (.one 3 (.one 4 (.one 5 (.one 6 (.one 7 (.one 8 (.one 10 (.one 12 (.one 19 (.one 20 (.one 21 (.one 22 (.one 11 (.one 13 (.one 14 (.one 9 (.one 15 (.one 16 (.one 17 (.one 18 (.one 23 (.one 24 (.one 25 .nil)))))))))))))))))))))))))) (by kernel_rfl) ?_ | refine AW.plan (id := 30) hm (.one 0 (.one 2 (.one 6 (.one 8 (.one 9 (.one 11 (.one 1 (.one 3 (.one 4 (.one 5 (.one 7 (.one 10 (.one 12 (.one 13 (.one 14 (.one 15 (.one 16 (.one 17 (.one 18 .nil))))))))))))))))))) (by kernel_rfl) ?_ | refine AReq.mk (by omega) ?_ | refine AIdx.flat (enc := moC) moC_len (xs := s.memos) (i := i) hil ?_ | refine AIdx.flat (enc := sC) sC_len (xs := s.memos[i].ss) (i := k) hkl ?_ | refine ACall.val (args := [stA s, sV s.memos[i].ss[k]]) (by kernel_rfl) hf10 (by (first | rfl | (simp only [renL, AV.ren, List.nil_append, List.cons_append, rens]; try rfl))) (by (first | rfl | (simp only [renL, AV.ren, List.nil_append, List.cons_append, rens]; try rfl))) ?_ | refine ACall.val (args := [stA s, nV u.order]) (by kernel_rfl) hf9 (by (first | rfl | (simp only [renL, AV.ren, List.nil_append, List.cons_append, rens]; try rfl))) (by (first | rfl | (simp only [renL, AV.ren, List.nil_append, List.cons_append, rens]; try rfl))) ?_ | refine ACall.val (args := [odA o]) (by kernel_rfl) hf11 (by (first | rfl | (simp only [renL, AV.ren, List.nil_append, List.cons_append, rens]; try rfl))) (by (first | rfl | (simp only [renL, AV.ren, List.nil_append, List.cons_append, rens]; try rfl))) ?_); conv => whnf))
      refine ACond.no (decide_eq_false (by omega)) ?_
      conv => whnf
      repeat (first | refine ru ?_ | ((first | refine AW.plan (id := 16) hm (.one 0 (.one 2 (.one 1 (.one 3 (.one 4 (.one 5 (.one 6 (.one 7 (.one 8 (.one 10 (.one 12 (.one 19 (.one 20 (.one 21 (.one 22 (.one 11 (.one 13 (.one 14 (.one 9 (.one 15 (.one 16 (.one 17 (.one 18 (.one 23 (.one 24 (.one 25 .nil)))))))))))))))))))))))))) (by kernel_rfl) ?_ | refine AW.plan (id := 30) hm (.one 0 (.one 2 (.one 6 (.one 8 (.one 9 (.one 11 (.one 1 (.one 3 (.one 4 (.one 5 (.one 7 (.one 10 (.one 12 (.one 13 (.one 14 (.one 15 (.one 16 (.one 17 (.one 18 .nil))))))))))))))))))) (by kernel_rfl) ?_ | refine AReq.mk (by omega) ?_ | refine AIdx.flat (enc := moC) moC_len (xs := s.memos) (i := i) hil ?_ | refine AIdx.flat (enc := sC) sC_len (xs := s.memos[i].ss) (i := k) hkl ?_ | refine ACall.val (args := [stA s, sV s.memos[i].ss[k]]) (by kernel_rfl) hf10 (by (first | rfl | (simp only [renL, AV.ren, List.nil_append, List.cons_append, rens]; try rfl))) (by (first | rfl | (simp only [renL, AV.ren, List.nil_append, List.cons_append, rens]; try rfl))) ?_ | refine ACall.val (args := [stA s, nV u.order]) (by kernel_rfl) hf9 (by (first | rfl | (simp only [renL, AV.ren, List.nil_append, List.cons_append, rens]; try rfl))) (by (first | rfl | (simp only [renL, AV.ren, List.nil_append, List.cons_append, rens]; try rfl))) ?_ | refine ACall.val (args := [odA o]) (by kernel_rfl) hf11 (by (first | rfl | (simp only [renL, AV.ren, List.nil_append, List.cons_append, rens]; try rfl))) (by (first | rfl | (simp only [renL, AV.ren, List.nil_append, List.cons_append, rens]; try rfl))) ?_); conv => whnf))
      refine AIdx.at lnC_len q (by omega) hql ?_
      conv => whnf
      repeat (first | refine ru ?_ | ((first | refine AW.plan (id := 16) hm (.one 0 (.one 2 (.one 1 (.one 3 (.one 4 (.one 5 (.one 6 (.one 7 (.one 8 (.one 10 (.one 12 (.one 19 (.one 20 (.one 21 (.one 22 (.one 11 (.one 13 (.one 14 (.one 9 (.one 15 (.one 16 (.one 17 (.one 18 (.one 23 (.one 24 (.one 25 .nil)))))))))))))))))))))))))) (by kernel_rfl) ?_ | refine AW.plan (id := 30) hm (.one 0 (.one 2 (.one 6 (.one 8 (.one 9 (.one 11 (.one 1 (.one 3 (.one 4 (.one 5 (.one 7 (.one 10 (.one 12 (.one 13 (.one 14 (.one 15 (.one 16 (.one 17 (.one 18 .nil))))))))))))))))))) (by kernel_rfl) ?_ | refine AReq.mk (by omega) ?_ | refine AIdx.flat (enc := moC) moC_len (xs := s.memos) (i := i) hil ?_ | refine AIdx.flat (enc := sC) sC_len (xs := s.memos[i].ss) (i := k) hkl ?_ | refine ACall.val (args := [stA s, sV s.memos[i].ss[k]]) (by kernel_rfl) hf10 (by (first | rfl | (simp only [renL, AV.ren, List.nil_append, List.cons_append, rens]; try rfl))) (by (first | rfl | (simp only [renL, AV.ren, List.nil_append, List.cons_append, rens]; try rfl))) ?_ | refine ACall.val (args := [stA s, nV u.order]) (by kernel_rfl) hf9 (by (first | rfl | (simp only [renL, AV.ren, List.nil_append, List.cons_append, rens]; try rfl))) (by (first | rfl | (simp only [renL, AV.ren, List.nil_append, List.cons_append, rens]; try rfl))) ?_ | refine ACall.val (args := [odA o]) (by kernel_rfl) hf11 (by (first | rfl | (simp only [renL, AV.ren, List.nil_append, List.cons_append, rens]; try rfl))) (by (first | rfl | (simp only [renL, AV.ren, List.nil_append, List.cons_append, rens]; try rfl))) ?_ | refine ACall.val (args := [lnA o.ls[q], nV u.place, isV s.rules.fees, nV u.grade]) (by kernel_rfl) hf12 (by (first | rfl | (simp only [renL, AV.ren, List.nil_append, List.cons_append, rens]; try rfl))) (by (first | rfl | (simp only [renL, AV.ren, List.nil_append, List.cons_append, rens]; try rfl))) ?_ | refine AIdx.flat (enc := iC) iC_len (xs := s.memos[i].am) (i := k) hkl2 ?_); conv => whnf))
      refine ACond.no (by simp) ?_
      conv => whnf
      repeat (first | refine ru ?_ | ((first | refine AW.plan (id := 16) hm (.one 0 (.one 2 (.one 1 (.one 3 (.one 4 (.one 5 (.one 6 (.one 7 (.one 8 (.one 10 (.one 12 (.one 19 (.one 20 (.one 21 (.one 22 (.one 11 (.one 13 (.one 14 (.one 9 (.one 15 (.one 16 (.one 17 (.one 18 (.one 23 (.one 24 (.one 25 .nil)))))))))))))))))))))))))) (by kernel_rfl) ?_ | refine AW.plan (id := 30) hm (.one 0 (.one 2 (.one 6 (.one 8 (.one 9 (.one 11 (.one 1 (.one 3 (.one 4 (.one 5 (.one 7 (.one 10 (.one 12 (.one 13 (.one 14 (.one 15 (.one 16 (.one 17 (.one 18 .nil))))))))))))))))))) (by kernel_rfl) ?_ | refine AReq.mk (by omega) ?_ | refine AIdx.flat (enc := moC) moC_len (xs := s.memos) (i := i) hil ?_ | refine AIdx.flat (enc := sC) sC_len (xs := s.memos[i].ss) (i := k) hkl ?_ | refine ACall.val (args := [stA s, sV s.memos[i].ss[k]]) (by kernel_rfl) hf10 (by (first | rfl | (simp only [renL, AV.ren, List.nil_append, List.cons_append, rens]; try rfl))) (by (first | rfl | (simp only [renL, AV.ren, List.nil_append, List.cons_append, rens]; try rfl))) ?_ | refine ACall.val (args := [stA s, nV u.order]) (by kernel_rfl) hf9 (by (first | rfl | (simp only [renL, AV.ren, List.nil_append, List.cons_append, rens]; try rfl))) (by (first | rfl | (simp only [renL, AV.ren, List.nil_append, List.cons_append, rens]; try rfl))) ?_ | refine ACall.val (args := [odA o]) (by kernel_rfl) hf11 (by (first | rfl | (simp only [renL, AV.ren, List.nil_append, List.cons_append, rens]; try rfl))) (by (first | rfl | (simp only [renL, AV.ren, List.nil_append, List.cons_append, rens]; try rfl))) ?_ | refine ACall.val (args := [lnA o.ls[q], nV u.place, isV s.rules.fees, nV u.grade]) (by kernel_rfl) hf12 (by (first | rfl | (simp only [renL, AV.ren, List.nil_append, List.cons_append, rens]; try rfl))) (by (first | rfl | (simp only [renL, AV.ren, List.nil_append, List.cons_append, rens]; try rfl))) ?_ | refine AIdx.flat (enc := iC) iC_len (xs := s.memos[i].am) (i := k) hkl2 ?_); conv => whnf))
      rw [w2]
      exact AHead.mk (s.memos[i].ss.length - (k + 1)) _ _ (by omega) ⟨k + 1, rfl, by omega, rfl, rfl⟩ (Conv.ren [0] _ (by simp) (by simp) (by simp only [pad, renL, AV.ren, stC_ren, UR.ren_hds]; repeat' (first | exact Fit.nil | refine Fit.any ?_ | refine Fit.same ?_)) (.same (by simp only [ABlk.ren, stC_ren]; rfl) .nil))
    · conv => whnf
      repeat (first | refine ru ?_ | ((first | refine AW.plan (id := 16) hm (.one 0 (.one 2 (.one 1 (.one 3 (.one 4 (.one 5 (.one 6 (.one 7 (.one 8 (.one 10 (.one 12 (.one 19 (.one 20 (.one 21 (.one 22 (.one 11 (.one 13 (.one 14 (.one 9 (.one 15 (.one 16 (.one 17 (.one 18 (.one 23 (.one 24 (.one 25 .nil)))))))))))))))))))))))))) (by kernel_rfl) ?_ | refine AW.plan (id := 30) hm (.one 0 (.one 2 (.one 6 (.one 8 (.one 9 (.one 11 (.one 1 (.one 3 (.one 4 (.one 5 (.one 7 (.one 10 (.one 12 (.one 13 (.one 14 (.one 15 (.one 16 (.one 17 (.one 18 .nil))))))))))))))))))) (by kernel_rfl) ?_); conv => whnf))
      refine AOut.stay ?_
      conv => whnf
      repeat (first | refine ru ?_ | ((first | refine AW.plan (id := 16) hm (.one 0 (.one 2 (.one 1 (.one 3 (.one 4 (.one 5 (.one 6 (.one 7 (.one 8 (.one 10 (.one 12 (.one 19 (.one 20 (.one 21 (.one 22 (.one 11 (.one 13 (.one 14 (.one 9 (.one 15 (.one 16 (.one 17 (.one 18 (.one 23 (.one 24 (.one 25 .nil)))))))))))))))))))))))))) (by kernel_rfl) ?_ | refine AW.plan (id := 30) hm (.one 0 (.one 2 (.one 6 (.one 8 (.one 9 (.one 11 (.one 1 (.one 3 (.one 4 (.one 5 (.one 7 (.one 10 (.one 12 (.one 13 (.one 14 (.one 15 (.one 16 (.one 17 (.one 18 .nil))))))))))))))))))) (by kernel_rfl) ?_); conv => whnf))
      rw [w1]
      exact AHead.mk (s.memos.length - (i + 1)) _ _ (by omega) ⟨i + 1, rfl, by omega, rfl, rfl⟩ (Conv.fit (by repeat' (first | exact Fit.nil | refine Fit.any ?_ | refine Fit.same ?_)))
  conv => whnf
  repeat (first | refine ru ?_ | ((first | refine AW.plan (id := 16) hm (.one 0 (.one 2 (.one 1 (.one 3 (.one 4 (.one 5 (.one 6 (.one 7 (.one 8 (.one 10 (.one 12 (.one 19 (.one 20 (.one 21 (.one 22 (.one 11 (.one 13 (.one 14 (.one 9 (.one 15 (.one 16 (.one 17 (.one 18 (.one 23 (.one 24 (.one 25 .nil)))))))))))))))))))))))))) (by kernel_rfl) ?_ | refine AW.plan (id := 30) hm (.one 0 (.one 2 (.one 6 (.one 8 (.one 9 (.one 11 (.one 1 (.one 3 (.one 4 (.one 5 (.one 7 (.one 10 (.one 12 (.one 13 (.one 14 (.one 15 (.one 16 (.one 17 (.one 18 .nil))))))))))))))))))) (by kernel_rfl) ?_); conv => whnf))
  refine AOut.stay ?_
  conv => whnf
  repeat (first | refine ru ?_ | ((first | refine AW.plan (id := 16) hm (.one 0 (.one 2 (.one 1 (.one 3 (.one 4 (.one 5 (.one 6 (.one 7 (.one 8 (.one 10 (.one 12 (.one 19 (.one 20 (.one 21 (.one 22 (.one 11 (.one 13 (.one 14 (.one 9 (.one 15 (.one 16 (.one 17 (.one 18 (.one 23 (.one 24 (.one 25 .nil)))))))))))))))))))))))))) (by kernel_rfl) ?_ | refine AW.plan (id := 30) hm (.one 0 (.one 2 (.one 6 (.one 8 (.one 9 (.one 11 (.one 1 (.one 3 (.one 4 (.one 5 (.one 7 (.one 10 (.one 12 (.one 13 (.one 14 (.one 15 (.one 16 (.one 17 (.one 18 .nil))))))))))))))))))) (by kernel_rfl) ?_); conv => whnf))
  refine ACall.val (args := []) (by kernel_rfl) hA rfl rfl ?_
  conv => whnf
  repeat (first | refine ru ?_ | ((first | refine AW.plan (id := 16) hm (.one 0 (.one 2 (.one 1 (.one 3 (.one 4 (.one 5 (.one 6 (.one 7 (.one 8 (.one 10 (.one 12 (.one 19 (.one 20 (.one 21 (.one 22 (.one 11 (.one 13 (.one 14 (.one 9 (.one 15 (.one 16 (.one 17 (.one 18 (.one 23 (.one 24 (.one 25 .nil)))))))))))))))))))))))))) (by kernel_rfl) ?_ | refine AW.plan (id := 30) hm (.one 0 (.one 2 (.one 6 (.one 8 (.one 9 (.one 11 (.one 1 (.one 3 (.one 4 (.one 5 (.one 7 (.one 10 (.one 12 (.one 13 (.one 14 (.one 15 (.one 16 (.one 17 (.one 18 .nil))))))))))))))))))) (by kernel_rfl) ?_); conv => whnf))
  exact AFin.mk rfl
end Go.Aw.U1

/-
  The orders of this cut's regions.
-/
namespace Go.Aw.U1
open Go
def pls : List (Nat × List (Nat × Rp)) := [
  (5, [(24, .pl (.one 0 (.one 1 (.one 3 (.one 8 (.one 10 (.imm 2 (.one 4 (.one 5 (.imm 6 (.one 7 (.one 9 (.one 11 (.one 12 (.one 13 (.one 14 (.one 15 (.one 16 (.one 17 .nil))))))))))))))))))), (28, .pl (.one 0 (.one 1 (.one 3 (.one 9 (.one 11 (.imm 2 (.one 4 (.one 5 (.imm 6 (.one 7 (.one 8 (.one 10 (.one 12 (.one 13 (.one 14 (.one 15 (.one 16 (.one 17 (.one 18 (.one 19 .nil)))))))))))))))))))))]),
  (7, [(7, .pl (.one 0 (.one 1 (.one 2 (.one 3 (.one 4 (.one 5 (.one 6 (.one 7 (.one 8 (.one 9 (.one 10 (.one 11 (.one 12 (.one 13 (.one 14 (.one 15 (.one 16 (.one 17 (.one 18 (.one 19 (.one 20 (.one 21 (.one 22 (.one 23 (.one 24 (.one 25 (.one 26 (.one 27 (.one 28 (.one 29 (.one 30 (.one 31 (.one 32 (.one 33 (.one 34 (.one 35 (.one 36 (.one 37 (.one 38 (.one 39 (.one 40 (.one 41 (.one 42 (.one 43 (.one 44 (.one 45 (.one 46 (.one 47 (.one 48 (.one 49 (.one 50 (.one 51 (.fork 52 (.one 53 .nil) 53 (.one 52 .nil) (.one 54 (.one 55 (.one 56 (.one 57 (.one 58 (.one 59 (.one 60 (.one 61 (.one 62 (.one 63 (.one 64 (.one 65 (.one 66 (.one 67 (.one 68 (.one 69 (.one 70 (.one 71 (.one 72 .nil)))))))))))))))))))))))))))))))))))))))))))))))))))))))))))))))))))))))))]),
  (13, [(12, .pl (.one 0 (.one 2 (.one 6 (.one 1 (.one 3 (.one 4 (.one 5 (.one 7 (.one 8 .nil))))))))))]),
  (29, [(4, .pl (.one 0 (.one 2 (.one 8 (.one 9 (.imm 1 (.one 3 (.one 4 (.imm 5 (.one 6 (.one 7 (.one 10 (.one 11 (.one 12 .nil))))))))))))))]),
  (32, [(1, .od (.one 0 (.one 3 (.one 6 (.one 1 (.alt 2 (.one 4 (.alt 5 (.one 7 (.one 9 (.one 8 (.one 10 (.one 11 (.one 12 (.one 13 (.one 14 .done)))))))) (.alt 7 (.one 9 (.one 5 (.one 8 (.one 10 (.one 11 (.one 12 (.one 13 (.one 14 .done)))))))) .no))) (.alt 4 (.alt 2 (.alt 5 (.one 7 (.one 9 (.one 8 (.one 10 (.one 11 (.one 12 (.one 13 (.one 14 .done)))))))) (.alt 7 (.one 9 (.one 5 (.one 8 (.one 10 (.one 11 (.one 12 (.one 13 (.one 14 .done)))))))) .no)) (.alt 7 (.one 2 (.one 9 (.one 5 (.one 8 (.one 10 (.one 11 (.one 12 (.one 13 (.one 14 .done))))))))) .no)) (.alt 7 (.alt 2 (.one 4 (.one 9 (.one 5 (.one 8 (.one 10 (.one 11 (.one 12 (.one 13 (.one 14 .done))))))))) (.alt 4 (.one 2 (.one 9 (.one 5 (.one 8 (.one 10 (.one 11 (.one 12 (.one 13 (.one 14 .done))))))))) .no)) .no)))))))), (2, .od (.one 0 (.one 3 (.one 1 (.alt 2 (.one 4 (.one 6 (.one 5 (.one 7 (.one 8 (.one 9 .done)))))) (.alt 4 (.one 2 (.one 6 (.one 5 (.one 7 (.one 8 (.one 9 .done)))))) .no)))))), (8, .od (.one 0 (.one 3 (.one 6 (.one 9 (.one 1 (.alt 2 (.one 4 (.alt 5 (.one 7 (.alt 8 (.one 10 (.one 11 (.one 12 (.one 13 (.one 14 .done))))) (.alt 10 (.one 8 (.one 11 (.one 12 (.one 13 (.one 14 .done))))) .no))) (.alt 7 (.alt 5 (.alt 8 (.one 10 (.one 11 (.one 12 (.one 13 (.one 14 .done))))) (.alt 10 (.one 8 (.one 11 (.one 12 (.one 13 (.one 14 .done))))) .no)) (.alt 10 (.one 5 (.one 8 (.one 11 (.one 12 (.one 13 (.one 14 .done)))))) .no)) (.alt 10 (.alt 5 (.one 7 (.one 8 (.one 11 (.one 12 (.one 13 (.one 14 .done)))))) (.alt 7 (.one 5 (.one 8 (.one 11 (.one 12 (.one 13 (.one 14 .done)))))) .no)) .no)))) (.alt 4 (.alt 2 (.alt 5 (.one 7 (.alt 8 (.one 10 (.one 11 (.one 12 (.one 13 (.one 14 .done))))) (.alt 10 (.one 8 (.one 11 (.one 12 (.one 13 (.one 14 .done))))) .no))) (.alt 7 (.alt 5 (.alt 8 (.one 10 (.one 11 (.one 12 (.one 13 (.one 14 .done))))) (.alt 10 (.one 8 (.one 11 (.one 12 (.one 13 (.one 14 .done))))) .no)) (.alt 10 (.one 5 (.one 8 (.one 11 (.one 12 (.one 13 (.one 14 .done)))))) .no)) (.alt 10 (.alt 5 (.one 7 (.one 8 (.one 11 (.one 12 (.one 13 (.one 14 .done)))))) (.alt 7 (.one 5 (.one 8 (.one 11 (.one 12 (.one 13 (.one 14 .done)))))) .no)) .no))) (.alt 7 (.alt 2 (.alt 5 (.alt 8 (.one 10 (.one 11 (.one 12 (.one 13 (.one 14 .done))))) (.alt 10 (.one 8 (.one 11 (.one 12 (.one 13 (.one 14 .done))))) .no)) (.alt 10 (.one 5 (.one 8 (.one 11 (.one 12 (.one 13 (.one 14 .done)))))) .no)) (.alt 10 (.one 2 (.one 5 (.one 8 (.one 11 (.one 12 (.one 13 (.one 14 .done))))))) .no)) (.alt 10 (.alt 2 (.alt 5 (.one 7 (.one 8 (.one 11 (.one 12 (.one 13 (.one 14 .done)))))) (.alt 7 (.one 5 (.one 8 (.one 11 (.one 12 (.one 13 (.one 14 .done)))))) .no)) (.alt 7 (.one 2 (.one 5 (.one 8 (.one 11 (.one 12 (.one 13 (.one 14 .done))))))) .no)) .no))) (.alt 7 (.alt 2 (.one 4 (.alt 5 (.alt 8 (.one 10 (.one 11 (.one 12 (.one 13 (.one 14 .done))))) (.alt 10 (.one 8 (.one 11 (.one 12 (.one 13 (.one 14 .done))))) .no)) (.alt 10 (.one 5 (.one 8 (.one 11 (.one 12 (.one 13 (.one 14 .done)))))) .no))) (.alt 4 (.alt 2 (.alt 5 (.alt 8 (.one 10 (.one 11 (.one 12 (.one 13 (.one 14 .done))))) (.alt 10 (.one 8 (.one 11 (.one 12 (.one 13 (.one 14 .done))))) .no)) (.alt 10 (.one 5 (.one 8 (.one 11 (.one 12 (.one 13 (.one 14 .done)))))) .no)) (.alt 10 (.one 2 (.one 5 (.one 8 (.one 11 (.one 12 (.one 13 (.one 14 .done))))))) .no)) (.alt 10 (.alt 2 (.one 4 (.one 5 (.one 8 (.one 11 (.one 12 (.one 13 (.one 14 .done))))))) (.alt 4 (.one 2 (.one 5 (.one 8 (.one 11 (.one 12 (.one 13 (.one 14 .done))))))) .no)) .no))) (.alt 10 (.alt 2 (.one 4 (.alt 5 (.one 7 (.one 8 (.one 11 (.one 12 (.one 13 (.one 14 .done)))))) (.alt 7 (.one 5 (.one 8 (.one 11 (.one 12 (.one 13 (.one 14 .done)))))) .no))) (.alt 4 (.alt 2 (.alt 5 (.one 7 (.one 8 (.one 11 (.one 12 (.one 13 (.one 14 .done)))))) (.alt 7 (.one 5 (.one 8 (.one 11 (.one 12 (.one 13 (.one 14 .done)))))) .no)) (.alt 7 (.one 2 (.one 5 (.one 8 (.one 11 (.one 12 (.one 13 (.one 14 .done))))))) .no)) (.alt 7 (.alt 2 (.one 4 (.one 5 (.one 8 (.one 11 (.one 12 (.one 13 (.one 14 .done))))))) (.alt 4 (.one 2 (.one 5 (.one 8 (.one 11 (.one 12 (.one 13 (.one 14 .done))))))) .no)) .no))) .no))))))))))]),
  (47, [(10, .pl (.one 1 (.one 3 (.one 2 (.one 4 (.one 0 (.one 5 (.fork 6 (.one 7 (.one 8 (.one 9 (.one 10 .nil)))) 10 (.one 6 (.one 7 (.one 8 (.one 9 .nil)))) (.one 11 (.one 12 .nil)))))))))), (15, .pl (.one 0 (.one 1 (.one 2 (.one 4 (.one 6 (.one 5 (.one 7 (.one 3 (.one 8 (.one 9 .nil)))))))))))]),
  (73, [(7, .pl (.one 0 (.one 1 (.one 2 (.one 3 (.one 4 (.one 5 (.one 6 (.one 7 (.one 11 (.one 8 (.one 9 (.fork 10 (.one 12 .nil) 12 (.one 10 .nil) (.one 13 (.one 14 .nil)))))))))))))))]),
  (74, [(10, .pl (.one 0 (.one 2 (.one 6 (.one 8 (.one 9 (.one 10 (.one 12 (.one 1 (.one 3 (.one 4 (.one 5 (.one 7 (.one 11 (.one 13 (.one 14 (.one 15 (.one 16 (.one 17 (.one 18 (.one 19 .nil)))))))))))))))))))))]),
  (80, [(6, .pl (.one 0 (.one 1 (.one 2 (.one 4 (.one 5 (.one 6 (.one 3 (.one 7 (.one 8 .nil))))))))))]),
  (81, [(6, .pl (.one 0 (.one 1 (.one 2 (.one 4 (.one 5 (.one 6 (.one 3 (.one 7 (.one 8 .nil))))))))))]),
  (82, [(6, .pl (.one 0 (.one 1 (.one 2 (.one 4 (.one 5 (.one 6 (.one 3 (.one 7 (.one 8 .nil))))))))))]),
  (83, [(6, .pl (.one 0 (.one 1 (.one 2 (.one 4 (.one 5 (.one 6 (.one 3 (.one 7 (.one 8 .nil))))))))))]),
  (84, [(6, .pl (.one 0 (.one 1 (.one 2 (.one 4 (.one 5 (.one 6 (.one 3 (.one 7 (.one 8 .nil))))))))))]),
  (110, [(1, .pl (.one 0 (.one 3 (.one 1 (.imm 4 (.one 2 (.one 6 (.one 5 (.one 7 (.one 8 (.one 9 .nil)))))))))))]),
  (113, [(2, .pl (.one 0 (.one 2 (.one 1 (.one 3 .nil)))))]),
  (115, [(17, .pl (.one 0 (.one 1 (.one 2 (.one 3 (.one 4 (.one 5 (.one 6 (.one 7 (.one 9 (.one 10 (.one 11 (.one 8 (.one 12 (.one 13 (.one 14 (.one 15 (.one 16 .nil))))))))))))))))))]),
  (123, [(8, .pl (.one 0 (.one 1 (.one 4 (.one 5 (.one 2 (.imm 6 (.one 3 (.one 7 (.one 8 (.one 9 .nil))))))))))), (9, .pl (.one 0 (.one 1 (.one 3 (.one 4 (.one 2 (.one 5 .nil)))))))]),
  (134, [(1, .pl (.one 0 (.one 2 (.one 3 (.one 4 (.one 1 (.one 5 (.one 6 (.one 7 (.one 9 (.one 11 (.one 10 (.one 12 (.one 13 (.one 14 (.one 15 (.one 16 (.one 8 (.one 17 (.one 18 (.one 19 .nil)))))))))))))))))))))]),
  (138, [(4, .pl (.one 0 (.one 2 (.one 4 (.one 3 (.one 5 (.one 6 (.one 7 (.one 1 (.one 8 (.fork 9 (.one 10 (.one 11 (.one 12 (.one 13 .nil)))) 13 (.one 9 (.one 10 (.one 11 (.one 12 .nil)))) (.one 14 (.one 15 .nil)))))))))))))]),
  (142, [(6, .pl (.one 0 (.one 1 (.one 2 (.one 4 (.one 5 (.one 6 (.one 3 (.one 7 (.one 8 .nil))))))))))]),
  (143, [(6, .pl (.one 0 (.one 1 (.one 2 (.one 4 (.one 5 (.one 6 (.one 3 (.one 7 (.one 8 .nil))))))))))]),
  (144, [(6, .pl (.one 0 (.one 1 (.one 2 (.one 4 (.one 5 (.one 6 (.one 3 (.one 7 (.one 8 .nil))))))))))]),
  (145, [(6, .pl (.one 0 (.one 1 (.one 2 (.one 4 (.one 5 (.one 6 (.one 3 (.one 7 (.one 8 .nil))))))))))]),
  (147, [(4, .pl (.one 0 (.one 1 (.one 2 (.one 3 (.one 4 (.one 5 (.one 6 (.one 7 (.one 9 (.one 10 (.one 11 (.one 12 (.one 8 (.one 13 (.one 14 (.one 15 (.one 16 .nil)))))))))))))))))), (6, .pl (.one 0 (.one 1 (.one 2 (.one 3 (.one 4 (.one 5 (.one 6 (.one 7 (.one 8 (.one 10 (.one 11 (.one 12 (.one 9 (.one 13 (.one 14 (.one 15 (.one 16 (.one 17 .nil)))))))))))))))))))]),
  (148, [(10, .pl (.one 0 (.one 1 (.one 2 (.one 3 (.one 4 (.one 5 (.one 6 (.one 7 (.one 8 (.one 9 (.one 10 (.one 12 (.one 13 (.one 14 (.one 11 (.one 15 (.one 16 (.one 17 (.one 18 (.one 19 .nil)))))))))))))))))))))]),
  (149, [(10, .pl (.one 0 (.one 1 (.one 2 (.one 3 (.one 4 (.one 5 (.one 6 (.one 7 (.one 8 (.one 9 (.one 10 (.one 12 (.one 13 (.one 14 (.one 11 (.one 15 (.one 16 (.one 17 (.one 18 (.one 19 .nil)))))))))))))))))))))]),
  (151, [(3, .pl (.one 0 (.one 1 (.one 2 (.one 3 (.one 4 (.one 5 (.one 6 (.one 8 (.one 9 (.one 10 (.one 7 (.one 11 (.one 12 (.one 13 (.one 14 (.one 15 .nil)))))))))))))))))]),
  (152, [(5, .pl (.one 0 (.one 1 (.one 2 (.one 3 (.one 4 (.one 5 (.one 6 (.one 7 (.one 9 (.one 10 (.one 11 (.one 12 (.one 8 (.one 13 (.one 14 (.one 15 (.one 16 (.one 17 .nil))))))))))))))))))), (11, .pl (.one 0 (.one 1 (.one 2 (.one 3 (.one 4 (.one 5 (.one 6 (.one 7 (.one 8 (.one 10 (.one 11 (.one 12 (.one 9 (.one 13 (.one 14 (.one 15 (.one 16 (.one 17 .nil))))))))))))))))))), (16, .pl (.one 0 (.one 1 (.one 2 (.one 3 (.one 5 (.one 6 (.one 7 (.one 8 (.one 4 (.one 9 (.one 10 (.one 11 (.one 12 .nil)))))))))))))), (17, .pl (.one 0 (.one 1 (.one 2 (.one 3 (.one 4 (.one 5 (.one 6 (.one 7 (.one 8 (.one 10 (.one 11 (.one 12 (.one 9 (.one 13 (.one 14 (.one 15 (.one 16 (.one 17 .nil))))))))))))))))))), (22, .pl (.one 0 (.one 1 (.one 2 (.one 3 (.one 5 (.one 6 (.one 7 (.one 8 (.one 4 (.one 9 (.one 10 (.one 11 (.one 12 .nil)))))))))))))), (23, .pl (.one 0 (.one 1 (.one 2 (.one 3 (.one 4 (.one 5 (.one 6 (.one 7 (.one 8 (.one 10 (.one 11 (.one 12 (.one 9 (.one 13 (.one 14 (.one 15 (.one 16 (.one 17 .nil)))))))))))))))))))]),
  (153, [(1, .pl (.one 0 (.one 1 (.one 2 (.one 3 (.one 4 (.one 5 (.one 6 (.one 8 (.one 9 (.one 10 (.one 7 (.one 11 (.one 12 (.one 13 (.one 14 (.one 15 .nil))))))))))))))))), (3, .pl (.one 0 (.one 1 (.one 2 (.one 3 (.one 4 (.one 5 (.one 6 (.one 7 (.one 9 (.one 10 (.one 11 (.one 8 (.one 12 (.one 13 (.one 14 (.one 15 (.one 16 .nil)))))))))))))))))), (5, .pl (.one 0 (.one 1 (.one 2 (.one 3 (.one 4 (.one 5 (.one 6 (.one 7 (.one 9 (.one 10 (.one 11 (.one 8 (.one 12 (.one 13 (.one 14 (.one 15 .nil))))))))))))))))), (8, .pl (.one 0 (.one 1 (.one 2 (.one 3 (.one 4 (.one 5 (.one 6 (.one 8 (.one 9 (.one 10 (.one 7 (.one 11 (.one 12 (.one 13 (.one 14 (.one 15 .nil)))))))))))))))))]),
  (154, [(1, .pl (.one 0 (.one 1 (.one 2 (.one 3 (.one 4 (.one 5 (.one 6 (.one 8 (.one 9 (.one 10 (.one 7 (.one 11 (.one 12 (.one 13 (.one 14 (.one 15 .nil))))))))))))))))), (3, .pl (.one 0 (.one 1 (.one 2 (.one 3 (.one 4 (.one 5 (.one 6 (.one 7 (.one 9 (.one 10 (.one 11 (.one 8 (.one 12 (.one 13 (.one 14 (.one 15 .nil))))))))))))))))), (5, .pl (.one 0 (.one 1 (.one 2 (.one 3 (.one 4 (.one 5 (.one 6 (.one 7 (.one 9 (.one 10 (.one 11 (.one 8 (.one 12 (.one 13 (.one 14 (.one 15 (.one 16 .nil)))))))))))))))))), (8, .pl (.one 0 (.one 1 (.one 2 (.one 3 (.one 4 (.one 5 (.one 6 (.one 8 (.one 9 (.one 10 (.one 7 (.one 11 (.one 12 (.one 13 (.one 14 (.one 15 .nil))))))))))))))))), (10, .pl (.one 0 (.one 1 (.one 2 (.one 3 (.one 4 (.one 5 (.one 6 (.one 8 (.one 9 (.one 10 (.one 7 (.one 11 (.one 12 (.one 13 (.one 14 (.one 15 .nil))))))))))))))))), (13, .pl (.one 0 (.one 1 (.one 2 (.one 3 (.one 4 (.one 5 (.one 6 (.one 7 (.one 9 (.one 10 (.one 11 (.one 8 (.one 12 (.one 13 (.one 14 (.one 15 .nil))))))))))))))))), (15, .pl (.one 0 (.one 1 (.one 2 (.one 3 (.one 4 (.one 5 (.one 6 (.one 7 (.one 9 (.one 10 (.one 11 (.one 8 (.one 12 (.one 13 (.one 14 (.one 15 (.one 16 .nil)))))))))))))))))), (18, .pl (.one 0 (.one 1 (.one 2 (.one 3 (.one 4 (.one 5 (.one 6 (.one 8 (.one 9 (.one 10 (.one 7 (.one 11 (.one 12 (.one 13 (.one 14 (.one 15 .nil))))))))))))))))), (21, .pl (.one 0 (.one 1 (.one 2 (.one 3 (.one 4 (.one 5 (.one 6 (.one 8 (.one 9 (.one 10 (.one 7 (.one 11 (.one 12 (.one 13 (.one 14 (.one 15 .nil)))))))))))))))))]),
  (167, [(4, .pl (.one 0 (.one 1 (.one 2 (.one 4 (.one 5 (.one 6 (.one 7 (.one 3 (.one 8 (.one 9 .nil)))))))))))]),
  (180, [(3, .pl (.one 0 (.one 1 (.one 2 (.one 3 (.one 4 (.one 5 (.one 6 (.one 7 (.one 8 (.one 9 (.one 10 (.one 12 (.one 13 (.one 14 (.one 15 (.one 16 (.one 17 (.one 11 (.one 18 (.one 19 (.one 20 (.one 21 .nil))))))))))))))))))))))), (5, .pl (.one 0 (.one 1 (.one 2 (.one 3 (.one 4 (.one 5 (.one 7 (.one 8 (.one 9 (.one 10 (.one 11 (.one 6 (.one 12 (.one 13 (.one 14 (.one 15 .nil))))))))))))))))), (6, .pl (.one 0 (.one 1 (.one 2 (.one 3 (.one 4 (.one 5 (.one 6 (.one 7 (.one 8 (.one 9 (.one 10 (.one 11 (.one 12 (.one 14 (.one 15 (.one 16 (.one 17 (.one 18 (.one 13 (.one 19 (.one 20 (.one 21 (.one 22 (.one 23 .nil)))))))))))))))))))))))))]),
  (182, [(1, .pl (.one 0 (.one 1 (.one 3 (.one 4 (.one 5 (.one 6 (.one 2 (.one 7 (.one 8 (.one 9 .nil))))))))))), (2, .pl (.one 0 (.one 1 (.one 3 (.one 4 (.one 5 (.one 6 (.one 2 (.one 7 (.one 8 (.one 9 .nil))))))))))), (3, .pl (.one 0 (.one 1 (.one 3 (.one 4 (.one 5 (.one 6 (.one 2 (.one 7 (.one 8 (.one 9 .nil)))))))))))]),
  (194, [(9, .pl (.one 0 (.one 1 (.one 2 (.one 4 (.one 6 (.one 5 (.one 7 (.one 8 (.one 3 (.one 9 (.one 10 (.one 11 (.one 12 .nil))))))))))))))]),
  (195, [(8, .pl (.one 0 (.one 1 (.one 2 (.one 5 (.one 3 (.one 4 (.one 6 .nil))))))))]),
  (199, [(1, .pl (.one 0 (.one 1 (.one 2 (.one 3 (.one 5 (.one 6 (.one 7 (.one 4 (.one 8 (.one 9 (.one 10 .nil))))))))))))]),
  (217, [(1, .pl (.one 1 (.one 4 (.one 0 (.imm 3 (.one 2 (.one 5 (.one 6 (.one 7 .nil)))))))))]),
  (223, [(17, .pl (.one 0 (.one 1 (.one 2 (.one 3 (.one 4 (.one 5 (.one 6 (.one 7 (.one 9 (.one 10 (.one 11 (.one 8 (.one 12 (.one 13 (.one 14 (.one 15 (.one 16 .nil))))))))))))))))))]),
  (224, [(6, .pl (.one 1 (.imm 0 (.one 2 (.one 3 (.one 4 (.one 5 (.one 6 (.one 8 (.fork 7 (.one 9 .nil) 9 (.one 7 .nil) (.one 10 (.one 11 .nil))))))))))))]),
  (226, [(4, .pl (.one 0 (.one 1 (.one 2 (.one 3 (.one 4 (.one 5 (.one 6 (.one 7 (.one 9 (.one 10 (.one 11 (.one 12 (.one 8 (.one 13 (.one 14 (.one 15 (.one 16 .nil)))))))))))))))))), (6, .pl (.one 0 (.one 1 (.one 2 (.one 3 (.one 4 (.one 5 (.one 6 (.one 7 (.one 8 (.one 10 (.one 11 (.one 12 (.one 9 (.one 13 (.one 14 (.one 15 (.one 16 (.one 17 .nil)))))))))))))))))))]),
  (227, [(10, .pl (.one 0 (.one 1 (.one 2 (.one 3 (.one 4 (.one 5 (.one 6 (.one 7 (.one 8 (.one 9 (.one 10 (.one 12 (.one 13 (.one 14 (.one 11 (.one 15 (.one 16 (.one 17 (.one 18 (.one 19 .nil)))))))))))))))))))))]),
  (228, [(10, .pl (.one 0 (.one 1 (.one 2 (.one 3 (.one 4 (.one 5 (.one 6 (.one 7 (.one 8 (.one 9 (.one 10 (.one 12 (.one 13 (.one 14 (.one 11 (.one 15 (.one 16 (.one 17 (.one 18 (.one 19 .nil)))))))))))))))))))))]),
  (230, [(3, .pl (.one 0 (.one 1 (.one 2 (.one 3 (.one 4 (.one 5 (.one 6 (.one 8 (.one 9 (.one 10 (.one 7 (.one 11 (.one 12 (.one 13 (.one 14 (.one 15 .nil)))))))))))))))))]),
  (231, [(5, .pl (.one 0 (.one 1 (.one 2 (.one 3 (.one 4 (.one 5 (.one 6 (.one 7 (.one 9 (.one 10 (.one 11 (.one 12 (.one 8 (.one 13 (.one 14 (.one 15 (.one 16 (.one 17 .nil))))))))))))))))))), (11, .pl (.one 0 (.one 1 (.one 2 (.one 3 (.one 4 (.one 5 (.one 6 (.one 7 (.one 8 (.one 10 (.one 11 (.one 12 (.one 9 (.one 13 (.one 14 (.one 15 (.one 16 (.one 17 .nil))))))))))))))))))), (16, .pl (.one 0 (.one 1 (.one 2 (.one 3 (.one 5 (.one 6 (.one 7 (.one 8 (.one 4 (.one 9 (.one 10 (.one 11 (.one 12 .nil)))))))))))))), (17, .pl (.one 0 (.one 1 (.one 2 (.one 3 (.one 4 (.one 5 (.one 6 (.one 7 (.one 8 (.one 10 (.one 11 (.one 12 (.one 9 (.one 13 (.one 14 (.one 15 (.one 16 (.one 17 .nil))))))))))))))))))), (22, .pl (.one 0 (.one 1 (.one 2 (.one 3 (.one 5 (.one 6 (.one 7 (.one 8 (.one 4 (.one 9 (.one 10 (.one 11 (.one 12 .nil)))))))))))))), (23, .pl (.one 0 (.one 1 (.one 2 (.one 3 (.one 4 (.one 5 (.one 6 (.one 7 (.one 8 (.one 10 (.one 11 (.one 12 (.one 9 (.one 13 (.one 14 (.one 15 (.one 16 (.one 17 .nil)))))))))))))))))))]),
  (232, [(1, .pl (.one 0 (.one 1 (.one 2 (.one 3 (.one 4 (.one 5 (.one 6 (.one 8 (.one 9 (.one 10 (.one 7 (.one 11 (.one 12 (.one 13 (.one 14 (.one 15 .nil))))))))))))))))), (3, .pl (.one 0 (.one 1 (.one 2 (.one 3 (.one 4 (.one 5 (.one 6 (.one 7 (.one 9 (.one 10 (.one 11 (.one 8 (.one 12 (.one 13 (.one 14 (.one 15 (.one 16 .nil)))))))))))))))))), (5, .pl (.one 0 (.one 1 (.one 2 (.one 3 (.one 4 (.one 5 (.one 6 (.one 7 (.one 9 (.one 10 (.one 11 (.one 8 (.one 12 (.one 13 (.one 14 (.one 15 .nil))))))))))))))))), (8, .pl (.one 0 (.one 1 (.one 2 (.one 3 (.one 4 (.one 5 (.one 6 (.one 8 (.one 9 (.one 10 (.one 7 (.one 11 (.one 12 (.one 13 (.one 14 (.one 15 .nil)))))))))))))))))]),
  (233, [(1, .pl (.one 0 (.one 1 (.one 2 (.one 3 (.one 4 (.one 5 (.one 6 (.one 8 (.one 9 (.one 10 (.one 7 (.one 11 (.one 12 (.one 13 (.one 14 (.one 15 .nil))))))))))))))))), (3, .pl (.one 0 (.one 1 (.one 2 (.one 3 (.one 4 (.one 5 (.one 6 (.one 7 (.one 9 (.one 10 (.one 11 (.one 8 (.one 12 (.one 13 (.one 14 (.one 15 .nil))))))))))))))))), (5, .pl (.one 0 (.one 1 (.one 2 (.one 3 (.one 4 (.one 5 (.one 6 (.one 7 (.one 9 (.one 10 (.one 11 (.one 8 (.one 12 (.one 13 (.one 14 (.one 15 (.one 16 .nil)))))))))))))))))), (8, .pl (.one 0 (.one 1 (.one 2 (.one 3 (.one 4 (.one 5 (.one 6 (.one 8 (.one 9 (.one 10 (.one 7 (.one 11 (.one 12 (.one 13 (.one 14 (.one 15 .nil))))))))))))))))), (10, .pl (.one 0 (.one 1 (.one 2 (.one 3 (.one 4 (.one 5 (.one 6 (.one 8 (.one 9 (.one 10 (.one 7 (.one 11 (.one 12 (.one 13 (.one 14 (.one 15 .nil))))))))))))))))), (13, .pl (.one 0 (.one 1 (.one 2 (.one 3 (.one 4 (.one 5 (.one 6 (.one 7 (.one 9 (.one 10 (.one 11 (.one 8 (.one 12 (.one 13 (.one 14 (.one 15 .nil))))))))))))))))), (15, .pl (.one 0 (.one 1 (.one 2 (.one 3 (.one 4 (.one 5 (.one 6 (.one 7 (.one 9 (.one 10 (.one 11 (.one 8 (.one 12 (.one 13 (.one 14 (.one 15 (.one 16 .nil)))))))))))))))))), (18, .pl (.one 0 (.one 1 (.one 2 (.one 3 (.one 4 (.one 5 (.one 6 (.one 8 (.one 9 (.one 10 (.one 7 (.one 11 (.one 12 (.one 13 (.one 14 (.one 15 .nil))))))))))))))))), (21, .pl (.one 0 (.one 1 (.one 2 (.one 3 (.one 4 (.one 5 (.one 6 (.one 8 (.one 9 (.one 10 (.one 7 (.one 11 (.one 12 (.one 13 (.one 14 (.one 15 .nil)))))))))))))))))]),
  (236, [(6, .pl (.one 0 (.one 1 (.one 2 (.one 3 (.one 4 (.one 5 (.one 6 (.one 7 .nil)))))))))]),
  (237, [(4, .pl (.one 0 (.one 1 (.one 2 (.one 3 (.one 4 (.one 5 (.one 6 (.one 7 (.one 9 (.one 10 (.one 11 (.one 12 (.one 8 (.one 13 (.one 14 (.one 15 (.one 16 .nil)))))))))))))))))), (6, .pl (.one 0 (.one 1 (.one 2 (.one 3 (.one 4 (.one 5 (.one 6 (.one 7 (.one 8 (.one 10 (.one 11 (.one 12 (.one 9 (.one 13 (.one 14 (.one 15 (.one 16 (.one 17 .nil)))))))))))))))))))]),
  (238, [(5, .pl (.one 0 (.one 1 (.one 2 (.one 3 (.one 5 (.one 6 (.one 7 (.one 4 (.one 8 (.one 9 (.one 10 .nil)))))))))))), (11, .pl (.one 0 (.one 1 (.one 2 (.one 3 (.one 4 (.one 5 (.one 6 (.one 7 (.one 8 (.one 10 (.one 11 (.one 12 (.one 9 (.one 13 (.one 14 (.one 15 (.one 16 (.one 17 .nil))))))))))))))))))), (17, .pl (.one 0 (.one 1 (.one 2 (.one 3 (.one 5 (.one 6 (.one 7 (.one 4 (.one 8 (.one 9 (.one 10 (.one 11 .nil))))))))))))), (23, .pl (.one 0 (.one 1 (.one 2 (.one 3 (.one 4 (.one 5 (.one 6 (.one 7 (.one 8 (.one 10 (.one 11 (.one 12 (.one 9 (.one 13 (.one 14 (.one 15 (.one 16 (.one 17 .nil))))))))))))))))))), (35, .pl (.one 0 (.one 1 (.one 2 (.one 3 (.one 4 (.one 5 (.one 7 (.one 8 (.one 9 (.one 6 (.one 10 (.one 11 (.one 12 (.one 13 .nil)))))))))))))))]),
  (239, [(3, .pl (.one 0 (.one 1 (.one 2 (.one 3 (.one 4 (.one 5 (.one 6 (.one 7 (.one 8 (.one 9 (.one 10 (.one 12 (.one 13 (.one 14 (.one 15 (.one 16 (.one 17 (.one 11 (.one 18 (.one 19 (.one 20 (.one 21 .nil))))))))))))))))))))))), (5, .pl (.one 0 (.one 1 (.one 2 (.one 3 (.one 4 (.one 5 (.one 7 (.one 8 (.one 9 (.one 10 (.one 11 (.one 6 (.one 12 (.one 13 (.one 14 (.one 15 .nil))))))))))))))))), (6, .pl (.one 0 (.one 1 (.one 2 (.one 3 (.one 4 (.one 5 (.one 6 (.one 7 (.one 8 (.one 9 (.one 10 (.one 11 (.one 12 (.one 14 (.one 15 (.one 16 (.one 17 (.one 18 (.one 13 (.one 19 (.one 20 (.one 21 (.one 22 (.one 23 .nil)))))))))))))))))))))))))]),
  (245, [(1, .pl (.one 0 (.one 1 (.one 2 (.one 3 (.one 5 (.one 6 (.one 7 (.one 4 (.one 8 (.one 9 (.one 10 .nil))))))))))))]),
  (246, [(3, .pl (.one 0 (.one 1 (.one 2 (.one 3 (.one 4 (.one 5 (.one 6 (.one 7 (.one 8 (.one 9 (.one 10 (.one 11 (.one 12 (.one 14 (.one 15 (.one 16 (.one 17 (.one 18 (.one 13 (.one 19 (.one 20 (.one 21 (.one 22 (.one 23 .nil)))))))))))))))))))))))))])]
def pl (f i : Nat) : Option Rp := plk pls f i
end Go.Aw.U1

set_option linter.unusedSimpArgs false
set_option linter.unusedVariables false
set_option maxHeartbeats 4000000
set_option maxRecDepth 20000
namespace Go.Aw.U1
open Go Go.Proofs

def sA : ByteArray := ⟨#[65]⟩
def sB : ByteArray := ⟨#[66]⟩
def emp (n : Int) : Sta := ⟨0, n, n, n, n, [], [], [], [], [], [], [], [], ⟨[], [], [], []⟩, []⟩
def sml (n : Int) : Sta := ⟨0, n, 1, 1, 1, [⟨1, 2, 10, 10⟩], [⟨3, 0, [⟨1, 9, 9, 0, [sA, sB]⟩]⟩], [⟨1, 3, 5, 1, [⟨0, 1, 0⟩]⟩], [], [], [], [], [], ⟨[], [], [], []⟩, []⟩
def nl : AV := .v (.slice none 0 0)
def rE (n : Int) : AV := .agg [nV 0, nV n, nV n, nV n, nV n, nl, nl, nl, nl, nl, nl, nl, nl, nl, nl, nl, nl, nl]
def rS (n : Int) : AV := .agg [nV 0, nV n, nV 1, nV 1, nV 1, .vx 4 1 [nV 1, nV 2, nV 10, nV 10], .vx 3 1 [nV 3, nV 0, .vx 5 1 [nV 1, nV 9, nV 9, nV 0, .vx 1 2 [sV sA, sV sB]]], .vx 5 1 [nV 1, nV 3, nV 5, nV 1, .vx 3 1 [nV 0, nV 1, nV 0]], nl, nl, nl, nl, nl, nl, nl, nl, nl, nl]
theorem wkE (n : Int) : WkL [rE n] [stA (emp n)] :=
  .cons (.agg (.cons .same (.cons .same (.cons .same (.cons .same (.cons .same (.cons .nil (.cons .nil (.cons .nil (.cons .nil (.cons .nil (.cons .nil (.cons .nil (.cons .nil (.cons .nil (.cons .nil (.cons .nil (.cons .nil (.cons .nil .nil))))))))))))))))))) .nil
theorem wkS (n : Int) : WkL [rS n] [stA (sml n)] :=
  .cons (.agg (.cons .same (.cons .same (.cons .same (.cons .same (.cons .same (.cons (.vx (WkL.refl _)) (.cons (.vx (.cons .same (.cons .same (.cons (.vx (.cons .same (.cons .same (.cons .same (.cons .same (.cons (.vx (WkL.refl _)) .nil)))))) .nil)))) (.cons (.vx (.cons .same (.cons .same (.cons .same (.cons .same (.cons (.vx (WkL.refl _)) .nil)))))) (.cons .nil (.cons .nil (.cons .nil (.cons .nil (.cons .nil (.cons .nil (.cons .nil (.cons .nil (.cons .nil (.cons .nil .nil))))))))))))))))))) .nil
theorem okE (n : Int) : StaOk (emp n) := by
  constructor <;> simp [emp, odsOk, rmsOk]
theorem odS : odOk ⟨3, 0, [⟨1, 9, 9, 0, [sA, sB]⟩]⟩ :=
  ⟨by decide, fun x hx => by
    have e : x = ⟨1, 9, 9, 0, [sA, sB]⟩ := by simpa using hx
    subst e
    refine ⟨⟨by decide, fun y hy => ?_⟩, by decide⟩
    have e : y = sA ∨ y = sB := by simpa using hy
    rcases e with rfl | rfl <;> decide⟩
theorem okS (n : Int) : StaOk (sml n) where
  items := by simp [sml]
  orders := ⟨by simp [sml], fun o ho => by
    have e : o = ⟨3, 0, [⟨1, 9, 9, 0, [sA, sB]⟩]⟩ := by simpa [sml] using ho
    subst e
    exact odS⟩
  rmas := ⟨by simp [sml], fun r hr => by
    have e : r = ⟨1, 3, 5, 1, [⟨0, 1, 0⟩]⟩ := by simpa [sml] using hr
    subst e
    show 1 ≤ 9223372036854775807
    decide⟩
  units := ⟨by simp [sml], fun u hu => by cases hu⟩
  works := ⟨by simp [sml], fun u hu => by cases hu⟩
  claims := ⟨by simp [sml], fun u hu => by cases hu⟩
  memos := ⟨by simp [sml], fun u hu => by cases hu⟩
  moves := by simp [sml]
  asks := by simp [sml]
  cuts := by simp [sml]
  fees := by simp [sml]
  rows := by simp [sml]
  keys := by simp [sml]
theorem idE (n : Int) : idsOk (emp n) := by simp [idsOk, emp]
theorem idS (n : Int) : idsOk (sml n) := by
  intro r hr
  simp only [sml, List.mem_singleton] at hr
  subst hr
  exact ⟨nOk_of (by decide) (by decide), fun w hw => by simp only [List.mem_singleton] at hw; subst hw; exact nOk_of (by decide) (by decide)⟩
theorem serA : serC sA = 0 := by
  have h1 : sA.toList = [65] := by rw [ByteArray.toList_eq]; rfl
  have h2 : (foldF sA) = (sA, 0) := by decide +kernel
  simp [serC, h2]
theorem easyE : Easy (emp 1) where
  tab := by rfl
  keys := by rfl
  ships := by rfl
  rules := by rfl
  auth := by rfl
  works := by rfl
  claims := by rfl
  units := rfl
  memos := rfl
  moves := rfl
  got := by simp [emp]
theorem serB : serC sB = 0 := by
  have h2 : (foldF sB) = (sB, 0) := by decide +kernel
  simp [serC, h2]
theorem ltAB : ltB (some sA) sB = true := by
  simp only [ltB, ByteArray.toList_eq]
  decide +kernel
theorem rowS : rowF [sA, sB] = 0 := by
  simp only [rowF, rowT, serA, serB, ltAB]
  rfl
theorem lineS : lineC ⟨1, 9, 9, 0, [sA, sB]⟩ = 0 := by
  simp only [lineC, rowS]
  decide
theorem twlS : twL [⟨1, 9, 9, 0, [sA, sB]⟩] (fun _ => false) = false := by
  have h : ¬ sB = sA := by decide
  simp [twL, twS, upd, h]
theorem ordS : ordC ⟨3, 0, [⟨1, 9, 9, 0, [sA, sB]⟩]⟩ = 0 := by
  have h1 : headB ⟨3, 0, [⟨1, 9, 9, 0, [sA, sB]⟩]⟩ = true := by decide
  have h2 : (totT [⟨1, 9, 9, 0, [sA, sB]⟩] 0).2 = 0 := by decide
  simp [ordC, ordB, h1, h2, lineS, twlS]
theorem easyS : Easy (sml 2) where
  tab := by rfl
  keys := by rfl
  ships := by
    have h : ¬ sB = sA := by decide
    simp only [shipsB, sml, shipsT, ordS, serF]
    simp [shipsM, twS, upd, h, itB, idB, timeB, hasI]
  rules := by rfl
  auth := by
    simp only [authB, sml, List.all_cons, List.all_nil, Bool.and_true]
    simp [rmaFits, freeOk, fitsB, ordS]
    exact ⟨⟨by decide, by decide⟩, by decide⟩
  works := by rfl
  claims := by rfl
  units := rfl
  memos := rfl
  moves := rfl
  got := by
    intro r hr w hw
    have e : r = ⟨1, 3, 5, 1, [⟨0, 1, 0⟩]⟩ := by simpa [sml] using hr
    subst e
    have e : w = ⟨0, 1, 0⟩ := by simpa using hw
    subst e
    rfl
theorem c6E : Fun P 6 [stA (emp 1)] (nV 0) :=
  (f6 (emp 1) (okE 1) (idE 1)).mono fun r H ⟨⟨n, h1, _, h2, _⟩, h3⟩ => ⟨by rw [h1, h2 easyE], h3⟩
theorem c6Z : Fun P 6 [stA (emp 0)] (nV 40) :=
  (f6 (emp 0) (okE 0) (idE 0)).mono fun r H ⟨⟨n, h1, _, _, h2⟩, h3⟩ => ⟨by rw [h1, h2 (by rfl)], h3⟩
theorem c6S : Fun P 6 [stA (sml 2)] (nV 0) :=
  (f6 (sml 2) (okS 2) (idS 2)).mono fun r H ⟨⟨n, h1, _, h2, _⟩, h3⟩ => ⟨by rw [h1, h2 easyS], h3⟩
theorem c6B : Fun P 6 [stA (sml 1)] (nV 40) :=
  (f6 (sml 1) (okS 1) (idS 1)).mono fun r H ⟨⟨n, h1, _, _, h2⟩, h3⟩ => ⟨by rw [h1, h2 (by rfl)], h3⟩
theorem ok6 : callOk P 6 = true := by kernel_rfl
theorem r6 {s : Sta} {x r : AV} {H : List ABlk} (h : Fun P 6 [stA s] r) (hw : WkL [x] [stA s]) (hr : ∀ ρ, r.ren ρ = r) : Spec P 6 [x] H (fun r' H' => r' = r ∧ H' = H) :=
  (Fun.any ok6 h (fun ρ => by simp only [renL, AV.ren, stC_ren]) hr).wk hw
/-- what Check answers to the states of the probe -/
noncomputable def ck6 (x : AV) : Option AV :=
  match eqAV x (rE 1) with
  | true => some (nV 0)
  | false => match eqAV x (rS 2) with
    | true => some (nV 0)
    | false => match eqAV x (rS 1) with
      | true => some (nV 40)
      | false => match eqAV x (rE 0) with
        | true => some (nV 40)
        | false => none
theorem ck6_s {x r : AV} {H : List ABlk} (h : ck6 x = some r) : Spec P 6 [x] H (fun r' H' => r' = r ∧ H' = H) := by
  unfold ck6 at h
  split at h
  · rename_i e; cases h; rw [eqAV_s _ _ e]; exact r6 c6E (wkE 1) (fun _ => rfl)
  split at h
  · rename_i e; cases h; rw [eqAV_s _ _ e]; exact r6 c6S (wkS 2) (fun _ => rfl)
  split at h
  · rename_i e; cases h; rw [eqAV_s _ _ e]; exact r6 c6B (wkS 1) (fun _ => rfl)
  split at h
  · rename_i e; cases h; rw [eqAV_s _ _ e]; exact r6 c6Z (wkE 0) (fun _ => rfl)
  · cases h
theorem ok29 : callOk P 29 = true := by kernel_rfl
theorem c29 (n k : Int) (hk : freeF (sml 2) n 0 = k) : Fun P 29 [stA (sml 2), nV n, nV 0] (nV k) := by
  rw [← hk]; exact f29 (sml 2) n 0 (okS 2).rmas (okS 2).orders
theorem r29 {n k : Int} {H : List ABlk} (hk : freeF (sml 2) n 0 = k) : Spec P 29 [rS 2, nV n, nV 0] H (fun r' H' => r' = nV k ∧ H' = H) :=
  (Fun.any ok29 (c29 n k hk) (fun ρ => by simp only [renL, AV.ren, stC_ren]) (fun _ => rfl)).wk (match wkS 2 with | .cons h .nil => .cons h (.cons .same (.cons .same .nil)))
noncomputable def ck29 (x y z : AV) : Option AV :=
  match eqAV x (rS 2) with
  | true => match eqAV z (nV 0) with
    | true => match eqAV y (nV 3) with
      | true => some (nV 1)
      | false => match eqAV y (nV 4) with
        | true => some (nV 0)
        | false => none
    | false => none
  | false => none
theorem ck29_s {x y z r : AV} {H : List ABlk} (h : ck29 x y z = some r) : Spec P 29 [x, y, z] H (fun r' H' => r' = r ∧ H' = H) := by
  unfold ck29 at h
  split at h
  · rename_i e1
    split at h
    · rename_i e2
      rw [eqAV_s _ _ e1, eqAV_s _ _ e2]
      split at h
      · rename_i e3; cases h; rw [eqAV_s _ _ e3]; exact r29 (by decide)
      split at h
      · rename_i e3; cases h; rw [eqAV_s _ _ e3]; exact r29 (by decide)
      · cases h
    · cases h
  · cases h
noncomputable def call6 (f : Nat) (args : List AV) (H : List ABlk) : Option (AV × List ABlk) :=
  match Nat.beq f 6 with
  | true => match args with
    | [x] => match ck6 x with
      | some r => some (r, H)
      | none => none
    | _ => none
  | false => match Nat.beq f 29 with
    | true => match args with
      | [x, y, z] => match ck29 x y z with
        | some r => some (r, H)
        | none => none
      | _ => none
    | false => none
noncomputable def x6 : Xt := ⟨fun f => Nat.beq f 6 || Nat.beq f 29, fun _ => true, call6, mapX P T (fun _ => false)⟩
theorem x6_ok : XtOk P T x6 where
  call := fun f args H r H' h0 => by
    have h : call6 f args H = some (r, H') := h0
    clear h0
    unfold call6 at h
    split at h
    · rename_i e
      obtain rfl := Nat.eq_of_beq_eq_true e
      split at h
      · split at h
        · rename_i e2
          cases h
          exact ck6_s e2
        · cases h
      · cases h
    split at h
    · rename_i e
      obtain rfl := Nat.eq_of_beq_eq_true e
      split at h
      · split at h
        · rename_i e2
          cases h
          exact ck29_s e2
        · cases h
      · cases h
    · cases h
  op := (mapXt_ok hT (dk := fun _ => false) (gc := fun _ => true) (fun _ h => by cases h)).op
end Go.Aw.U1

set_option linter.unusedSimpArgs false
set_option linter.unusedVariables false
set_option maxHeartbeats 4000000
set_option maxRecDepth 20000
namespace Go.Aw.U1
open Go Go.Proofs
theorem f7 : Fun P 7 [] (bV true) := Spec.run hT hm x6_ok pl 100000 200 (by kernel_rfl)
theorem f3' (s : Sta) (hw : Wf s) : Spec P 3 [stA s] [] (fun r _ => r = bV true) := f3 f7 s hw
end Go.Aw.U1

