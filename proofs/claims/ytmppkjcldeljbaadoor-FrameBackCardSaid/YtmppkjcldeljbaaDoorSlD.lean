/-
  The statement FrameBack: a frame is taken of its sectors, and only what was put is taken, without any condition.
-/
import Derived.Test.YtmppkjcldeljbaaDoorSlC
set_option linter.unusedSimpArgs false
set_option linter.unusedVariables false
set_option linter.unusedSimpArgs false
set_option linter.unusedVariables false
set_option maxHeartbeats 4000000
namespace Go.Aw.D1
open Go
theorem be_beVal : ∀ (w : Nat) (l : List UInt8), l.length = w → be w (beVal l) = l
  | 0, l, h => by
    have : l = [] := List.eq_nil_of_length_eq_zero h
    subst this; rfl
  | w + 1, l, h => by
    have hne : l ≠ [] := by intro e; subst e; simp at h
    have e := List.dropLast_concat_getLast hne
    have hl : l.dropLast.length = w := by rw [List.length_dropLast]; omega
    rw [← e, beVal_snoc, be_succ]
    have hb := (l.getLast hne).toNat_lt
    rw [show (beVal l.dropLast * 256 + (l.getLast hne).toNat) / 256 = beVal l.dropLast by omega, be_beVal w _ hl]
    congr 1
    rw [List.cons.injEq]
    refine ⟨?_, rfl⟩
    apply UInt8.toNat_inj.1
    rw [UInt8.toNat_ofNat']
    omega
theorem seal_unseal (s : ByteArray) (h : (unsealF s).2 = 0) : s = sealS (unsealF s).1 := by
  have hu := unseal_size h
  have hl := size_list s
  unfold unsealF at h ⊢
  rw [if_neg (by omega)] at h ⊢
  simp only at h ⊢
  split at h
  · rename_i h2
    rw [if_pos h2]
    simp only
    rw [str_eq, decide_eq_true_eq] at h2
    apply list_inj
    rw [sealS, app_list, ofL_list]
    have e := congrArg (fun x : ByteArray => x.data.toList) h2
    simp only at e
    rw [ext_list s (s.size - 4) s.size, show s.size - (s.size - 4) = 4 by omega] at e
    rw [e, ext_list, List.drop_zero, Nat.sub_zero, List.take_of_length_le (l := s.data.toList.drop (s.size - 4)) (by rw [List.length_drop]; omega), List.take_append_drop]
  · exact absurd h (by decide)
theorem zs_all0 (s : ByteArray) (h : all0 s) : s.data.toList = zs s.size := by
  unfold zs
  rw [← size_list s]
  exact List.eq_replicate_of_mem h
theorem slot_put (s : ByteArray) (h : (slotF s).2.2 = 0) : 1 ≤ (slotF s).1 ∧ (slotF s).1 ≤ 1000000000 ∧ (slotF s).2.1.size ≤ 100000 ∧ whole ((slotF s).2.1.size + 16) ≤ s.size ∧ s.extract 0 (whole ((slotF s).2.1.size + 16)) = putB (slotF s).1 (slotF s).2.1 := by
  unfold slotF at h ⊢
  split at h
  · exact absurd h (by decide)
  rename_i h1
  split at h
  · exact absurd h (by decide)
  rename_i h2
  split at h
  · exact absurd h (by decide)
  rename_i h3
  split at h
  · exact absurd h (by decide)
  rename_i h4
  split at h
  · exact absurd h (by decide)
  rename_i h5
  split at h
  · rename_i h6; exact absurd h h6
  rename_i h6
  split at h
  · exact absurd h (by decide)
  rename_i h7
  rw [if_neg h1, if_neg h2, if_neg h3, if_neg h4, if_neg h5, if_neg h6, if_neg h7]
  simp only
  have h6' : (unsealF (s.extract 0 (getG s 8 4 + 16))).2 = 0 := by simpa using h6
  have h7' : all0 (s.extract (getG s 8 4 + 16) (whole (getG s 8 4 + 16))) := by simpa using h7
  have hg : getG s 0 8 = getV s 0 8 := by
    unfold getE at h2; unfold getG
    split at h2
    · exact absurd (by decide) h2
    · rename_i hh; rw [if_neg hh]
  have hbv4 := beVal_lt (bytesAt s 8 4)
  have hbl4 : (bytesAt s 8 4).length = 4 := by rw [bytesAt, List.length_take, List.length_drop, size_list]; omega
  have hbl8 : (bytesAt s 0 8).length = 8 := by rw [bytesAt, List.length_take, List.length_drop, size_list]; omega
  have hn : getG s 8 4 = getV s 8 4 := by
    unfold getG
    rw [if_neg]
    unfold getV
    rw [hbl4] at hbv4
    omega
  have hu := unseal_size h6'
  have hsu := seal_unseal _ h6'
  have hw1 : getG s 8 4 + 16 ≤ whole (getG s 8 4 + 16) := by unfold whole; omega
  have hsz := size_extract s 0 (getG s 8 4 + 16)
  have e8 := be_beVal 8 _ hbl8
  have e4 := be_beVal 4 _ hbl4
  rw [show beVal (bytesAt s 0 8) = getG s 0 8 from hg.symm] at e8
  rw [show beVal (bytesAt s 8 4) = getG s 8 4 from hn.symm] at e4
  generalize getG s 0 8 = g at *
  generalize getG s 8 4 = n at *
  generalize hU : (unsealF (s.extract 0 (n + 16))).1 = u at *
  have hus : u.size = n + 12 := by omega
  have hts : (u.extract 12 u.size).size = n := by rw [size_extract]; omega
  have hul : u.data.toList = s.data.toList.take (n + 12) := by
    have e := congrArg (fun x : ByteArray => x.data.toList.take (n + 12)) hsu
    rw [sealS, app_list, List.take_left' (by rw [size_list]; omega), ext_list, List.drop_zero, Nat.sub_zero, List.take_take, show min (n + 12) (n + 16) = n + 12 by omega] at e
    exact e.symm
  have hub : u = bodyS g (u.extract 12 u.size) := by
    apply list_inj
    rw [bodyS, app_list, app_list, ofL_list, ofL_list, hts, e8, e4, ext_list, hul, bytesAt, bytesAt, List.drop_zero]
    rw [List.take_of_length_le (l := List.drop 12 _) (by rw [List.length_drop, List.length_take]; omega)]
    have a1 : List.take 4 (List.drop 8 s.data.toList) = List.take 4 (List.drop 8 (s.data.toList.take (n + 12))) := by
      rw [List.drop_take, List.take_take, Nat.min_eq_left (by omega)]
    have a0 : List.take 8 s.data.toList = List.take 8 (s.data.toList.take (n + 12)) := by
      rw [List.take_take, Nat.min_eq_left (by omega)]
    rw [a1, a0]
    generalize s.data.toList.take (n + 12) = L
    rw [List.append_assoc, show List.drop 12 L = List.drop 4 (List.drop 8 L) by rw [List.drop_drop], List.take_append_drop, List.take_append_drop]
  rw [hts]
  refine ⟨by omega, by omega, by omega, by omega, ?_⟩
  unfold putB
  rw [hts, ← hub, ← hsu]
  apply list_inj
  have hz := zs_all0 _ h7'
  rw [size_extract, Nat.min_eq_left (by omega)] at hz
  rw [app_list, ofL_list, ← hz, ext_list, ext_list, ext_list, List.drop_zero, Nat.sub_zero, Nat.sub_zero]
  conv => lhs; rw [show whole (n + 16) = (n + 16) + (whole (n + 16) - (n + 16)) by omega, List.take_add]
end Go.Aw.D1

set_option linter.unusedSimpArgs false
set_option linter.unusedVariables false
set_option maxHeartbeats 4000000
namespace Go.Aw.D1
open Go
theorem snap_eql {g g' : Int} {t t' : ByteArray} {K : AV → Prop} (k : K (.v (.bool (decide (g = g' ∧ t = t'))))) : AEqs P .eql 24 (.agg [nV g, sV t]) (.agg [nV g', sV t']) K :=
  AEqs.eql (ks := [.int .i64, .str]) (vx := snV g t) (vy := snV g' t') (by kernel_rfl) (by kernel_rfl) rfl rfl rfl rfl (by rw [eqL_sn]; exact k)
theorem snap_neq {g g' : Int} {t t' : ByteArray} {K : AV → Prop} (k : K (.v (.bool (!decide (g = g' ∧ t = t'))))) : AEqs P .neq 24 (.agg [nV g, sV t]) (.agg [nV g', sV t']) K :=
  AEqs.neq (ks := [.int .i64, .str]) (vx := snV g t) (vy := snV g' t') (by kernel_rfl) (by kernel_rfl) rfl rfl rfl rfl (by rw [eqL_sn]; exact k)
theorem putF_cases (g : Int) (t : ByteArray) : (∃ n : Nat, g = n ∧ 1 ≤ n ∧ n ≤ 1000000000 ∧ t.size ≤ 100000 ∧ putF g t = (putB n t, 0)) ∨ ((putF g t).2 ≠ 0 ∧ (putF g t).1 = e0 ∧ (g < 1 ∨ 1000000000 < g ∨ 100000 < t.size)) := by
  unfold putF
  split
  · rename_i h; exact .inr ⟨by decide, rfl, by omega⟩
  split
  · exact .inr ⟨by decide, rfl, by omega⟩
  · exact .inl ⟨g.toNat, by omega, by omega, by omega, by omega, rfl⟩
theorem secs (n : Nat) : whole (n + 16) = 64 * ((n + 16 + 63) / 64) := by unfold whole; omega

theorem f4 (g : Int) (t b : ByteArray) : Spec P 4 [nV g, sV t, sV b] [] fun r _ => r = .v (.bool true) := by
  refine spec_of hT (f := 4) (fn := Go.Proofs.Tryd.f4) (c := body Go.Proofs.Tryd.f4) (by kernel_rfl) (by kernel_rfl) ?_
  have hfin : ∀ {H : List ABlk}, AFin 0 (.v (.bool true)) H (fun r _ => r = .v (.bool true)) := AFin.mk rfl
  conv => whnf
  repeat ((first | refine AO.cons hT ?_ | refine AO.nil ?_ | refine AW.seq ?_ | refine AW.region ?_ | refine AW.cond ?_ | refine AW.block ?_ | refine AW.loop ?_ | refine AW.skip ?_ | refine AW.exit ?_ | refine AW.ret ?_ | refine AF.one hT rfl ?_ | refine AF.nil ?_ | refine AF.imm hT rfl rfl rfl ?_ | refine AH.of hT rfl ?_ | refine AD.cons hT rfl ?_ | refine AD.nil ?_ | refine AQ.cons hT rfl ?_ | refine AQ.nil ?_ | (refine ACall.val (by kernel_rfl) f10 rfl rfl ?_)); conv => whnf)
  refine ASplit.dec (fun h1 => ?_) (fun h1 => ?_)
  · conv => whnf
    repeat (first | (refine AO.cons hT ?_; conv => whnf) | (refine AO.nil ?_; conv => whnf) | (refine AW.seq ?_; conv => whnf) | (refine AW.region ?_; conv => whnf) | (refine AW.cond ?_; conv => whnf) | (refine AW.block ?_; conv => whnf) | (refine AW.loop ?_; conv => whnf) | (refine AW.skip ?_; conv => whnf) | (refine AW.exit ?_; conv => whnf) | (refine AW.ret ?_; conv => whnf) | (refine AF.one hT rfl ?_; conv => whnf) | (refine AF.nil ?_; conv => whnf) | (refine AF.imm hT rfl rfl rfl ?_; conv => whnf) | (refine AH.of hT rfl ?_; conv => whnf) | (refine ASplit.yes rfl ?_; conv => whnf) | (refine ACond.yes rfl ?_; conv => whnf) | (refine ASplit.no rfl ?_; conv => whnf) | (refine ACond.no rfl ?_; conv => whnf) | (refine ASplit.yes (by decide) ?_; conv => whnf) | (refine ACond.yes (by decide) ?_; conv => whnf) | (refine AReq.mk (by decide) ?_; conv => whnf) | (refine AIdx.iff.2 ⟨by decide, ?_⟩; conv => whnf) | (refine ACall.val (by kernel_rfl) f10 rfl rfl ?_; conv => whnf))
    exact hfin
  conv => whnf
  repeat ((first | refine AO.cons hT ?_ | refine AO.nil ?_ | refine AW.seq ?_ | refine AW.region ?_ | refine AW.cond ?_ | refine AW.block ?_ | refine AW.loop ?_ | refine AW.skip ?_ | refine AW.exit ?_ | refine AW.ret ?_ | refine AF.one hT rfl ?_ | refine AF.nil ?_ | refine AF.imm hT rfl rfl rfl ?_ | refine AH.of hT rfl ?_ | refine AD.cons hT rfl ?_ | refine AD.nil ?_ | refine AQ.cons hT rfl ?_ | refine AQ.nil ?_ | (refine ACall.val (by kernel_rfl) f10 rfl rfl ?_)); conv => whnf)
  refine ACond.dec (fun h2 => ?_) (fun h2 => ?_)
  · conv => whnf
    repeat ((first | refine AO.cons hT ?_ | refine AO.nil ?_ | refine AW.seq ?_ | refine AW.region ?_ | refine AW.cond ?_ | refine AW.block ?_ | refine AW.loop ?_ | refine AW.skip ?_ | refine AW.exit ?_ | refine AW.ret ?_ | refine AF.one hT rfl ?_ | refine AF.nil ?_ | refine AF.imm hT rfl rfl rfl ?_ | refine AH.of hT rfl ?_ | refine AD.cons hT rfl ?_ | refine AD.nil ?_ | refine AQ.cons hT rfl ?_ | refine AQ.nil ?_ | (refine ACall.val (by kernel_rfl) f10 rfl rfl ?_)); conv => whnf)
    exact hfin
  have ht : t.size ≤ 5000 := by omega
  have hb : b.size ≤ 6000 := by omega
  have hq := f16 g t (by omega)
  have hc := putF_cases g t
  have hbc := slot_put b
  have hbz := slotF_cases b
  have h17 := f17 b (by omega)
  have hps := putB_size (slotF b).1 (slotF b).2.1
  have hp16 := f16 ((slotF b).1 : Int) (slotF b).2.1
  have key : (slotF b).2.2 = 0 → putF ((slotF b).1 : Int) (slotF b).2.1 = (putB (slotF b).1 (slotF b).2.1, 0) := by
    intro h0
    have := hbc h0
    unfold putF
    rw [if_neg (by omega), if_neg (by omega)]; rfl
  generalize slotF b = x at *
  conv => whnf
  repeat ((first | refine AO.cons hT ?_ | refine AO.nil ?_ | refine AW.seq ?_ | refine AW.region ?_ | refine AW.cond ?_ | refine AW.block ?_ | refine AW.loop ?_ | refine AW.skip ?_ | refine AW.exit ?_ | refine AW.ret ?_ | refine AF.one hT rfl ?_ | refine AF.nil ?_ | refine AF.imm hT rfl rfl rfl ?_ | refine AH.of hT rfl ?_ | refine AD.cons hT rfl ?_ | refine AD.nil ?_ | refine AQ.cons hT rfl ?_ | refine AQ.nil ?_ | (refine ACall.val (by kernel_rfl) f10 rfl rfl ?_)); conv => whnf)
  refine ACall.val (by kernel_rfl) hq rfl rfl ?_
  conv => whnf
  repeat ((first | refine AO.cons hT ?_ | refine AO.nil ?_ | refine AW.cond ?_ | refine AW.block ?_ | refine AW.loop ?_ | refine AW.skip ?_ | refine AW.exit ?_ | refine AW.ret ?_ | refine AF.one hT rfl ?_ | refine AF.nil ?_ | refine AF.imm hT rfl rfl rfl ?_ | refine AH.of hT rfl ?_ | refine AD.cons hT rfl ?_ | refine AD.nil ?_ | refine AQ.cons hT rfl ?_ | refine AQ.nil ?_ | (refine ACall.val (by kernel_rfl) f10 rfl rfl ?_)); conv => whnf)
  refine AW.seqJ (fun E H => E = pad [nV g, sV t, sV b, .any, .any, .any, .any] 95 ∧ H = []) ?_ ?_
  · conv => whnf
    repeat ((first | refine AO.cons hT ?_ | refine AO.nil ?_ | refine AW.seq ?_ | refine AW.region ?_ | refine AW.cond ?_ | refine AW.block ?_ | refine AW.loop ?_ | refine AW.skip ?_ | refine AW.exit ?_ | refine AW.ret ?_ | refine AF.one hT rfl ?_ | refine AF.nil ?_ | refine AF.imm hT rfl rfl rfl ?_ | refine AH.of hT rfl ?_ | refine AD.cons hT rfl ?_ | refine AD.nil ?_ | refine AQ.cons hT rfl ?_ | refine AQ.nil ?_ | (refine ACall.val (by kernel_rfl) f10 rfl rfl ?_)); conv => whnf)
    refine ACond.dec (fun h3 => ?_) (fun h3 => ?_)
    · rcases hc with ⟨n, rfl, hn1, hn2, hn3, e⟩ | ⟨h, _⟩
      · rw [e]
        have hsz := putB_size n t
        have hs := secs t.size
        have h2 := f17 (putB n t ++ b) (by rw [size_append, hsz]; unfold whole; omega)
        rw [slotF_put n t b hn1 hn2 hn3] at h2
        have h18 := f18 t (by omega)
        conv => whnf
        repeat ((first | refine AO.cons hT ?_ | refine AO.nil ?_ | refine AW.seq ?_ | refine AW.region ?_ | refine AW.cond ?_ | refine AW.block ?_ | refine AW.loop ?_ | refine AW.skip ?_ | refine AW.exit ?_ | refine AW.ret ?_ | refine AF.one hT rfl ?_ | refine AF.nil ?_ | refine AF.imm hT rfl rfl rfl ?_ | refine AH.of hT rfl ?_ | refine AD.cons hT rfl ?_ | refine AD.nil ?_ | refine AQ.cons hT rfl ?_ | refine AQ.nil ?_ | (refine ACall.val (by kernel_rfl) f10 rfl rfl ?_) | (refine ACall.val (by kernel_rfl) h2 rfl rfl ?_) | (refine ACall.val (by kernel_rfl) h18 rfl rfl ?_) | (refine snap_neq ?_)); conv => whnf)
        refine AReq.mk (by rw [hsz]; unfold whole; omega) ?_
        conv => whnf
        repeat ((first | refine AO.cons hT ?_ | refine AO.nil ?_ | refine AW.seq ?_ | refine AW.region ?_ | refine AW.cond ?_ | refine AW.block ?_ | refine AW.loop ?_ | refine AW.skip ?_ | refine AW.exit ?_ | refine AW.ret ?_ | refine AF.one hT rfl ?_ | refine AF.nil ?_ | refine AF.imm hT rfl rfl rfl ?_ | refine AH.of hT rfl ?_ | refine AD.cons hT rfl ?_ | refine AD.nil ?_ | refine AQ.cons hT rfl ?_ | refine AQ.nil ?_ | (refine ACall.val (by kernel_rfl) f10 rfl rfl ?_) | (refine ACall.val (by kernel_rfl) h2 rfl rfl ?_) | (refine ACall.val (by kernel_rfl) h18 rfl rfl ?_) | (refine snap_neq ?_)); conv => whnf)
        refine ASplit.no (by simp) ?_
        conv => whnf
        repeat (first | (refine AO.cons hT ?_; conv => whnf) | (refine AO.nil ?_; conv => whnf) | (refine AW.seq ?_; conv => whnf) | (refine AW.region ?_; conv => whnf) | (refine AW.cond ?_; conv => whnf) | (refine AW.block ?_; conv => whnf) | (refine AW.loop ?_; conv => whnf) | (refine AW.skip ?_; conv => whnf) | (refine AW.exit ?_; conv => whnf) | (refine AW.ret ?_; conv => whnf) | (refine AF.one hT rfl ?_; conv => whnf) | (refine AF.nil ?_; conv => whnf) | (refine AF.imm hT rfl rfl rfl ?_; conv => whnf) | (refine AH.of hT rfl ?_; conv => whnf) | (refine ASplit.yes rfl ?_; conv => whnf) | (refine ACond.yes rfl ?_; conv => whnf) | (refine ASplit.no rfl ?_; conv => whnf) | (refine ACond.no rfl ?_; conv => whnf) | (refine ASplit.yes (by decide) ?_; conv => whnf) | (refine ACond.yes (by decide) ?_; conv => whnf) | (refine AReq.mk (by decide) ?_; conv => whnf) | (refine AIdx.iff.2 ⟨by decide, ?_⟩; conv => whnf) | (refine ACall.val (by kernel_rfl) f10 rfl rfl ?_; conv => whnf) | (refine ACall.val (by kernel_rfl) h2 rfl rfl ?_; conv => whnf) | (refine ACall.val (by kernel_rfl) h18 rfl rfl ?_; conv => whnf) | (refine snap_neq ?_; conv => whnf))
        refine ACond.no (by rw [hsz, wrap_i64 _ (by omega) (by omega)]; simp; omega) ?_
        conv => whnf
        repeat ((first | refine AO.cons hT ?_ | refine AO.nil ?_ | refine AW.seq ?_ | refine AW.region ?_ | refine AW.cond ?_ | refine AW.block ?_ | refine AW.loop ?_ | refine AW.skip ?_ | refine AW.exit ?_ | refine AW.ret ?_ | refine AF.one hT rfl ?_ | refine AF.nil ?_ | refine AF.imm hT rfl rfl rfl ?_ | refine AH.of hT rfl ?_ | refine AD.cons hT rfl ?_ | refine AD.nil ?_ | refine AQ.cons hT rfl ?_ | refine AQ.nil ?_ | (refine ACall.val (by kernel_rfl) f10 rfl rfl ?_) | (refine ACall.val (by kernel_rfl) h2 rfl rfl ?_) | (refine ACall.val (by kernel_rfl) h18 rfl rfl ?_) | (refine snap_neq ?_)); conv => whnf)
        exact AOut.to _ _ (Conv.ren [] _ (by simp) (by simp) (by repeat' (first | exact Fit.nil | refine Fit.any ?_ | refine Fit.same ?_)) .nil) ⟨rfl, rfl⟩
      · exact absurd h3 h
    · conv => whnf
      repeat ((first | refine AO.cons hT ?_ | refine AO.nil ?_ | refine AW.seq ?_ | refine AW.region ?_ | refine AW.cond ?_ | refine AW.block ?_ | refine AW.loop ?_ | refine AW.skip ?_ | refine AW.exit ?_ | refine AW.ret ?_ | refine AF.one hT rfl ?_ | refine AF.nil ?_ | refine AF.imm hT rfl rfl rfl ?_ | refine AH.of hT rfl ?_ | refine AD.cons hT rfl ?_ | refine AD.nil ?_ | refine AQ.cons hT rfl ?_ | refine AQ.nil ?_ | (refine ACall.val (by kernel_rfl) f10 rfl rfl ?_) | (refine ACall.val (by kernel_rfl) h2 rfl rfl ?_) | (refine ACall.val (by kernel_rfl) h18 rfl rfl ?_) | (refine snap_neq ?_)); conv => whnf)
      exact AOut.to _ _ (Conv.fit (by repeat' (first | exact Fit.nil | refine Fit.any ?_ | refine Fit.same ?_))) ⟨rfl, rfl⟩
  rintro _ _ ⟨rfl, rfl⟩
  conv => whnf
  repeat ((first | refine AO.cons hT ?_ | refine AO.nil ?_ | refine AW.seq ?_ | refine AW.region ?_ | refine AW.cond ?_ | refine AW.block ?_ | refine AW.loop ?_ | refine AW.skip ?_ | refine AW.exit ?_ | refine AW.ret ?_ | refine AF.one hT rfl ?_ | refine AF.nil ?_ | refine AF.imm hT rfl rfl rfl ?_ | refine AH.of hT rfl ?_ | refine AD.cons hT rfl ?_ | refine AD.nil ?_ | refine AQ.cons hT rfl ?_ | refine AQ.nil ?_ | (refine ACall.val (by kernel_rfl) f10 rfl rfl ?_) | (refine ACall.val (by kernel_rfl) h2 rfl rfl ?_) | (refine ACall.val (by kernel_rfl) h18 rfl rfl ?_) | (refine snap_neq ?_)); conv => whnf)
  refine ACall.val (by kernel_rfl) h17 rfl rfl ?_
  conv => whnf
  repeat ((first | refine AO.cons hT ?_ | refine AO.nil ?_ | refine AW.seq ?_ | refine AW.region ?_ | refine AW.cond ?_ | refine AW.block ?_ | refine AW.loop ?_ | refine AW.skip ?_ | refine AW.exit ?_ | refine AW.ret ?_ | refine AF.one hT rfl ?_ | refine AF.nil ?_ | refine AF.imm hT rfl rfl rfl ?_ | refine AH.of hT rfl ?_ | refine AD.cons hT rfl ?_ | refine AD.nil ?_ | refine AQ.cons hT rfl ?_ | refine AQ.nil ?_ | (refine ACall.val (by kernel_rfl) f10 rfl rfl ?_) | (refine ACall.val (by kernel_rfl) h2 rfl rfl ?_) | (refine ACall.val (by kernel_rfl) h18 rfl rfl ?_) | (refine snap_neq ?_)); conv => whnf)
  refine ACond.ndec (fun h4 => ?_) (fun h4 => ?_)
  · obtain ⟨x1, x2, x3⟩ := x
    rcases hbz with ⟨_, h5, h6⟩ | ⟨h, _⟩
    · simp only at h5 h6
      subst h5; subst h6
      conv => whnf
      repeat ((first | refine AO.cons hT ?_ | refine AO.nil ?_ | refine AW.seq ?_ | refine AW.region ?_ | refine AW.cond ?_ | refine AW.block ?_ | refine AW.loop ?_ | refine AW.skip ?_ | refine AW.exit ?_ | refine AW.ret ?_ | refine AF.one hT rfl ?_ | refine AF.nil ?_ | refine AF.imm hT rfl rfl rfl ?_ | refine AH.of hT rfl ?_ | refine AD.cons hT rfl ?_ | refine AD.nil ?_ | refine AQ.cons hT rfl ?_ | refine AQ.nil ?_ | (refine ACall.val (by kernel_rfl) f10 rfl rfl ?_) | (refine ACall.val (by kernel_rfl) h2 rfl rfl ?_) | (refine ACall.val (by kernel_rfl) h18 rfl rfl ?_) | (refine snap_neq ?_) | (refine snap_eql ?_) | (refine ASplit.yes rfl ?_)); conv => whnf)
      exact hfin
    · exact absurd h h4
  · have hb4 := hbc h4
    have hp := hp16 (by omega)
    rw [key h4] at hp
    rw [← hps] at hb4
    generalize putB x.1 x.2.1 = S at *
    conv => whnf
    repeat ((first | refine AO.cons hT ?_ | refine AO.nil ?_ | refine AW.seq ?_ | refine AW.region ?_ | refine AW.cond ?_ | refine AW.block ?_ | refine AW.loop ?_ | refine AW.skip ?_ | refine AW.exit ?_ | refine AW.ret ?_ | refine AF.one hT rfl ?_ | refine AF.nil ?_ | refine AF.imm hT rfl rfl rfl ?_ | refine AH.of hT rfl ?_ | refine AD.cons hT rfl ?_ | refine AD.nil ?_ | refine AQ.cons hT rfl ?_ | refine AQ.nil ?_ | (refine ACall.val (by kernel_rfl) f10 rfl rfl ?_) | (refine ACall.val (by kernel_rfl) h2 rfl rfl ?_) | (refine ACall.val (by kernel_rfl) h18 rfl rfl ?_) | (refine snap_neq ?_) | (refine snap_eql ?_) | (refine ASplit.yes rfl ?_) | (refine ACall.val (by kernel_rfl) hp rfl rfl ?_) | (refine ASplit.yes rfl ?_) | (refine ASplit.yes (decide_eq_true (show (S.size : Int) ≤ _ by omega)) ?_) | (refine AReq.mk (show 0 ≤ (S.size : Int) ∧ (S.size : Int) ≤ _ by omega) ?_)); conv => whnf)
    rw [str_eq, show b.extract 0 (Int.toNat (S.size : Int)) = S from hb4.2.2.2.2]
    conv => whnf
    repeat ((first | refine AO.cons hT ?_ | refine AO.nil ?_ | refine AW.seq ?_ | refine AW.region ?_ | refine AW.cond ?_ | refine AW.block ?_ | refine AW.loop ?_ | refine AW.skip ?_ | refine AW.exit ?_ | refine AW.ret ?_ | refine AF.one hT rfl ?_ | refine AF.nil ?_ | refine AF.imm hT rfl rfl rfl ?_ | refine AH.of hT rfl ?_ | refine AD.cons hT rfl ?_ | refine AD.nil ?_ | refine AQ.cons hT rfl ?_ | refine AQ.nil ?_ | (refine ACall.val (by kernel_rfl) f10 rfl rfl ?_) | (refine ACall.val (by kernel_rfl) h2 rfl rfl ?_) | (refine ACall.val (by kernel_rfl) h18 rfl rfl ?_) | (refine snap_neq ?_) | (refine snap_eql ?_) | (refine ASplit.yes rfl ?_) | (refine ACall.val (by kernel_rfl) hp rfl rfl ?_) | (refine ASplit.yes rfl ?_) | (refine ASplit.yes (decide_eq_true (show (S.size : Int) ≤ _ by omega)) ?_) | (refine AReq.mk (show 0 ≤ (S.size : Int) ∧ (S.size : Int) ≤ _ by omega) ?_) | (refine ASplit.yes (decide_eq_true rfl) ?_)); conv => whnf)
    exact hfin
end Go.Aw.D1

set_option linter.unusedSimpArgs false
set_option linter.unusedVariables false
set_option maxHeartbeats 4000000
namespace Go.Aw.D1
open Go
/-- where the next one goes: three ways, or none -/
theorem next_cases (a b : ByteArray) :
    ((nextF a b).1 = 0 ∧ (chooseF a b).1 = 1000000000) ∨
    (∃ g : Nat, nextF a b = (g, 0) ∧ 1 ≤ g ∧ g ≤ 1000000000 ∧ (chooseF a b).2.2 ≠ 0 ∧ (∀ s t, slotF s = (g, t, 0) → chooseF s b = (g, t, 0)) ∧ (∀ x, (slotF x).2.2 ≠ 0 → chooseF x b = chooseF a b)) ∨
    (∃ g : Nat, nextF a b = (g, 1) ∧ 1 ≤ g ∧ g ≤ 1000000000 ∧ (chooseF a b).2.2 ≠ 1 ∧ (∀ s t, slotF s = (g, t, 0) → chooseF a s = (g, t, 1)) ∧ (∀ x, (slotF x).2.2 ≠ 0 → chooseF a x = chooseF a b)) := by
  have ha := slotF_cases a
  have hb := slotF_cases b
  rcases chooseF_cases a b with ⟨hc, h1, h2⟩ | ⟨hc1, hc2, hc3⟩
  · refine .inr (.inl ⟨1, ?_, by decide, by decide, by rw [hc]; decide, ?_, ?_⟩)
    · unfold nextF; rw [hc]; rfl
    · intro s t hs
      rw [chooseF_eq, hs]
      rw [if_neg (fun h => h.1 rfl), if_pos ⟨rfl, .inl h2⟩]
    · intro x hx
      rw [hc, chooseF_eq, if_pos ⟨hx, h2⟩]
  · by_cases hm : (chooseF a b).1 = 1000000000
    · refine .inl ⟨?_, hm⟩
      unfold nextF
      rw [if_neg (by omega), if_pos hm]
    have hn : nextF a b = ((chooseF a b).1 + 1, 1 - (chooseF a b).2.2) := by
      unfold nextF
      rw [if_neg (by omega), if_neg hm]
    rcases hc3 with h0 | h0
    · refine .inr (.inr ⟨(chooseF a b).1 + 1, by rw [hn, h0]; rfl, by omega, by omega, by omega, ?_, ?_⟩)
      · intro s t hs
        rw [chooseF_eq, hs] at *
        simp only at *
        split at h0
        · cases h0
        split at h0
        · rename_i g1 g2
          rw [if_neg g1, if_pos g2] at *
          simp only at *
          rw [if_neg (fun h => h.2 rfl), if_neg (fun h => by rcases h.2 with h | h; exact h rfl; omega), chooseF_eq, if_neg g1, if_pos g2]
        · cases h0
      · intro x hx
        rw [chooseF_eq] at h0
        split at h0
        · cases h0
        split at h0
        · rename_i g1 g2
          rw [chooseF_eq, if_neg (fun h => h.1 g2.1), if_pos ⟨g2.1, .inl hx⟩, chooseF_eq, if_neg g1, if_pos g2]
        · cases h0
    · refine .inr (.inl ⟨(chooseF a b).1 + 1, by rw [hn, h0]; rfl, by omega, by omega, by omega, ?_, ?_⟩)
      · intro s t hs
        rw [chooseF_eq, hs] at *
        simp only at *
        split at h0
        · cases h0
        split at h0
        · cases h0
        · rename_i g1 g2
          rw [if_neg g1, if_neg g2] at *
          simp only at *
          rw [if_neg (fun h => h.1 rfl), if_pos ⟨by trivial, .inr (by omega)⟩, chooseF_eq, if_neg g1, if_neg g2]
      · intro x hx
        rw [chooseF_eq] at h0
        split at h0
        · cases h0
        split at h0
        · cases h0
        · rename_i g1 g2
          have hb0 : (slotF b).2.2 = 0 := by
            by_cases e : (slotF b).2.2 = 0
            · exact e
            · exact absurd ⟨by by_cases e2 : (slotF a).2.2 = 0; exact absurd ⟨e2, .inl e⟩ g2; exact e2, e⟩ g1
          rw [chooseF_eq, if_neg (fun h => h.2 hb0), if_neg (fun h => hx h.1), chooseF_eq, if_neg g1, if_neg g2]

theorem f5 (a b t : ByteArray) : Spec P 5 [sV a, sV b, sV t] [] fun r _ => r = .v (.bool true) := by
  refine spec_of hT (f := 5) (fn := Go.Proofs.Tryd.f5) (c := body Go.Proofs.Tryd.f5) (by kernel_rfl) (by kernel_rfl) ?_
  have hfin : ∀ {H : List ABlk}, AFin 0 (.v (.bool true)) H (fun r _ => r = .v (.bool true)) := AFin.mk rfl
  conv => whnf
  repeat ((first | refine AO.cons hT ?_ | refine AO.nil ?_ | refine AW.seq ?_ | refine AW.region ?_ | refine AW.cond ?_ | refine AW.block ?_ | refine AW.loop ?_ | refine AW.skip ?_ | refine AW.exit ?_ | refine AW.ret ?_ | refine AF.one hT rfl ?_ | refine AF.nil ?_ | refine AF.imm hT rfl rfl rfl ?_ | refine AH.of hT rfl ?_ | refine AD.cons hT rfl ?_ | refine AD.nil ?_ | refine AQ.cons hT rfl ?_ | refine AQ.nil ?_ | (refine ACall.val (by kernel_rfl) f10 rfl rfl ?_)); conv => whnf)
  refine ASplit.dec (fun h1 => ?_) (fun h1 => ?_)
  · conv => whnf
    repeat (first | (refine AO.cons hT ?_; conv => whnf) | (refine AO.nil ?_; conv => whnf) | (refine AW.seq ?_; conv => whnf) | (refine AW.region ?_; conv => whnf) | (refine AW.cond ?_; conv => whnf) | (refine AW.block ?_; conv => whnf) | (refine AW.loop ?_; conv => whnf) | (refine AW.skip ?_; conv => whnf) | (refine AW.exit ?_; conv => whnf) | (refine AW.ret ?_; conv => whnf) | (refine AF.one hT rfl ?_; conv => whnf) | (refine AF.nil ?_; conv => whnf) | (refine AF.imm hT rfl rfl rfl ?_; conv => whnf) | (refine AH.of hT rfl ?_; conv => whnf) | (refine ASplit.yes rfl ?_; conv => whnf) | (refine ACond.yes rfl ?_; conv => whnf) | (refine ASplit.no rfl ?_; conv => whnf) | (refine ACond.no rfl ?_; conv => whnf) | (refine ASplit.yes (by decide) ?_; conv => whnf) | (refine ACond.yes (by decide) ?_; conv => whnf) | (refine AReq.mk (by decide) ?_; conv => whnf) | (refine AIdx.iff.2 ⟨by decide, ?_⟩; conv => whnf) | (refine ACall.val (by kernel_rfl) f10 rfl rfl ?_; conv => whnf))
    exact hfin
  conv => whnf
  repeat ((first | refine AO.cons hT ?_ | refine AO.nil ?_ | refine AW.seq ?_ | refine AW.region ?_ | refine AW.cond ?_ | refine AW.block ?_ | refine AW.loop ?_ | refine AW.skip ?_ | refine AW.exit ?_ | refine AW.ret ?_ | refine AF.one hT rfl ?_ | refine AF.nil ?_ | refine AF.imm hT rfl rfl rfl ?_ | refine AH.of hT rfl ?_ | refine AD.cons hT rfl ?_ | refine AD.nil ?_ | refine AQ.cons hT rfl ?_ | refine AQ.nil ?_ | (refine ACall.val (by kernel_rfl) f10 rfl rfl ?_)); conv => whnf)
  refine ASplit.dec (fun h2 => ?_) (fun h2 => ?_)
  · conv => whnf
    repeat (first | (refine AO.cons hT ?_; conv => whnf) | (refine AO.nil ?_; conv => whnf) | (refine AW.seq ?_; conv => whnf) | (refine AW.region ?_; conv => whnf) | (refine AW.cond ?_; conv => whnf) | (refine AW.block ?_; conv => whnf) | (refine AW.loop ?_; conv => whnf) | (refine AW.skip ?_; conv => whnf) | (refine AW.exit ?_; conv => whnf) | (refine AW.ret ?_; conv => whnf) | (refine AF.one hT rfl ?_; conv => whnf) | (refine AF.nil ?_; conv => whnf) | (refine AF.imm hT rfl rfl rfl ?_; conv => whnf) | (refine AH.of hT rfl ?_; conv => whnf) | (refine ASplit.yes rfl ?_; conv => whnf) | (refine ACond.yes rfl ?_; conv => whnf) | (refine ASplit.no rfl ?_; conv => whnf) | (refine ACond.no rfl ?_; conv => whnf) | (refine ASplit.yes (by decide) ?_; conv => whnf) | (refine ACond.yes (by decide) ?_; conv => whnf) | (refine AReq.mk (by decide) ?_; conv => whnf) | (refine AIdx.iff.2 ⟨by decide, ?_⟩; conv => whnf) | (refine ACall.val (by kernel_rfl) f10 rfl rfl ?_; conv => whnf))
    exact hfin
  conv => whnf
  repeat ((first | refine AO.cons hT ?_ | refine AO.nil ?_ | refine AW.seq ?_ | refine AW.region ?_ | refine AW.cond ?_ | refine AW.block ?_ | refine AW.loop ?_ | refine AW.skip ?_ | refine AW.exit ?_ | refine AW.ret ?_ | refine AF.one hT rfl ?_ | refine AF.nil ?_ | refine AF.imm hT rfl rfl rfl ?_ | refine AH.of hT rfl ?_ | refine AD.cons hT rfl ?_ | refine AD.nil ?_ | refine AQ.cons hT rfl ?_ | refine AQ.nil ?_ | (refine ACall.val (by kernel_rfl) f10 rfl rfl ?_)); conv => whnf)
  refine ACond.dec (fun h3 => ?_) (fun h3 => ?_)
  · conv => whnf
    repeat ((first | refine AO.cons hT ?_ | refine AO.nil ?_ | refine AW.seq ?_ | refine AW.region ?_ | refine AW.cond ?_ | refine AW.block ?_ | refine AW.loop ?_ | refine AW.skip ?_ | refine AW.exit ?_ | refine AW.ret ?_ | refine AF.one hT rfl ?_ | refine AF.nil ?_ | refine AF.imm hT rfl rfl rfl ?_ | refine AH.of hT rfl ?_ | refine AD.cons hT rfl ?_ | refine AD.nil ?_ | refine AQ.cons hT rfl ?_ | refine AQ.nil ?_ | (refine ACall.val (by kernel_rfl) f10 rfl rfl ?_)); conv => whnf)
    exact hfin
  have hn := next_cases a b
  have h11 := f11 a b (by omega) (by omega)
  have h13 := f13 a b (by omega) (by omega)
  have ht17 := f17 t (by omega)
  rcases hn with ⟨hn, hm⟩ | ⟨g, hn, hg1, hg2, hat, hput, hnot⟩ | ⟨g, hn, hg1, hg2, hat, hput, hnot⟩
  · generalize chooseF a b = c at *
    generalize nextF a b = d at *
    obtain ⟨d1, d2⟩ := d
    simp only at hn
    subst hn
    conv => whnf
    repeat ((first | refine AO.cons hT ?_ | refine AO.nil ?_ | refine AW.seq ?_ | refine AW.region ?_ | refine AW.cond ?_ | refine AW.block ?_ | refine AW.loop ?_ | refine AW.skip ?_ | refine AW.exit ?_ | refine AW.ret ?_ | refine AF.one hT rfl ?_ | refine AF.nil ?_ | refine AF.imm hT rfl rfl rfl ?_ | refine AH.of hT rfl ?_ | refine AD.cons hT rfl ?_ | refine AD.nil ?_ | refine AQ.cons hT rfl ?_ | refine AQ.nil ?_ | (refine ACall.val (by kernel_rfl) f10 rfl rfl ?_) | (refine ACall.val (by kernel_rfl) h11 rfl rfl ?_) | (refine ACall.val (by kernel_rfl) h13 rfl rfl ?_) | (refine ACond.yes rfl ?_) | (refine ASplit.yes (decide_eq_true (by omega)) ?_)); conv => whnf)
    exact hfin
  · have hp := f16 (g : Int) t (by omega)
    rw [show putF (g : Int) t = (putB g t, 0) by unfold putF; rw [if_neg (by omega), if_neg (by omega)]; rfl] at hp
    have hps := putB_size g t
    have hsf := slotF_put g t e0 hg1 hg2 (by omega)
    rw [app_nil] at hsf
    have hcp := f11 (putB g t) b (by rw [hps]; unfold whole; omega) (by omega)
    rw [hput _ _ hsf] at hcp
    rw [hn] at h13
    have hct := f11 t b (by omega) (by omega)
    generalize putB g t = S at *
    generalize hC : chooseF a b = c at *
    generalize hX : slotF t = x at *
    obtain ⟨c1, c2, c3⟩ := c
    simp only at hat
    conv => whnf
    repeat ((first | refine AO.cons hT ?_ | refine AO.nil ?_ | refine AW.seq ?_ | refine AW.region ?_ | refine AW.cond ?_ | refine AW.block ?_ | refine AW.loop ?_ | refine AW.skip ?_ | refine AW.exit ?_ | refine AW.ret ?_ | refine AF.one hT rfl ?_ | refine AF.nil ?_ | refine AF.imm hT rfl rfl rfl ?_ | refine AH.of hT rfl ?_ | refine AD.cons hT rfl ?_ | refine AD.nil ?_ | refine AQ.cons hT rfl ?_ | refine AQ.nil ?_ | (refine ACall.val (by kernel_rfl) f10 rfl rfl ?_) | (refine ACall.val (by kernel_rfl) h11 rfl rfl ?_) | (refine ACall.val (by kernel_rfl) h13 rfl rfl ?_) | (refine ACond.yes rfl ?_) | (refine ASplit.yes (decide_eq_true (by omega)) ?_) | (refine ACall.val (by kernel_rfl) h11 rfl rfl ?_) | (refine ACall.val (by kernel_rfl) h13 rfl rfl ?_) | (refine ACall.val (by kernel_rfl) hp rfl rfl ?_) | (refine ACond.no (decide_eq_false (show ¬ (g : Int) = 0 by omega)) ?_) | (refine ACond.no (decide_eq_false (show ¬ (0 : Int) = c3 by omega)) ?_) | (refine ASplit.no rfl ?_) | (refine ASplit.yes rfl ?_) | (refine AReq.mk (show (0:Int) ≤ 0 ∧ (0:Int) < 2 by decide) ?_) | (refine AReq.mk (show (0:Int) ≤ 1 ∧ (1:Int) < 2 by decide) ?_) | (refine AReq.mk rfl ?_) | (refine AUpd.to [sV a, sV b] (Nat.le_of_ble_eq_true rfl) rfl ?_) | (refine AUpd.setAt 0 rfl (Nat.le_of_ble_eq_true rfl) ?_) | (refine AIdx.iff.2 ⟨Nat.le_of_ble_eq_true rfl, ?_⟩) | (refine ACall.val (by kernel_rfl) hcp rfl rfl ?_) | (refine snap_neq ?_) | (refine snap_eql ?_)); conv => whnf)
    refine ASplit.no (by simp only [and_self, decide_true, Bool.not_true]) ?_
    conv => whnf
    repeat ((first | refine AO.cons hT ?_ | refine AO.nil ?_ | refine AW.seq ?_ | refine AW.region ?_ | refine AW.cond ?_ | refine AW.block ?_ | refine AW.loop ?_ | refine AW.skip ?_ | refine AW.exit ?_ | refine AW.ret ?_ | refine AF.one hT rfl ?_ | refine AF.nil ?_ | refine AF.imm hT rfl rfl rfl ?_ | refine AH.of hT rfl ?_ | refine AD.cons hT rfl ?_ | refine AD.nil ?_ | refine AQ.cons hT rfl ?_ | refine AQ.nil ?_ | (refine ACall.val (by kernel_rfl) f10 rfl rfl ?_) | (refine ACall.val (by kernel_rfl) h11 rfl rfl ?_) | (refine ACall.val (by kernel_rfl) h13 rfl rfl ?_) | (refine ACond.yes rfl ?_) | (refine ASplit.yes (decide_eq_true (by omega)) ?_) | (refine ACall.val (by kernel_rfl) h11 rfl rfl ?_) | (refine ACall.val (by kernel_rfl) h13 rfl rfl ?_) | (refine ACall.val (by kernel_rfl) hp rfl rfl ?_) | (refine ACond.no (decide_eq_false (show ¬ (g : Int) = 0 by omega)) ?_) | (refine ACond.no (decide_eq_false (show ¬ (0 : Int) = c3 by omega)) ?_) | (refine ASplit.no rfl ?_) | (refine ASplit.yes rfl ?_) | (refine AReq.mk (show (0:Int) ≤ 0 ∧ (0:Int) < 2 by decide) ?_) | (refine AReq.mk (show (0:Int) ≤ 1 ∧ (1:Int) < 2 by decide) ?_) | (refine AReq.mk rfl ?_) | (refine AUpd.to [sV a, sV b] (Nat.le_of_ble_eq_true rfl) rfl ?_) | (refine AUpd.setAt 0 rfl (Nat.le_of_ble_eq_true rfl) ?_) | (refine AIdx.iff.2 ⟨Nat.le_of_ble_eq_true rfl, ?_⟩) | (refine ACall.val (by kernel_rfl) hcp rfl rfl ?_) | (refine snap_neq ?_) | (refine snap_eql ?_) | (refine ACond.no rfl ?_) | (refine ACall.val (by kernel_rfl) ht17 rfl rfl ?_)); conv => whnf)
    refine ACond.dec (fun h4 => ?_) (fun h4 => ?_)
    · conv => whnf
      repeat ((first | refine AO.cons hT ?_ | refine AO.nil ?_ | refine AW.seq ?_ | refine AW.region ?_ | refine AW.cond ?_ | refine AW.block ?_ | refine AW.loop ?_ | refine AW.skip ?_ | refine AW.exit ?_ | refine AW.ret ?_ | refine AF.one hT rfl ?_ | refine AF.nil ?_ | refine AF.imm hT rfl rfl rfl ?_ | refine AH.of hT rfl ?_ | refine AD.cons hT rfl ?_ | refine AD.nil ?_ | refine AQ.cons hT rfl ?_ | refine AQ.nil ?_ | (refine ACall.val (by kernel_rfl) f10 rfl rfl ?_) | (refine ACall.val (by kernel_rfl) h11 rfl rfl ?_) | (refine ACall.val (by kernel_rfl) h13 rfl rfl ?_) | (refine ACond.yes rfl ?_) | (refine ASplit.yes (decide_eq_true (by omega)) ?_) | (refine ACall.val (by kernel_rfl) h11 rfl rfl ?_) | (refine ACall.val (by kernel_rfl) h13 rfl rfl ?_) | (refine ACall.val (by kernel_rfl) hp rfl rfl ?_) | (refine ACond.no (decide_eq_false (show ¬ (g : Int) = 0 by omega)) ?_) | (refine ACond.no (decide_eq_false (show ¬ (0 : Int) = c3 by omega)) ?_) | (refine ASplit.no rfl ?_) | (refine ASplit.yes rfl ?_) | (refine AReq.mk (show (0:Int) ≤ 0 ∧ (0:Int) < 2 by decide) ?_) | (refine AReq.mk (show (0:Int) ≤ 1 ∧ (1:Int) < 2 by decide) ?_) | (refine AReq.mk rfl ?_) | (refine AUpd.to [sV a, sV b] (Nat.le_of_ble_eq_true rfl) rfl ?_) | (refine AUpd.setAt 0 rfl (Nat.le_of_ble_eq_true rfl) ?_) | (refine AIdx.iff.2 ⟨Nat.le_of_ble_eq_true rfl, ?_⟩) | (refine ACall.val (by kernel_rfl) hcp rfl rfl ?_) | (refine snap_neq ?_) | (refine snap_eql ?_) | (refine ACond.no rfl ?_) | (refine ACall.val (by kernel_rfl) ht17 rfl rfl ?_)); conv => whnf)
      exact hfin
    have hk := hnot t (by rw [hX]; exact h4)
    rw [hk] at hct
    conv => whnf
    repeat ((first | refine AO.cons hT ?_ | refine AO.nil ?_ | refine AW.seq ?_ | refine AW.region ?_ | refine AW.cond ?_ | refine AW.block ?_ | refine AW.loop ?_ | refine AW.skip ?_ | refine AW.exit ?_ | refine AW.ret ?_ | refine AF.one hT rfl ?_ | refine AF.nil ?_ | refine AF.imm hT rfl rfl rfl ?_ | refine AH.of hT rfl ?_ | refine AD.cons hT rfl ?_ | refine AD.nil ?_ | refine AQ.cons hT rfl ?_ | refine AQ.nil ?_ | (refine ACall.val (by kernel_rfl) f10 rfl rfl ?_) | (refine ACall.val (by kernel_rfl) h11 rfl rfl ?_) | (refine ACall.val (by kernel_rfl) h13 rfl rfl ?_) | (refine ACond.yes rfl ?_) | (refine ASplit.yes (decide_eq_true (by omega)) ?_) | (refine ACall.val (by kernel_rfl) h11 rfl rfl ?_) | (refine ACall.val (by kernel_rfl) h13 rfl rfl ?_) | (refine ACall.val (by kernel_rfl) hp rfl rfl ?_) | (refine ACond.no (decide_eq_false (show ¬ (g : Int) = 0 by omega)) ?_) | (refine ACond.no (decide_eq_false (show ¬ (0 : Int) = c3 by omega)) ?_) | (refine ASplit.no rfl ?_) | (refine ASplit.yes rfl ?_) | (refine AReq.mk (show (0:Int) ≤ 0 ∧ (0:Int) < 2 by decide) ?_) | (refine AReq.mk (show (0:Int) ≤ 1 ∧ (1:Int) < 2 by decide) ?_) | (refine AReq.mk rfl ?_) | (refine AUpd.to [sV a, sV b] (Nat.le_of_ble_eq_true rfl) rfl ?_) | (refine AUpd.setAt 0 rfl (Nat.le_of_ble_eq_true rfl) ?_) | (refine AIdx.iff.2 ⟨Nat.le_of_ble_eq_true rfl, ?_⟩) | (refine ACall.val (by kernel_rfl) hcp rfl rfl ?_) | (refine snap_neq ?_) | (refine snap_eql ?_) | (refine ACond.no rfl ?_) | (refine ACall.val (by kernel_rfl) ht17 rfl rfl ?_) | (refine ACall.val (by kernel_rfl) hct rfl rfl ?_) | (refine ASplit.yes (decide_eq_true ⟨rfl, rfl⟩) ?_) | (refine ASplit.yes (decide_eq_true rfl) ?_)); conv => whnf)
    exact hfin
  · have hp := f16 (g : Int) t (by omega)
    rw [show putF (g : Int) t = (putB g t, 0) by unfold putF; rw [if_neg (by omega), if_neg (by omega)]; rfl] at hp
    have hps := putB_size g t
    have hsf := slotF_put g t e0 hg1 hg2 (by omega)
    rw [app_nil] at hsf
    have hcp := f11 a (putB g t) (by omega) (by rw [hps]; unfold whole; omega)
    rw [hput _ _ hsf] at hcp
    rw [hn] at h13
    have hct := f11 a t (by omega) (by omega)
    generalize putB g t = S at *
    generalize hC : chooseF a b = c at *
    generalize hX : slotF t = x at *
    obtain ⟨c1, c2, c3⟩ := c
    simp only at hat
    conv => whnf
    repeat ((first | refine AO.cons hT ?_ | refine AO.nil ?_ | refine AW.seq ?_ | refine AW.region ?_ | refine AW.cond ?_ | refine AW.block ?_ | refine AW.loop ?_ | refine AW.skip ?_ | refine AW.exit ?_ | refine AW.ret ?_ | refine AF.one hT rfl ?_ | refine AF.nil ?_ | refine AF.imm hT rfl rfl rfl ?_ | refine AH.of hT rfl ?_ | refine AD.cons hT rfl ?_ | refine AD.nil ?_ | refine AQ.cons hT rfl ?_ | refine AQ.nil ?_ | (refine ACall.val (by kernel_rfl) f10 rfl rfl ?_) | (refine ACall.val (by kernel_rfl) h11 rfl rfl ?_) | (refine ACall.val (by kernel_rfl) h13 rfl rfl ?_) | (refine ACond.yes rfl ?_) | (refine ASplit.yes (decide_eq_true (by omega)) ?_) | (refine ACall.val (by kernel_rfl) h11 rfl rfl ?_) | (refine ACall.val (by kernel_rfl) h13 rfl rfl ?_) | (refine ACall.val (by kernel_rfl) hp rfl rfl ?_) | (refine ACond.no (decide_eq_false (show ¬ (g : Int) = 0 by omega)) ?_) | (refine ACond.no (decide_eq_false (show ¬ (0 : Int) = c3 by omega)) ?_) | (refine ASplit.no rfl ?_) | (refine ASplit.yes rfl ?_) | (refine AReq.mk (show (0:Int) ≤ 0 ∧ (0:Int) < 2 by decide) ?_) | (refine AReq.mk (show (0:Int) ≤ 1 ∧ (1:Int) < 2 by decide) ?_) | (refine AReq.mk rfl ?_) | (refine AUpd.to [sV a, sV b] (Nat.le_of_ble_eq_true rfl) rfl ?_) | (refine AUpd.setAt 0 rfl (Nat.le_of_ble_eq_true rfl) ?_) | (refine AIdx.iff.2 ⟨Nat.le_of_ble_eq_true rfl, ?_⟩) | (refine ACall.val (by kernel_rfl) hcp rfl rfl ?_) | (refine snap_neq ?_) | (refine snap_eql ?_) | (refine ACond.no rfl ?_) | (refine ACall.val (by kernel_rfl) ht17 rfl rfl ?_) | (refine ACall.val (by kernel_rfl) hct rfl rfl ?_) | (refine ASplit.yes (decide_eq_true ⟨rfl, rfl⟩) ?_) | (refine ASplit.yes (decide_eq_true rfl) ?_) | (refine ACall.val (by kernel_rfl) h11 rfl rfl ?_) | (refine ACall.val (by kernel_rfl) h13 rfl rfl ?_) | (refine ACall.val (by kernel_rfl) hp rfl rfl ?_) | (refine ACond.no (decide_eq_false (show ¬ (g : Int) = 0 by omega)) ?_) | (refine ACond.no (decide_eq_false (show ¬ (1 : Int) = c3 by omega)) ?_) | (refine ASplit.no rfl ?_) | (refine ASplit.yes rfl ?_) | (refine AReq.mk (show (0:Int) ≤ 0 ∧ (0:Int) < 2 by decide) ?_) | (refine AReq.mk (show (0:Int) ≤ 1 ∧ (1:Int) < 2 by decide) ?_) | (refine AReq.mk rfl ?_) | (refine AUpd.to [sV a, sV b] (Nat.le_of_ble_eq_true rfl) rfl ?_) | (refine AUpd.setAt 1 rfl (Nat.le_of_ble_eq_true rfl) ?_) | (refine AIdx.iff.2 ⟨Nat.le_of_ble_eq_true rfl, ?_⟩) | (refine ACall.val (by kernel_rfl) hcp rfl rfl ?_) | (refine snap_neq ?_) | (refine snap_eql ?_)); conv => whnf)
    refine ASplit.no (by simp only [and_self, decide_true, Bool.not_true]) ?_
    conv => whnf
    repeat ((first | refine AO.cons hT ?_ | refine AO.nil ?_ | refine AW.seq ?_ | refine AW.region ?_ | refine AW.cond ?_ | refine AW.block ?_ | refine AW.loop ?_ | refine AW.skip ?_ | refine AW.exit ?_ | refine AW.ret ?_ | refine AF.one hT rfl ?_ | refine AF.nil ?_ | refine AF.imm hT rfl rfl rfl ?_ | refine AH.of hT rfl ?_ | refine AD.cons hT rfl ?_ | refine AD.nil ?_ | refine AQ.cons hT rfl ?_ | refine AQ.nil ?_ | (refine ACall.val (by kernel_rfl) f10 rfl rfl ?_) | (refine ACall.val (by kernel_rfl) h11 rfl rfl ?_) | (refine ACall.val (by kernel_rfl) h13 rfl rfl ?_) | (refine ACond.yes rfl ?_) | (refine ASplit.yes (decide_eq_true (by omega)) ?_) | (refine ACall.val (by kernel_rfl) h11 rfl rfl ?_) | (refine ACall.val (by kernel_rfl) h13 rfl rfl ?_) | (refine ACall.val (by kernel_rfl) hp rfl rfl ?_) | (refine ACond.no (decide_eq_false (show ¬ (g : Int) = 0 by omega)) ?_) | (refine ACond.no (decide_eq_false (show ¬ (0 : Int) = c3 by omega)) ?_) | (refine ASplit.no rfl ?_) | (refine ASplit.yes rfl ?_) | (refine AReq.mk (show (0:Int) ≤ 0 ∧ (0:Int) < 2 by decide) ?_) | (refine AReq.mk (show (0:Int) ≤ 1 ∧ (1:Int) < 2 by decide) ?_) | (refine AReq.mk rfl ?_) | (refine AUpd.to [sV a, sV b] (Nat.le_of_ble_eq_true rfl) rfl ?_) | (refine AUpd.setAt 0 rfl (Nat.le_of_ble_eq_true rfl) ?_) | (refine AIdx.iff.2 ⟨Nat.le_of_ble_eq_true rfl, ?_⟩) | (refine ACall.val (by kernel_rfl) hcp rfl rfl ?_) | (refine snap_neq ?_) | (refine snap_eql ?_) | (refine ACond.no rfl ?_) | (refine ACall.val (by kernel_rfl) ht17 rfl rfl ?_) | (refine ACall.val (by kernel_rfl) hct rfl rfl ?_) | (refine ASplit.yes (decide_eq_true ⟨rfl, rfl⟩) ?_) | (refine ASplit.yes (decide_eq_true rfl) ?_) | (refine ACall.val (by kernel_rfl) h11 rfl rfl ?_) | (refine ACall.val (by kernel_rfl) h13 rfl rfl ?_) | (refine ACall.val (by kernel_rfl) hp rfl rfl ?_) | (refine ACond.no (decide_eq_false (show ¬ (g : Int) = 0 by omega)) ?_) | (refine ACond.no (decide_eq_false (show ¬ (1 : Int) = c3 by omega)) ?_) | (refine ASplit.no rfl ?_) | (refine ASplit.yes rfl ?_) | (refine AReq.mk (show (0:Int) ≤ 0 ∧ (0:Int) < 2 by decide) ?_) | (refine AReq.mk (show (0:Int) ≤ 1 ∧ (1:Int) < 2 by decide) ?_) | (refine AReq.mk rfl ?_) | (refine AUpd.to [sV a, sV b] (Nat.le_of_ble_eq_true rfl) rfl ?_) | (refine AUpd.setAt 1 rfl (Nat.le_of_ble_eq_true rfl) ?_) | (refine AIdx.iff.2 ⟨Nat.le_of_ble_eq_true rfl, ?_⟩) | (refine ACall.val (by kernel_rfl) hcp rfl rfl ?_) | (refine snap_neq ?_) | (refine snap_eql ?_) | (refine ACond.no rfl ?_) | (refine ACall.val (by kernel_rfl) ht17 rfl rfl ?_)); conv => whnf)
    refine ACond.dec (fun h4 => ?_) (fun h4 => ?_)
    · conv => whnf
      repeat ((first | refine AO.cons hT ?_ | refine AO.nil ?_ | refine AW.seq ?_ | refine AW.region ?_ | refine AW.cond ?_ | refine AW.block ?_ | refine AW.loop ?_ | refine AW.skip ?_ | refine AW.exit ?_ | refine AW.ret ?_ | refine AF.one hT rfl ?_ | refine AF.nil ?_ | refine AF.imm hT rfl rfl rfl ?_ | refine AH.of hT rfl ?_ | refine AD.cons hT rfl ?_ | refine AD.nil ?_ | refine AQ.cons hT rfl ?_ | refine AQ.nil ?_ | (refine ACall.val (by kernel_rfl) f10 rfl rfl ?_) | (refine ACall.val (by kernel_rfl) h11 rfl rfl ?_) | (refine ACall.val (by kernel_rfl) h13 rfl rfl ?_) | (refine ACond.yes rfl ?_) | (refine ASplit.yes (decide_eq_true (by omega)) ?_) | (refine ACall.val (by kernel_rfl) h11 rfl rfl ?_) | (refine ACall.val (by kernel_rfl) h13 rfl rfl ?_) | (refine ACall.val (by kernel_rfl) hp rfl rfl ?_) | (refine ACond.no (decide_eq_false (show ¬ (g : Int) = 0 by omega)) ?_) | (refine ACond.no (decide_eq_false (show ¬ (0 : Int) = c3 by omega)) ?_) | (refine ASplit.no rfl ?_) | (refine ASplit.yes rfl ?_) | (refine AReq.mk (show (0:Int) ≤ 0 ∧ (0:Int) < 2 by decide) ?_) | (refine AReq.mk (show (0:Int) ≤ 1 ∧ (1:Int) < 2 by decide) ?_) | (refine AReq.mk rfl ?_) | (refine AUpd.to [sV a, sV b] (Nat.le_of_ble_eq_true rfl) rfl ?_) | (refine AUpd.setAt 0 rfl (Nat.le_of_ble_eq_true rfl) ?_) | (refine AIdx.iff.2 ⟨Nat.le_of_ble_eq_true rfl, ?_⟩) | (refine ACall.val (by kernel_rfl) hcp rfl rfl ?_) | (refine snap_neq ?_) | (refine snap_eql ?_) | (refine ACond.no rfl ?_) | (refine ACall.val (by kernel_rfl) ht17 rfl rfl ?_) | (refine ACall.val (by kernel_rfl) hct rfl rfl ?_) | (refine ASplit.yes (decide_eq_true ⟨rfl, rfl⟩) ?_) | (refine ASplit.yes (decide_eq_true rfl) ?_) | (refine ACall.val (by kernel_rfl) h11 rfl rfl ?_) | (refine ACall.val (by kernel_rfl) h13 rfl rfl ?_) | (refine ACall.val (by kernel_rfl) hp rfl rfl ?_) | (refine ACond.no (decide_eq_false (show ¬ (g : Int) = 0 by omega)) ?_) | (refine ACond.no (decide_eq_false (show ¬ (1 : Int) = c3 by omega)) ?_) | (refine ASplit.no rfl ?_) | (refine ASplit.yes rfl ?_) | (refine AReq.mk (show (0:Int) ≤ 0 ∧ (0:Int) < 2 by decide) ?_) | (refine AReq.mk (show (0:Int) ≤ 1 ∧ (1:Int) < 2 by decide) ?_) | (refine AReq.mk rfl ?_) | (refine AUpd.to [sV a, sV b] (Nat.le_of_ble_eq_true rfl) rfl ?_) | (refine AUpd.setAt 1 rfl (Nat.le_of_ble_eq_true rfl) ?_) | (refine AIdx.iff.2 ⟨Nat.le_of_ble_eq_true rfl, ?_⟩) | (refine ACall.val (by kernel_rfl) hcp rfl rfl ?_) | (refine snap_neq ?_) | (refine snap_eql ?_) | (refine ACond.no rfl ?_) | (refine ACall.val (by kernel_rfl) ht17 rfl rfl ?_)); conv => whnf)
      exact hfin
    have hk := hnot t (by rw [hX]; exact h4)
    rw [hk] at hct
    conv => whnf
    repeat ((first | refine AO.cons hT ?_ | refine AO.nil ?_ | refine AW.seq ?_ | refine AW.region ?_ | refine AW.cond ?_ | refine AW.block ?_ | refine AW.loop ?_ | refine AW.skip ?_ | refine AW.exit ?_ | refine AW.ret ?_ | refine AF.one hT rfl ?_ | refine AF.nil ?_ | refine AF.imm hT rfl rfl rfl ?_ | refine AH.of hT rfl ?_ | refine AD.cons hT rfl ?_ | refine AD.nil ?_ | refine AQ.cons hT rfl ?_ | refine AQ.nil ?_ | (refine ACall.val (by kernel_rfl) f10 rfl rfl ?_) | (refine ACall.val (by kernel_rfl) h11 rfl rfl ?_) | (refine ACall.val (by kernel_rfl) h13 rfl rfl ?_) | (refine ACond.yes rfl ?_) | (refine ASplit.yes (decide_eq_true (by omega)) ?_) | (refine ACall.val (by kernel_rfl) h11 rfl rfl ?_) | (refine ACall.val (by kernel_rfl) h13 rfl rfl ?_) | (refine ACall.val (by kernel_rfl) hp rfl rfl ?_) | (refine ACond.no (decide_eq_false (show ¬ (g : Int) = 0 by omega)) ?_) | (refine ACond.no (decide_eq_false (show ¬ (0 : Int) = c3 by omega)) ?_) | (refine ASplit.no rfl ?_) | (refine ASplit.yes rfl ?_) | (refine AReq.mk (show (0:Int) ≤ 0 ∧ (0:Int) < 2 by decide) ?_) | (refine AReq.mk (show (0:Int) ≤ 1 ∧ (1:Int) < 2 by decide) ?_) | (refine AReq.mk rfl ?_) | (refine AUpd.to [sV a, sV b] (Nat.le_of_ble_eq_true rfl) rfl ?_) | (refine AUpd.setAt 0 rfl (Nat.le_of_ble_eq_true rfl) ?_) | (refine AIdx.iff.2 ⟨Nat.le_of_ble_eq_true rfl, ?_⟩) | (refine ACall.val (by kernel_rfl) hcp rfl rfl ?_) | (refine snap_neq ?_) | (refine snap_eql ?_) | (refine ACond.no rfl ?_) | (refine ACall.val (by kernel_rfl) ht17 rfl rfl ?_) | (refine ACall.val (by kernel_rfl) hct rfl rfl ?_) | (refine ASplit.yes (decide_eq_true ⟨rfl, rfl⟩) ?_) | (refine ASplit.yes (decide_eq_true rfl) ?_) | (refine ACall.val (by kernel_rfl) h11 rfl rfl ?_) | (refine ACall.val (by kernel_rfl) h13 rfl rfl ?_) | (refine ACall.val (by kernel_rfl) hp rfl rfl ?_) | (refine ACond.no (decide_eq_false (show ¬ (g : Int) = 0 by omega)) ?_) | (refine ACond.no (decide_eq_false (show ¬ (1 : Int) = c3 by omega)) ?_) | (refine ASplit.no rfl ?_) | (refine ASplit.yes rfl ?_) | (refine AReq.mk (show (0:Int) ≤ 0 ∧ (0:Int) < 2 by decide) ?_) | (refine AReq.mk (show (0:Int) ≤ 1 ∧ (1:Int) < 2 by decide) ?_) | (refine AReq.mk rfl ?_) | (refine AUpd.to [sV a, sV b] (Nat.le_of_ble_eq_true rfl) rfl ?_) | (refine AUpd.setAt 1 rfl (Nat.le_of_ble_eq_true rfl) ?_) | (refine AIdx.iff.2 ⟨Nat.le_of_ble_eq_true rfl, ?_⟩) | (refine ACall.val (by kernel_rfl) hcp rfl rfl ?_) | (refine snap_neq ?_) | (refine snap_eql ?_) | (refine ACond.no rfl ?_) | (refine ACall.val (by kernel_rfl) ht17 rfl rfl ?_) | (refine ACall.val (by kernel_rfl) hct rfl rfl ?_) | (refine ASplit.yes (decide_eq_true ⟨rfl, rfl⟩) ?_) | (refine ASplit.yes (decide_eq_true rfl) ?_)); conv => whnf)
    exact hfin
end Go.Aw.D1

