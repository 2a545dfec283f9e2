/-
  The statement FrameBack: a frame is taken of its sectors, and only what was put is taken, without any condition.
-/
import Derived.Test.YtmppkjcldeljbaaDoorFrD
import Derived.Test.YtmppkjcldeljbaaDoorAwG
set_option linter.unusedSimpArgs false
set_option linter.unusedVariables false
set_option linter.unusedSimpArgs false
set_option linter.unusedVariables false
set_option maxHeartbeats 8000000
namespace Go.Aw.D1
open Go Go.Proofs
theorem zeros_flat (n : Nat) : (List.replicate n [AV.v (.int .u8 0)]).flatten = (zs n).map byteC := by
  rw [List.flatten_replicate_singleton, zs, List.map_replicate]; rfl
theorem AStr.zeros {n : Nat} {K : ByteArray → Prop} (k : K (ofL (zs n))) : AStr ((List.replicate n [AV.v (.int .u8 0)]).flatten) K := by
  rw [zeros_flat]; exact AStr.mk k
theorem ACut.zeros {n c : Nat} {K : List AV → Prop} (h : c = n) (k : K ((List.replicate n [AV.v (.int .u8 0)]).flatten)) : ACut ((List.replicate n [AV.v (.int .u8 0)]).flatten) 0 c K :=
  ACut.all (by rw [zeros_flat, List.length_map, zs, List.length_replicate, h]) k
theorem f7 (e q : Int) (b s : ByteArray) (at_ : Int) (hbm : b.size ≤ maxLen) (hat : at_ ≤ 9223372036854775807) : Spec P 7 [.agg [nV e, nV q, sV b], sV s, nV at_] [] fun r _ => r = .v (.bool true) := by
  refine spec_of hT (f := 7) (fn := Go.Proofs.Tryd.f7) (c := body Go.Proofs.Tryd.f7) (by kernel_rfl) (by kernel_rfl) ?_
  have hfin : ∀ {H : List ABlk}, AFin 0 (.v (.bool true)) H (fun r _ => r = .v (.bool true)) := AFin.mk rfl
  conv => whnf
  repeat ((first | refine AO.cons hT ?_ | refine AO.nil ?_ | refine AW.seq ?_ | refine AW.region ?_ | refine AW.cond ?_ | refine AW.block ?_ | refine AW.loop ?_ | refine AW.skip ?_ | refine AW.exit ?_ | refine AW.ret ?_ | refine AF.one hT rfl ?_ | refine AF.nil ?_ | refine AF.imm hT rfl rfl rfl ?_ | refine AH.of hT rfl ?_ | refine AD.cons hT rfl ?_ | refine AD.nil ?_ | refine AQ.cons hT rfl ?_ | refine AQ.nil ?_ | (refine ACall.val (by kernel_rfl) f19 rfl rfl ?_)); conv => whnf)
  refine ASplit.dec (fun h1 => ?_) (fun h1 => ?_)
  · conv => whnf
    repeat (first | (refine AO.cons hT ?_; conv => whnf) | (refine AO.nil ?_; conv => whnf) | (refine AW.seq ?_; conv => whnf) | (refine AW.region ?_; conv => whnf) | (refine AW.cond ?_; conv => whnf) | (refine AW.block ?_; conv => whnf) | (refine AW.loop ?_; conv => whnf) | (refine AW.skip ?_; conv => whnf) | (refine AW.exit ?_; conv => whnf) | (refine AW.ret ?_; conv => whnf) | (refine AF.one hT rfl ?_; conv => whnf) | (refine AF.nil ?_; conv => whnf) | (refine AF.imm hT rfl rfl rfl ?_; conv => whnf) | (refine AH.of hT rfl ?_; conv => whnf) | (refine ASplit.yes rfl ?_; conv => whnf) | (refine ACond.yes rfl ?_; conv => whnf) | (refine ASplit.no rfl ?_; conv => whnf) | (refine ACond.no rfl ?_; conv => whnf) | (refine ASplit.yes (by decide) ?_; conv => whnf) | (refine ACond.yes (by decide) ?_; conv => whnf) | (refine AReq.mk (by decide) ?_; conv => whnf) | (refine AIdx.iff.2 ⟨by decide, ?_⟩; conv => whnf) | (refine ACall.val (by kernel_rfl) f19 rfl rfl ?_; conv => whnf))
    exact hfin
  conv => whnf
  repeat ((first | refine AO.cons hT ?_ | refine AO.nil ?_ | refine AW.seq ?_ | refine AW.region ?_ | refine AW.cond ?_ | refine AW.block ?_ | refine AW.loop ?_ | refine AW.skip ?_ | refine AW.exit ?_ | refine AW.ret ?_ | refine AF.one hT rfl ?_ | refine AF.nil ?_ | refine AF.imm hT rfl rfl rfl ?_ | refine AH.of hT rfl ?_ | refine AD.cons hT rfl ?_ | refine AD.nil ?_ | refine AQ.cons hT rfl ?_ | refine AQ.nil ?_ | (refine ACall.val (by kernel_rfl) f19 rfl rfl ?_)); conv => whnf)
  refine ACond.dec (fun h2 => ?_) (fun h2 => ?_)
  · conv => whnf
    repeat ((first | refine AO.cons hT ?_ | refine AO.nil ?_ | refine AW.seq ?_ | refine AW.region ?_ | refine AW.cond ?_ | refine AW.block ?_ | refine AW.loop ?_ | refine AW.skip ?_ | refine AW.exit ?_ | refine AW.ret ?_ | refine AF.one hT rfl ?_ | refine AF.nil ?_ | refine AF.imm hT rfl rfl rfl ?_ | refine AH.of hT rfl ?_ | refine AD.cons hT rfl ?_ | refine AD.nil ?_ | refine AQ.cons hT rfl ?_ | refine AQ.nil ?_ | (refine ACall.val (by kernel_rfl) f19 rfl rfl ?_)); conv => whnf)
    exact hfin
  have h26 := f26 e q b (by omega)
  have hfc := fputF_cases e q b
  conv => whnf
  repeat ((first | refine AO.cons hT ?_ | refine AO.nil ?_ | refine AW.cond ?_ | refine AW.block ?_ | refine AW.loop ?_ | refine AW.skip ?_ | refine AW.exit ?_ | refine AW.ret ?_ | refine AF.one hT rfl ?_ | refine AF.nil ?_ | refine AF.imm hT rfl rfl rfl ?_ | refine AH.of hT rfl ?_ | refine AD.cons hT rfl ?_ | refine AD.nil ?_ | refine AQ.cons hT rfl ?_ | refine AQ.nil ?_ | (refine ACall.val (by kernel_rfl) h26 rfl rfl ?_)); conv => whnf)
  refine AW.seq ?_
  conv => whnf
  refine AW.region ?_
  conv => whnf
  repeat ((first | refine AO.cons hT ?_ | refine AO.nil ?_ | refine AW.cond ?_ | refine AW.block ?_ | refine AW.loop ?_ | refine AW.skip ?_ | refine AW.exit ?_ | refine AW.ret ?_ | refine AF.one hT rfl ?_ | refine AF.nil ?_ | refine AF.imm hT rfl rfl rfl ?_ | refine AH.of hT rfl ?_ | refine AD.cons hT rfl ?_ | refine AD.nil ?_ | refine AQ.cons hT rfl ?_ | refine AQ.nil ?_ | (refine ACall.val (by kernel_rfl) h26 rfl rfl ?_)); conv => whnf)
  refine AW.seqJ (fun E H => E = pad [.any, sV s, nV at_, .ptr 0 0, .any, .any, .any] 121 ∧ H = [.cells 44 [nV e, nV q, sV b]]) ?_ ?_
  · conv => whnf
    repeat ((first | refine AO.cons hT ?_ | refine AO.nil ?_ | refine AW.seq ?_ | refine AW.region ?_ | refine AW.cond ?_ | refine AW.block ?_ | refine AW.loop ?_ | refine AW.skip ?_ | refine AW.exit ?_ | refine AW.ret ?_ | refine AF.one hT rfl ?_ | refine AF.nil ?_ | refine AF.imm hT rfl rfl rfl ?_ | refine AH.of hT rfl ?_ | refine AD.cons hT rfl ?_ | refine AD.nil ?_ | refine AQ.cons hT rfl ?_ | refine AQ.nil ?_ | (refine ACall.val (by kernel_rfl) h26 rfl rfl ?_)); conv => whnf)
    refine ACond.dec (fun h3 => ?_) (fun h3 => ?_)
    · rcases hfc with ⟨e', q', rfl, rfl, hmf, hp⟩ | ⟨hc, _, _⟩
      · rw [hp]
        have hps := fputB_size e' q' b
        have hmy := mayF_ok hmf
        have hpb := pcs_bound b.size
        have hget := fget_put (ofL (zs 128) ++ fputB e' q' b ++ ofL (zs 64)) 2 e' q' b (by rw [size_append, size_append, hps, size_ofL, size_ofL]; simp [zs] <;> omega) hmf (by
          rw [app_list, app_list, ofL_list, List.append_assoc, List.drop_left' (by simp [zs]), List.take_left' (by rw [size_list, hps])])
        have h20 := f20 (ofL (zs 128) ++ fputB e' q' b ++ ofL (zs 64)) 2 (by rw [size_append, size_append, hps, size_ofL, size_ofL]; simp [zs] <;> omega) (by decide)
        rw [show ((2 : Nat) : Int) = 2 from rfl] at hget
        rw [hget] at h20
        have z1 : (ofL (zs 128)).size = 128 := by rw [size_ofL]; simp [zs]
        have z2 : (ofL (zs 64)).size = 64 := by rw [size_ofL]; simp [zs]
        have h27 := f27 b (by omega)
        generalize hS : fputB e' q' b = S at *
        refine AW.seqJ (fun E H => E = pad [.any, sV s, nV at_, .ptr 0 0, .any, .any, .any, sV S, .any, .ptr 1 0, nV ((2 + pcs b.size : Nat) : Int), nV 0] 121 ∧ H = [.cells 44 [nV e', nV q', sV b], .cells 44 [nV e', nV q', sV b]]) ?_ ?_
        · skip
          have hleaf : ∀ {E : List AV} {H : List ABlk} (l : Nat), Conv 0 E H (pad [.any, sV s, nV at_, .ptr 0 0, .any, .any, .any, sV S, .any, .ptr 1 0, nV ((2 + pcs b.size : Nat) : Int), nV 0] 121) [.cells 44 [nV e', nV q', sV b], .cells 44 [nV e', nV q', sV b]] → AOut 0 E H (fun E H => E = pad [.any, sV s, nV at_, .ptr 0 0, .any, .any, .any, sV S, .any, .ptr 1 0, nV ((2 + pcs b.size : Nat) : Int), nV 0] 121 ∧ H = [.cells 44 [nV e', nV q', sV b], .cells 44 [nV e', nV q', sV b]]) := fun _ h => AOut.to _ _ h ⟨rfl, rfl⟩
          have hr1 : (ofL (zs 128)).size + S.size ≤ 9223372036854775807 := by rw [z1, hps]; omega
          have hr2 : (ofL (zs 128) ++ S).size + (ofL (zs 64)).size ≤ 9223372036854775807 := by rw [size_append, z1, z2, hps]; omega
          refine AW.orders hm (by kernel_rfl) 16 rfl ?_
          refine AG.one hT 2 rfl (by kernel_rfl) ?_
          conv => whnf
          refine AG.alt 0 [4, 12] (by kernel_rfl) ?_
          refine AGs.cons hT rfl ?_ ?_
          · skip
            conv => whnf
            refine AReq.mk ⟨by decide, by decide, (by show 128 * 1 ≤ _; decide), by decide⟩ ?_
            conv => whnf
            refine AG.alt 1 [4, 12] (by kernel_rfl) ?_
            refine AGs.cons hT rfl ?_ ?_
            · skip
              conv => whnf
              refine ACut.zeros rfl ?_
              conv => whnf
              refine AStr.zeros ?_
              conv => whnf
              refine AG.one hT 3 rfl (by kernel_rfl) ?_
              conv => whnf
              refine AReq.mk hr1 ?_
              conv => whnf
              refine AG.alt 4 [12] (by kernel_rfl) ?_
              refine AGs.cons hT rfl ?_ ?_
              · skip
                conv => whnf
                refine AReq.mk ⟨by decide, by decide, (by show 64 * 1 ≤ _; decide), by decide⟩ ?_
                conv => whnf
                refine AG.alt 5 [12] (by kernel_rfl) ?_
                refine AGs.cons hT rfl ?_ ?_
                · skip
                  conv => whnf
                  refine ACut.zeros rfl ?_
                  conv => whnf
                  refine AStr.zeros ?_
                  conv => whnf
                  refine AG.one hT 6 rfl (by kernel_rfl) ?_
                  conv => whnf
                  refine AReq.mk hr2 ?_
                  conv => whnf
                  refine AG.alt 7 [12] (by kernel_rfl) ?_
                  refine AGs.cons hT rfl ?_ ?_
                  · skip
                    conv => whnf
                    refine ACall.val (by kernel_rfl) h20 rfl rfl ?_
                    conv => whnf
                    refine AG.one hT 8 rfl (by kernel_rfl) ?_
                    conv => whnf
                    refine AG.one hT 9 rfl (by kernel_rfl) ?_
                    conv => whnf
                    refine AG.one hT 10 rfl (by kernel_rfl) ?_
                    conv => whnf
                    refine AG.one hT 11 rfl (by kernel_rfl) ?_
                    conv => whnf
                    refine AG.one hT 12 rfl (by kernel_rfl) ?_
                    conv => whnf
                    refine AG.one hT 13 rfl (by kernel_rfl) ?_
                    conv => whnf
                    refine AG.one hT 14 rfl (by kernel_rfl) ?_
                    conv => whnf
                    refine AG.one hT 15 rfl (by kernel_rfl) ?_
                    conv => whnf
                    refine AG.done (by kernel_rfl) ?_
                    conv => whnf
                    first | exact hleaf 1 (Conv.ren [0, 1] _ (by simp) (by simp) (by repeat' (first | exact Fit.nil | refine Fit.any ?_ | refine Fit.same ?_)) (.same rfl (.same rfl .nil))) | exact hleaf 2 (Conv.ren [0, 2] _ (by simp) (by simp) (by repeat' (first | exact Fit.nil | refine Fit.any ?_ | refine Fit.same ?_)) (.same rfl (.same rfl .nil))) | exact hleaf 3 (Conv.ren [0, 3] _ (by simp) (by simp) (by repeat' (first | exact Fit.nil | refine Fit.any ?_ | refine Fit.same ?_)) (.same rfl (.same rfl .nil)))
                  refine AGs.cons hT rfl ?_ ?_
                  · skip
                    conv => whnf
                    refine AG.one hT 7 rfl (by kernel_rfl) ?_
                    conv => whnf
                    refine ACall.val (by kernel_rfl) h20 rfl rfl ?_
                    conv => whnf
                    refine AG.one hT 8 rfl (by kernel_rfl) ?_
                    conv => whnf
                    refine AG.one hT 9 rfl (by kernel_rfl) ?_
                    conv => whnf
                    refine AG.one hT 10 rfl (by kernel_rfl) ?_
                    conv => whnf
                    refine AG.one hT 11 rfl (by kernel_rfl) ?_
                    conv => whnf
                    refine AG.one hT 13 rfl (by kernel_rfl) ?_
                    conv => whnf
                    refine AG.one hT 14 rfl (by kernel_rfl) ?_
                    conv => whnf
                    refine AG.one hT 15 rfl (by kernel_rfl) ?_
                    conv => whnf
                    refine AG.done (by kernel_rfl) ?_
                    conv => whnf
                    first | exact hleaf 1 (Conv.ren [0, 1] _ (by simp) (by simp) (by repeat' (first | exact Fit.nil | refine Fit.any ?_ | refine Fit.same ?_)) (.same rfl (.same rfl .nil))) | exact hleaf 2 (Conv.ren [0, 2] _ (by simp) (by simp) (by repeat' (first | exact Fit.nil | refine Fit.any ?_ | refine Fit.same ?_)) (.same rfl (.same rfl .nil))) | exact hleaf 3 (Conv.ren [0, 3] _ (by simp) (by simp) (by repeat' (first | exact Fit.nil | refine Fit.any ?_ | refine Fit.same ?_)) (.same rfl (.same rfl .nil)))
                  exact AGs.nil
                refine AGs.cons hT rfl ?_ ?_
                · skip
                  conv => whnf
                  refine AG.one hT 5 rfl (by kernel_rfl) ?_
                  conv => whnf
                  refine ACut.zeros rfl ?_
                  conv => whnf
                  refine AStr.zeros ?_
                  conv => whnf
                  refine AG.one hT 6 rfl (by kernel_rfl) ?_
                  conv => whnf
                  refine AReq.mk hr2 ?_
                  conv => whnf
                  refine AG.one hT 7 rfl (by kernel_rfl) ?_
                  conv => whnf
                  refine ACall.val (by kernel_rfl) h20 rfl rfl ?_
                  conv => whnf
                  refine AG.one hT 8 rfl (by kernel_rfl) ?_
                  conv => whnf
                  refine AG.one hT 9 rfl (by kernel_rfl) ?_
                  conv => whnf
                  refine AG.one hT 10 rfl (by kernel_rfl) ?_
                  conv => whnf
                  refine AG.one hT 11 rfl (by kernel_rfl) ?_
                  conv => whnf
                  refine AG.one hT 13 rfl (by kernel_rfl) ?_
                  conv => whnf
                  refine AG.one hT 14 rfl (by kernel_rfl) ?_
                  conv => whnf
                  refine AG.one hT 15 rfl (by kernel_rfl) ?_
                  conv => whnf
                  refine AG.done (by kernel_rfl) ?_
                  conv => whnf
                  first | exact hleaf 1 (Conv.ren [0, 1] _ (by simp) (by simp) (by repeat' (first | exact Fit.nil | refine Fit.any ?_ | refine Fit.same ?_)) (.same rfl (.same rfl .nil))) | exact hleaf 2 (Conv.ren [0, 2] _ (by simp) (by simp) (by repeat' (first | exact Fit.nil | refine Fit.any ?_ | refine Fit.same ?_)) (.same rfl (.same rfl .nil))) | exact hleaf 3 (Conv.ren [0, 3] _ (by simp) (by simp) (by repeat' (first | exact Fit.nil | refine Fit.any ?_ | refine Fit.same ?_)) (.same rfl (.same rfl .nil)))
                exact AGs.nil
              refine AGs.cons hT rfl ?_ ?_
              · skip
                conv => whnf
                refine AG.one hT 4 rfl (by kernel_rfl) ?_
                conv => whnf
                refine AReq.mk ⟨by decide, by decide, (by show 64 * 1 ≤ _; decide), by decide⟩ ?_
                conv => whnf
                refine AG.one hT 5 rfl (by kernel_rfl) ?_
                conv => whnf
                refine ACut.zeros rfl ?_
                conv => whnf
                refine AStr.zeros ?_
                conv => whnf
                refine AG.one hT 6 rfl (by kernel_rfl) ?_
                conv => whnf
                refine AReq.mk hr2 ?_
                conv => whnf
                refine AG.one hT 7 rfl (by kernel_rfl) ?_
                conv => whnf
                refine ACall.val (by kernel_rfl) h20 rfl rfl ?_
                conv => whnf
                refine AG.one hT 8 rfl (by kernel_rfl) ?_
                conv => whnf
                refine AG.one hT 9 rfl (by kernel_rfl) ?_
                conv => whnf
                refine AG.one hT 10 rfl (by kernel_rfl) ?_
                conv => whnf
                refine AG.one hT 11 rfl (by kernel_rfl) ?_
                conv => whnf
                refine AG.one hT 13 rfl (by kernel_rfl) ?_
                conv => whnf
                refine AG.one hT 14 rfl (by kernel_rfl) ?_
                conv => whnf
                refine AG.one hT 15 rfl (by kernel_rfl) ?_
                conv => whnf
                refine AG.done (by kernel_rfl) ?_
                conv => whnf
                first | exact hleaf 1 (Conv.ren [0, 1] _ (by simp) (by simp) (by repeat' (first | exact Fit.nil | refine Fit.any ?_ | refine Fit.same ?_)) (.same rfl (.same rfl .nil))) | exact hleaf 2 (Conv.ren [0, 2] _ (by simp) (by simp) (by repeat' (first | exact Fit.nil | refine Fit.any ?_ | refine Fit.same ?_)) (.same rfl (.same rfl .nil))) | exact hleaf 3 (Conv.ren [0, 3] _ (by simp) (by simp) (by repeat' (first | exact Fit.nil | refine Fit.any ?_ | refine Fit.same ?_)) (.same rfl (.same rfl .nil)))
              exact AGs.nil
            refine AGs.cons hT rfl ?_ ?_
            · skip
              conv => whnf
              refine AReq.mk ⟨by decide, by decide, (by show 64 * 1 ≤ _; decide), by decide⟩ ?_
              conv => whnf
              refine AG.alt 1 [5, 12] (by kernel_rfl) ?_
              refine AGs.cons hT rfl ?_ ?_
              · skip
                conv => whnf
                refine ACut.zeros rfl ?_
                conv => whnf
                refine AStr.zeros ?_
                conv => whnf
                refine AG.one hT 3 rfl (by kernel_rfl) ?_
                conv => whnf
                refine AReq.mk hr1 ?_
                conv => whnf
                refine AG.alt 5 [12] (by kernel_rfl) ?_
                refine AGs.cons hT rfl ?_ ?_
                · skip
                  conv => whnf
                  refine ACut.zeros rfl ?_
                  conv => whnf
                  refine AStr.zeros ?_
                  conv => whnf
                  refine AG.one hT 6 rfl (by kernel_rfl) ?_
                  conv => whnf
                  refine AReq.mk hr2 ?_
                  conv => whnf
                  refine AG.alt 7 [12] (by kernel_rfl) ?_
                  refine AGs.cons hT rfl ?_ ?_
                  · skip
                    conv => whnf
                    refine ACall.val (by kernel_rfl) h20 rfl rfl ?_
                    conv => whnf
                    refine AG.one hT 8 rfl (by kernel_rfl) ?_
                    conv => whnf
                    refine AG.one hT 9 rfl (by kernel_rfl) ?_
                    conv => whnf
                    refine AG.one hT 10 rfl (by kernel_rfl) ?_
                    conv => whnf
                    refine AG.one hT 11 rfl (by kernel_rfl) ?_
                    conv => whnf
                    refine AG.one hT 12 rfl (by kernel_rfl) ?_
                    conv => whnf
                    refine AG.one hT 13 rfl (by kernel_rfl) ?_
                    conv => whnf
                    refine AG.one hT 14 rfl (by kernel_rfl) ?_
                    conv => whnf
                    refine AG.one hT 15 rfl (by kernel_rfl) ?_
                    conv => whnf
                    refine AG.done (by kernel_rfl) ?_
                    conv => whnf
                    first | exact hleaf 1 (Conv.ren [0, 1] _ (by simp) (by simp) (by repeat' (first | exact Fit.nil | refine Fit.any ?_ | refine Fit.same ?_)) (.same rfl (.same rfl .nil))) | exact hleaf 2 (Conv.ren [0, 2] _ (by simp) (by simp) (by repeat' (first | exact Fit.nil | refine Fit.any ?_ | refine Fit.same ?_)) (.same rfl (.same rfl .nil))) | exact hleaf 3 (Conv.ren [0, 3] _ (by simp) (by simp) (by repeat' (first | exact Fit.nil | refine Fit.any ?_ | refine Fit.same ?_)) (.same rfl (.same rfl .nil)))
                  refine AGs.cons hT rfl ?_ ?_
                  · skip
                    conv => whnf
                    refine AG.one hT 7 rfl (by kernel_rfl) ?_
                    conv => whnf
                    refine ACall.val (by kernel_rfl) h20 rfl rfl ?_
                    conv => whnf
                    refine AG.one hT 8 rfl (by kernel_rfl) ?_
                    conv => whnf
                    refine AG.one hT 9 rfl (by kernel_rfl) ?_
                    conv => whnf
                    refine AG.one hT 10 rfl (by kernel_rfl) ?_
                    conv => whnf
                    refine AG.one hT 11 rfl (by kernel_rfl) ?_
                    conv => whnf
                    refine AG.one hT 13 rfl (by kernel_rfl) ?_
                    conv => whnf
                    refine AG.one hT 14 rfl (by kernel_rfl) ?_
                    conv => whnf
                    refine AG.one hT 15 rfl (by kernel_rfl) ?_
                    conv => whnf
                    refine AG.done (by kernel_rfl) ?_
                    conv => whnf
                    first | exact hleaf 1 (Conv.ren [0, 1] _ (by simp) (by simp) (by repeat' (first | exact Fit.nil | refine Fit.any ?_ | refine Fit.same ?_)) (.same rfl (.same rfl .nil))) | exact hleaf 2 (Conv.ren [0, 2] _ (by simp) (by simp) (by repeat' (first | exact Fit.nil | refine Fit.any ?_ | refine Fit.same ?_)) (.same rfl (.same rfl .nil))) | exact hleaf 3 (Conv.ren [0, 3] _ (by simp) (by simp) (by repeat' (first | exact Fit.nil | refine Fit.any ?_ | refine Fit.same ?_)) (.same rfl (.same rfl .nil)))
                  exact AGs.nil
                refine AGs.cons hT rfl ?_ ?_
                · skip
                  conv => whnf
                  refine AG.one hT 5 rfl (by kernel_rfl) ?_
                  conv => whnf
                  refine ACut.zeros rfl ?_
                  conv => whnf
                  refine AStr.zeros ?_
                  conv => whnf
                  refine AG.one hT 6 rfl (by kernel_rfl) ?_
                  conv => whnf
                  refine AReq.mk hr2 ?_
                  conv => whnf
                  refine AG.one hT 7 rfl (by kernel_rfl) ?_
                  conv => whnf
                  refine ACall.val (by kernel_rfl) h20 rfl rfl ?_
                  conv => whnf
                  refine AG.one hT 8 rfl (by kernel_rfl) ?_
                  conv => whnf
                  refine AG.one hT 9 rfl (by kernel_rfl) ?_
                  conv => whnf
                  refine AG.one hT 10 rfl (by kernel_rfl) ?_
                  conv => whnf
                  refine AG.one hT 11 rfl (by kernel_rfl) ?_
                  conv => whnf
                  refine AG.one hT 13 rfl (by kernel_rfl) ?_
                  conv => whnf
                  refine AG.one hT 14 rfl (by kernel_rfl) ?_
                  conv => whnf
                  refine AG.one hT 15 rfl (by kernel_rfl) ?_
                  conv => whnf
                  refine AG.done (by kernel_rfl) ?_
                  conv => whnf
                  first | exact hleaf 1 (Conv.ren [0, 1] _ (by simp) (by simp) (by repeat' (first | exact Fit.nil | refine Fit.any ?_ | refine Fit.same ?_)) (.same rfl (.same rfl .nil))) | exact hleaf 2 (Conv.ren [0, 2] _ (by simp) (by simp) (by repeat' (first | exact Fit.nil | refine Fit.any ?_ | refine Fit.same ?_)) (.same rfl (.same rfl .nil))) | exact hleaf 3 (Conv.ren [0, 3] _ (by simp) (by simp) (by repeat' (first | exact Fit.nil | refine Fit.any ?_ | refine Fit.same ?_)) (.same rfl (.same rfl .nil)))
                exact AGs.nil
              refine AGs.cons hT rfl ?_ ?_
              · skip
                conv => whnf
                refine ACut.zeros rfl ?_
                conv => whnf
                refine AStr.zeros ?_
                conv => whnf
                refine AG.alt 1 [12] (by kernel_rfl) ?_
                refine AGs.cons hT rfl ?_ ?_
                · skip
                  conv => whnf
                  refine ACut.zeros rfl ?_
                  conv => whnf
                  refine AStr.zeros ?_
                  conv => whnf
                  refine AG.one hT 3 rfl (by kernel_rfl) ?_
                  conv => whnf
                  refine AReq.mk hr1 ?_
                  conv => whnf
                  refine AG.one hT 6 rfl (by kernel_rfl) ?_
                  conv => whnf
                  refine AReq.mk hr2 ?_
                  conv => whnf
                  refine AG.alt 7 [12] (by kernel_rfl) ?_
                  refine AGs.cons hT rfl ?_ ?_
                  · skip
                    conv => whnf
                    refine ACall.val (by kernel_rfl) h20 rfl rfl ?_
                    conv => whnf
                    refine AG.one hT 8 rfl (by kernel_rfl) ?_
                    conv => whnf
                    refine AG.one hT 9 rfl (by kernel_rfl) ?_
                    conv => whnf
                    refine AG.one hT 10 rfl (by kernel_rfl) ?_
                    conv => whnf
                    refine AG.one hT 11 rfl (by kernel_rfl) ?_
                    conv => whnf
                    refine AG.one hT 12 rfl (by kernel_rfl) ?_
                    conv => whnf
                    refine AG.one hT 13 rfl (by kernel_rfl) ?_
                    conv => whnf
                    refine AG.one hT 14 rfl (by kernel_rfl) ?_
                    conv => whnf
                    refine AG.one hT 15 rfl (by kernel_rfl) ?_
                    conv => whnf
                    refine AG.done (by kernel_rfl) ?_
                    conv => whnf
                    first | exact hleaf 1 (Conv.ren [0, 1] _ (by simp) (by simp) (by repeat' (first | exact Fit.nil | refine Fit.any ?_ | refine Fit.same ?_)) (.same rfl (.same rfl .nil))) | exact hleaf 2 (Conv.ren [0, 2] _ (by simp) (by simp) (by repeat' (first | exact Fit.nil | refine Fit.any ?_ | refine Fit.same ?_)) (.same rfl (.same rfl .nil))) | exact hleaf 3 (Conv.ren [0, 3] _ (by simp) (by simp) (by repeat' (first | exact Fit.nil | refine Fit.any ?_ | refine Fit.same ?_)) (.same rfl (.same rfl .nil)))
                  refine AGs.cons hT rfl ?_ ?_
                  · skip
                    conv => whnf
                    refine AG.one hT 7 rfl (by kernel_rfl) ?_
                    conv => whnf
                    refine ACall.val (by kernel_rfl) h20 rfl rfl ?_
                    conv => whnf
                    refine AG.one hT 8 rfl (by kernel_rfl) ?_
                    conv => whnf
                    refine AG.one hT 9 rfl (by kernel_rfl) ?_
                    conv => whnf
                    refine AG.one hT 10 rfl (by kernel_rfl) ?_
                    conv => whnf
                    refine AG.one hT 11 rfl (by kernel_rfl) ?_
                    conv => whnf
                    refine AG.one hT 13 rfl (by kernel_rfl) ?_
                    conv => whnf
                    refine AG.one hT 14 rfl (by kernel_rfl) ?_
                    conv => whnf
                    refine AG.one hT 15 rfl (by kernel_rfl) ?_
                    conv => whnf
                    refine AG.done (by kernel_rfl) ?_
                    conv => whnf
                    first | exact hleaf 1 (Conv.ren [0, 1] _ (by simp) (by simp) (by repeat' (first | exact Fit.nil | refine Fit.any ?_ | refine Fit.same ?_)) (.same rfl (.same rfl .nil))) | exact hleaf 2 (Conv.ren [0, 2] _ (by simp) (by simp) (by repeat' (first | exact Fit.nil | refine Fit.any ?_ | refine Fit.same ?_)) (.same rfl (.same rfl .nil))) | exact hleaf 3 (Conv.ren [0, 3] _ (by simp) (by simp) (by repeat' (first | exact Fit.nil | refine Fit.any ?_ | refine Fit.same ?_)) (.same rfl (.same rfl .nil)))
                  exact AGs.nil
                refine AGs.cons hT rfl ?_ ?_
                · skip
                  conv => whnf
                  refine AG.one hT 1 rfl (by kernel_rfl) ?_
                  conv => whnf
                  refine ACut.zeros rfl ?_
                  conv => whnf
                  refine AStr.zeros ?_
                  conv => whnf
                  refine AG.one hT 3 rfl (by kernel_rfl) ?_
                  conv => whnf
                  refine AReq.mk hr1 ?_
                  conv => whnf
                  refine AG.one hT 6 rfl (by kernel_rfl) ?_
                  conv => whnf
                  refine AReq.mk hr2 ?_
                  conv => whnf
                  refine AG.one hT 7 rfl (by kernel_rfl) ?_
                  conv => whnf
                  refine ACall.val (by kernel_rfl) h20 rfl rfl ?_
                  conv => whnf
                  refine AG.one hT 8 rfl (by kernel_rfl) ?_
                  conv => whnf
                  refine AG.one hT 9 rfl (by kernel_rfl) ?_
                  conv => whnf
                  refine AG.one hT 10 rfl (by kernel_rfl) ?_
                  conv => whnf
                  refine AG.one hT 11 rfl (by kernel_rfl) ?_
                  conv => whnf
                  refine AG.one hT 13 rfl (by kernel_rfl) ?_
                  conv => whnf
                  refine AG.one hT 14 rfl (by kernel_rfl) ?_
                  conv => whnf
                  refine AG.one hT 15 rfl (by kernel_rfl) ?_
                  conv => whnf
                  refine AG.done (by kernel_rfl) ?_
                  conv => whnf
                  first | exact hleaf 1 (Conv.ren [0, 1] _ (by simp) (by simp) (by repeat' (first | exact Fit.nil | refine Fit.any ?_ | refine Fit.same ?_)) (.same rfl (.same rfl .nil))) | exact hleaf 2 (Conv.ren [0, 2] _ (by simp) (by simp) (by repeat' (first | exact Fit.nil | refine Fit.any ?_ | refine Fit.same ?_)) (.same rfl (.same rfl .nil))) | exact hleaf 3 (Conv.ren [0, 3] _ (by simp) (by simp) (by repeat' (first | exact Fit.nil | refine Fit.any ?_ | refine Fit.same ?_)) (.same rfl (.same rfl .nil)))
                exact AGs.nil
              refine AGs.cons hT rfl ?_ ?_
              · skip
                conv => whnf
                refine AG.alt 1 [5] (by kernel_rfl) ?_
                refine AGs.cons hT rfl ?_ ?_
                · skip
                  conv => whnf
                  refine ACut.zeros rfl ?_
                  conv => whnf
                  refine AStr.zeros ?_
                  conv => whnf
                  refine AG.one hT 3 rfl (by kernel_rfl) ?_
                  conv => whnf
                  refine AReq.mk hr1 ?_
                  conv => whnf
                  refine AG.one hT 5 rfl (by kernel_rfl) ?_
                  conv => whnf
                  refine ACut.zeros rfl ?_
                  conv => whnf
                  refine AStr.zeros ?_
                  conv => whnf
                  refine AG.one hT 6 rfl (by kernel_rfl) ?_
                  conv => whnf
                  refine AReq.mk hr2 ?_
                  conv => whnf
                  refine AG.one hT 7 rfl (by kernel_rfl) ?_
                  conv => whnf
                  refine ACall.val (by kernel_rfl) h20 rfl rfl ?_
                  conv => whnf
                  refine AG.one hT 8 rfl (by kernel_rfl) ?_
                  conv => whnf
                  refine AG.one hT 9 rfl (by kernel_rfl) ?_
                  conv => whnf
                  refine AG.one hT 10 rfl (by kernel_rfl) ?_
                  conv => whnf
                  refine AG.one hT 11 rfl (by kernel_rfl) ?_
                  conv => whnf
                  refine AG.one hT 13 rfl (by kernel_rfl) ?_
                  conv => whnf
                  refine AG.one hT 14 rfl (by kernel_rfl) ?_
                  conv => whnf
                  refine AG.one hT 15 rfl (by kernel_rfl) ?_
                  conv => whnf
                  refine AG.done (by kernel_rfl) ?_
                  conv => whnf
                  first | exact hleaf 1 (Conv.ren [0, 1] _ (by simp) (by simp) (by repeat' (first | exact Fit.nil | refine Fit.any ?_ | refine Fit.same ?_)) (.same rfl (.same rfl .nil))) | exact hleaf 2 (Conv.ren [0, 2] _ (by simp) (by simp) (by repeat' (first | exact Fit.nil | refine Fit.any ?_ | refine Fit.same ?_)) (.same rfl (.same rfl .nil))) | exact hleaf 3 (Conv.ren [0, 3] _ (by simp) (by simp) (by repeat' (first | exact Fit.nil | refine Fit.any ?_ | refine Fit.same ?_)) (.same rfl (.same rfl .nil)))
                refine AGs.cons hT rfl ?_ ?_
                · skip
                  conv => whnf
                  refine ACut.zeros rfl ?_
                  conv => whnf
                  refine AStr.zeros ?_
                  conv => whnf
                  refine AG.one hT 1 rfl (by kernel_rfl) ?_
                  conv => whnf
                  refine ACut.zeros rfl ?_
                  conv => whnf
                  refine AStr.zeros ?_
                  conv => whnf
                  refine AG.one hT 3 rfl (by kernel_rfl) ?_
                  conv => whnf
                  refine AReq.mk hr1 ?_
                  conv => whnf
                  refine AG.one hT 6 rfl (by kernel_rfl) ?_
                  conv => whnf
                  refine AReq.mk hr2 ?_
                  conv => whnf
                  refine AG.one hT 7 rfl (by kernel_rfl) ?_
                  conv => whnf
                  refine ACall.val (by kernel_rfl) h20 rfl rfl ?_
                  conv => whnf
                  refine AG.one hT 8 rfl (by kernel_rfl) ?_
                  conv => whnf
                  refine AG.one hT 9 rfl (by kernel_rfl) ?_
                  conv => whnf
                  refine AG.one hT 10 rfl (by kernel_rfl) ?_
                  conv => whnf
                  refine AG.one hT 11 rfl (by kernel_rfl) ?_
                  conv => whnf
                  refine AG.one hT 13 rfl (by kernel_rfl) ?_
                  conv => whnf
                  refine AG.one hT 14 rfl (by kernel_rfl) ?_
                  conv => whnf
                  refine AG.one hT 15 rfl (by kernel_rfl) ?_
                  conv => whnf
                  refine AG.done (by kernel_rfl) ?_
                  conv => whnf
                  first | exact hleaf 1 (Conv.ren [0, 1] _ (by simp) (by simp) (by repeat' (first | exact Fit.nil | refine Fit.any ?_ | refine Fit.same ?_)) (.same rfl (.same rfl .nil))) | exact hleaf 2 (Conv.ren [0, 2] _ (by simp) (by simp) (by repeat' (first | exact Fit.nil | refine Fit.any ?_ | refine Fit.same ?_)) (.same rfl (.same rfl .nil))) | exact hleaf 3 (Conv.ren [0, 3] _ (by simp) (by simp) (by repeat' (first | exact Fit.nil | refine Fit.any ?_ | refine Fit.same ?_)) (.same rfl (.same rfl .nil)))
                exact AGs.nil
              exact AGs.nil
            refine AGs.cons hT rfl ?_ ?_
            · skip
              conv => whnf
              refine AG.alt 1 [4] (by kernel_rfl) ?_
              refine AGs.cons hT rfl ?_ ?_
              · skip
                conv => whnf
                refine ACut.zeros rfl ?_
                conv => whnf
                refine AStr.zeros ?_
                conv => whnf
                refine AG.one hT 3 rfl (by kernel_rfl) ?_
                conv => whnf
                refine AReq.mk hr1 ?_
                conv => whnf
                refine AG.one hT 4 rfl (by kernel_rfl) ?_
                conv => whnf
                refine AReq.mk ⟨by decide, by decide, (by show 64 * 1 ≤ _; decide), by decide⟩ ?_
                conv => whnf
                refine AG.one hT 5 rfl (by kernel_rfl) ?_
                conv => whnf
                refine ACut.zeros rfl ?_
                conv => whnf
                refine AStr.zeros ?_
                conv => whnf
                refine AG.one hT 6 rfl (by kernel_rfl) ?_
                conv => whnf
                refine AReq.mk hr2 ?_
                conv => whnf
                refine AG.one hT 7 rfl (by kernel_rfl) ?_
                conv => whnf
                refine ACall.val (by kernel_rfl) h20 rfl rfl ?_
                conv => whnf
                refine AG.one hT 8 rfl (by kernel_rfl) ?_
                conv => whnf
                refine AG.one hT 9 rfl (by kernel_rfl) ?_
                conv => whnf
                refine AG.one hT 10 rfl (by kernel_rfl) ?_
                conv => whnf
                refine AG.one hT 11 rfl (by kernel_rfl) ?_
                conv => whnf
                refine AG.one hT 13 rfl (by kernel_rfl) ?_
                conv => whnf
                refine AG.one hT 14 rfl (by kernel_rfl) ?_
                conv => whnf
                refine AG.one hT 15 rfl (by kernel_rfl) ?_
                conv => whnf
                refine AG.done (by kernel_rfl) ?_
                conv => whnf
                first | exact hleaf 1 (Conv.ren [0, 1] _ (by simp) (by simp) (by repeat' (first | exact Fit.nil | refine Fit.any ?_ | refine Fit.same ?_)) (.same rfl (.same rfl .nil))) | exact hleaf 2 (Conv.ren [0, 2] _ (by simp) (by simp) (by repeat' (first | exact Fit.nil | refine Fit.any ?_ | refine Fit.same ?_)) (.same rfl (.same rfl .nil))) | exact hleaf 3 (Conv.ren [0, 3] _ (by simp) (by simp) (by repeat' (first | exact Fit.nil | refine Fit.any ?_ | refine Fit.same ?_)) (.same rfl (.same rfl .nil)))
              refine AGs.cons hT rfl ?_ ?_
              · skip
                conv => whnf
                refine AReq.mk ⟨by decide, by decide, (by show 64 * 1 ≤ _; decide), by decide⟩ ?_
                conv => whnf
                refine AG.alt 1 [5] (by kernel_rfl) ?_
                refine AGs.cons hT rfl ?_ ?_
                · skip
                  conv => whnf
                  refine ACut.zeros rfl ?_
                  conv => whnf
                  refine AStr.zeros ?_
                  conv => whnf
                  refine AG.one hT 3 rfl (by kernel_rfl) ?_
                  conv => whnf
                  refine AReq.mk hr1 ?_
                  conv => whnf
                  refine AG.one hT 5 rfl (by kernel_rfl) ?_
                  conv => whnf
                  refine ACut.zeros rfl ?_
                  conv => whnf
                  refine AStr.zeros ?_
                  conv => whnf
                  refine AG.one hT 6 rfl (by kernel_rfl) ?_
                  conv => whnf
                  refine AReq.mk hr2 ?_
                  conv => whnf
                  refine AG.one hT 7 rfl (by kernel_rfl) ?_
                  conv => whnf
                  refine ACall.val (by kernel_rfl) h20 rfl rfl ?_
                  conv => whnf
                  refine AG.one hT 8 rfl (by kernel_rfl) ?_
                  conv => whnf
                  refine AG.one hT 9 rfl (by kernel_rfl) ?_
                  conv => whnf
                  refine AG.one hT 10 rfl (by kernel_rfl) ?_
                  conv => whnf
                  refine AG.one hT 11 rfl (by kernel_rfl) ?_
                  conv => whnf
                  refine AG.one hT 13 rfl (by kernel_rfl) ?_
                  conv => whnf
                  refine AG.one hT 14 rfl (by kernel_rfl) ?_
                  conv => whnf
                  refine AG.one hT 15 rfl (by kernel_rfl) ?_
                  conv => whnf
                  refine AG.done (by kernel_rfl) ?_
                  conv => whnf
                  first | exact hleaf 1 (Conv.ren [0, 1] _ (by simp) (by simp) (by repeat' (first | exact Fit.nil | refine Fit.any ?_ | refine Fit.same ?_)) (.same rfl (.same rfl .nil))) | exact hleaf 2 (Conv.ren [0, 2] _ (by simp) (by simp) (by repeat' (first | exact Fit.nil | refine Fit.any ?_ | refine Fit.same ?_)) (.same rfl (.same rfl .nil))) | exact hleaf 3 (Conv.ren [0, 3] _ (by simp) (by simp) (by repeat' (first | exact Fit.nil | refine Fit.any ?_ | refine Fit.same ?_)) (.same rfl (.same rfl .nil)))
                refine AGs.cons hT rfl ?_ ?_
                · skip
                  conv => whnf
                  refine ACut.zeros rfl ?_
                  conv => whnf
                  refine AStr.zeros ?_
                  conv => whnf
                  refine AG.one hT 1 rfl (by kernel_rfl) ?_
                  conv => whnf
                  refine ACut.zeros rfl ?_
                  conv => whnf
                  refine AStr.zeros ?_
                  conv => whnf
                  refine AG.one hT 3 rfl (by kernel_rfl) ?_
                  conv => whnf
                  refine AReq.mk hr1 ?_
                  conv => whnf
                  refine AG.one hT 6 rfl (by kernel_rfl) ?_
                  conv => whnf
                  refine AReq.mk hr2 ?_
                  conv => whnf
                  refine AG.one hT 7 rfl (by kernel_rfl) ?_
                  conv => whnf
                  refine ACall.val (by kernel_rfl) h20 rfl rfl ?_
                  conv => whnf
                  refine AG.one hT 8 rfl (by kernel_rfl) ?_
                  conv => whnf
                  refine AG.one hT 9 rfl (by kernel_rfl) ?_
                  conv => whnf
                  refine AG.one hT 10 rfl (by kernel_rfl) ?_
                  conv => whnf
                  refine AG.one hT 11 rfl (by kernel_rfl) ?_
                  conv => whnf
                  refine AG.one hT 13 rfl (by kernel_rfl) ?_
                  conv => whnf
                  refine AG.one hT 14 rfl (by kernel_rfl) ?_
                  conv => whnf
                  refine AG.one hT 15 rfl (by kernel_rfl) ?_
                  conv => whnf
                  refine AG.done (by kernel_rfl) ?_
                  conv => whnf
                  first | exact hleaf 1 (Conv.ren [0, 1] _ (by simp) (by simp) (by repeat' (first | exact Fit.nil | refine Fit.any ?_ | refine Fit.same ?_)) (.same rfl (.same rfl .nil))) | exact hleaf 2 (Conv.ren [0, 2] _ (by simp) (by simp) (by repeat' (first | exact Fit.nil | refine Fit.any ?_ | refine Fit.same ?_)) (.same rfl (.same rfl .nil))) | exact hleaf 3 (Conv.ren [0, 3] _ (by simp) (by simp) (by repeat' (first | exact Fit.nil | refine Fit.any ?_ | refine Fit.same ?_)) (.same rfl (.same rfl .nil)))
                exact AGs.nil
              exact AGs.nil
            exact AGs.nil
          refine AGs.cons hT rfl ?_ ?_
          · skip
            conv => whnf
            refine AReq.mk ⟨by decide, by decide, (by show 64 * 1 ≤ _; decide), by decide⟩ ?_
            conv => whnf
            refine AG.alt 0 [5, 12] (by kernel_rfl) ?_
            refine AGs.cons hT rfl ?_ ?_
            · skip
              conv => whnf
              refine AReq.mk ⟨by decide, by decide, (by show 128 * 1 ≤ _; decide), by decide⟩ ?_
              conv => whnf
              refine AG.alt 1 [5, 12] (by kernel_rfl) ?_
              refine AGs.cons hT rfl ?_ ?_
              · skip
                conv => whnf
                refine ACut.zeros rfl ?_
                conv => whnf
                refine AStr.zeros ?_
                conv => whnf
                refine AG.one hT 3 rfl (by kernel_rfl) ?_
                conv => whnf
                refine AReq.mk hr1 ?_
                conv => whnf
                refine AG.alt 5 [12] (by kernel_rfl) ?_
                refine AGs.cons hT rfl ?_ ?_
                · skip
                  conv => whnf
                  refine ACut.zeros rfl ?_
                  conv => whnf
                  refine AStr.zeros ?_
                  conv => whnf
                  refine AG.one hT 6 rfl (by kernel_rfl) ?_
                  conv => whnf
                  refine AReq.mk hr2 ?_
                  conv => whnf
                  refine AG.alt 7 [12] (by kernel_rfl) ?_
                  refine AGs.cons hT rfl ?_ ?_
                  · skip
                    conv => whnf
                    refine ACall.val (by kernel_rfl) h20 rfl rfl ?_
                    conv => whnf
                    refine AG.one hT 8 rfl (by kernel_rfl) ?_
                    conv => whnf
                    refine AG.one hT 9 rfl (by kernel_rfl) ?_
                    conv => whnf
                    refine AG.one hT 10 rfl (by kernel_rfl) ?_
                    conv => whnf
                    refine AG.one hT 11 rfl (by kernel_rfl) ?_
                    conv => whnf
                    refine AG.one hT 12 rfl (by kernel_rfl) ?_
                    conv => whnf
                    refine AG.one hT 13 rfl (by kernel_rfl) ?_
                    conv => whnf
                    refine AG.one hT 14 rfl (by kernel_rfl) ?_
                    conv => whnf
                    refine AG.one hT 15 rfl (by kernel_rfl) ?_
                    conv => whnf
                    refine AG.done (by kernel_rfl) ?_
                    conv => whnf
                    first | exact hleaf 1 (Conv.ren [0, 1] _ (by simp) (by simp) (by repeat' (first | exact Fit.nil | refine Fit.any ?_ | refine Fit.same ?_)) (.same rfl (.same rfl .nil))) | exact hleaf 2 (Conv.ren [0, 2] _ (by simp) (by simp) (by repeat' (first | exact Fit.nil | refine Fit.any ?_ | refine Fit.same ?_)) (.same rfl (.same rfl .nil))) | exact hleaf 3 (Conv.ren [0, 3] _ (by simp) (by simp) (by repeat' (first | exact Fit.nil | refine Fit.any ?_ | refine Fit.same ?_)) (.same rfl (.same rfl .nil)))
                  refine AGs.cons hT rfl ?_ ?_
                  · skip
                    conv => whnf
                    refine AG.one hT 7 rfl (by kernel_rfl) ?_
                    conv => whnf
                    refine ACall.val (by kernel_rfl) h20 rfl rfl ?_
                    conv => whnf
                    refine AG.one hT 8 rfl (by kernel_rfl) ?_
                    conv => whnf
                    refine AG.one hT 9 rfl (by kernel_rfl) ?_
                    conv => whnf
                    refine AG.one hT 10 rfl (by kernel_rfl) ?_
                    conv => whnf
                    refine AG.one hT 11 rfl (by kernel_rfl) ?_
                    conv => whnf
                    refine AG.one hT 13 rfl (by kernel_rfl) ?_
                    conv => whnf
                    refine AG.one hT 14 rfl (by kernel_rfl) ?_
                    conv => whnf
                    refine AG.one hT 15 rfl (by kernel_rfl) ?_
                    conv => whnf
                    refine AG.done (by kernel_rfl) ?_
                    conv => whnf
                    first | exact hleaf 1 (Conv.ren [0, 1] _ (by simp) (by simp) (by repeat' (first | exact Fit.nil | refine Fit.any ?_ | refine Fit.same ?_)) (.same rfl (.same rfl .nil))) | exact hleaf 2 (Conv.ren [0, 2] _ (by simp) (by simp) (by repeat' (first | exact Fit.nil | refine Fit.any ?_ | refine Fit.same ?_)) (.same rfl (.same rfl .nil))) | exact hleaf 3 (Conv.ren [0, 3] _ (by simp) (by simp) (by repeat' (first | exact Fit.nil | refine Fit.any ?_ | refine Fit.same ?_)) (.same rfl (.same rfl .nil)))
                  exact AGs.nil
                refine AGs.cons hT rfl ?_ ?_
                · skip
                  conv => whnf
                  refine AG.one hT 5 rfl (by kernel_rfl) ?_
                  conv => whnf
                  refine ACut.zeros rfl ?_
                  conv => whnf
                  refine AStr.zeros ?_
                  conv => whnf
                  refine AG.one hT 6 rfl (by kernel_rfl) ?_
                  conv => whnf
                  refine AReq.mk hr2 ?_
                  conv => whnf
                  refine AG.one hT 7 rfl (by kernel_rfl) ?_
                  conv => whnf
                  refine ACall.val (by kernel_rfl) h20 rfl rfl ?_
                  conv => whnf
                  refine AG.one hT 8 rfl (by kernel_rfl) ?_
                  conv => whnf
                  refine AG.one hT 9 rfl (by kernel_rfl) ?_
                  conv => whnf
                  refine AG.one hT 10 rfl (by kernel_rfl) ?_
                  conv => whnf
                  refine AG.one hT 11 rfl (by kernel_rfl) ?_
                  conv => whnf
                  refine AG.one hT 13 rfl (by kernel_rfl) ?_
                  conv => whnf
                  refine AG.one hT 14 rfl (by kernel_rfl) ?_
                  conv => whnf
                  refine AG.one hT 15 rfl (by kernel_rfl) ?_
                  conv => whnf
                  refine AG.done (by kernel_rfl) ?_
                  conv => whnf
                  first | exact hleaf 1 (Conv.ren [0, 1] _ (by simp) (by simp) (by repeat' (first | exact Fit.nil | refine Fit.any ?_ | refine Fit.same ?_)) (.same rfl (.same rfl .nil))) | exact hleaf 2 (Conv.ren [0, 2] _ (by simp) (by simp) (by repeat' (first | exact Fit.nil | refine Fit.any ?_ | refine Fit.same ?_)) (.same rfl (.same rfl .nil))) | exact hleaf 3 (Conv.ren [0, 3] _ (by simp) (by simp) (by repeat' (first | exact Fit.nil | refine Fit.any ?_ | refine Fit.same ?_)) (.same rfl (.same rfl .nil)))
                exact AGs.nil
              refine AGs.cons hT rfl ?_ ?_
              · skip
                conv => whnf
                refine ACut.zeros rfl ?_
                conv => whnf
                refine AStr.zeros ?_
                conv => whnf
                refine AG.alt 1 [12] (by kernel_rfl) ?_
                refine AGs.cons hT rfl ?_ ?_
                · skip
                  conv => whnf
                  refine ACut.zeros rfl ?_
                  conv => whnf
                  refine AStr.zeros ?_
                  conv => whnf
                  refine AG.one hT 3 rfl (by kernel_rfl) ?_
                  conv => whnf
                  refine AReq.mk hr1 ?_
                  conv => whnf
                  refine AG.one hT 6 rfl (by kernel_rfl) ?_
                  conv => whnf
                  refine AReq.mk hr2 ?_
                  conv => whnf
                  refine AG.alt 7 [12] (by kernel_rfl) ?_
                  refine AGs.cons hT rfl ?_ ?_
                  · skip
                    conv => whnf
                    refine ACall.val (by kernel_rfl) h20 rfl rfl ?_
                    conv => whnf
                    refine AG.one hT 8 rfl (by kernel_rfl) ?_
                    conv => whnf
                    refine AG.one hT 9 rfl (by kernel_rfl) ?_
                    conv => whnf
                    refine AG.one hT 10 rfl (by kernel_rfl) ?_
                    conv => whnf
                    refine AG.one hT 11 rfl (by kernel_rfl) ?_
                    conv => whnf
                    refine AG.one hT 12 rfl (by kernel_rfl) ?_
                    conv => whnf
                    refine AG.one hT 13 rfl (by kernel_rfl) ?_
                    conv => whnf
                    refine AG.one hT 14 rfl (by kernel_rfl) ?_
                    conv => whnf
                    refine AG.one hT 15 rfl (by kernel_rfl) ?_
                    conv => whnf
                    refine AG.done (by kernel_rfl) ?_
                    conv => whnf
                    first | exact hleaf 1 (Conv.ren [0, 1] _ (by simp) (by simp) (by repeat' (first | exact Fit.nil | refine Fit.any ?_ | refine Fit.same ?_)) (.same rfl (.same rfl .nil))) | exact hleaf 2 (Conv.ren [0, 2] _ (by simp) (by simp) (by repeat' (first | exact Fit.nil | refine Fit.any ?_ | refine Fit.same ?_)) (.same rfl (.same rfl .nil))) | exact hleaf 3 (Conv.ren [0, 3] _ (by simp) (by simp) (by repeat' (first | exact Fit.nil | refine Fit.any ?_ | refine Fit.same ?_)) (.same rfl (.same rfl .nil)))
                  refine AGs.cons hT rfl ?_ ?_
                  · skip
                    conv => whnf
                    refine AG.one hT 7 rfl (by kernel_rfl) ?_
                    conv => whnf
                    refine ACall.val (by kernel_rfl) h20 rfl rfl ?_
                    conv => whnf
                    refine AG.one hT 8 rfl (by kernel_rfl) ?_
                    conv => whnf
                    refine AG.one hT 9 rfl (by kernel_rfl) ?_
                    conv => whnf
                    refine AG.one hT 10 rfl (by kernel_rfl) ?_
                    conv => whnf
                    refine AG.one hT 11 rfl (by kernel_rfl) ?_
                    conv => whnf
                    refine AG.one hT 13 rfl (by kernel_rfl) ?_
                    conv => whnf
                    refine AG.one hT 14 rfl (by kernel_rfl) ?_
                    conv => whnf
                    refine AG.one hT 15 rfl (by kernel_rfl) ?_
                    conv => whnf
                    refine AG.done (by kernel_rfl) ?_
                    conv => whnf
                    first | exact hleaf 1 (Conv.ren [0, 1] _ (by simp) (by simp) (by repeat' (first | exact Fit.nil | refine Fit.any ?_ | refine Fit.same ?_)) (.same rfl (.same rfl .nil))) | exact hleaf 2 (Conv.ren [0, 2] _ (by simp) (by simp) (by repeat' (first | exact Fit.nil | refine Fit.any ?_ | refine Fit.same ?_)) (.same rfl (.same rfl .nil))) | exact hleaf 3 (Conv.ren [0, 3] _ (by simp) (by simp) (by repeat' (first | exact Fit.nil | refine Fit.any ?_ | refine Fit.same ?_)) (.same rfl (.same rfl .nil)))
                  exact AGs.nil
                refine AGs.cons hT rfl ?_ ?_
                · skip
                  conv => whnf
                  refine AG.one hT 1 rfl (by kernel_rfl) ?_
                  conv => whnf
                  refine ACut.zeros rfl ?_
                  conv => whnf
                  refine AStr.zeros ?_
                  conv => whnf
                  refine AG.one hT 3 rfl (by kernel_rfl) ?_
                  conv => whnf
                  refine AReq.mk hr1 ?_
                  conv => whnf
                  refine AG.one hT 6 rfl (by kernel_rfl) ?_
                  conv => whnf
                  refine AReq.mk hr2 ?_
                  conv => whnf
                  refine AG.one hT 7 rfl (by kernel_rfl) ?_
                  conv => whnf
                  refine ACall.val (by kernel_rfl) h20 rfl rfl ?_
                  conv => whnf
                  refine AG.one hT 8 rfl (by kernel_rfl) ?_
                  conv => whnf
                  refine AG.one hT 9 rfl (by kernel_rfl) ?_
                  conv => whnf
                  refine AG.one hT 10 rfl (by kernel_rfl) ?_
                  conv => whnf
                  refine AG.one hT 11 rfl (by kernel_rfl) ?_
                  conv => whnf
                  refine AG.one hT 13 rfl (by kernel_rfl) ?_
                  conv => whnf
                  refine AG.one hT 14 rfl (by kernel_rfl) ?_
                  conv => whnf
                  refine AG.one hT 15 rfl (by kernel_rfl) ?_
                  conv => whnf
                  refine AG.done (by kernel_rfl) ?_
                  conv => whnf
                  first | exact hleaf 1 (Conv.ren [0, 1] _ (by simp) (by simp) (by repeat' (first | exact Fit.nil | refine Fit.any ?_ | refine Fit.same ?_)) (.same rfl (.same rfl .nil))) | exact hleaf 2 (Conv.ren [0, 2] _ (by simp) (by simp) (by repeat' (first | exact Fit.nil | refine Fit.any ?_ | refine Fit.same ?_)) (.same rfl (.same rfl .nil))) | exact hleaf 3 (Conv.ren [0, 3] _ (by simp) (by simp) (by repeat' (first | exact Fit.nil | refine Fit.any ?_ | refine Fit.same ?_)) (.same rfl (.same rfl .nil)))
                exact AGs.nil
              refine AGs.cons hT rfl ?_ ?_
              · skip
                conv => whnf
                refine AG.alt 1 [5] (by kernel_rfl) ?_
                refine AGs.cons hT rfl ?_ ?_
                · skip
                  conv => whnf
                  refine ACut.zeros rfl ?_
                  conv => whnf
                  refine AStr.zeros ?_
                  conv => whnf
                  refine AG.one hT 3 rfl (by kernel_rfl) ?_
                  conv => whnf
                  refine AReq.mk hr1 ?_
                  conv => whnf
                  refine AG.one hT 5 rfl (by kernel_rfl) ?_
                  conv => whnf
                  refine ACut.zeros rfl ?_
                  conv => whnf
                  refine AStr.zeros ?_
                  conv => whnf
                  refine AG.one hT 6 rfl (by kernel_rfl) ?_
                  conv => whnf
                  refine AReq.mk hr2 ?_
                  conv => whnf
                  refine AG.one hT 7 rfl (by kernel_rfl) ?_
                  conv => whnf
                  refine ACall.val (by kernel_rfl) h20 rfl rfl ?_
                  conv => whnf
                  refine AG.one hT 8 rfl (by kernel_rfl) ?_
                  conv => whnf
                  refine AG.one hT 9 rfl (by kernel_rfl) ?_
                  conv => whnf
                  refine AG.one hT 10 rfl (by kernel_rfl) ?_
                  conv => whnf
                  refine AG.one hT 11 rfl (by kernel_rfl) ?_
                  conv => whnf
                  refine AG.one hT 13 rfl (by kernel_rfl) ?_
                  conv => whnf
                  refine AG.one hT 14 rfl (by kernel_rfl) ?_
                  conv => whnf
                  refine AG.one hT 15 rfl (by kernel_rfl) ?_
                  conv => whnf
                  refine AG.done (by kernel_rfl) ?_
                  conv => whnf
                  first | exact hleaf 1 (Conv.ren [0, 1] _ (by simp) (by simp) (by repeat' (first | exact Fit.nil | refine Fit.any ?_ | refine Fit.same ?_)) (.same rfl (.same rfl .nil))) | exact hleaf 2 (Conv.ren [0, 2] _ (by simp) (by simp) (by repeat' (first | exact Fit.nil | refine Fit.any ?_ | refine Fit.same ?_)) (.same rfl (.same rfl .nil))) | exact hleaf 3 (Conv.ren [0, 3] _ (by simp) (by simp) (by repeat' (first | exact Fit.nil | refine Fit.any ?_ | refine Fit.same ?_)) (.same rfl (.same rfl .nil)))
                refine AGs.cons hT rfl ?_ ?_
                · skip
                  conv => whnf
                  refine ACut.zeros rfl ?_
                  conv => whnf
                  refine AStr.zeros ?_
                  conv => whnf
                  refine AG.one hT 1 rfl (by kernel_rfl) ?_
                  conv => whnf
                  refine ACut.zeros rfl ?_
                  conv => whnf
                  refine AStr.zeros ?_
                  conv => whnf
                  refine AG.one hT 3 rfl (by kernel_rfl) ?_
                  conv => whnf
                  refine AReq.mk hr1 ?_
                  conv => whnf
                  refine AG.one hT 6 rfl (by kernel_rfl) ?_
                  conv => whnf
                  refine AReq.mk hr2 ?_
                  conv => whnf
                  refine AG.one hT 7 rfl (by kernel_rfl) ?_
                  conv => whnf
                  refine ACall.val (by kernel_rfl) h20 rfl rfl ?_
                  conv => whnf
                  refine AG.one hT 8 rfl (by kernel_rfl) ?_
                  conv => whnf
                  refine AG.one hT 9 rfl (by kernel_rfl) ?_
                  conv => whnf
                  refine AG.one hT 10 rfl (by kernel_rfl) ?_
                  conv => whnf
                  refine AG.one hT 11 rfl (by kernel_rfl) ?_
                  conv => whnf
                  refine AG.one hT 13 rfl (by kernel_rfl) ?_
                  conv => whnf
                  refine AG.one hT 14 rfl (by kernel_rfl) ?_
                  conv => whnf
                  refine AG.one hT 15 rfl (by kernel_rfl) ?_
                  conv => whnf
                  refine AG.done (by kernel_rfl) ?_
                  conv => whnf
                  first | exact hleaf 1 (Conv.ren [0, 1] _ (by simp) (by simp) (by repeat' (first | exact Fit.nil | refine Fit.any ?_ | refine Fit.same ?_)) (.same rfl (.same rfl .nil))) | exact hleaf 2 (Conv.ren [0, 2] _ (by simp) (by simp) (by repeat' (first | exact Fit.nil | refine Fit.any ?_ | refine Fit.same ?_)) (.same rfl (.same rfl .nil))) | exact hleaf 3 (Conv.ren [0, 3] _ (by simp) (by simp) (by repeat' (first | exact Fit.nil | refine Fit.any ?_ | refine Fit.same ?_)) (.same rfl (.same rfl .nil)))
                exact AGs.nil
              exact AGs.nil
            refine AGs.cons hT rfl ?_ ?_
            · skip
              conv => whnf
              refine ACut.zeros rfl ?_
              conv => whnf
              refine AStr.zeros ?_
              conv => whnf
              refine AG.alt 0 [12] (by kernel_rfl) ?_
              refine AGs.cons hT rfl ?_ ?_
              · skip
                conv => whnf
                refine AReq.mk ⟨by decide, by decide, (by show 128 * 1 ≤ _; decide), by decide⟩ ?_
                conv => whnf
                refine AG.alt 1 [12] (by kernel_rfl) ?_
                refine AGs.cons hT rfl ?_ ?_
                · skip
                  conv => whnf
                  refine ACut.zeros rfl ?_
                  conv => whnf
                  refine AStr.zeros ?_
                  conv => whnf
                  refine AG.one hT 3 rfl (by kernel_rfl) ?_
                  conv => whnf
                  refine AReq.mk hr1 ?_
                  conv => whnf
                  refine AG.one hT 6 rfl (by kernel_rfl) ?_
                  conv => whnf
                  refine AReq.mk hr2 ?_
                  conv => whnf
                  refine AG.alt 7 [12] (by kernel_rfl) ?_
                  refine AGs.cons hT rfl ?_ ?_
                  · skip
                    conv => whnf
                    refine ACall.val (by kernel_rfl) h20 rfl rfl ?_
                    conv => whnf
                    refine AG.one hT 8 rfl (by kernel_rfl) ?_
                    conv => whnf
                    refine AG.one hT 9 rfl (by kernel_rfl) ?_
                    conv => whnf
                    refine AG.one hT 10 rfl (by kernel_rfl) ?_
                    conv => whnf
                    refine AG.one hT 11 rfl (by kernel_rfl) ?_
                    conv => whnf
                    refine AG.one hT 12 rfl (by kernel_rfl) ?_
                    conv => whnf
                    refine AG.one hT 13 rfl (by kernel_rfl) ?_
                    conv => whnf
                    refine AG.one hT 14 rfl (by kernel_rfl) ?_
                    conv => whnf
                    refine AG.one hT 15 rfl (by kernel_rfl) ?_
                    conv => whnf
                    refine AG.done (by kernel_rfl) ?_
                    conv => whnf
                    first | exact hleaf 1 (Conv.ren [0, 1] _ (by simp) (by simp) (by repeat' (first | exact Fit.nil | refine Fit.any ?_ | refine Fit.same ?_)) (.same rfl (.same rfl .nil))) | exact hleaf 2 (Conv.ren [0, 2] _ (by simp) (by simp) (by repeat' (first | exact Fit.nil | refine Fit.any ?_ | refine Fit.same ?_)) (.same rfl (.same rfl .nil))) | exact hleaf 3 (Conv.ren [0, 3] _ (by simp) (by simp) (by repeat' (first | exact Fit.nil | refine Fit.any ?_ | refine Fit.same ?_)) (.same rfl (.same rfl .nil)))
                  refine AGs.cons hT rfl ?_ ?_
                  · skip
                    conv => whnf
                    refine AG.one hT 7 rfl (by kernel_rfl) ?_
                    conv => whnf
                    refine ACall.val (by kernel_rfl) h20 rfl rfl ?_
                    conv => whnf
                    refine AG.one hT 8 rfl (by kernel_rfl) ?_
                    conv => whnf
                    refine AG.one hT 9 rfl (by kernel_rfl) ?_
                    conv => whnf
                    refine AG.one hT 10 rfl (by kernel_rfl) ?_
                    conv => whnf
                    refine AG.one hT 11 rfl (by kernel_rfl) ?_
                    conv => whnf
                    refine AG.one hT 13 rfl (by kernel_rfl) ?_
                    conv => whnf
                    refine AG.one hT 14 rfl (by kernel_rfl) ?_
                    conv => whnf
                    refine AG.one hT 15 rfl (by kernel_rfl) ?_
                    conv => whnf
                    refine AG.done (by kernel_rfl) ?_
                    conv => whnf
                    first | exact hleaf 1 (Conv.ren [0, 1] _ (by simp) (by simp) (by repeat' (first | exact Fit.nil | refine Fit.any ?_ | refine Fit.same ?_)) (.same rfl (.same rfl .nil))) | exact hleaf 2 (Conv.ren [0, 2] _ (by simp) (by simp) (by repeat' (first | exact Fit.nil | refine Fit.any ?_ | refine Fit.same ?_)) (.same rfl (.same rfl .nil))) | exact hleaf 3 (Conv.ren [0, 3] _ (by simp) (by simp) (by repeat' (first | exact Fit.nil | refine Fit.any ?_ | refine Fit.same ?_)) (.same rfl (.same rfl .nil)))
                  exact AGs.nil
                refine AGs.cons hT rfl ?_ ?_
                · skip
                  conv => whnf
                  refine AG.one hT 1 rfl (by kernel_rfl) ?_
                  conv => whnf
                  refine ACut.zeros rfl ?_
                  conv => whnf
                  refine AStr.zeros ?_
                  conv => whnf
                  refine AG.one hT 3 rfl (by kernel_rfl) ?_
                  conv => whnf
                  refine AReq.mk hr1 ?_
                  conv => whnf
                  refine AG.one hT 6 rfl (by kernel_rfl) ?_
                  conv => whnf
                  refine AReq.mk hr2 ?_
                  conv => whnf
                  refine AG.one hT 7 rfl (by kernel_rfl) ?_
                  conv => whnf
                  refine ACall.val (by kernel_rfl) h20 rfl rfl ?_
                  conv => whnf
                  refine AG.one hT 8 rfl (by kernel_rfl) ?_
                  conv => whnf
                  refine AG.one hT 9 rfl (by kernel_rfl) ?_
                  conv => whnf
                  refine AG.one hT 10 rfl (by kernel_rfl) ?_
                  conv => whnf
                  refine AG.one hT 11 rfl (by kernel_rfl) ?_
                  conv => whnf
                  refine AG.one hT 13 rfl (by kernel_rfl) ?_
                  conv => whnf
                  refine AG.one hT 14 rfl (by kernel_rfl) ?_
                  conv => whnf
                  refine AG.one hT 15 rfl (by kernel_rfl) ?_
                  conv => whnf
                  refine AG.done (by kernel_rfl) ?_
                  conv => whnf
                  first | exact hleaf 1 (Conv.ren [0, 1] _ (by simp) (by simp) (by repeat' (first | exact Fit.nil | refine Fit.any ?_ | refine Fit.same ?_)) (.same rfl (.same rfl .nil))) | exact hleaf 2 (Conv.ren [0, 2] _ (by simp) (by simp) (by repeat' (first | exact Fit.nil | refine Fit.any ?_ | refine Fit.same ?_)) (.same rfl (.same rfl .nil))) | exact hleaf 3 (Conv.ren [0, 3] _ (by simp) (by simp) (by repeat' (first | exact Fit.nil | refine Fit.any ?_ | refine Fit.same ?_)) (.same rfl (.same rfl .nil)))
                exact AGs.nil
              refine AGs.cons hT rfl ?_ ?_
              · skip
                conv => whnf
                refine AG.one hT 0 rfl (by kernel_rfl) ?_
                conv => whnf
                refine AReq.mk ⟨by decide, by decide, (by show 128 * 1 ≤ _; decide), by decide⟩ ?_
                conv => whnf
                refine AG.one hT 1 rfl (by kernel_rfl) ?_
                conv => whnf
                refine ACut.zeros rfl ?_
                conv => whnf
                refine AStr.zeros ?_
                conv => whnf
                refine AG.one hT 3 rfl (by kernel_rfl) ?_
                conv => whnf
                refine AReq.mk hr1 ?_
                conv => whnf
                refine AG.one hT 6 rfl (by kernel_rfl) ?_
                conv => whnf
                refine AReq.mk hr2 ?_
                conv => whnf
                refine AG.one hT 7 rfl (by kernel_rfl) ?_
                conv => whnf
                refine ACall.val (by kernel_rfl) h20 rfl rfl ?_
                conv => whnf
                refine AG.one hT 8 rfl (by kernel_rfl) ?_
                conv => whnf
                refine AG.one hT 9 rfl (by kernel_rfl) ?_
                conv => whnf
                refine AG.one hT 10 rfl (by kernel_rfl) ?_
                conv => whnf
                refine AG.one hT 11 rfl (by kernel_rfl) ?_
                conv => whnf
                refine AG.one hT 13 rfl (by kernel_rfl) ?_
                conv => whnf
                refine AG.one hT 14 rfl (by kernel_rfl) ?_
                conv => whnf
                refine AG.one hT 15 rfl (by kernel_rfl) ?_
                conv => whnf
                refine AG.done (by kernel_rfl) ?_
                conv => whnf
                first | exact hleaf 1 (Conv.ren [0, 1] _ (by simp) (by simp) (by repeat' (first | exact Fit.nil | refine Fit.any ?_ | refine Fit.same ?_)) (.same rfl (.same rfl .nil))) | exact hleaf 2 (Conv.ren [0, 2] _ (by simp) (by simp) (by repeat' (first | exact Fit.nil | refine Fit.any ?_ | refine Fit.same ?_)) (.same rfl (.same rfl .nil))) | exact hleaf 3 (Conv.ren [0, 3] _ (by simp) (by simp) (by repeat' (first | exact Fit.nil | refine Fit.any ?_ | refine Fit.same ?_)) (.same rfl (.same rfl .nil)))
              exact AGs.nil
            refine AGs.cons hT rfl ?_ ?_
            · skip
              conv => whnf
              refine AG.alt 0 [5] (by kernel_rfl) ?_
              refine AGs.cons hT rfl ?_ ?_
              · skip
                conv => whnf
                refine AReq.mk ⟨by decide, by decide, (by show 128 * 1 ≤ _; decide), by decide⟩ ?_
                conv => whnf
                refine AG.alt 1 [5] (by kernel_rfl) ?_
                refine AGs.cons hT rfl ?_ ?_
                · skip
                  conv => whnf
                  refine ACut.zeros rfl ?_
                  conv => whnf
                  refine AStr.zeros ?_
                  conv => whnf
                  refine AG.one hT 3 rfl (by kernel_rfl) ?_
                  conv => whnf
                  refine AReq.mk hr1 ?_
                  conv => whnf
                  refine AG.one hT 5 rfl (by kernel_rfl) ?_
                  conv => whnf
                  refine ACut.zeros rfl ?_
                  conv => whnf
                  refine AStr.zeros ?_
                  conv => whnf
                  refine AG.one hT 6 rfl (by kernel_rfl) ?_
                  conv => whnf
                  refine AReq.mk hr2 ?_
                  conv => whnf
                  refine AG.one hT 7 rfl (by kernel_rfl) ?_
                  conv => whnf
                  refine ACall.val (by kernel_rfl) h20 rfl rfl ?_
                  conv => whnf
                  refine AG.one hT 8 rfl (by kernel_rfl) ?_
                  conv => whnf
                  refine AG.one hT 9 rfl (by kernel_rfl) ?_
                  conv => whnf
                  refine AG.one hT 10 rfl (by kernel_rfl) ?_
                  conv => whnf
                  refine AG.one hT 11 rfl (by kernel_rfl) ?_
                  conv => whnf
                  refine AG.one hT 13 rfl (by kernel_rfl) ?_
                  conv => whnf
                  refine AG.one hT 14 rfl (by kernel_rfl) ?_
                  conv => whnf
                  refine AG.one hT 15 rfl (by kernel_rfl) ?_
                  conv => whnf
                  refine AG.done (by kernel_rfl) ?_
                  conv => whnf
                  first | exact hleaf 1 (Conv.ren [0, 1] _ (by simp) (by simp) (by repeat' (first | exact Fit.nil | refine Fit.any ?_ | refine Fit.same ?_)) (.same rfl (.same rfl .nil))) | exact hleaf 2 (Conv.ren [0, 2] _ (by simp) (by simp) (by repeat' (first | exact Fit.nil | refine Fit.any ?_ | refine Fit.same ?_)) (.same rfl (.same rfl .nil))) | exact hleaf 3 (Conv.ren [0, 3] _ (by simp) (by simp) (by repeat' (first | exact Fit.nil | refine Fit.any ?_ | refine Fit.same ?_)) (.same rfl (.same rfl .nil)))
                refine AGs.cons hT rfl ?_ ?_
                · skip
                  conv => whnf
                  refine ACut.zeros rfl ?_
                  conv => whnf
                  refine AStr.zeros ?_
                  conv => whnf
                  refine AG.one hT 1 rfl (by kernel_rfl) ?_
                  conv => whnf
                  refine ACut.zeros rfl ?_
                  conv => whnf
                  refine AStr.zeros ?_
                  conv => whnf
                  refine AG.one hT 3 rfl (by kernel_rfl) ?_
                  conv => whnf
                  refine AReq.mk hr1 ?_
                  conv => whnf
                  refine AG.one hT 6 rfl (by kernel_rfl) ?_
                  conv => whnf
                  refine AReq.mk hr2 ?_
                  conv => whnf
                  refine AG.one hT 7 rfl (by kernel_rfl) ?_
                  conv => whnf
                  refine ACall.val (by kernel_rfl) h20 rfl rfl ?_
                  conv => whnf
                  refine AG.one hT 8 rfl (by kernel_rfl) ?_
                  conv => whnf
                  refine AG.one hT 9 rfl (by kernel_rfl) ?_
                  conv => whnf
                  refine AG.one hT 10 rfl (by kernel_rfl) ?_
                  conv => whnf
                  refine AG.one hT 11 rfl (by kernel_rfl) ?_
                  conv => whnf
                  refine AG.one hT 13 rfl (by kernel_rfl) ?_
                  conv => whnf
                  refine AG.one hT 14 rfl (by kernel_rfl) ?_
                  conv => whnf
                  refine AG.one hT 15 rfl (by kernel_rfl) ?_
                  conv => whnf
                  refine AG.done (by kernel_rfl) ?_
                  conv => whnf
                  first | exact hleaf 1 (Conv.ren [0, 1] _ (by simp) (by simp) (by repeat' (first | exact Fit.nil | refine Fit.any ?_ | refine Fit.same ?_)) (.same rfl (.same rfl .nil))) | exact hleaf 2 (Conv.ren [0, 2] _ (by simp) (by simp) (by repeat' (first | exact Fit.nil | refine Fit.any ?_ | refine Fit.same ?_)) (.same rfl (.same rfl .nil))) | exact hleaf 3 (Conv.ren [0, 3] _ (by simp) (by simp) (by repeat' (first | exact Fit.nil | refine Fit.any ?_ | refine Fit.same ?_)) (.same rfl (.same rfl .nil)))
                exact AGs.nil
              refine AGs.cons hT rfl ?_ ?_
              · skip
                conv => whnf
                refine ACut.zeros rfl ?_
                conv => whnf
                refine AStr.zeros ?_
                conv => whnf
                refine AG.one hT 0 rfl (by kernel_rfl) ?_
                conv => whnf
                refine AReq.mk ⟨by decide, by decide, (by show 128 * 1 ≤ _; decide), by decide⟩ ?_
                conv => whnf
                refine AG.one hT 1 rfl (by kernel_rfl) ?_
                conv => whnf
                refine ACut.zeros rfl ?_
                conv => whnf
                refine AStr.zeros ?_
                conv => whnf
                refine AG.one hT 3 rfl (by kernel_rfl) ?_
                conv => whnf
                refine AReq.mk hr1 ?_
                conv => whnf
                refine AG.one hT 6 rfl (by kernel_rfl) ?_
                conv => whnf
                refine AReq.mk hr2 ?_
                conv => whnf
                refine AG.one hT 7 rfl (by kernel_rfl) ?_
                conv => whnf
                refine ACall.val (by kernel_rfl) h20 rfl rfl ?_
                conv => whnf
                refine AG.one hT 8 rfl (by kernel_rfl) ?_
                conv => whnf
                refine AG.one hT 9 rfl (by kernel_rfl) ?_
                conv => whnf
                refine AG.one hT 10 rfl (by kernel_rfl) ?_
                conv => whnf
                refine AG.one hT 11 rfl (by kernel_rfl) ?_
                conv => whnf
                refine AG.one hT 13 rfl (by kernel_rfl) ?_
                conv => whnf
                refine AG.one hT 14 rfl (by kernel_rfl) ?_
                conv => whnf
                refine AG.one hT 15 rfl (by kernel_rfl) ?_
                conv => whnf
                refine AG.done (by kernel_rfl) ?_
                conv => whnf
                first | exact hleaf 1 (Conv.ren [0, 1] _ (by simp) (by simp) (by repeat' (first | exact Fit.nil | refine Fit.any ?_ | refine Fit.same ?_)) (.same rfl (.same rfl .nil))) | exact hleaf 2 (Conv.ren [0, 2] _ (by simp) (by simp) (by repeat' (first | exact Fit.nil | refine Fit.any ?_ | refine Fit.same ?_)) (.same rfl (.same rfl .nil))) | exact hleaf 3 (Conv.ren [0, 3] _ (by simp) (by simp) (by repeat' (first | exact Fit.nil | refine Fit.any ?_ | refine Fit.same ?_)) (.same rfl (.same rfl .nil)))
              exact AGs.nil
            exact AGs.nil
          refine AGs.cons hT rfl ?_ ?_
          · skip
            conv => whnf
            refine AG.alt 0 [4] (by kernel_rfl) ?_
            refine AGs.cons hT rfl ?_ ?_
            · skip
              conv => whnf
              refine AReq.mk ⟨by decide, by decide, (by show 128 * 1 ≤ _; decide), by decide⟩ ?_
              conv => whnf
              refine AG.alt 1 [4] (by kernel_rfl) ?_
              refine AGs.cons hT rfl ?_ ?_
              · skip
                conv => whnf
                refine ACut.zeros rfl ?_
                conv => whnf
                refine AStr.zeros ?_
                conv => whnf
                refine AG.one hT 3 rfl (by kernel_rfl) ?_
                conv => whnf
                refine AReq.mk hr1 ?_
                conv => whnf
                refine AG.one hT 4 rfl (by kernel_rfl) ?_
                conv => whnf
                refine AReq.mk ⟨by decide, by decide, (by show 64 * 1 ≤ _; decide), by decide⟩ ?_
                conv => whnf
                refine AG.one hT 5 rfl (by kernel_rfl) ?_
                conv => whnf
                refine ACut.zeros rfl ?_
                conv => whnf
                refine AStr.zeros ?_
                conv => whnf
                refine AG.one hT 6 rfl (by kernel_rfl) ?_
                conv => whnf
                refine AReq.mk hr2 ?_
                conv => whnf
                refine AG.one hT 7 rfl (by kernel_rfl) ?_
                conv => whnf
                refine ACall.val (by kernel_rfl) h20 rfl rfl ?_
                conv => whnf
                refine AG.one hT 8 rfl (by kernel_rfl) ?_
                conv => whnf
                refine AG.one hT 9 rfl (by kernel_rfl) ?_
                conv => whnf
                refine AG.one hT 10 rfl (by kernel_rfl) ?_
                conv => whnf
                refine AG.one hT 11 rfl (by kernel_rfl) ?_
                conv => whnf
                refine AG.one hT 13 rfl (by kernel_rfl) ?_
                conv => whnf
                refine AG.one hT 14 rfl (by kernel_rfl) ?_
                conv => whnf
                refine AG.one hT 15 rfl (by kernel_rfl) ?_
                conv => whnf
                refine AG.done (by kernel_rfl) ?_
                conv => whnf
                first | exact hleaf 1 (Conv.ren [0, 1] _ (by simp) (by simp) (by repeat' (first | exact Fit.nil | refine Fit.any ?_ | refine Fit.same ?_)) (.same rfl (.same rfl .nil))) | exact hleaf 2 (Conv.ren [0, 2] _ (by simp) (by simp) (by repeat' (first | exact Fit.nil | refine Fit.any ?_ | refine Fit.same ?_)) (.same rfl (.same rfl .nil))) | exact hleaf 3 (Conv.ren [0, 3] _ (by simp) (by simp) (by repeat' (first | exact Fit.nil | refine Fit.any ?_ | refine Fit.same ?_)) (.same rfl (.same rfl .nil)))
              refine AGs.cons hT rfl ?_ ?_
              · skip
                conv => whnf
                refine AReq.mk ⟨by decide, by decide, (by show 64 * 1 ≤ _; decide), by decide⟩ ?_
                conv => whnf
                refine AG.alt 1 [5] (by kernel_rfl) ?_
                refine AGs.cons hT rfl ?_ ?_
                · skip
                  conv => whnf
                  refine ACut.zeros rfl ?_
                  conv => whnf
                  refine AStr.zeros ?_
                  conv => whnf
                  refine AG.one hT 3 rfl (by kernel_rfl) ?_
                  conv => whnf
                  refine AReq.mk hr1 ?_
                  conv => whnf
                  refine AG.one hT 5 rfl (by kernel_rfl) ?_
                  conv => whnf
                  refine ACut.zeros rfl ?_
                  conv => whnf
                  refine AStr.zeros ?_
                  conv => whnf
                  refine AG.one hT 6 rfl (by kernel_rfl) ?_
                  conv => whnf
                  refine AReq.mk hr2 ?_
                  conv => whnf
                  refine AG.one hT 7 rfl (by kernel_rfl) ?_
                  conv => whnf
                  refine ACall.val (by kernel_rfl) h20 rfl rfl ?_
                  conv => whnf
                  refine AG.one hT 8 rfl (by kernel_rfl) ?_
                  conv => whnf
                  refine AG.one hT 9 rfl (by kernel_rfl) ?_
                  conv => whnf
                  refine AG.one hT 10 rfl (by kernel_rfl) ?_
                  conv => whnf
                  refine AG.one hT 11 rfl (by kernel_rfl) ?_
                  conv => whnf
                  refine AG.one hT 13 rfl (by kernel_rfl) ?_
                  conv => whnf
                  refine AG.one hT 14 rfl (by kernel_rfl) ?_
                  conv => whnf
                  refine AG.one hT 15 rfl (by kernel_rfl) ?_
                  conv => whnf
                  refine AG.done (by kernel_rfl) ?_
                  conv => whnf
                  first | exact hleaf 1 (Conv.ren [0, 1] _ (by simp) (by simp) (by repeat' (first | exact Fit.nil | refine Fit.any ?_ | refine Fit.same ?_)) (.same rfl (.same rfl .nil))) | exact hleaf 2 (Conv.ren [0, 2] _ (by simp) (by simp) (by repeat' (first | exact Fit.nil | refine Fit.any ?_ | refine Fit.same ?_)) (.same rfl (.same rfl .nil))) | exact hleaf 3 (Conv.ren [0, 3] _ (by simp) (by simp) (by repeat' (first | exact Fit.nil | refine Fit.any ?_ | refine Fit.same ?_)) (.same rfl (.same rfl .nil)))
                refine AGs.cons hT rfl ?_ ?_
                · skip
                  conv => whnf
                  refine ACut.zeros rfl ?_
                  conv => whnf
                  refine AStr.zeros ?_
                  conv => whnf
                  refine AG.one hT 1 rfl (by kernel_rfl) ?_
                  conv => whnf
                  refine ACut.zeros rfl ?_
                  conv => whnf
                  refine AStr.zeros ?_
                  conv => whnf
                  refine AG.one hT 3 rfl (by kernel_rfl) ?_
                  conv => whnf
                  refine AReq.mk hr1 ?_
                  conv => whnf
                  refine AG.one hT 6 rfl (by kernel_rfl) ?_
                  conv => whnf
                  refine AReq.mk hr2 ?_
                  conv => whnf
                  refine AG.one hT 7 rfl (by kernel_rfl) ?_
                  conv => whnf
                  refine ACall.val (by kernel_rfl) h20 rfl rfl ?_
                  conv => whnf
                  refine AG.one hT 8 rfl (by kernel_rfl) ?_
                  conv => whnf
                  refine AG.one hT 9 rfl (by kernel_rfl) ?_
                  conv => whnf
                  refine AG.one hT 10 rfl (by kernel_rfl) ?_
                  conv => whnf
                  refine AG.one hT 11 rfl (by kernel_rfl) ?_
                  conv => whnf
                  refine AG.one hT 13 rfl (by kernel_rfl) ?_
                  conv => whnf
                  refine AG.one hT 14 rfl (by kernel_rfl) ?_
                  conv => whnf
                  refine AG.one hT 15 rfl (by kernel_rfl) ?_
                  conv => whnf
                  refine AG.done (by kernel_rfl) ?_
                  conv => whnf
                  first | exact hleaf 1 (Conv.ren [0, 1] _ (by simp) (by simp) (by repeat' (first | exact Fit.nil | refine Fit.any ?_ | refine Fit.same ?_)) (.same rfl (.same rfl .nil))) | exact hleaf 2 (Conv.ren [0, 2] _ (by simp) (by simp) (by repeat' (first | exact Fit.nil | refine Fit.any ?_ | refine Fit.same ?_)) (.same rfl (.same rfl .nil))) | exact hleaf 3 (Conv.ren [0, 3] _ (by simp) (by simp) (by repeat' (first | exact Fit.nil | refine Fit.any ?_ | refine Fit.same ?_)) (.same rfl (.same rfl .nil)))
                exact AGs.nil
              exact AGs.nil
            refine AGs.cons hT rfl ?_ ?_
            · skip
              conv => whnf
              refine AReq.mk ⟨by decide, by decide, (by show 64 * 1 ≤ _; decide), by decide⟩ ?_
              conv => whnf
              refine AG.alt 0 [5] (by kernel_rfl) ?_
              refine AGs.cons hT rfl ?_ ?_
              · skip
                conv => whnf
                refine AReq.mk ⟨by decide, by decide, (by show 128 * 1 ≤ _; decide), by decide⟩ ?_
                conv => whnf
                refine AG.alt 1 [5] (by kernel_rfl) ?_
                refine AGs.cons hT rfl ?_ ?_
                · skip
                  conv => whnf
                  refine ACut.zeros rfl ?_
                  conv => whnf
                  refine AStr.zeros ?_
                  conv => whnf
                  refine AG.one hT 3 rfl (by kernel_rfl) ?_
                  conv => whnf
                  refine AReq.mk hr1 ?_
                  conv => whnf
                  refine AG.one hT 5 rfl (by kernel_rfl) ?_
                  conv => whnf
                  refine ACut.zeros rfl ?_
                  conv => whnf
                  refine AStr.zeros ?_
                  conv => whnf
                  refine AG.one hT 6 rfl (by kernel_rfl) ?_
                  conv => whnf
                  refine AReq.mk hr2 ?_
                  conv => whnf
                  refine AG.one hT 7 rfl (by kernel_rfl) ?_
                  conv => whnf
                  refine ACall.val (by kernel_rfl) h20 rfl rfl ?_
                  conv => whnf
                  refine AG.one hT 8 rfl (by kernel_rfl) ?_
                  conv => whnf
                  refine AG.one hT 9 rfl (by kernel_rfl) ?_
                  conv => whnf
                  refine AG.one hT 10 rfl (by kernel_rfl) ?_
                  conv => whnf
                  refine AG.one hT 11 rfl (by kernel_rfl) ?_
                  conv => whnf
                  refine AG.one hT 13 rfl (by kernel_rfl) ?_
                  conv => whnf
                  refine AG.one hT 14 rfl (by kernel_rfl) ?_
                  conv => whnf
                  refine AG.one hT 15 rfl (by kernel_rfl) ?_
                  conv => whnf
                  refine AG.done (by kernel_rfl) ?_
                  conv => whnf
                  first | exact hleaf 1 (Conv.ren [0, 1] _ (by simp) (by simp) (by repeat' (first | exact Fit.nil | refine Fit.any ?_ | refine Fit.same ?_)) (.same rfl (.same rfl .nil))) | exact hleaf 2 (Conv.ren [0, 2] _ (by simp) (by simp) (by repeat' (first | exact Fit.nil | refine Fit.any ?_ | refine Fit.same ?_)) (.same rfl (.same rfl .nil))) | exact hleaf 3 (Conv.ren [0, 3] _ (by simp) (by simp) (by repeat' (first | exact Fit.nil | refine Fit.any ?_ | refine Fit.same ?_)) (.same rfl (.same rfl .nil)))
                refine AGs.cons hT rfl ?_ ?_
                · skip
                  conv => whnf
                  refine ACut.zeros rfl ?_
                  conv => whnf
                  refine AStr.zeros ?_
                  conv => whnf
                  refine AG.one hT 1 rfl (by kernel_rfl) ?_
                  conv => whnf
                  refine ACut.zeros rfl ?_
                  conv => whnf
                  refine AStr.zeros ?_
                  conv => whnf
                  refine AG.one hT 3 rfl (by kernel_rfl) ?_
                  conv => whnf
                  refine AReq.mk hr1 ?_
                  conv => whnf
                  refine AG.one hT 6 rfl (by kernel_rfl) ?_
                  conv => whnf
                  refine AReq.mk hr2 ?_
                  conv => whnf
                  refine AG.one hT 7 rfl (by kernel_rfl) ?_
                  conv => whnf
                  refine ACall.val (by kernel_rfl) h20 rfl rfl ?_
                  conv => whnf
                  refine AG.one hT 8 rfl (by kernel_rfl) ?_
                  conv => whnf
                  refine AG.one hT 9 rfl (by kernel_rfl) ?_
                  conv => whnf
                  refine AG.one hT 10 rfl (by kernel_rfl) ?_
                  conv => whnf
                  refine AG.one hT 11 rfl (by kernel_rfl) ?_
                  conv => whnf
                  refine AG.one hT 13 rfl (by kernel_rfl) ?_
                  conv => whnf
                  refine AG.one hT 14 rfl (by kernel_rfl) ?_
                  conv => whnf
                  refine AG.one hT 15 rfl (by kernel_rfl) ?_
                  conv => whnf
                  refine AG.done (by kernel_rfl) ?_
                  conv => whnf
                  first | exact hleaf 1 (Conv.ren [0, 1] _ (by simp) (by simp) (by repeat' (first | exact Fit.nil | refine Fit.any ?_ | refine Fit.same ?_)) (.same rfl (.same rfl .nil))) | exact hleaf 2 (Conv.ren [0, 2] _ (by simp) (by simp) (by repeat' (first | exact Fit.nil | refine Fit.any ?_ | refine Fit.same ?_)) (.same rfl (.same rfl .nil))) | exact hleaf 3 (Conv.ren [0, 3] _ (by simp) (by simp) (by repeat' (first | exact Fit.nil | refine Fit.any ?_ | refine Fit.same ?_)) (.same rfl (.same rfl .nil)))
                exact AGs.nil
              refine AGs.cons hT rfl ?_ ?_
              · skip
                conv => whnf
                refine ACut.zeros rfl ?_
                conv => whnf
                refine AStr.zeros ?_
                conv => whnf
                refine AG.one hT 0 rfl (by kernel_rfl) ?_
                conv => whnf
                refine AReq.mk ⟨by decide, by decide, (by show 128 * 1 ≤ _; decide), by decide⟩ ?_
                conv => whnf
                refine AG.one hT 1 rfl (by kernel_rfl) ?_
                conv => whnf
                refine ACut.zeros rfl ?_
                conv => whnf
                refine AStr.zeros ?_
                conv => whnf
                refine AG.one hT 3 rfl (by kernel_rfl) ?_
                conv => whnf
                refine AReq.mk hr1 ?_
                conv => whnf
                refine AG.one hT 6 rfl (by kernel_rfl) ?_
                conv => whnf
                refine AReq.mk hr2 ?_
                conv => whnf
                refine AG.one hT 7 rfl (by kernel_rfl) ?_
                conv => whnf
                refine ACall.val (by kernel_rfl) h20 rfl rfl ?_
                conv => whnf
                refine AG.one hT 8 rfl (by kernel_rfl) ?_
                conv => whnf
                refine AG.one hT 9 rfl (by kernel_rfl) ?_
                conv => whnf
                refine AG.one hT 10 rfl (by kernel_rfl) ?_
                conv => whnf
                refine AG.one hT 11 rfl (by kernel_rfl) ?_
                conv => whnf
                refine AG.one hT 13 rfl (by kernel_rfl) ?_
                conv => whnf
                refine AG.one hT 14 rfl (by kernel_rfl) ?_
                conv => whnf
                refine AG.one hT 15 rfl (by kernel_rfl) ?_
                conv => whnf
                refine AG.done (by kernel_rfl) ?_
                conv => whnf
                first | exact hleaf 1 (Conv.ren [0, 1] _ (by simp) (by simp) (by repeat' (first | exact Fit.nil | refine Fit.any ?_ | refine Fit.same ?_)) (.same rfl (.same rfl .nil))) | exact hleaf 2 (Conv.ren [0, 2] _ (by simp) (by simp) (by repeat' (first | exact Fit.nil | refine Fit.any ?_ | refine Fit.same ?_)) (.same rfl (.same rfl .nil))) | exact hleaf 3 (Conv.ren [0, 3] _ (by simp) (by simp) (by repeat' (first | exact Fit.nil | refine Fit.any ?_ | refine Fit.same ?_)) (.same rfl (.same rfl .nil)))
              exact AGs.nil
            exact AGs.nil
          exact AGs.nil
        · rintro _ _ ⟨rfl, rfl⟩
          conv => whnf
          repeat ((first | refine AO.cons hT ?_ | refine AO.nil ?_ | refine AW.seq ?_ | refine AW.region ?_ | refine AW.cond ?_ | refine AW.block ?_ | refine AW.loop ?_ | refine AW.skip ?_ | refine AW.exit ?_ | refine AW.ret ?_ | refine AF.one hT rfl ?_ | refine AF.nil ?_ | refine AF.imm hT rfl rfl rfl ?_ | refine AH.of hT rfl ?_ | refine AD.cons hT rfl ?_ | refine AD.nil ?_ | refine AQ.cons hT rfl ?_ | refine AQ.nil ?_ | (refine fr_neq ?_) | (refine ACall.val (by kernel_rfl) h27 rfl rfl ?_)); conv => whnf)
          refine ASplit.no (by simp only [and_self, decide_true, Bool.not_true]) ?_
          conv => whnf
          repeat ((first | refine AO.cons hT ?_ | refine AO.nil ?_ | refine AW.seq ?_ | refine AW.region ?_ | refine AW.cond ?_ | refine AW.block ?_ | refine AW.loop ?_ | refine AW.skip ?_ | refine AW.exit ?_ | refine AW.ret ?_ | refine AF.one hT rfl ?_ | refine AF.nil ?_ | refine AF.imm hT rfl rfl rfl ?_ | refine AH.of hT rfl ?_ | refine AD.cons hT rfl ?_ | refine AD.nil ?_ | refine AQ.cons hT rfl ?_ | refine AQ.nil ?_ | (refine fr_neq ?_) | (refine ACall.val (by kernel_rfl) h27 rfl rfl ?_)); conv => whnf)
          rw [wrap_i64 (2 + ((pcs b.size : Nat) : Int)) (by omega) (by omega)]
          refine ASplit.no (by rw [show 2 + ((pcs b.size : Nat) : Int) = ((2 + pcs b.size : Nat) : Int) by omega]; simp) ?_
          conv => whnf
          repeat ((first | refine AO.cons hT ?_ | refine AO.nil ?_ | refine AW.seq ?_ | refine AW.region ?_ | refine AW.cond ?_ | refine AW.block ?_ | refine AW.loop ?_ | refine AW.skip ?_ | refine AW.exit ?_ | refine AW.ret ?_ | refine AF.one hT rfl ?_ | refine AF.nil ?_ | refine AF.imm hT rfl rfl rfl ?_ | refine AH.of hT rfl ?_ | refine AD.cons hT rfl ?_ | refine AD.nil ?_ | refine AQ.cons hT rfl ?_ | refine AQ.nil ?_ | (refine fr_neq ?_) | (refine ACall.val (by kernel_rfl) h27 rfl rfl ?_) | (refine ASplit.no rfl ?_)); conv => whnf)
          rw [wrap_i64 (64 * ((pcs b.size : Nat) : Int)) (by omega) (by omega), hps]
          refine ACond.no (by simp) ?_
          conv => whnf
          repeat ((first | refine AO.cons hT ?_ | refine AO.nil ?_ | refine AW.seq ?_ | refine AW.region ?_ | refine AW.cond ?_ | refine AW.block ?_ | refine AW.loop ?_ | refine AW.skip ?_ | refine AW.exit ?_ | refine AW.ret ?_ | refine AF.one hT rfl ?_ | refine AF.nil ?_ | refine AF.imm hT rfl rfl rfl ?_ | refine AH.of hT rfl ?_ | refine AD.cons hT rfl ?_ | refine AD.nil ?_ | refine AQ.cons hT rfl ?_ | refine AQ.nil ?_); conv => whnf)
          exact AOut.to _ _ (Conv.ren [0] _ (by simp) (by simp) (by repeat' (first | exact Fit.nil | refine Fit.any ?_ | refine Fit.same ?_)) (.same rfl .nil)) ⟨rfl, rfl⟩
      · exact absurd h3 hc
    · conv => whnf
      repeat ((first | refine AO.cons hT ?_ | refine AO.nil ?_ | refine AW.seq ?_ | refine AW.region ?_ | refine AW.cond ?_ | refine AW.block ?_ | refine AW.loop ?_ | refine AW.skip ?_ | refine AW.exit ?_ | refine AW.ret ?_ | refine AF.one hT rfl ?_ | refine AF.nil ?_ | refine AF.imm hT rfl rfl rfl ?_ | refine AH.of hT rfl ?_ | refine AD.cons hT rfl ?_ | refine AD.nil ?_ | refine AQ.cons hT rfl ?_ | refine AQ.nil ?_); conv => whnf)
      exact AOut.to _ _ (Conv.fit (by repeat' (first | exact Fit.nil | refine Fit.any ?_ | refine Fit.same ?_))) ⟨rfl, rfl⟩
  rintro _ _ ⟨rfl, rfl⟩
  have h20 := f20 s at_ (by omega) hat
  have hcs := fget_cases s at_
  have hof := fget_of s at_
  generalize fgetF s at_ = x at *
  by_cases h3 : x.2.2 = 0
  · obtain ⟨a, e2, q2, b2, rfl, rfl, g3, g4, g5, g6⟩ := hof h3
    have hmy := mayF_ok g3
    have h26' := f26 e2 q2 b2 (by omega)
    rw [fputF_ok g3] at h26'
    have h26' : Fun P 26 [.agg [nV e2, nV q2, sV b2]] (.tup [sV (fputB e2 q2 b2), nV 0]) := h26'
    have h20' : Fun P 20 [sV s, nV (a : Int)] (.tup [frA e2 q2 b2, nV ((a + pcs b2.size : Nat) : Int), nV 0]) := h20
    have hpb := pcs_bound b2.size
    have hps := fputB_size e2 q2 b2
    have hext : s.extract (64 * a) (64 * (a + pcs b2.size)) = fputB e2 q2 b2 := by
      apply list_inj
      rw [ext_list, show 64 * (a + pcs b2.size) - 64 * a = 64 * pcs b2.size by omega]; exact g6
    generalize fputB e2 q2 b2 = S at *
    generalize hk : pcs b2.size = k at *
    conv => whnf
    repeat ((first | refine AO.cons hT ?_ | refine AO.nil ?_ | refine AW.seq ?_ | refine AW.region ?_ | refine AW.cond ?_ | refine AW.block ?_ | refine AW.loop ?_ | refine AW.skip ?_ | refine AW.exit ?_ | refine AW.ret ?_ | refine AF.one hT rfl ?_ | refine AF.nil ?_ | refine AF.imm hT rfl rfl rfl ?_ | refine AH.of hT rfl ?_ | refine AD.cons hT rfl ?_ | refine AD.nil ?_ | refine AQ.cons hT rfl ?_ | refine AQ.nil ?_ | (refine ACall.val (by kernel_rfl) h20' rfl rfl ?_) | (refine ACond.no rfl ?_) | (refine ACall.val (by kernel_rfl) h26' rfl rfl ?_) | (refine ASplit.yes rfl ?_)); conv => whnf)
    refine ASplit.yes (decide_eq_true (by omega)) ?_
    conv => whnf
    repeat ((first | refine AO.cons hT ?_ | refine AO.nil ?_ | refine AW.seq ?_ | refine AW.region ?_ | refine AW.cond ?_ | refine AW.block ?_ | refine AW.loop ?_ | refine AW.skip ?_ | refine AW.exit ?_ | refine AW.ret ?_ | refine AF.one hT rfl ?_ | refine AF.nil ?_ | refine AF.imm hT rfl rfl rfl ?_ | refine AH.of hT rfl ?_ | refine AD.cons hT rfl ?_ | refine AD.nil ?_ | refine AQ.cons hT rfl ?_ | refine AQ.nil ?_ | (refine ACall.val (by kernel_rfl) h20' rfl rfl ?_) | (refine ACond.no rfl ?_) | (refine ACall.val (by kernel_rfl) h26' rfl rfl ?_) | (refine ASplit.yes rfl ?_)); conv => whnf)
    rw [wrap_i64 (64 * ((a + k : Nat) : Int)) (by omega) (by omega)]
    refine ASplit.yes (decide_eq_true (by omega)) ?_
    conv => whnf
    repeat ((first | refine AO.cons hT ?_ | refine AO.nil ?_ | refine AW.seq ?_ | refine AW.region ?_ | refine AW.cond ?_ | refine AW.block ?_ | refine AW.loop ?_ | refine AW.skip ?_ | refine AW.exit ?_ | refine AW.ret ?_ | refine AF.one hT rfl ?_ | refine AF.nil ?_ | refine AF.imm hT rfl rfl rfl ?_ | refine AH.of hT rfl ?_ | refine AD.cons hT rfl ?_ | refine AD.nil ?_ | refine AQ.cons hT rfl ?_ | refine AQ.nil ?_ | (refine ACall.val (by kernel_rfl) h20' rfl rfl ?_) | (refine ACond.no rfl ?_) | (refine ACall.val (by kernel_rfl) h26' rfl rfl ?_) | (refine ASplit.yes rfl ?_)); conv => whnf)
    rw [wrap_i64 (64 * ((a + k : Nat) : Int)) (by omega) (by omega), wrap_i64 (64 * (a : Int)) (by omega) (by omega)]
    refine AReq.mk ⟨by omega, by omega, by omega⟩ ?_
    conv => whnf
    repeat ((first | refine AO.cons hT ?_ | refine AO.nil ?_ | refine AW.seq ?_ | refine AW.region ?_ | refine AW.cond ?_ | refine AW.block ?_ | refine AW.loop ?_ | refine AW.skip ?_ | refine AW.exit ?_ | refine AW.ret ?_ | refine AF.one hT rfl ?_ | refine AF.nil ?_ | refine AF.imm hT rfl rfl rfl ?_ | refine AH.of hT rfl ?_ | refine AD.cons hT rfl ?_ | refine AD.nil ?_ | refine AQ.cons hT rfl ?_ | refine AQ.nil ?_); conv => whnf)
    rw [str_eq, show Int.toNat (64 * (a : Int)) = 64 * a by omega, show Int.toNat (64 * ((a + k : Nat) : Int)) = 64 * (a + k) by omega, hext]
    refine ASplit.yes (decide_eq_true rfl) ?_
    conv => whnf
    repeat ((first | refine AO.cons hT ?_ | refine AO.nil ?_ | refine AW.seq ?_ | refine AW.region ?_ | refine AW.cond ?_ | refine AW.block ?_ | refine AW.loop ?_ | refine AW.skip ?_ | refine AW.exit ?_ | refine AW.ret ?_ | refine AF.one hT rfl ?_ | refine AF.nil ?_ | refine AF.imm hT rfl rfl rfl ?_ | refine AH.of hT rfl ?_ | refine AD.cons hT rfl ?_ | refine AD.nil ?_ | refine AQ.cons hT rfl ?_ | refine AQ.nil ?_ | (refine ACall.val (by kernel_rfl) f19 rfl rfl ?_)); conv => whnf)
    exact hfin
  · obtain ⟨⟨x1, x2, x3⟩, x4, x5⟩ := x
    rcases hcs with ⟨_, g1, g2⟩ | ⟨g1, _⟩
    · cases g1
      conv => whnf
      repeat ((first | refine AO.cons hT ?_ | refine AO.nil ?_ | refine AW.seq ?_ | refine AW.region ?_ | refine AW.cond ?_ | refine AW.block ?_ | refine AW.loop ?_ | refine AW.skip ?_ | refine AW.exit ?_ | refine AW.ret ?_ | refine AF.one hT rfl ?_ | refine AF.nil ?_ | refine AF.imm hT rfl rfl rfl ?_ | refine AH.of hT rfl ?_ | refine AD.cons hT rfl ?_ | refine AD.nil ?_ | refine AQ.cons hT rfl ?_ | refine AQ.nil ?_ | (refine ACall.val (by kernel_rfl) h20 rfl rfl ?_) | (refine fr_eql ?_) | (refine ASplit.yes (decide_eq_true ⟨rfl, rfl, rfl⟩) ?_) | (refine ACall.val (by kernel_rfl) f19 rfl rfl ?_)); conv => whnf)
      refine ACond.yes (by simpa using h3) ?_
      conv => whnf
      repeat ((first | refine AO.cons hT ?_ | refine AO.nil ?_ | refine AW.seq ?_ | refine AW.region ?_ | refine AW.cond ?_ | refine AW.block ?_ | refine AW.loop ?_ | refine AW.skip ?_ | refine AW.exit ?_ | refine AW.ret ?_ | refine AF.one hT rfl ?_ | refine AF.nil ?_ | refine AF.imm hT rfl rfl rfl ?_ | refine AH.of hT rfl ?_ | refine AD.cons hT rfl ?_ | refine AD.nil ?_ | refine AQ.cons hT rfl ?_ | refine AQ.nil ?_ | (refine ACall.val (by kernel_rfl) h20 rfl rfl ?_) | (refine fr_eql ?_) | (refine ASplit.yes (decide_eq_true ⟨rfl, rfl, rfl⟩) ?_) | (refine ACall.val (by kernel_rfl) f19 rfl rfl ?_)); conv => whnf)
      exact hfin
    · exact absurd g1 h3
end Go.Aw.D1

