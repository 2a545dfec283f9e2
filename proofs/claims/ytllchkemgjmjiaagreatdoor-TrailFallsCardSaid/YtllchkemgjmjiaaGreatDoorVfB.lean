/-
  The statement TrailFalls: wherever the power goes while a frame is appended, the frames ahead are loaded, and that one, or not, without any condition.
-/
import Derived.Test.YtllchkemgjmjiaaGreatDoorVfA
set_option linter.unusedSimpArgs false
set_option linter.unusedVariables false
set_option linter.unusedSimpArgs false
set_option linter.unusedVariables false
set_option maxHeartbeats 1000000
namespace Go.Aw.VE
open Go Go.Proofs

def arS (cs : List UInt8) (A N : Nat) : ByteArray := ofL (arL cs A N)
theorem arS_list (cs : List UInt8) (A N : Nat) : (arS cs A N).data.toList = arL cs A N := rfl
theorem fput_len (e q : Nat) (b : ByteArray) : (VD.fputB e q b).data.toList.length = 64 * VD.pcs b.size := by rw [size_list, VD.fputB_size]
theorem read_ar {x : Dd} {cs : List UInt8} (h : Cl x cs) {A N : Nat} (hN : 0 < N) (hn : A + N ≤ x.n) : readF x A N = (arS cs A N, 0) := by
  unfold readF
  rw [h.f, if_neg (by decide), if_neg (by omega), if_pos (by omega), Int.toNat_natCast, Int.toNat_natCast, h.cs]
  rfl
theorem check_ok {x : Dd} {A N : Nat} (hN : 0 < N) (hn : A + N ≤ x.n) : checkF x A N = 0 := by
  unfold checkF; rw [if_neg (by omega)]

/-- frames lie in a part of a device, and nothing behind them -/
structure Kp (x : Dd) (cs : List UInt8) (A N : Nat) (ep : Nat) (l : List ByteArray) (z : Nat) : Prop where
  cl : Cl x cs
  n : A + N ≤ x.n
  ch : VD.chain (arS cs A N) ep 0 0 l z
  zN : z ≤ N
  zero : (arL cs A N).drop (64 * z) = VD.zs (64 * (N - z))
theorem Kp.fits {x : Dd} {cs : List UInt8} {A N ep : Nat} {l : List ByteArray} {z : Nat} (h : Kp x cs A N ep l z) : 64 * (A + N) ≤ cs.length := by
  have := h.cl.ok.len
  rw [h.cl.cs] at this
  have := h.n
  omega
theorem Kp.size {x : Dd} {cs : List UInt8} {A N ep : Nat} {l : List ByteArray} {z : Nat} (h : Kp x cs A N ep l z) : (arS cs A N).size = 64 * N := by
  unfold arS
  rw [ofL_size, arL_len h.fits]
theorem kp_new {n A N ep : Nat} (h1 : A + N ≤ n) (h2 : n ≤ 2000) (h3 : 0 < N) : Kp (newD n) (List.replicate (64 * n) 0) A N ep [] 0 := by
  refine ⟨new_cl (by omega) h2, h1, rfl, by omega, ?_⟩
  unfold arL VD.zs
  rw [Nat.mul_zero, List.drop_zero, List.drop_replicate, List.take_replicate]
  congr 1; omega
theorem kp_boot {x : Dd} {cs : List UInt8} {A N ep : Nat} {l : List ByteArray} {z : Nat} (h : Kp x cs A N ep l z) (c : Ch) : Kp (bootD c { x with f := true, a := 0 }) cs A N ep l z :=
  ⟨(boot_cl h.cl c).1, by rw [(boot_cl h.cl c).2]; exact h.n, h.ch, h.zN, h.zero⟩
theorem kp_step {x : Dd} {cs : List UInt8} {A N ep : Nat} {l : List ByteArray} {z : Nat} (h : Kp x cs A N ep l z) (b : ByteArray) (hm : VD.mayF ep (l.length + 1 : Nat) b.size = 0) (hz : z + VD.pcs b.size ≤ N) :
    (lastF x (A + z : Nat) (VD.fputB ep (l.length + 1) b)).2 = 0 ∧ Kp (lastF x (A + z : Nat) (VD.fputB ep (l.length + 1) b)).1 (putC cs (A + z) (VD.fputB ep (l.length + 1) b).data.toList) A N ep (l ++ [b]) (z + VD.pcs b.size) := by
  have hsz := VD.fputB_size ep (l.length + 1) b
  have ht := fput_len ep (l.length + 1) b
  have hpb := VD.pcs_bound b.size
  have hn := h.n
  have hl := last_cl h.cl (A + z) (VD.pcs b.size) (VD.fputB ep (l.length + 1) b) hsz hpb.2.2 (by omega)
  generalize hT : VD.fputB ep (l.length + 1) b = tt at *
  have hS := arL_len h.fits
  have hp : arL (putC cs (A + z) tt.data.toList) A N = putC (arL cs A N) z tt.data.toList := arL_put h.fits (by omega)
  have hz1 : (putC (arL cs A N) z tt.data.toList).take (64 * z) = (arL cs A N).take (64 * z) := by
    unfold putC
    rw [List.append_assoc, List.take_left' (by rw [List.length_take]; omega)]
  have hz2 : ((putC (arL cs A N) z tt.data.toList).drop (64 * z)).take (64 * VD.pcs b.size) = tt.data.toList := by
    unfold putC
    rw [List.append_assoc, List.drop_left' (by rw [List.length_take]; omega), List.take_left' ht]
  have hz3 : (putC (arL cs A N) z tt.data.toList).drop (64 * (z + VD.pcs b.size)) = (arL cs A N).drop (64 * (z + VD.pcs b.size)) := by
    unfold putC
    rw [List.drop_left' (by rw [List.length_append, List.length_take]; omega), ht]
    congr 1; omega
  refine ⟨hl.1, hl.2.1, by rw [hl.2.2]; exact hn, ?_, hz, ?_⟩
  · have h64 : (arS (putC cs (A + z) tt.data.toList) A N).size = 64 * N := by
      unfold arS
      rw [ofL_size, hp, putC_len (by omega), hS]
    have h1 := VD.chain_other (arS cs A N) (arS (putC cs (A + z) tt.data.toList) A N) ep z (by omega) (by rw [h.size]; have := h.zN; omega) (by rw [arS_list, arS_list, hp, hz1]) l 0 0 z h.ch (by omega) (Nat.le_refl _)
    refine VD.chain_snoc _ _ b l 0 0 z h1 ⟨ep, rfl, ?_⟩
    rw [Nat.zero_add]
    exact VD.fget_put _ z ep (l.length + 1) b (by omega) hm (by rw [arS_list, hp, hz2, hT])
  · rw [hp, hz3, show 64 * (z + VD.pcs b.size) = 64 * z + 64 * VD.pcs b.size by omega, ← List.drop_drop, h.zero]
    unfold VD.zs
    rw [List.drop_replicate]
    congr 1; omega
theorem app_kp {x : Dd} {cs : List UInt8} {A N ep : Nat} {l : List ByteArray} {z : Nat} (h : Kp x cs A N ep l z) (b : ByteArray) (hm : VD.mayF ep (l.length + 1 : Nat) b.size = 0) (hz : z + VD.pcs b.size ≤ N) :
    (appF x A N z ep ((l.length : Int) + 1) b).1 = (((z + VD.pcs b.size : Nat) : Int), 0) ∧ Kp (appF x A N z ep ((l.length : Int) + 1) b).2 (putC cs (A + z) (VD.fputB ep (l.length + 1) b).data.toList) A N ep (l ++ [b]) (z + VD.pcs b.size) := by
  have hpb := VD.pcs_bound b.size
  obtain ⟨h1, h2⟩ := kp_step h b hm hz
  have e : appF x A N z ep ((l.length : Int) + 1) b = ((((z + VD.pcs b.size : Nat) : Int), 0), (lastF x (A + z : Nat) (VD.fputB ep (l.length + 1) b)).1) := by
    unfold appF
    rw [check_ok (by omega) h.n, if_neg (by decide), show (l.length : Int) + 1 = ((l.length + 1 : Nat) : Int) by omega, VD.fputF_ok hm, if_neg (fun e => e rfl), if_neg (by
      unfold roomF
      rw [decide_eq_true (by omega)]; decide)]
    show (if (lastF x ((A : Int) + z) (VD.fputB ep (l.length + 1) b)).2 ≠ 0 then _ else _) = _
    rw [show (A : Int) + z = ((A + z : Nat) : Int) by omega, if_neg (fun e => e h1)]
    rw [show (z : Int) + VD.pcs b.size = ((z + VD.pcs b.size : Nat) : Int) by omega]
  rw [e]
  exact ⟨rfl, h2⟩
theorem zero_stops {x : Dd} {cs : List UInt8} {A N ep : Nat} {l : List ByteArray} {z : Nat} (h : Kp x cs A N ep l z) : (VD.fgetF (arS cs A N) z).2.2 ≠ 0 := by
  have hz := h.zN
  unfold VD.fgetF
  rw [h.size, if_neg (by omega)]
  by_cases e : z = N
  · rw [if_pos (by omega)]; decide
  rw [if_neg (by omega), Int.toNat_natCast]
  unfold VD.fget1
  rw [if_pos]
  · decide
  · have e : (arS cs A N).data.toList[64 * z]? = (VD.zs (64 * (N - z)))[0]? := by
      rw [← h.zero, List.getElem?_drop, Nat.add_zero]; rfl
    rw [e]
    unfold VD.zs
    rw [List.getElem?_replicate, if_pos (by omega)]
    decide
theorem scan_kp {x : Dd} {cs : List UInt8} {A N ep : Nat} {l : List ByteArray} {z : Nat} (h : Kp x cs A N ep l z)  : VD.scanA (arS cs A N) ep = (l, z) := by
  have hs := VD.chain_sum _ _ l 0 0 z h.ch
  refine VD.chain_scan _ _ l _ 0 0 z h.ch (.inl (zero_stops h)) ?_
  have := h.zN
  rw [h.size]; omega
theorem scan_kp_other {x : Dd} {cs : List UInt8} {A N ep : Nat} {l : List ByteArray} {z : Nat} (h : Kp x cs A N ep l z) (hN : 0 < N) (ep' : Int) (hne : ep' ≠ ep) : VD.scanA (arS cs A N) ep' = ([], 0) := by
  refine VD.chain_scan _ _ [] _ 0 0 0 rfl ?_ (by simp)
  cases l with
  | nil =>
    have : 0 = z := h.ch
    subst this
    exact .inl (zero_stops h)
  | cons b l =>
    obtain ⟨⟨e, he, hg⟩, _⟩ := h.ch
    refine .inr (.inl ?_)
    rw [hg]
    show (e : Int) ≠ ep'
    omega
theorem load_kp {x : Dd} {cs : List UInt8} {A N ep : Nat} {l : List ByteArray} {z : Nat} (h : Kp x cs A N ep l z) (hN : 0 < N) : loadV x A N ep = .tup [VD.tV l, nV z, nV 0] := by
  unfold loadV
  rw [check_ok (by omega) h.n, if_neg (by decide), read_ar h.cl (by omega) h.n, if_neg (fun e => e rfl), scan_kp h]
theorem load_kp_other {x : Dd} {cs : List UInt8} {A N ep : Nat} {l : List ByteArray} {z : Nat} (h : Kp x cs A N ep l z) (hN : 0 < N) (ep' : Int) (hne : ep' ≠ ep) : loadV x A N ep' = .tup [VD.tV [], nV 0, nV 0] := by
  unfold loadV
  rw [check_ok (by omega) h.n, if_neg (by decide), read_ar h.cl (by omega) h.n, if_neg (fun e => e rfl), scan_kp_other h hN ep' hne]
  rfl
end Go.Aw.VE

set_option linter.unusedSimpArgs false
set_option linter.unusedVariables false
set_option maxHeartbeats 4000000
namespace Go.Aw.VE
open Go Go.Proofs

theorem tV_ren (ρ : Nat → Nat) (l : List ByteArray) : (VD.tV l).ren ρ = VD.tV l := by
  unfold VD.tV
  simp only [AV.ren, VD.texts_ren]
def smallF (l : List ByteArray) : Bool := decide (l.length ≤ 20 ∧ ∀ b ∈ l, b.size ≤ 400)
theorem f17 (l : List ByteArray) (hl : l.length ≤ 9223372036854775807) : Fun P 17 [VD.tV l] (.v (.bool (smallF l))) := by
  refine spec_of hT (f := 17) (fn := Go.Proofs.Tryz.f17) (c := body Go.Proofs.Tryz.f17) (by kernel_rfl) (by kernel_rfl) ?_
  unfold VD.tV smallF
  conv => whnf
  repeat ((first | refine AO.cons hT ?_ | refine AO.nil ?_ | refine AW.seq ?_ | refine AW.region ?_ | refine AW.cond ?_ | refine AW.block ?_ | refine AW.loop ?_ | refine AW.skip ?_ | refine AW.exit ?_ | refine AW.ret ?_ | refine AW.label ?_ | refine AW.scope ?_ | refine AF.one hT rfl ?_ | refine AF.nil ?_ | refine AF.imm hT rfl rfl rfl ?_ | refine AH.of hT rfl ?_ | refine AD.cons hT rfl ?_ | refine AD.nil ?_ | refine AQ.cons hT rfl ?_ | refine AQ.nil ?_); conv => whnf)
  refine ACond.dec (fun h => ?_) (fun h => ?_)
  · conv => whnf
    repeat ((first | refine AO.cons hT ?_ | refine AO.nil ?_ | refine AW.seq ?_ | refine AW.region ?_ | refine AW.cond ?_ | refine AW.block ?_ | refine AW.loop ?_ | refine AW.skip ?_ | refine AW.exit ?_ | refine AW.ret ?_ | refine AW.label ?_ | refine AW.scope ?_ | refine AF.one hT rfl ?_ | refine AF.nil ?_ | refine AF.imm hT rfl rfl rfl ?_ | refine AH.of hT rfl ?_ | refine AD.cons hT rfl ?_ | refine AD.nil ?_ | refine AQ.cons hT rfl ?_ | refine AQ.nil ?_); conv => whnf)
    refine AFin.val rfl ⟨?_, rfl⟩
    rw [decide_eq_false (fun e => by omega)]
  conv => whnf
  repeat ((first | refine AO.cons hT ?_ | refine AO.nil ?_ | refine AW.seq ?_ | refine AW.region ?_ | refine AW.cond ?_ | refine AW.block ?_ | refine AW.loop ?_ | refine AW.skip ?_ | refine AW.exit ?_ | refine AW.ret ?_ | refine AW.label ?_ | refine AW.scope ?_ | refine AF.one hT rfl ?_ | refine AF.nil ?_ | refine AF.imm hT rfl rfl rfl ?_ | refine AH.of hT rfl ?_ | refine AD.cons hT rfl ?_ | refine AD.nil ?_ | refine AQ.cons hT rfl ?_ | refine AQ.nil ?_); conv => whnf)
  refine ALoop.mk (fun n E H => ∃ i : Nat, i ≤ l.length ∧ (∀ k, k < i → ∀ a, l[k]? = some a → a.size ≤ 400) ∧ n = l.length - i ∧ E = pad [.vs 1 l.length (l.map sV), .any, .v (.bool false), nV i] 19 ∧ H = [])
    (n := l.length) _ _ ⟨0, by omega, by omega, rfl, rfl, rfl⟩ (Conv.fit ?_) ?_
  · repeat' (first | exact Fit.nil | refine Fit.any ?_ | refine Fit.same ?_)
  rintro _ _ _ ⟨i, hi, hok, rfl, rfl, rfl⟩
  conv => whnf
  repeat ((first | refine AO.cons hT ?_ | refine AO.nil ?_ | refine AW.seq ?_ | refine AW.region ?_ | refine AW.cond ?_ | refine AW.block ?_ | refine AW.loop ?_ | refine AW.skip ?_ | refine AW.exit ?_ | refine AW.ret ?_ | refine AW.label ?_ | refine AW.scope ?_ | refine AF.one hT rfl ?_ | refine AF.nil ?_ | refine AF.imm hT rfl rfl rfl ?_ | refine AH.of hT rfl ?_ | refine AD.cons hT rfl ?_ | refine AD.nil ?_ | refine AQ.cons hT rfl ?_ | refine AQ.nil ?_); conv => whnf)
  refine ACond.dec (fun h2 => ?_) (fun h2 => ?_)
  · have hil : i < l.length := by omega
    have hbad : ¬ (l[i].size ≤ 400) → ¬ (l.length ≤ 20 ∧ ∀ a ∈ l, a.size ≤ 400) := fun g e => g (e.2 _ (List.getElem_mem hil))
    conv => whnf
    repeat ((first | refine AO.cons hT ?_ | refine AO.nil ?_ | refine AW.seq ?_ | refine AW.region ?_ | refine AW.cond ?_ | refine AW.block ?_ | refine AW.loop ?_ | refine AW.skip ?_ | refine AW.exit ?_ | refine AW.ret ?_ | refine AW.label ?_ | refine AW.scope ?_ | refine AF.one hT rfl ?_ | refine AF.nil ?_ | refine AF.imm hT rfl rfl rfl ?_ | refine AH.of hT rfl ?_ | refine AD.cons hT rfl ?_ | refine AD.nil ?_ | refine AQ.cons hT rfl ?_ | refine AQ.nil ?_); conv => whnf)
    refine AReq.mk (by omega) ?_
    conv => whnf
    repeat ((first | refine AO.cons hT ?_ | refine AO.nil ?_ | refine AW.seq ?_ | refine AW.region ?_ | refine AW.cond ?_ | refine AW.block ?_ | refine AW.loop ?_ | refine AW.skip ?_ | refine AW.exit ?_ | refine AW.ret ?_ | refine AW.label ?_ | refine AW.scope ?_ | refine AF.one hT rfl ?_ | refine AF.nil ?_ | refine AF.imm hT rfl rfl rfl ?_ | refine AH.of hT rfl ?_ | refine AD.cons hT rfl ?_ | refine AD.nil ?_ | refine AQ.cons hT rfl ?_ | refine AQ.nil ?_); conv => whnf)
    refine AIdx.map1 hil ?_
    conv => whnf
    repeat ((first | refine AO.cons hT ?_ | refine AO.nil ?_ | refine AW.seq ?_ | refine AW.region ?_ | refine AW.cond ?_ | refine AW.block ?_ | refine AW.loop ?_ | refine AW.skip ?_ | refine AW.exit ?_ | refine AW.ret ?_ | refine AW.label ?_ | refine AW.scope ?_ | refine AF.one hT rfl ?_ | refine AF.nil ?_ | refine AF.imm hT rfl rfl rfl ?_ | refine AH.of hT rfl ?_ | refine AD.cons hT rfl ?_ | refine AD.nil ?_ | refine AQ.cons hT rfl ?_ | refine AQ.nil ?_); conv => whnf)
    refine ACond.dec (fun h4 => ?_) (fun h4 => ?_)
    · replace h4 : (400 : Int) < (l[i].size : Int) := h4
      conv => whnf
      repeat (first | (refine AW.label ?_; conv => whnf) | (refine AW.scope ?_; conv => whnf) | (refine AO.cons hT ?_; conv => whnf) | (refine AO.nil ?_; conv => whnf) | (refine AW.seq ?_; conv => whnf) | (refine AW.region ?_; conv => whnf) | (refine AW.cond ?_; conv => whnf) | (refine AW.block ?_; conv => whnf) | (refine AW.loop ?_; conv => whnf) | (refine AW.skip ?_; conv => whnf) | (refine AW.exit ?_; conv => whnf) | (refine AW.ret ?_; conv => whnf) | (refine AF.one hT rfl ?_; conv => whnf) | (refine AF.nil ?_; conv => whnf) | (refine AF.imm hT rfl rfl rfl ?_; conv => whnf) | (refine AH.of hT rfl ?_; conv => whnf) | (refine ASplit.yes rfl ?_; conv => whnf) | (refine ACond.yes rfl ?_; conv => whnf) | (refine ASplit.no rfl ?_; conv => whnf) | (refine ACond.no rfl ?_; conv => whnf) | (refine ASplit.yes (by decide) ?_; conv => whnf) | (refine ACond.yes (by decide) ?_; conv => whnf) | (refine AReq.mk (by decide) ?_; conv => whnf) | (refine AIdx.iff.2 ⟨by decide, ?_⟩; conv => whnf))
      refine AOut.stay ?_
      conv => whnf
      repeat (first | (refine AW.label ?_; conv => whnf) | (refine AW.scope ?_; conv => whnf) | (refine AO.cons hT ?_; conv => whnf) | (refine AO.nil ?_; conv => whnf) | (refine AW.seq ?_; conv => whnf) | (refine AW.region ?_; conv => whnf) | (refine AW.cond ?_; conv => whnf) | (refine AW.block ?_; conv => whnf) | (refine AW.loop ?_; conv => whnf) | (refine AW.skip ?_; conv => whnf) | (refine AW.exit ?_; conv => whnf) | (refine AW.ret ?_; conv => whnf) | (refine AF.one hT rfl ?_; conv => whnf) | (refine AF.nil ?_; conv => whnf) | (refine AF.imm hT rfl rfl rfl ?_; conv => whnf) | (refine AH.of hT rfl ?_; conv => whnf) | (refine ASplit.yes rfl ?_; conv => whnf) | (refine ACond.yes rfl ?_; conv => whnf) | (refine ASplit.no rfl ?_; conv => whnf) | (refine ACond.no rfl ?_; conv => whnf) | (refine ASplit.yes (by decide) ?_; conv => whnf) | (refine ACond.yes (by decide) ?_; conv => whnf) | (refine AReq.mk (by decide) ?_; conv => whnf) | (refine AIdx.iff.2 ⟨by decide, ?_⟩; conv => whnf))
      refine AFin.val rfl ⟨?_, rfl⟩
      rw [decide_eq_false (hbad (fun e => by omega))]
    · replace h4 : ¬ (400 : Int) < (l[i].size : Int) := h4
      conv => whnf
      repeat ((first | refine AO.cons hT ?_ | refine AO.nil ?_ | refine AW.seq ?_ | refine AW.region ?_ | refine AW.cond ?_ | refine AW.block ?_ | refine AW.loop ?_ | refine AW.skip ?_ | refine AW.exit ?_ | refine AW.ret ?_ | refine AW.label ?_ | refine AW.scope ?_ | refine AF.one hT rfl ?_ | refine AF.nil ?_ | refine AF.imm hT rfl rfl rfl ?_ | refine AH.of hT rfl ?_ | refine AD.cons hT rfl ?_ | refine AD.nil ?_ | refine AQ.cons hT rfl ?_ | refine AQ.nil ?_); conv => whnf)
      rw [wrap_i64 ((i : Int) + 1) (by omega) (by omega)]
      refine AHead.mk (l.length - (i + 1)) _ _ (by omega) ⟨i + 1, by omega, ?_, rfl, rfl, rfl⟩ (Conv.fit ?_)
      · intro k hk a ha
        rcases Nat.lt_or_ge k i with h1 | h1
        · exact hok k h1 a ha
        · obtain rfl : k = i := by omega
          rw [List.getElem?_eq_getElem hil] at ha
          cases ha
          omega
      · repeat' (first | exact Fit.nil | refine Fit.any ?_ | refine Fit.same ?_)
  · obtain rfl : i = l.length := by omega
    conv => whnf
    repeat ((first | refine AO.cons hT ?_ | refine AO.nil ?_ | refine AW.seq ?_ | refine AW.region ?_ | refine AW.cond ?_ | refine AW.block ?_ | refine AW.loop ?_ | refine AW.skip ?_ | refine AW.exit ?_ | refine AW.ret ?_ | refine AW.label ?_ | refine AW.scope ?_ | refine AF.one hT rfl ?_ | refine AF.nil ?_ | refine AF.imm hT rfl rfl rfl ?_ | refine AH.of hT rfl ?_ | refine AD.cons hT rfl ?_ | refine AD.nil ?_ | refine AQ.cons hT rfl ?_ | refine AQ.nil ?_); conv => whnf)
    refine AOut.stay ?_
    conv => whnf
    repeat ((first | refine AO.cons hT ?_ | refine AO.nil ?_ | refine AW.seq ?_ | refine AW.region ?_ | refine AW.cond ?_ | refine AW.block ?_ | refine AW.loop ?_ | refine AW.skip ?_ | refine AW.exit ?_ | refine AW.ret ?_ | refine AW.label ?_ | refine AW.scope ?_ | refine AF.one hT rfl ?_ | refine AF.nil ?_ | refine AF.imm hT rfl rfl rfl ?_ | refine AH.of hT rfl ?_ | refine AD.cons hT rfl ?_ | refine AD.nil ?_ | refine AQ.cons hT rfl ?_ | refine AQ.nil ?_); conv => whnf)
    refine AFin.val rfl ⟨?_, rfl⟩
    rw [decide_eq_true]
    refine ⟨by omega, fun a ha => ?_⟩
    obtain ⟨k, hk⟩ := List.getElem?_of_mem ha
    exact hok k (List.getElem?_eq_some_iff.1 hk).1 a hk
def wipeF (x : Dd) (fr ns at_ n : Int) : Dd × Int :=
  if checkF x fr ns ≠ 0 then (x, checkF x fr ns) else if at_ < 0 ∨ ns < at_ ∨ n < 1 ∨ 100 < n then (x, 2) else
  if min n (ns - at_) = 0 then (x, 0) else lastF x (fr + at_) (ofL (VD.zs (min n (ns - at_) * 64).toNat))
theorem f47 (x : Dd) (hx : Dok x) (fr ns at_ n : Int) (h1 : nOk fr) (h2 : nOk ns) : DSpec 47 [arA fr ns, nV at_, nV n] x fun r y => r = nV (wipeF x fr ns at_ n).2 ∧ y = (wipeF x fr ns at_ n).1 := by
  intro bs ck
  have hle := hx.le
  have hpos := hx.pos
  refine spec_of hT (f := 47) (fn := Go.Proofs.Tryz.f47) (c := body Go.Proofs.Tryz.f47) (by kernel_rfl) (by kernel_rfl) ?_
  unfold wipeF
  conv => whnf
  repeat ((first | refine AW.plan (id := 9) hm (.one 0 (.one 1 (.one 3 (.one 5 (.one 6 (.imm 2 (.one 4 (.one 7 (.one 8 (.one 9 .nil)))))))))) (by kernel_rfl) ?_ | refine AO.cons hT ?_ | refine AO.nil ?_ | refine AW.seq ?_ | refine AW.region ?_ | refine AW.cond ?_ | refine AW.block ?_ | refine AW.loop ?_ | refine AW.skip ?_ | refine AW.exit ?_ | refine AW.ret ?_ | refine AW.label ?_ | refine AW.scope ?_ | refine AF.one hT rfl ?_ | refine AF.nil ?_ | refine AF.imm hT rfl rfl rfl ?_ | refine AH.of hT rfl ?_ | refine AD.cons hT rfl ?_ | refine AD.nil ?_ | refine AQ.cons hT rfl ?_ | refine AQ.nil ?_); conv => whnf)
  refine ACall.dev (by kernel_rfl) (f48 x hx fr ns h1 h2) rfl rfl rfl (by decide) (fun _ => rfl) (by rintro _ _ ⟨rfl, _⟩ _; rfl) ?_
  rintro _ x bs1 ck1 ⟨rfl, rfl⟩
  conv => whnf
  repeat ((first | refine AW.plan (id := 9) hm (.one 0 (.one 1 (.one 3 (.one 5 (.one 6 (.imm 2 (.one 4 (.one 7 (.one 8 (.one 9 .nil)))))))))) (by kernel_rfl) ?_ | refine AO.cons hT ?_ | refine AO.nil ?_ | refine AW.seq ?_ | refine AW.region ?_ | refine AW.cond ?_ | refine AW.block ?_ | refine AW.loop ?_ | refine AW.skip ?_ | refine AW.exit ?_ | refine AW.ret ?_ | refine AW.label ?_ | refine AW.scope ?_ | refine AF.one hT rfl ?_ | refine AF.nil ?_ | refine AF.imm hT rfl rfl rfl ?_ | refine AH.of hT rfl ?_ | refine AD.cons hT rfl ?_ | refine AD.nil ?_ | refine AQ.cons hT rfl ?_ | refine AQ.nil ?_); conv => whnf)
  refine ACond.ndec (fun c1 => ?_) (fun c1 => ?_)
  · rw [if_pos c1]
    conv => whnf
    repeat ((first | refine AW.plan (id := 9) hm (.one 0 (.one 1 (.one 3 (.one 5 (.one 6 (.imm 2 (.one 4 (.one 7 (.one 8 (.one 9 .nil)))))))))) (by kernel_rfl) ?_ | refine AO.cons hT ?_ | refine AO.nil ?_ | refine AW.seq ?_ | refine AW.region ?_ | refine AW.cond ?_ | refine AW.block ?_ | refine AW.loop ?_ | refine AW.skip ?_ | refine AW.exit ?_ | refine AW.ret ?_ | refine AW.label ?_ | refine AW.scope ?_ | refine AF.one hT rfl ?_ | refine AF.nil ?_ | refine AF.imm hT rfl rfl rfl ?_ | refine AH.of hT rfl ?_ | refine AD.cons hT rfl ?_ | refine AD.nil ?_ | refine AQ.cons hT rfl ?_ | refine AQ.nil ?_); conv => whnf)
    exact AFin.dev (fun _ => rfl) ⟨_, _, _, ⟨rfl, rfl⟩, rfl⟩
  rw [if_neg (fun e => e c1)]
  have hc1 : ¬(fr < 0 ∨ ns < 1 ∨ (x.n : Int) ≤ fr ∨ (x.n : Int) - fr < ns) := fun e => by unfold checkF at c1; rw [if_pos e] at c1; cases c1
  by_cases c2 : at_ < 0 ∨ ns < at_ ∨ n < 1 ∨ 100 < n
  · rw [if_pos c2]
    conv => whnf
    repeat' (first | (refine AW.plan (id := 9) hm (.one 0 (.one 1 (.one 3 (.one 5 (.one 6 (.imm 2 (.one 4 (.one 7 (.one 8 (.one 9 .nil)))))))))) (by kernel_rfl) ?_; conv => whnf) | (refine AW.label ?_; conv => whnf) | (refine AW.scope ?_; conv => whnf) | (refine AO.cons hT ?_; conv => whnf) | (refine AO.nil ?_; conv => whnf) | (refine AW.seq ?_; conv => whnf) | (refine AW.region ?_; conv => whnf) | (refine AW.cond ?_; conv => whnf) | (refine AW.block ?_; conv => whnf) | (refine AW.loop ?_; conv => whnf) | (refine AW.skip ?_; conv => whnf) | (refine AW.exit ?_; conv => whnf) | (refine AW.ret ?_; conv => whnf) | (refine AF.one hT rfl ?_; conv => whnf) | (refine AF.nil ?_; conv => whnf) | (refine AF.imm hT rfl rfl rfl ?_; conv => whnf) | (refine AH.of hT rfl ?_; conv => whnf) | (refine ASplit.yes rfl ?_ <;> conv => whnf) | (refine ASplit.no rfl ?_ <;> conv => whnf) | (refine ACond.yes rfl ?_ <;> conv => whnf) | (refine ACond.no rfl ?_ <;> conv => whnf) | (refine ASplit.dec (fun _ => ?_) (fun _ => ?_) <;> conv => whnf) | (refine ASplit.ndec (fun _ => ?_) (fun _ => ?_) <;> conv => whnf) | (refine ACond.dec (fun _ => ?_) (fun _ => ?_) <;> conv => whnf) | (refine ACond.ndec (fun _ => ?_) (fun _ => ?_) <;> conv => whnf))
    all_goals (first | exact AFin.dev (fun _ => rfl) ⟨_, _, _, ⟨rfl, rfl⟩, rfl⟩ | (exfalso; omega) | skip)
    all_goals done
  rw [if_neg c2]
  have hw : IntKind.wrap .i64 (ns - at_) = ns - at_ := wrap_i64' (by omega) (by omega)
  conv => whnf
  repeat ((first | refine AW.plan (id := 9) hm (.one 0 (.one 1 (.one 3 (.one 5 (.one 6 (.imm 2 (.one 4 (.one 7 (.one 8 (.one 9 .nil)))))))))) (by kernel_rfl) ?_ | refine AO.cons hT ?_ | refine AO.nil ?_ | refine AW.seq ?_ | refine AW.region ?_ | refine AW.cond ?_ | refine AW.block ?_ | refine AW.loop ?_ | refine AW.skip ?_ | refine AW.exit ?_ | refine AW.ret ?_ | refine AW.label ?_ | refine AW.scope ?_ | refine AF.one hT rfl ?_ | refine AF.nil ?_ | refine AF.imm hT rfl rfl rfl ?_ | refine AH.of hT rfl ?_ | refine AD.cons hT rfl ?_ | refine AD.nil ?_ | refine AQ.cons hT rfl ?_ | refine AQ.nil ?_ | (refine ASplit.no (decide_eq_false (by omega)) ?_) | (refine ACond.no (decide_eq_false (by omega)) ?_)); conv => whnf)
  rw [hw]
  have hmin : (if ns - at_ < n then ns - at_ else n) = min n (ns - at_) := by split <;> omega
  rw [hmin]
  generalize hk : min n (ns - at_) = k
  have hk1 : 0 ≤ k ∧ k ≤ 100 ∧ k ≤ ns - at_ := by omega
  refine ACond.dec (fun c3 => ?_) (fun c3 => ?_)
  · rw [if_pos c3]
    conv => whnf
    repeat ((first | refine AW.plan (id := 9) hm (.one 0 (.one 1 (.one 3 (.one 5 (.one 6 (.imm 2 (.one 4 (.one 7 (.one 8 (.one 9 .nil)))))))))) (by kernel_rfl) ?_ | refine AO.cons hT ?_ | refine AO.nil ?_ | refine AW.seq ?_ | refine AW.region ?_ | refine AW.cond ?_ | refine AW.block ?_ | refine AW.loop ?_ | refine AW.skip ?_ | refine AW.exit ?_ | refine AW.ret ?_ | refine AW.label ?_ | refine AW.scope ?_ | refine AF.one hT rfl ?_ | refine AF.nil ?_ | refine AF.imm hT rfl rfl rfl ?_ | refine AH.of hT rfl ?_ | refine AD.cons hT rfl ?_ | refine AD.nil ?_ | refine AQ.cons hT rfl ?_ | refine AQ.nil ?_); conv => whnf)
    exact AFin.dev (fun _ => rfl) ⟨_, _, _, ⟨rfl, rfl⟩, rfl⟩
  rw [if_neg c3]
  obtain ⟨K, rfl⟩ : ∃ K : Nat, k = K := ⟨k.toNat, by omega⟩
  have h58 := VD.f58 (K * 64) (by omega)
  rw [show ((K : Int) * 64).toNat = K * 64 by omega]
  have hsz : (ofL (VD.zs (K * 64))).size ≤ 9223372036854775807 := by rw [ofL_size]; unfold VD.zs; rw [List.length_replicate]; omega
  refine AW.conv _ _ (Conv.freeze 3 (t := 43) (cs := [nV fr, nV ns]) rfl) ?_
  conv => whnf
  repeat ((first | refine AW.plan (id := 9) hm (.one 0 (.one 1 (.one 3 (.one 5 (.one 6 (.imm 2 (.one 4 (.one 7 (.one 8 (.one 9 .nil)))))))))) (by kernel_rfl) ?_ | refine AO.cons hT ?_ | refine AO.nil ?_ | refine AW.seq ?_ | refine AW.region ?_ | refine AW.cond ?_ | refine AW.block ?_ | refine AW.loop ?_ | refine AW.skip ?_ | refine AW.exit ?_ | refine AW.ret ?_ | refine AW.label ?_ | refine AW.scope ?_ | refine AF.one hT rfl ?_ | refine AF.nil ?_ | refine AF.imm hT rfl rfl rfl ?_ | refine AH.of hT rfl ?_ | refine AD.cons hT rfl ?_ | refine AD.nil ?_ | refine AQ.cons hT rfl ?_ | refine AQ.nil ?_); conv => whnf)
  rw [wrap_i64' (n := fr + at_) (by omega) (by omega), wrap_i64' (n := (K : Int) * 64) (by omega) (by omega), show (K : Int) * 64 = ((K * 64 : Nat) : Int) by omega]
  refine ACall.val (by kernel_rfl) h58 rfl rfl ?_
  conv => whnf
  repeat ((first | refine AW.plan (id := 9) hm (.one 0 (.one 1 (.one 3 (.one 5 (.one 6 (.imm 2 (.one 4 (.one 7 (.one 8 (.one 9 .nil)))))))))) (by kernel_rfl) ?_ | refine AO.cons hT ?_ | refine AO.nil ?_ | refine AW.seq ?_ | refine AW.region ?_ | refine AW.cond ?_ | refine AW.block ?_ | refine AW.loop ?_ | refine AW.skip ?_ | refine AW.exit ?_ | refine AW.ret ?_ | refine AW.label ?_ | refine AW.scope ?_ | refine AF.one hT rfl ?_ | refine AF.nil ?_ | refine AF.imm hT rfl rfl rfl ?_ | refine AH.of hT rfl ?_ | refine AD.cons hT rfl ?_ | refine AD.nil ?_ | refine AQ.cons hT rfl ?_ | refine AQ.nil ?_); conv => whnf)
  refine ACall.dev (by kernel_rfl) (f49 x hx (fr + at_) (ofL (VD.zs (K * 64))) (nOk_of (by omega) (by omega)) hsz) rfl rfl rfl (by decide) (fun _ => rfl) (by rintro _ _ ⟨rfl, _⟩ _; rfl) ?_
  rintro _ _ bs2 ck2 ⟨rfl, rfl⟩
  conv => whnf
  repeat ((first | refine AW.plan (id := 9) hm (.one 0 (.one 1 (.one 3 (.one 5 (.one 6 (.imm 2 (.one 4 (.one 7 (.one 8 (.one 9 .nil)))))))))) (by kernel_rfl) ?_ | refine AO.cons hT ?_ | refine AO.nil ?_ | refine AW.seq ?_ | refine AW.region ?_ | refine AW.cond ?_ | refine AW.block ?_ | refine AW.loop ?_ | refine AW.skip ?_ | refine AW.exit ?_ | refine AW.ret ?_ | refine AW.label ?_ | refine AW.scope ?_ | refine AF.one hT rfl ?_ | refine AF.nil ?_ | refine AF.imm hT rfl rfl rfl ?_ | refine AH.of hT rfl ?_ | refine AD.cons hT rfl ?_ | refine AD.nil ?_ | refine AQ.cons hT rfl ?_ | refine AQ.nil ?_); conv => whnf)
  exact AFin.dev (fun _ => rfl) ⟨_, _, _, ⟨rfl, rfl⟩, rfl⟩
end Go.Aw.VE

set_option linter.unusedSimpArgs false
set_option linter.unusedVariables false
set_option maxHeartbeats 4000000
set_option maxRecDepth 20000
namespace Go.Aw.VE
open Go Go.Proofs

theorem put_take (S t : List UInt8) (z k : Nat) (h : k ≤ z) (hz : 64 * z ≤ S.length) : (putC S z t).take (64 * k) = S.take (64 * k) := by
  unfold putC
  rw [List.append_assoc, List.take_append, List.take_take, List.length_take, show 64 * k - min (64 * z) S.length = 0 by omega, List.take_zero, List.append_nil, Nat.min_eq_left (by omega)]
theorem kp_wipe {x y : Dd} {cs cs2 : List UInt8} {A N ep : Nat} {l : List ByteArray} {z : Nat} (h : Kp x cs A N ep l z) (hy : Cl y cs2) (hn : A + N ≤ y.n)
    (hp : (arL cs2 A N).take (64 * z) = (arL cs A N).take (64 * z)) (hz : (arL cs2 A N).drop (64 * z) = VD.zs (64 * (N - z))) : Kp y cs2 A N ep l z := by
  have hl := hy.ok.len
  rw [hy.cs] at hl
  have h2 : (arS cs2 A N).size = 64 * N := by
    unfold arS
    rw [ofL_size, arL_len (by omega)]
  exact ⟨hy, hn, VD.chain_other (arS cs A N) (arS cs2 A N) ep z (by omega) (by rw [h.size]; have := h.zN; omega) (by rw [arS_list, arS_list, hp]) l 0 0 z h.ch (by omega) (Nat.le_refl _), h.zN, hz⟩
theorem last_ok {x : Dd} (h : Dok x) (a : Int) (s : ByteArray) : Dok (lastF x a s).1 ∧ (lastF x a s).1.n = x.n := by
  have hw := write_ok h a s
  unfold lastF
  split
  · exact hw
  · exact ⟨(flush_ok hw.1).1, (flush_ok hw.1).2.trans hw.2⟩
theorem app_ok {x : Dd} (h : Dok x) (fr ns at_ e q : Int) (b : ByteArray) : Dok (appF x fr ns at_ e q b).2 ∧ (appF x fr ns at_ e q b).2.n = x.n := by
  have hl := last_ok h (fr + at_) (VD.fputF e q b).1
  unfold appF
  repeat' split
  all_goals first | exact ⟨h, rfl⟩ | exact hl
def you : ByteArray := ⟨#[121, 111, 117]⟩
theorem awk_all : ∃ y1 y2 y3 : Dd, Dok (newD 5) ∧ Dok y1 ∧ Dok y2 ∧ Dok y3 ∧
    DSpec 20 [arA 2 2, nV 0, .agg [nV 1, nV 1, sV VD.hi]] (newD 5) (fun r y => r = .tup [nV 1, nV 0] ∧ y = y1) ∧
    DSpec 20 [arA 2 2, nV 1, .agg [nV 1, nV 2, sV you]] y1 (fun r y => r = .tup [nV 2, nV 0] ∧ y = y2) ∧
    DSpec 20 [arA 2 2, nV 2, .agg [nV 1, nV 3, sV e0]] y2 (fun r y => r = .tup [nV 0, nV 22] ∧ y = y2) ∧
    DSpec 24 [arA 2 2, nV 1] y2 (fun r y => r = .tup [VD.tV [VD.hi, you], nV 2, nV 0] ∧ y = y2) ∧
    DSpec 47 [arA 2 2, nV 1, nV 5] y2 (fun r y => r = nV 0 ∧ y = y3) ∧
    DSpec 24 [arA 2 2, nV 1] y3 (fun r y => r = .tup [VD.tV [VD.hi], nV 1, nV 0] ∧ y = y3) ∧
    DSpec 48 [arA 4 2] y3 (fun r y => r = nV 2 ∧ y = y3) ∧
    Fun P 41 [arA 2 2, nV 1, sV e0] (.v (.bool true)) := by
  have K0 : Kp (newD 5) _ 2 2 1 [] 0 := kp_new (by decide) (by decide) (by decide)
  obtain ⟨a1, K1⟩ := app_kp K0 VD.hi (by decide) (by decide)
  have s1 := f20 (newD 5) K0.cl.ok (2 : Nat) (2 : Nat) (0 : Nat) (1 : Nat) ((([] : List ByteArray).length : Int) + 1) VD.hi rfl rfl (by decide) rfl (by decide)
  have n1 := (app_ok K0.cl.ok (2 : Nat) (2 : Nat) (0 : Nat) (1 : Nat) ((([] : List ByteArray).length : Int) + 1) VD.hi).2
  generalize appF (newD 5) (2 : Nat) (2 : Nat) (0 : Nat) (1 : Nat) ((([] : List ByteArray).length : Int) + 1) VD.hi = r1 at *
  obtain ⟨r1, y1⟩ := r1
  simp only at a1 K1 s1 n1
  subst a1
  generalize putC (List.replicate (64 * 5) 0) (2 + 0) (VD.fputB 1 (([] : List ByteArray).length + 1) VD.hi).data.toList = cs1 at *
  obtain ⟨a2, K2⟩ := app_kp K1 you (by decide) (by decide)
  have s2 := f20 y1 K1.cl.ok (2 : Nat) (2 : Nat) (0 + VD.pcs VD.hi.size : Nat) (1 : Nat) ((([] ++ [VD.hi] : List ByteArray).length : Int) + 1) you rfl rfl (by decide) rfl (by decide)
  have n2 := (app_ok K1.cl.ok (2 : Nat) (2 : Nat) (0 + VD.pcs VD.hi.size : Nat) (1 : Nat) ((([] ++ [VD.hi] : List ByteArray).length : Int) + 1) you).2
  generalize appF y1 (2 : Nat) (2 : Nat) (0 + VD.pcs VD.hi.size : Nat) (1 : Nat) ((([] ++ [VD.hi] : List ByteArray).length : Int) + 1) you = r2 at *
  obtain ⟨r2, y2⟩ := r2
  simp only at a2 K2 s2 n2
  subst a2
  have hT2 : (VD.fputB 1 (([] ++ [VD.hi] : List ByteArray).length + 1) you).data.toList.length = 64 := fput_len _ _ _
  generalize (VD.fputB 1 (([] ++ [VD.hi] : List ByteArray).length + 1) you).data.toList = T2 at *
  replace K1 : Kp y1 cs1 2 2 1 [VD.hi] 1 := K1
  replace K2 : Kp y2 (putC cs1 3 T2) 2 2 1 [VD.hi, you] 2 := K2
  have hn2 : y2.n = 5 := n2.trans n1
  have s3 := f20 y2 K2.cl.ok 2 2 2 1 3 e0 rfl rfl (by decide) rfl (by decide)
  have hc : checkF y2 2 2 = 0 := check_ok (A := 2) (N := 2) (by decide) K2.n
  have e3 : appF y2 2 2 2 1 3 e0 = ((0, 22), y2) := by
    unfold appF
    rw [hc, if_neg (by decide), show VD.fputF 1 3 e0 = (VD.fputB 1 3 e0, 0) from VD.fputF_ok (e := 1) (q := 3) (by decide), if_neg (fun e => e rfl), if_pos (by decide)]
  rw [e3] at s3
  have s4 := f24 y2 K2.cl.ok 2 2 1 rfl rfl
  rw [show loadV y2 2 2 1 = _ from load_kp K2 (by decide)] at s4
  have s5 := f47 y2 K2.cl.ok 2 2 1 5 rfl rfl
  have e5 : wipeF y2 2 2 1 5 = lastF y2 ((3 : Nat) : Int) (ofL (VD.zs 64)) := by
    unfold wipeF
    rw [hc, if_neg (by decide), if_neg (by decide), if_neg (by decide)]
    rfl
  rw [e5] at s5
  obtain ⟨w1, w2, w3⟩ := last_cl K2.cl 3 1 (ofL (VD.zs 64)) rfl (by decide) (by omega)
  generalize lastF y2 ((3 : Nat) : Int) (ofL (VD.zs 64)) = r3 at *
  obtain ⟨y3, r3⟩ := r3
  simp only at w1 w2 w3 s5
  subst w1
  have hlen1 := K1.fits
  have hlen2 := K2.fits
  have hS := arL_len hlen1
  have hz : (VD.zs 64).length = 64 := rfl
  have p1 : arL (putC cs1 3 T2) 2 2 = putC (arL cs1 2 2) 1 T2 := arL_put (z := 1) hlen1 (by omega)
  have p2 : arL (putC (putC cs1 3 T2) 3 (VD.zs 64)) 2 2 = putC (arL (putC cs1 3 T2) 2 2) 1 (VD.zs 64) := arL_put (z := 1) hlen2 (by omega)
  have hS2 : (putC (arL cs1 2 2) 1 T2).length = 128 := by rw [putC_len (by omega), hS]
  have K3 : Kp y3 (putC (putC cs1 3 T2) 3 (VD.zs 64)) 2 2 1 [VD.hi] 1 := by
    refine kp_wipe K1 w2 (by rw [w3]; exact K2.n) ?_ ?_
    · show (arL (putC (putC cs1 3 T2) 3 (VD.zs 64)) 2 2).take _ = _
      rw [p2, p1, put_take _ _ 1 1 (by omega) (by omega), put_take _ _ 1 1 (by omega) (by omega)]
    · show (arL (putC (putC cs1 3 T2) 3 (VD.zs 64)) 2 2).drop _ = _
      rw [p2, p1]
      generalize putC (arL cs1 2 2) 1 T2 = S2 at *
      unfold putC
      rw [List.append_assoc, List.drop_left' (by rw [List.length_take]; omega), List.drop_eq_nil_of_le (by omega), List.append_nil]
  have s6 := f24 y3 K3.cl.ok 2 2 1 rfl rfl
  rw [show loadV y3 2 2 1 = _ from load_kp K3 (by decide)] at s6
  have s7 := f48 y3 K3.cl.ok 4 2 rfl rfl
  rw [show checkF y3 4 2 = 2 by unfold checkF; rw [if_pos]; right; right; right; rw [w3, hn2]; decide] at s7
  have s8 := f41 2 2 1 e0 (by decide) (by decide)
  exact ⟨y1, y2, y3, K0.cl.ok, K1.cl.ok, K2.cl.ok, K3.cl.ok, s1, s2, s3, s4, s5, s6, s7, s8⟩

theorem f18 : Fun P 18 [] (.v (.bool true)) := by
  obtain ⟨y1, y2, y3, k0, k1, k2, k3, s1, s2, s3, s4, s5, s6, s7, s8⟩ := awk_all
  refine spec_of hT (f := 18) (fn := Go.Proofs.Tryz.f18) (c := body Go.Proofs.Tryz.f18) (by kernel_rfl) (by kernel_rfl) ?_
  conv => whnf
  repeat ((first | refine AO.cons hT ?_ | refine AO.nil ?_ | refine AW.seq ?_ | refine AW.region ?_ | refine AW.cond ?_ | refine AW.block ?_ | refine AW.loop ?_ | refine AW.skip ?_ | refine AW.exit ?_ | refine AW.ret ?_ | refine AW.label ?_ | refine AW.scope ?_ | refine AF.one hT rfl ?_ | refine AF.nil ?_ | refine AF.imm hT rfl rfl rfl ?_ | refine AH.of hT rfl ?_ | refine AD.cons hT rfl ?_ | refine AD.nil ?_ | refine AQ.cons hT rfl ?_ | refine AQ.nil ?_); conv => whnf)
  refine callNew 5 (by decide) (by decide) ?_
  simp only [List.length_nil, Nat.zero_add, List.nil_append, List.set_cons_zero, List.set_cons_succ]
  generalize newD 5 = y0 at *
  conv => whnf
  repeat (first | (refine AW.label ?_; conv => whnf) | (refine AW.scope ?_; conv => whnf) | (refine AO.cons hT ?_; conv => whnf) | (refine AO.nil ?_; conv => whnf) | (refine AW.seq ?_; conv => whnf) | (refine AW.region ?_; conv => whnf) | (refine AW.cond ?_; conv => whnf) | (refine AW.block ?_; conv => whnf) | (refine AW.loop ?_; conv => whnf) | (refine AW.skip ?_; conv => whnf) | (refine AW.exit ?_; conv => whnf) | (refine AW.ret ?_; conv => whnf) | (refine AF.one hT rfl ?_; conv => whnf) | (refine AF.nil ?_; conv => whnf) | (refine AF.imm hT rfl rfl rfl ?_; conv => whnf) | (refine AH.of hT rfl ?_; conv => whnf) | (refine ASplit.yes rfl ?_; conv => whnf) | (refine ACond.yes rfl ?_; conv => whnf) | (refine ASplit.no rfl ?_; conv => whnf) | (refine ACond.no rfl ?_; conv => whnf) | (refine ASplit.yes (by decide) ?_; conv => whnf) | (refine ACond.yes (by decide) ?_; conv => whnf) | (refine AReq.mk (by decide) ?_; conv => whnf) | (refine AIdx.iff.2 ⟨by decide, ?_⟩; conv => whnf))
  refine ACall.dev (by kernel_rfl) s1 rfl rfl rfl (by decide) (fun _ => rfl) (by rintro _ _ ⟨rfl, _⟩ _; rfl) ?_
  rintro _ _ bs1 ck1 ⟨rfl, rfl⟩
  simp only [List.length_nil, Nat.zero_add, List.nil_append, List.set_cons_zero, List.set_cons_succ]
  conv => whnf
  repeat (first | (refine AW.label ?_; conv => whnf) | (refine AW.scope ?_; conv => whnf) | (refine AO.cons hT ?_; conv => whnf) | (refine AO.nil ?_; conv => whnf) | (refine AW.seq ?_; conv => whnf) | (refine AW.region ?_; conv => whnf) | (refine AW.cond ?_; conv => whnf) | (refine AW.block ?_; conv => whnf) | (refine AW.loop ?_; conv => whnf) | (refine AW.skip ?_; conv => whnf) | (refine AW.exit ?_; conv => whnf) | (refine AW.ret ?_; conv => whnf) | (refine AF.one hT rfl ?_; conv => whnf) | (refine AF.nil ?_; conv => whnf) | (refine AF.imm hT rfl rfl rfl ?_; conv => whnf) | (refine AH.of hT rfl ?_; conv => whnf) | (refine ASplit.yes rfl ?_; conv => whnf) | (refine ACond.yes rfl ?_; conv => whnf) | (refine ASplit.no rfl ?_; conv => whnf) | (refine ACond.no rfl ?_; conv => whnf) | (refine ASplit.yes (by decide) ?_; conv => whnf) | (refine ACond.yes (by decide) ?_; conv => whnf) | (refine AReq.mk (by decide) ?_; conv => whnf) | (refine AIdx.iff.2 ⟨by decide, ?_⟩; conv => whnf))
  refine ACall.dev (by kernel_rfl) s2 rfl rfl rfl (by decide) (fun _ => rfl) (by rintro _ _ ⟨rfl, _⟩ _; rfl) ?_
  rintro _ _ bs2 ck2 ⟨rfl, rfl⟩
  simp only [List.length_nil, Nat.zero_add, List.nil_append, List.set_cons_zero, List.set_cons_succ]
  conv => whnf
  repeat (first | (refine AW.label ?_; conv => whnf) | (refine AW.scope ?_; conv => whnf) | (refine AO.cons hT ?_; conv => whnf) | (refine AO.nil ?_; conv => whnf) | (refine AW.seq ?_; conv => whnf) | (refine AW.region ?_; conv => whnf) | (refine AW.cond ?_; conv => whnf) | (refine AW.block ?_; conv => whnf) | (refine AW.loop ?_; conv => whnf) | (refine AW.skip ?_; conv => whnf) | (refine AW.exit ?_; conv => whnf) | (refine AW.ret ?_; conv => whnf) | (refine AF.one hT rfl ?_; conv => whnf) | (refine AF.nil ?_; conv => whnf) | (refine AF.imm hT rfl rfl rfl ?_; conv => whnf) | (refine AH.of hT rfl ?_; conv => whnf) | (refine ASplit.yes rfl ?_; conv => whnf) | (refine ACond.yes rfl ?_; conv => whnf) | (refine ASplit.no rfl ?_; conv => whnf) | (refine ACond.no rfl ?_; conv => whnf) | (refine ASplit.yes (by decide) ?_; conv => whnf) | (refine ACond.yes (by decide) ?_; conv => whnf) | (refine AReq.mk (by decide) ?_; conv => whnf) | (refine AIdx.iff.2 ⟨by decide, ?_⟩; conv => whnf))
  refine ACall.dev (by kernel_rfl) s3 rfl rfl rfl (by decide) (fun _ => rfl) (by rintro _ _ ⟨rfl, _⟩ _; rfl) ?_
  rintro _ _ bs3 ck3 ⟨rfl, rfl⟩
  simp only [List.length_nil, Nat.zero_add, List.nil_append, List.set_cons_zero, List.set_cons_succ]
  conv => whnf
  repeat (first | (refine AW.label ?_; conv => whnf) | (refine AW.scope ?_; conv => whnf) | (refine AO.cons hT ?_; conv => whnf) | (refine AO.nil ?_; conv => whnf) | (refine AW.seq ?_; conv => whnf) | (refine AW.region ?_; conv => whnf) | (refine AW.cond ?_; conv => whnf) | (refine AW.block ?_; conv => whnf) | (refine AW.loop ?_; conv => whnf) | (refine AW.skip ?_; conv => whnf) | (refine AW.exit ?_; conv => whnf) | (refine AW.ret ?_; conv => whnf) | (refine AF.one hT rfl ?_; conv => whnf) | (refine AF.nil ?_; conv => whnf) | (refine AF.imm hT rfl rfl rfl ?_; conv => whnf) | (refine AH.of hT rfl ?_; conv => whnf) | (refine ASplit.yes rfl ?_; conv => whnf) | (refine ACond.yes rfl ?_; conv => whnf) | (refine ASplit.no rfl ?_; conv => whnf) | (refine ACond.no rfl ?_; conv => whnf) | (refine ASplit.yes (by decide) ?_; conv => whnf) | (refine ACond.yes (by decide) ?_; conv => whnf) | (refine AReq.mk (by decide) ?_; conv => whnf) | (refine AIdx.iff.2 ⟨by decide, ?_⟩; conv => whnf))
  refine ACall.dev (by kernel_rfl) s4 rfl rfl rfl (by decide) (fun _ => rfl) (by rintro _ _ ⟨rfl, _⟩ ρ; simp only [AV.ren, renL, tV_ren]) ?_
  rintro _ _ bs4 ck4 ⟨rfl, rfl⟩
  simp only [List.length_nil, Nat.zero_add, List.nil_append, List.set_cons_zero, List.set_cons_succ]
  conv => whnf
  repeat (first | (refine AW.label ?_; conv => whnf) | (refine AW.scope ?_; conv => whnf) | (refine AO.cons hT ?_; conv => whnf) | (refine AO.nil ?_; conv => whnf) | (refine AW.seq ?_; conv => whnf) | (refine AW.region ?_; conv => whnf) | (refine AW.cond ?_; conv => whnf) | (refine AW.block ?_; conv => whnf) | (refine AW.loop ?_; conv => whnf) | (refine AW.skip ?_; conv => whnf) | (refine AW.exit ?_; conv => whnf) | (refine AW.ret ?_; conv => whnf) | (refine AF.one hT rfl ?_; conv => whnf) | (refine AF.nil ?_; conv => whnf) | (refine AF.imm hT rfl rfl rfl ?_; conv => whnf) | (refine AH.of hT rfl ?_; conv => whnf) | (refine ASplit.yes rfl ?_; conv => whnf) | (refine ACond.yes rfl ?_; conv => whnf) | (refine ASplit.no rfl ?_; conv => whnf) | (refine ACond.no rfl ?_; conv => whnf) | (refine ASplit.yes (by decide) ?_; conv => whnf) | (refine ACond.yes (by decide) ?_; conv => whnf) | (refine AReq.mk (by decide) ?_; conv => whnf) | (refine AIdx.iff.2 ⟨by decide, ?_⟩; conv => whnf))
  refine ACall.dev (by kernel_rfl) s5 rfl rfl rfl (by decide) (fun _ => rfl) (by rintro _ _ ⟨rfl, _⟩ _; rfl) ?_
  rintro _ _ bs5 ck5 ⟨rfl, rfl⟩
  simp only [List.length_nil, Nat.zero_add, List.nil_append, List.set_cons_zero, List.set_cons_succ]
  conv => whnf
  repeat (first | (refine AW.label ?_; conv => whnf) | (refine AW.scope ?_; conv => whnf) | (refine AO.cons hT ?_; conv => whnf) | (refine AO.nil ?_; conv => whnf) | (refine AW.seq ?_; conv => whnf) | (refine AW.region ?_; conv => whnf) | (refine AW.cond ?_; conv => whnf) | (refine AW.block ?_; conv => whnf) | (refine AW.loop ?_; conv => whnf) | (refine AW.skip ?_; conv => whnf) | (refine AW.exit ?_; conv => whnf) | (refine AW.ret ?_; conv => whnf) | (refine AF.one hT rfl ?_; conv => whnf) | (refine AF.nil ?_; conv => whnf) | (refine AF.imm hT rfl rfl rfl ?_; conv => whnf) | (refine AH.of hT rfl ?_; conv => whnf) | (refine ASplit.yes rfl ?_; conv => whnf) | (refine ACond.yes rfl ?_; conv => whnf) | (refine ASplit.no rfl ?_; conv => whnf) | (refine ACond.no rfl ?_; conv => whnf) | (refine ASplit.yes (by decide) ?_; conv => whnf) | (refine ACond.yes (by decide) ?_; conv => whnf) | (refine AReq.mk (by decide) ?_; conv => whnf) | (refine AIdx.iff.2 ⟨by decide, ?_⟩; conv => whnf))
  refine ACall.dev (by kernel_rfl) s6 rfl rfl rfl (by decide) (fun _ => rfl) (by rintro _ _ ⟨rfl, _⟩ ρ; simp only [AV.ren, renL, tV_ren]) ?_
  rintro _ _ bs6 ck6 ⟨rfl, rfl⟩
  simp only [List.length_nil, Nat.zero_add, List.nil_append, List.set_cons_zero, List.set_cons_succ]
  conv => whnf
  repeat (first | (refine AW.label ?_; conv => whnf) | (refine AW.scope ?_; conv => whnf) | (refine AO.cons hT ?_; conv => whnf) | (refine AO.nil ?_; conv => whnf) | (refine AW.seq ?_; conv => whnf) | (refine AW.region ?_; conv => whnf) | (refine AW.cond ?_; conv => whnf) | (refine AW.block ?_; conv => whnf) | (refine AW.loop ?_; conv => whnf) | (refine AW.skip ?_; conv => whnf) | (refine AW.exit ?_; conv => whnf) | (refine AW.ret ?_; conv => whnf) | (refine AF.one hT rfl ?_; conv => whnf) | (refine AF.nil ?_; conv => whnf) | (refine AF.imm hT rfl rfl rfl ?_; conv => whnf) | (refine AH.of hT rfl ?_; conv => whnf) | (refine ASplit.yes rfl ?_; conv => whnf) | (refine ACond.yes rfl ?_; conv => whnf) | (refine ASplit.no rfl ?_; conv => whnf) | (refine ACond.no rfl ?_; conv => whnf) | (refine ASplit.yes (by decide) ?_; conv => whnf) | (refine ACond.yes (by decide) ?_; conv => whnf) | (refine AReq.mk (by decide) ?_; conv => whnf) | (refine AIdx.iff.2 ⟨by decide, ?_⟩; conv => whnf))
  refine ACall.dev (by kernel_rfl) s7 rfl rfl rfl (by decide) (fun _ => rfl) (by rintro _ _ ⟨rfl, _⟩ _; rfl) ?_
  rintro _ _ bs7 ck7 ⟨rfl, rfl⟩
  simp only [List.length_nil, Nat.zero_add, List.nil_append, List.set_cons_zero, List.set_cons_succ]
  conv => whnf
  repeat (first | (refine AW.label ?_; conv => whnf) | (refine AW.scope ?_; conv => whnf) | (refine AO.cons hT ?_; conv => whnf) | (refine AO.nil ?_; conv => whnf) | (refine AW.seq ?_; conv => whnf) | (refine AW.region ?_; conv => whnf) | (refine AW.cond ?_; conv => whnf) | (refine AW.block ?_; conv => whnf) | (refine AW.loop ?_; conv => whnf) | (refine AW.skip ?_; conv => whnf) | (refine AW.exit ?_; conv => whnf) | (refine AW.ret ?_; conv => whnf) | (refine AF.one hT rfl ?_; conv => whnf) | (refine AF.nil ?_; conv => whnf) | (refine AF.imm hT rfl rfl rfl ?_; conv => whnf) | (refine AH.of hT rfl ?_; conv => whnf) | (refine ASplit.yes rfl ?_; conv => whnf) | (refine ACond.yes rfl ?_; conv => whnf) | (refine ASplit.no rfl ?_; conv => whnf) | (refine ACond.no rfl ?_; conv => whnf) | (refine ASplit.yes (by decide) ?_; conv => whnf) | (refine ACond.yes (by decide) ?_; conv => whnf) | (refine AReq.mk (by decide) ?_; conv => whnf) | (refine AIdx.iff.2 ⟨by decide, ?_⟩; conv => whnf))
  refine ACall.val (by kernel_rfl) s8 rfl rfl ?_
  conv => whnf
  repeat (first | (refine AW.label ?_; conv => whnf) | (refine AW.scope ?_; conv => whnf) | (refine AO.cons hT ?_; conv => whnf) | (refine AO.nil ?_; conv => whnf) | (refine AW.seq ?_; conv => whnf) | (refine AW.region ?_; conv => whnf) | (refine AW.cond ?_; conv => whnf) | (refine AW.block ?_; conv => whnf) | (refine AW.loop ?_; conv => whnf) | (refine AW.skip ?_; conv => whnf) | (refine AW.exit ?_; conv => whnf) | (refine AW.ret ?_; conv => whnf) | (refine AF.one hT rfl ?_; conv => whnf) | (refine AF.nil ?_; conv => whnf) | (refine AF.imm hT rfl rfl rfl ?_; conv => whnf) | (refine AH.of hT rfl ?_; conv => whnf) | (refine ASplit.yes rfl ?_; conv => whnf) | (refine ACond.yes rfl ?_; conv => whnf) | (refine ASplit.no rfl ?_; conv => whnf) | (refine ACond.no rfl ?_; conv => whnf) | (refine ASplit.yes (by decide) ?_; conv => whnf) | (refine ACond.yes (by decide) ?_; conv => whnf) | (refine AReq.mk (by decide) ?_; conv => whnf) | (refine AIdx.iff.2 ⟨by decide, ?_⟩; conv => whnf))
  exact AFin.val rfl ⟨rfl, rfl⟩
end Go.Aw.VE

